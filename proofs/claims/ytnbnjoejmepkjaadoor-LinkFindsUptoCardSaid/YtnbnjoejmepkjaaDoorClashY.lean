/- The walk of clash.down, and of Extract. The walk of clash.Extract. append to a literal of one byte; the walk of the reference's Extract. Conditions: what each part says. -/
import Derived.Test.YtnbnjoejmepkjaaDoorClashX
import Derived.Test.YtnbnjoejmepkjaaDoorRef5
import Derived.Test.YtnbnjoejmepkjaaDoorGround
/-! ClashH: The walk of clash.down, and of Extract. Conditions: both lists can be read, at most 4000 texts of at most 2^40 bytes; the package's tables read as they are laid. -/
namespace Go.Proofs.YtnbnjoejmepkjaaDoor
open Go.RowKit

theorem downB_stop {a b : List (List UInt8)} (h : a.length < 2 ∨ textB a ≠ textB b) : downB a b = (textB a, textB b) := by rw [downB, dif_pos h]
theorem downB_right {a b : List (List UInt8)} (h : 2 ≤ a.length) (ht : textB a = textB b) (hs : a.take (splitN a.length) = b.take (splitN a.length)) : downB a b = downB (a.drop (splitN a.length)) (b.drop (splitN a.length)) := by
  rw [downB, dif_neg (by rintro (h' | h'); omega; exact h' ht), if_pos hs]
theorem downB_left {a b : List (List UInt8)} (h : 2 ≤ a.length) (ht : textB a = textB b) (hs : a.take (splitN a.length) ≠ b.take (splitN a.length)) : downB a b = downB (a.take (splitN a.length)) (b.take (splitN a.length)) := by
  rw [downB, dif_neg (by rintro (h' | h'); omega; exact h' ht), if_neg hs]
def fnExt : Value := .func (.func 43) #[] #[]
def fnText : Value := .func (.func 44) #[] #[]
/-- Where the two lists stand. -/
structure DownJ (w wr : World) (g : Nat) (a b : List (List UInt8)) (D : List UInt8 × List UInt8) (v1 v2 : Value) (xs ys : List Value) : Prop where
  old : Below w.heap.size w wr
  at_ : Blk wr g [v1, v2] 60
  pa : Parts w v1 a xs
  pb : Parts w v2 b ys
  len : a.length = b.length
  one : 1 ≤ a.length
  few : a.length ≤ 4000
  wa : ∀ t ∈ a, t.length ≤ 35184372088832
  wb : ∀ t ∈ b, t.length ≤ 35184372088832
  down : downB a b = D
def lenV (v : Value) : Nat := match v with
  | .slice _ n _ => n
  | _ => 0
def lenG (w : World) (g : Nat) : Nat := match w.cell? ⟨g, 0, none⟩ with
  | some v => lenV v
  | none => 0
theorem DownJ.len_at {w wr : World} {g : Nat} {a b : List (List UInt8)} {D : List UInt8 × List UInt8} {v1 v2 : Value} {xs ys : List Value} (h : DownJ w wr g a b D v1 v2 xs ys) : lenG wr g = a.length := by
  unfold lenG
  rw [h.at_.cell (i := 0) rfl]
  obtain ⟨_, _, rfl, _⟩ := h.pa.sl.form
  rfl
set_option maxRecDepth 100000 in
set_option maxHeartbeats 4000000 in
theorem down_any (va vb : Value) (a b : List (List UInt8)) (xs ys : List Value) (w : World) (ha : Parts w va a xs) (hb : Parts w vb b ys) (hl : a.length = b.length) (h1 : 1 ≤ a.length) (hn : a.length ≤ 4000) (hwa : ∀ t ∈ a, t.length ≤ 35184372088832) (hwb : ∀ t ∈ b, t.length ≤ 35184372088832) (hg : Glob w) :
    Calls Tryd.prog 42 #[.agg #[va, vb], fnExt, fnText] w fun e w' => (∃ v1 v2, e = .returned (.tuple #[v1, v2]) ∧ Bytes w' v1 (downB a b).1 ∧ Bytes w' v2 (downB a b).2) ∧ Below w.heap.size w w' := by
  obtain ⟨D, hD⟩ : ∃ D, D = downB a b := ⟨_, rfl⟩
  rw [← hD]
  have HJ := Lib.hid (show DownJ w (w.alloc (.cells #[va, vb] 60)) w.heap.size a b D va vb xs ys from ⟨by (repeat (first | with_reducible assumption | with_reducible exact Below.refl _ _ | ((with_reducible refine Below.setCell ?_ ?_ _); rotate_left; focus (first | omega | (simp; done) | (simp; omega))) | ((with_reducible refine Below.alloc ?_ ?_ _); rotate_left; focus (first | omega | (simp; done) | (simp; omega))) | ((with_reducible refine below_setRow ?_ ?_ _); rotate_left; focus (first | omega | (simp; done) | (simp; omega))) | (with_reducible refine below_drewN ?_ _) | (with_reducible refine Below.drew ?_))), Blk.newL w [va, vb] _, ha, hb, hl, h1, hn, hwa, hwb, hD.symm⟩)
  have HG := Lib.hid hg
  clear ha hb hl h1 hn hwa hwb hD hg
  unfold fnExt fnText
  go_enter Tryd.func42, Tryd.ntmps42
  go_wp2_with fail
  go_loopw [] (fun wr => ∃ a b v1 v2 xs ys, DownJ w wr w.heap.size a b D v1 v2 xs ys) (fun wr => lenG wr w.heap.size)
  case atStart => exact ⟨_, _, _, _, _, _, HJ.out⟩
  case round =>
    clear HJ
    obtain ⟨a, b, v1, v2, xs, ys, hJ⟩ := hrel
    obtain ⟨n1, c1, hv1, _⟩ := hJ.pa.sl.form
    obtain ⟨n2, c2, hv2, _⟩ := hJ.pb.sl.form
    subst hv1
    subst hv2
    have HJ := Lib.hid hJ
    have HLA := Lib.hid hJ.len_at
    have hlt := hJ.at_.lt
    have hsz := hJ.old.size
    clear hJ
    by_cases hs : a.length < 2 ∨ textB a ≠ textB b
    · have HD := Lib.hid (downB_stop hs)
      have hcall : Calls Tryd.prog 43 #[.agg #[.slice n1 a.length c1, .slice n2 b.length c2]] wr fun e w' => e = .returned (.tuple #[.agg #[.slice n1 a.length c1, .slice n2 b.length c2], .bool false]) ∧ Below wr.heap.size wr w' := by
        by_cases h2 : a.length < 2
        · exact ext1_low _ _ a b xs ys wr (HJ.out.pa.below HJ.out.old) (HJ.out.pb.below HJ.out.old) (by have := HJ.out.one; omega)
        · exact ext1_diff _ _ a b xs ys wr (HJ.out.pa.below HJ.out.old) (HJ.out.pb.below HJ.out.old) (by omega) HJ.out.len HJ.out.few HJ.out.wa HJ.out.wb (HG.out.below HJ.out.old) (hs.resolve_left h2)
      have HC := Lib.hid hcall
      clear hcall hs
      go_wp2_with (first
        | (refine wpList_load_row rfl 60 (.tmp 3) rfl w.heap.size rfl 60 #[.slice n1 a.length c1, .slice n2 b.length c2] (0, 0) _ (by exact HJ.out.at_) Tryd.underlying60 rfl (by exact two_row _ _) ?_)
        | (go_at_call 43; refine HC.out.mono ?_; rintro e w4 ⟨rfl, hb4⟩; have hs4 := hb4.size; have HB4 := Lib.hid hb4; clear hb4)
        | (refine wpList_store_row rfl 60 (.tmp 8) (.tmp 14) rfl w4.heap.size #[.slice n1 a.length c1, .slice n2 b.length c2] rfl rfl 60 z2V.toArray (by exact Blk.newL w4 z2V _) (by exact two_row _ _) (by rfl) (by exact sl_one _ _ _ _ _ _) ?_)
        | fail)
      have hb5 : Below wr.heap.size wr ((w4.alloc (.cells #[.slice none 0 0, .slice none 0 0] 60)).setRow w4.heap.size #[.slice n1 a.length c1, .slice n2 b.length c2]) := below_setRow (HB4.out.alloc hs4 _) hs4 _
      obtain ⟨w5, hw5⟩ : ∃ w5, w5 = (w4.alloc (.cells #[.slice none 0 0, .slice none 0 0] 60)).setRow w4.heap.size #[.slice n1 a.length c1, .slice n2 b.length c2] := ⟨_, rfl⟩
      rw [← hw5] at hb5
      have HG5 := Lib.hid ((HG.out.below HJ.out.old).below hb5)
      have HA5 := Lib.hid ((HJ.out.pa.below HJ.out.old).below hb5)
      have HB5 := Lib.hid ((HJ.out.pb.below HJ.out.old).below hb5)
      have HX5 := Lib.hid (HJ.out.at_.below hb5 hlt)
      have hlt5 := HX5.out.lt
      have hw5b := HJ.out.old.trans (hb5.mono hsz)
      refine wp_world hw5 ?_
      clear hw5 hb5
      refine wp_region_mono 10 (w5.heap.size) [(fun v _ => v = fnText), (fun v _ => v = .pointer (some ⟨w.heap.size, 0, none⟩)), (fun v _ => v = .slice n1 a.length c1), (fun v w => Bytes w v (textB a)), (fun v _ => v = fnText), (fun v _ => v = .pointer (some ⟨w.heap.size, 1, none⟩)), (fun v _ => v = .slice n2 b.length c2), (fun v w => Bytes w v (textB b)), (fun v w => Bytes w v (textB a)), (fun v w => Bytes w v (textB b))] (by kernel_rfl) (by kernel_rfl) (Nat.le_refl _) ?mkept _ rfl ?mops ?mfin
      case mkept =>
        repeat (refine List.forall_mem_cons.2 ⟨by first | exact fun _ _ _ _ h => h | exact fun _ _ _ hb h => Parts.below h hb | exact fun _ _ _ hb h => IsSl.below h hb, ?_⟩)
        exact fun _ h => by cases h
      case mops =>
        simp only [List.take_succ_cons, List.take_zero, monoAll, List.getD_cons_zero, List.getD_cons_succ]
        iterate 10
        
         (refine ⟨fun x wr hb hd Qg hK => ?_, ?_⟩
          · as_aux_lemma =>
            simp only [fill, Act.put, List.setIfInBounds_toArray, List.set_cons_succ, List.set_cons_zero, needs, Region.binds, List.filter_cons, List.filter_nil, List.map_cons, List.map_nil, if_true, List.mem_cons, List.not_mem_nil, or_false, forall_eq_or_imp, forall_eq, List.getD_cons_zero, List.getD_cons_succ, false_implies, implies_true] at hd hK ⊢
            (try simp only [hd] at hK ⊢)
            first
            | (show wpList _ _ _ [⟨some 20, .load _ _, _, _, _, _⟩] _ _; have c0 := (HX5.out.below hb hlt5).cell (i := 0) rfl; go_wp2_with fail; exact hK _ _ rfl (Below.refl _ _))
            | (show wpList _ _ _ [⟨some 24, .load _ _, _, _, _, _⟩] _ _; have c0 := (HX5.out.below hb hlt5).cell (i := 1) rfl; go_wp2_with fail; exact hK _ _ rfl (Below.refl _ _))
            | (show wpList _ _ _ [⟨some 21, .call _, _, _, _, _⟩] _ _; simp only [fnText] at hK ⊢; go_wp2_with (go_at_call 44; refine (ctext_any _ a xs wr (HA5.out.below hb) HJ.out.one HJ.out.few HJ.out.wa (HG5.out.below hb)).mono ?_; rintro e w6 ⟨⟨v6, rfl, hv6⟩, hb6⟩); exact hK _ _ hv6 hb6)
            | (show wpList _ _ _ [⟨some 25, .call _, _, _, _, _⟩] _ _; simp only [fnText] at hK ⊢; go_wp2_with (go_at_call 44; refine (ctext_any _ b ys wr (HB5.out.below hb) (by rw [← HJ.out.len]; exact HJ.out.one) (by rw [← HJ.out.len]; exact HJ.out.few) HJ.out.wb (HG5.out.below hb)).mono ?_; rintro e w6 ⟨⟨v6, rfl, hv6⟩, hb6⟩); exact hK _ _ hv6 hb6)
            | (show wpList _ _ _ [⟨some 6, .assign _, _, _, _, _⟩] _ _; go_wp2_with fail; exact hK _ _ (by simp only [hd]) (Below.refl _ _))
            | (show wpList _ _ _ [⟨some 7, .assign _, _, _, _, _⟩] _ _; go_wp2_with fail; exact hK _ _ (by simp only [hd]) (Below.refl _ _))
            | (go_wp2_with fail; exact hK _ _ rfl (Below.refl _ _)))
        trivial
      case mfin =>
        intro z w9 hb9 hR9
        have x8 := hR9 8 (by decide)
        have x9 := hR9 9 (by decide)
        simp only [List.getD_cons_zero, List.getD_cons_succ] at x8 x9
        have HX8 := Lib.hid x8
        have HX9 := Lib.hid x9
        have hw9 := hw5b.trans (hb9.mono hw5b.size)
        clear hR9 hb9 x8 x9
        simp only [List.drop_succ_cons, List.drop_zero]
        generalize List.toArray _ = L0
        simp only [List.take_succ_cons, List.take_zero, List.map_cons, List.map_nil, fill, Act.put, List.setIfInBounds_toArray, List.set_cons_succ, List.set_cons_zero]
        go_wp2_with fail
        go_ret2
        exact ⟨⟨_, _, rfl, by rw [← HJ.out.down, HD.out]; exact HX8.out, by rw [← HJ.out.down, HD.out]; exact HX9.out⟩, hw9⟩
    · have h2 : 2 ≤ a.length := by omega
      have ht : textB a = textB b := Classical.byContradiction fun h => hs (.inr h)
      have hlt2 := splitN_lt a.length h2
      have hpos := splitN_pos a.length h2
      have hcall : ∃ a' b', a'.length < a.length ∧ downB a' b' = D ∧ a'.length = b'.length ∧ 1 ≤ a'.length ∧ (∀ t ∈ a', t.length ≤ 35184372088832) ∧ (∀ t ∈ b', t.length ≤ 35184372088832) ∧
          Calls Tryd.prog 43 #[.agg #[.slice n1 a.length c1, .slice n2 b.length c2]] wr fun e w' => (∃ v1 v2 xs' ys', e = .returned (.tuple #[.agg #[v1, v2], .bool true]) ∧ Parts w v1 a' xs' ∧ Parts w v2 b' ys') ∧ Below wr.heap.size wr w' := by
        have hlb := HJ.out.len
        by_cases hk : a.take (splitN a.length) = b.take (splitN a.length)
        · exact ⟨a.drop (splitN a.length), b.drop (splitN a.length), by rw [List.length_drop]; omega, (downB_right h2 ht hk).symm.trans HJ.out.down, by rw [List.length_drop, List.length_drop, hlb], by rw [List.length_drop]; omega,
            fun t h => HJ.out.wa t (List.mem_of_mem_drop h), fun t h => HJ.out.wb t (List.mem_of_mem_drop h), ext1_right _ _ a b xs ys w wr HJ.out.old HJ.out.pa HJ.out.pb h2 hlb HJ.out.few HJ.out.wa HJ.out.wb (HG.out.below HJ.out.old) ht hk⟩
        · exact ⟨a.take (splitN a.length), b.take (splitN a.length), by rw [List.length_take]; omega, (downB_left h2 ht hk).symm.trans HJ.out.down, by rw [List.length_take, List.length_take, hlb], by rw [List.length_take]; omega,
            fun t h => HJ.out.wa t (List.mem_of_mem_take h), fun t h => HJ.out.wb t (List.mem_of_mem_take h), ext1_left _ _ a b xs ys w wr HJ.out.old HJ.out.pa HJ.out.pb h2 hlb HJ.out.few HJ.out.wa HJ.out.wb (HG.out.below HJ.out.old) ht hk⟩
      obtain ⟨a', b', hlt', hd', hl', h1', hwa', hwb', hcall⟩ := hcall
      have HC := Lib.hid hcall
      have HD' := Lib.hid hd'
      have HL' := Lib.hid hl'
      have HWA := Lib.hid hwa'
      have HWB := Lib.hid hwb'
      have hfew := HJ.out.few
      clear hcall hs hd' ht hl' hwa' hwb' hlt2 hpos
      go_wp2_with (first
        | (refine wpList_load_row rfl 60 (.tmp 3) rfl w.heap.size rfl 60 #[.slice n1 a.length c1, .slice n2 b.length c2] (0, 0) _ (by exact HJ.out.at_) Tryd.underlying60 rfl (by exact two_row _ _) ?_)
        | (go_at_call 43; refine HC.out.mono ?_; rintro e w4 ⟨⟨v1, v2, xs', ys', rfl, hp1, hp2⟩, hb4⟩; obtain ⟨m1, e1, rfl, _⟩ := hp1.sl.form; obtain ⟨m2, e2, rfl, _⟩ := hp2.sl.form; have HP1 := Lib.hid hp1; have HP2 := Lib.hid hp2; have hs4 := hb4.size; have HB4 := Lib.hid hb4; have HX4 := Lib.hid (HJ.out.at_.below hb4 hlt); have hlt4 := HX4.out.lt; clear hb4 hp1 hp2)
        | (refine wpList_store_row rfl 60 (.tmp 8) (.tmp 14) rfl w4.heap.size #[.slice m1 a'.length e1, .slice m2 b'.length e2] rfl rfl 60 z2V.toArray (by exact Blk.newL w4 z2V _) (by exact two_row _ _) (by rfl) (by exact sl_one _ _ _ _ _ _) ?_)
        | (refine wpList_load_row rfl 60 (.tmp 8) rfl w4.heap.size rfl 60 #[.slice m1 a'.length e1, .slice m2 b'.length e2] (0, 0) _ (by exact (Blk.newL w4 z2V _).setRow [.slice m1 a'.length e1, .slice m2 b'.length e2]) Tryd.underlying60 rfl (by exact two_row _ _) ?_)
        | (refine wpList_store_row rfl 60 (.tmp 3) (.tmp 26) rfl w.heap.size #[.slice m1 a'.length e1, .slice m2 b'.length e2] rfl rfl 60 #[.slice n1 a.length c1, .slice n2 b.length c2] (by exact (HX4.out.alloc _).setRow_other (by omega) _) (by exact two_row _ _) (by rfl) (by exact sl_one _ _ _ _ _ _) ?_)
        | fail)
      have hX5 : Blk ((w4.alloc (.cells #[.slice none 0 0, .slice none 0 0] 60)).setRow w4.heap.size #[.slice m1 a'.length e1, .slice m2 b'.length e2]) w.heap.size [.slice n1 a.length c1, .slice n2 b.length c2] 60 := (HX4.out.alloc _).setRow_other (by omega) _
      have hJ' : DownJ w (((w4.alloc (.cells #[.slice none 0 0, .slice none 0 0] 60)).setRow w4.heap.size #[.slice m1 a'.length e1, .slice m2 b'.length e2]).setRow w.heap.size #[.slice m1 a'.length e1, .slice m2 b'.length e2]) w.heap.size a' b' D (.slice m1 a'.length e1) (.slice m2 b'.length e2) xs' ys' :=
        ⟨below_setRow (below_setRow ((HJ.out.old.trans (HB4.out.mono hsz)).alloc (by omega) _) (by omega) _) (Nat.le_refl _) _, hX5.setRow _, HP1.out, HP2.out, HL'.out, h1', by omega, HWA.out, HWB.out, HD'.out⟩
      refine ⟨?_, by rw [hJ'.len_at, HLA.out]; exact hlt'⟩
      repeat (first | exact ⟨⟨a', b', _, _, xs', ys', hJ'⟩, rfl⟩ | apply Exists.intro)
end Go.Proofs.YtnbnjoejmepkjaaDoor

/-! ClashI: The walk of clash.Extract. Conditions: both lists can be read, at most 4000 texts of at most 2^40 bytes; the package's tables read as they are laid. -/
namespace Go.Proofs.YtnbnjoejmepkjaaDoor
open Go.RowKit

/-- What an extraction hands back. -/
def ExtR (Z : Option (List UInt8 × List UInt8)) (e : Ending) (w : World) : Prop := ∃ v1 v2, e = .returned (.tuple #[v1, v2, .bool Z.isSome]) ∧ Bytes w v1 (Z.getD ([], [])).1 ∧ Bytes w v2 (Z.getD ([], [])).2
theorem extR_none (w : World) : ExtR none (.returned (.tuple #[.slice none 0 0, .slice none 0 0, .bool false])) w := ⟨_, _, rfl, bytes_nil w, bytes_nil w⟩
set_option maxRecDepth 100000 in
set_option maxHeartbeats 2000000 in
theorem extract_any (va vb : Value) (a b : List (List UInt8)) (xs ys : List Value) (w : World) (ha : Parts w va a xs) (hb : Parts w vb b ys) (hn : a.length ≤ 4000) (hm : b.length ≤ 4000) (hwa : ∀ t ∈ a, t.length ≤ 35184372088832) (hwb : ∀ t ∈ b, t.length ≤ 35184372088832) (hg : Glob w) :
    Calls Tryd.prog 22 #[va, vb] w fun e w' => ExtR (extractB a b) e w' ∧ Below w.heap.size w w' := by
  obtain ⟨xa, ca, rfl, _⟩ := ha.sl.form
  obtain ⟨xb, cb, rfl, _⟩ := hb.sl.form
  have HA := Lib.hid ha
  have HB := Lib.hid hb
  have HG := Lib.hid hg
  have HWA := Lib.hid hwa
  have HWB := Lib.hid hwb
  clear ha hb hg hwa hwb
  by_cases hl : a.length = b.length
  · have hle : ((a.length : Int) != (b.length : Int)) = false := by rw [hl]; simp
    by_cases hs : a = b
    · rw [show extractB a b = none from if_pos (.inr (.inl hs))]
      have HE := Lib.hid (show (a == b) = true by simp [hs])
      clear hs hl
      go_enter Tryd.func22, Tryd.ntmps22
      go_wp2_with (first
        | (go_at_call 31; refine (eqfunc_any _ _ a b xs ys w HA.out HB.out (by omega)).mono ?_; rintro e w2 ⟨rfl, h2⟩; rw [h2, HE.out]; clear h2 w2)
        | fail)
      go_ret3
      exact ⟨extR_none _, Below.refl _ _⟩
    · have HE := Lib.hid (show (a == b) = false by simpa using hs)
      obtain ⟨R1, hR1⟩ : ∃ R1, R1 = rootB a := ⟨_, rfl⟩
      obtain ⟨R2, hR2⟩ : ∃ R2, R2 = rootB b := ⟨_, rfl⟩
      have HR1 := Lib.hid hR1
      have HR2 := Lib.hid hR2
      by_cases hr : R1 = R2
      · rw [show extractB a b = some (downB a b) from if_neg (by rintro (h | h | h); exact h hl; exact hs h; exact h (by rw [← hR1, ← hR2, hr]))]
        have heq := fun w => is_hash w R1
        have HL := Lib.hid hl
        have h1 : 1 ≤ a.length := by
          rcases Nat.eq_zero_or_pos a.length with h0 | h0
          · exact absurd ((List.eq_nil_of_length_eq_zero h0).trans (List.eq_nil_of_length_eq_zero (hl ▸ h0)).symm) hs
          · exact h0
        have HR := Lib.hid hr
        clear hs hR1 hR2 hr hl
        go_enter Tryd.func22, Tryd.ntmps22
        go_wp2_with (first
          | (go_at_call 31; refine (eqfunc_any _ _ a b xs ys w HA.out HB.out (by omega)).mono ?_; rintro e w2 ⟨rfl, h2⟩; rw [h2, HE.out]; clear h2 w2)
          | (go_at_call 21; have HX := HWA; refine (roots_any _ a xs w HA.out hn HX.out HG.out).mono ?_; rintro e w3 ⟨rfl, hb3⟩; rw [← HR1.out]; unfold hv; have HW3 := Lib.hid hb3; have HG3 := Lib.hid (HG.out.below hb3); have HA3 := Lib.hid (HA.out.below hb3); have HB3 := Lib.hid (HB.out.below hb3); have HWA3 := HWA; clear hb3 HWA)
          | (go_at_call 21; refine (roots_any _ b ys w3 HB3.out hm HWB.out HG3.out).mono ?_; rintro e w4 ⟨rfl, hb4⟩; rw [← HR2.out, ← HR.out]; unfold hv; have HW4 := Lib.hid (HW3.out.trans (hb4.mono HW3.out.size)); have HG4 := Lib.hid (HG3.out.below hb4); have HA4 := Lib.hid (HA3.out.below hb4); have HB4 := Lib.hid (HB3.out.below hb4); clear hb4)
          | (go_at_call 42; refine (down_any _ _ a b xs ys w4 HA4.out HB4.out HL.out h1 hn HWA3.out HWB.out HG4.out).mono ?_; rintro e w5 ⟨⟨v1, v2, rfl, hv1, hv2⟩, hb5⟩; have HV1 := Lib.hid hv1; have HV2 := Lib.hid hv2; have HW5 := Lib.hid (HW4.out.trans (hb5.mono HW4.out.size)); clear hb5 hv1 hv2)
          | fail)
        go_ret3
        exact ⟨⟨_, _, rfl, HV1.out, HV2.out⟩, HW5.out⟩
      · rw [show extractB a b = none from if_pos (.inr (.inr (by rw [← hR1, ← hR2]; exact hr)))]
        have heq := fun w => ne_hash w R1 R2 hr
        clear hs hR1 hR2 hr hl
        go_enter Tryd.func22, Tryd.ntmps22
        go_wp2_with (first
          | (go_at_call 31; refine (eqfunc_any _ _ a b xs ys w HA.out HB.out (by omega)).mono ?_; rintro e w2 ⟨rfl, h2⟩; rw [h2, HE.out]; clear h2 w2)
          | (go_at_call 21; have HX := HWA; refine (roots_any _ a xs w HA.out hn HX.out HG.out).mono ?_; rintro e w3 ⟨rfl, hb3⟩; rw [← HR1.out]; unfold hv; have HW3 := Lib.hid hb3; have HG3 := Lib.hid (HG.out.below hb3); have HB3 := Lib.hid (HB.out.below hb3); clear hb3 HWA)
          | (go_at_call 21; refine (roots_any _ b ys w3 HB3.out hm HWB.out HG3.out).mono ?_; rintro e w4 ⟨rfl, hb4⟩; rw [← HR2.out]; unfold hv; have HW4 := Lib.hid (HW3.out.trans (hb4.mono HW3.out.size)); clear hb4)
          | fail)
        go_ret3
        exact ⟨extR_none _, HW4.out⟩
  · rw [show extractB a b = none from if_pos (.inl hl)]
    have hle : ((a.length : Int) != (b.length : Int)) = true := by simp; omega
    clear hl
    go_enter Tryd.func22, Tryd.ntmps22
    go_wp2_with fail
    go_ret3
    exact ⟨extR_none _, Below.refl _ _⟩
end Go.Proofs.YtnbnjoejmepkjaaDoor

/-! ClashJ: append to a literal of one byte; the walk of the reference's Extract. Conditions: both lists can be read, at most 4000 texts of at most 2^40 bytes; the package's tables read as they are laid. -/
namespace Go.Proofs.YtnbnjoejmepkjaaDoor
open Go.RowKit

theorem run_append_none1 {P : Program} (w : World) (t ty e : TypeId) (i : TypeInfo) (ht : P.underlying t = some (.slice e)) (hi : P.info? e = some i) (g n c : Nat) (xa : Option Addr) (xc : Nat) (hn : n ≤ c) :
    (Builtin.append_ #[t, t] ty #[.slice (some ⟨g, 0, none⟩) n c, .slice xa 0 xc]).run P w = .ok (.slice (some ⟨g, 0, none⟩) n c) w := by
  have h : ¬ c < n := by omega
  cases xa <;> simp [h, Builtin.append_, run_underlying ht, sizeOf, typeInfo, hi, Builtin.firstCells, Builtin.lenOf, storeCells, loadCells, loadCellsFrom]
/-- append to a literal of one byte. -/
theorem wpList_full1 {w : World} {ops : Array Oper} {rest : List Oper} {o : Oper} {a : Act} {Q : Exit → Act → World → Prop} (hgd : o.guard = none) (s x : Operand)
    (ho : o.op = .call { callee := .builtin .append, args := #[s, x], argTypes := #[26, 26] }) (g : Nat) (c : UInt8) (xv : Value) (t : List UInt8) (hs : a.eval s = .slice (some ⟨g, 0, none⟩) 1 1) (hS : Bytes w (.slice (some ⟨g, 0, none⟩) 1 1) [c])
    (hx : a.eval x = xv) (hX : Bytes w xv t) (hlen : t.length ≤ 35184372088832)
    (h : ∀ v' w', Bytes w' v' (c :: t) → Below w.heap.size w w' → wpList Tryd.prog ops Q rest (a.put o.dst v') w') : wpList Tryd.prog ops Q (o :: rest) a w := by
  obtain ⟨i0, hi, hz0, hz1, hz2⟩ := info_parts info_u8
  by_cases hm : t.length = 0
  · have := List.eq_nil_of_length_eq_zero hm
    subst this
    obtain ⟨xa, xc, rfl, _⟩ := hX.form
    exact wpList_append_run hgd s x 26 26 ho _ _ _ w hs hx (run_append_none1 w 26 _ 5 i0 Tryd.underlying26 hi g 1 1 xa xc (Nat.le_refl _)) (h _ w hS (Below.refl _ _))
  · obtain ⟨b, off, cap, rfl, hc, hr, _⟩ := hX.pos (by omega) (by decide)
    refine wpList_append_grows (P := Tryd.prog) w hgd s x 26 ho 5 i0 (.int .u8 0) 1 1 Tryd.underlying26 hi hz0 hz1 hz2 rfl (by decide) (some ⟨g, 0, none⟩) 1 1 (bytesV [c]) hs (fun e => by cases e) (by simp [bytesV]) (fun b' hb' j u hu => ?_) ⟨b, off, none⟩ t.length cap (bytesV t) hx hX.1 (fun j u hu => by rw [Addr.add_mid]; exact hr j u hu) hX.2.1 (by omega) (by unfold maxLen; omega) (by omega) ?_
    · cases hb'
      rcases hS.2.2 with ⟨e, _⟩ | ⟨ad, cc, e, _, hq⟩
      · cases e
      · cases e
        exact hq j u hu
    · intro v' w' hown' hgrow'
      refine h v' w' ?_ (below_of_grown hgrow')
      rw [← bytesV_app] at hown'
      have := ownsRow_isSl hown' (bytesV_one _)
      unfold Bytes
      rw [List.length_cons, Nat.add_comm t.length 1]
      exact this
end Go.Proofs.YtnbnjoejmepkjaaDoor
