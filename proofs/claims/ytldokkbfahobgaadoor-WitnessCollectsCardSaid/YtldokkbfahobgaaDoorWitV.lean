/- The walk of keys.Sign. The walk of the reference's Sign. Conditions: what each part says. -/
import Derived.Test.YtldokkbfahobgaaDoorWitU
import Derived.Test.YtldokkbfahobgaaDoorComesW
import Derived.Test.YtldokkbfahobgaaDoorRefV
import Derived.Test.YtldokkbfahobgaaDoorGround
/-! WitD: The walk of keys.Sign. Conditions: the keys can be read; the package's tables read as they are laid. -/
namespace Go.Proofs.YtldokkbfahobgaaDoor
open Go.RowKit

/-- Whether a witness has a tag of a checkpoint; the tag. -/
def signB (np nw : Nat) (need wit size : Int) : Bool := mayB np nw need && (decide (0 ≤ wit ∧ wit < nw) && decide (0 ≤ size ∧ size ≤ 400))
def tagH (k : H) (n : Nat) (r : H) : H := ⟨tagN k.b (3 :: (textH n r).b), tagN_len _ _⟩
def signH (np : Nat) (ws : List H) (need wit size : Int) (r : H) : H := if signB np ws.length need wit size then tagH (ws.getD wit.toNat z0H) size.toNat r else z0H
def signW (w : World) (pv wv : Value) (need size : Int) (r : H) (sv : Value) : World := ((w.alloc (.cells #[pv, wv, .int .i64 need] 24)).alloc (.cells (pointC size r sv).toArray 40)).alloc (.cells z32.toArray 31)
theorem signW_parts (w : World) (pv wv : Value) (need size : Int) (r : H) (sv : Value) : Below w.heap.size w (signW w pv wv need size r sv) ∧ Blk (signW w pv wv need size r sv) w.heap.size [pv, wv, .int .i64 need] 24 ∧ Blk (signW w pv wv need size r sv) (w.heap.size + 1) (pointC size r sv) 40 ∧ Blk (signW w pv wv need size r sv) (w.heap.size + 1 + 1) z32 31 := by
  unfold signW
  exact ⟨by (repeat (first | with_reducible assumption | with_reducible exact Below.refl _ _ | ((with_reducible refine Below.setCell ?_ ?_ _); rotate_left; focus (first | omega | (simp; done) | (simp; omega))) | ((with_reducible refine Below.alloc ?_ ?_ _); rotate_left; focus (first | omega | (simp; done) | (simp; omega))) | ((with_reducible refine below_setRow ?_ ?_ _); rotate_left; focus (first | omega | (simp; done) | (simp; omega))) | (with_reducible refine below_drewN ?_ _) | (with_reducible refine Below.drew ?_))), ((Blk.newL w [pv, wv, .int .i64 need] _).alloc _).alloc _, (Blk.newL1 w _ _ _).alloc _, Blk.newL2 w _ _ _ _⟩
set_option maxRecDepth 100000 in
set_option maxHeartbeats 4000000 in
theorem sign_no (pv wv : Value) (ps ws : List H) (need wit size : Int) (r : H) (sv : Value) (w : World) (hp : Hs w pv ps) (hw : Hs w wv ws) (hwl : ws.length ≤ 1000) (hno : signB ps.length ws.length need wit size = false) :
    Calls Tryd.prog 23 #[keysV pv wv need, .int .i64 wit, pointV size r sv] w fun e w' => e = .returned (hv z0H) ∧ Below w.heap.size w w' := by
  obtain ⟨xp, cp, rfl, _⟩ := hp.form
  obtain ⟨xw, cw, rfl, _⟩ := hw.form
  obtain ⟨hb, hB0, hB1, hX⟩ := signW_parts w (.slice xp ps.length cp) (.slice xw ws.length cw) need size r sv
  obtain ⟨W, hW⟩ : ∃ W, W = signW w (.slice xp ps.length cp) (.slice xw ws.length cw) need size r sv := ⟨_, rfl⟩
  rw [← hW] at hb hB0 hB1 hX
  have HP := Lib.hid (hp.below hb)
  have HWs := Lib.hid (hw.below hb)
  have HB0 := Lib.hid hB0
  have HB1 := Lib.hid hB1
  have HX := Lib.hid hX
  have HW := Lib.hid hW
  obtain ⟨A, hA⟩ : ∃ A, A = mayB ps.length ws.length need := ⟨_, rfl⟩
  obtain ⟨B, hB⟩ : ∃ B, B = decide (0 ≤ wit ∧ wit < ws.length) := ⟨_, rfl⟩
  obtain ⟨C, hC⟩ : ∃ C, C = decide (0 ≤ size ∧ size ≤ 400) := ⟨_, rfl⟩
  unfold signB at hno
  rw [← hA, ← hB, ← hC] at hno
  have HA := Lib.hid hA
  have HB := Lib.hid (show decide ((0 : Int) ≤ wit ∧ wit ≤ (ws.length : Int) - 1) = B by rw [hB]; exact decide_eq_decide.2 (by omega))
  have HC := Lib.hid (show decide ((0 : Int) ≤ size ∧ size ≤ 400) = C by rw [hC])
  clear hp hw hB0 hB1 hX hA hB hC hW
  unfold keysV pointV
  have hcase : A = false ∨ (A = true ∧ B = false) ∨ (A = true ∧ B = true ∧ C = false) := by
    cases A <;> cases B <;> cases C <;> simp_all
  clear hno
  rcases hcase with rfl | ⟨rfl, rfl⟩ | ⟨rfl, rfl, rfl⟩
  all_goals
    go_enter Tryd.func23, Tryd.ntmps23
    go_wp2_with (first
      | (go_at_call 18; refine calls_eq HW.out ((may_any _ _ ps ws need W HP.out HWs.out).mono ?_); rintro e w2 ⟨rfl, hb2⟩; rw [← HA.out]; have k1 := (HB0.out.below hb2 HB0.out.lt).cell (i := 1) rfl; have k3 := point_size (HB1.out.below hb2 HB1.out.lt); have HX2 := Lib.hid (HX.out.below hb2 HX.out.lt); have hw2 := hb.trans (hb2.mono hb.size); clear hb2)
      | (go_at_call 30; have HQ := HB; clear HB; refine (within_any wit 0 ((ws.length : Int) - 1) w2).mono ?_; rintro e w3 ⟨rfl, h3⟩; rw [h3, HQ.out]; clear h3 w3)
      | (go_at_call 30; have HQ := HC; clear HC; refine (within_any size 0 400 w2).mono ?_; rintro e w3 ⟨rfl, h3⟩; rw [h3, HQ.out]; clear h3 w3)
      | (refine wpList_store_row rfl 31 (.tmp 6) (.tmp 26) rfl (w.heap.size + 1 + 1) z32.toArray rfl (by rw [z32_arr]; rfl) 31 z32.toArray (by exact HX2.out) (by exact z32_row) (by exact z32_old z0H) (by exact hv_one z0H) ?_)
      | fail)
    exact bodyPost_ret (v := hv z0H) (results_cell_row rfl _ _ (w.heap.size + 1 + 1) 31 _ (0, 0) _ rfl (HX2.out.setRow _) Tryd.underlying31 rfl (hv_row _)) rfl ⟨rfl, below_setRow hw2 (by omega) _⟩
set_option maxRecDepth 100000 in
set_option maxHeartbeats 4000000 in
theorem sign_yes (pv wv : Value) (ps ws : List H) (need : Int) (wit n : Nat) (k : H) (r : H) (sv : Value) (w : World) (hp : Hs w pv ps) (hw : Hs w wv ws) (hwl : ws.length ≤ 1000) (hm : mayB ps.length ws.length need = true) (hk : ws[wit]? = some k) (hn : n ≤ 400) (hg : Glob w) :
    Calls Tryd.prog 23 #[keysV pv wv need, .int .i64 wit, pointV n r sv] w fun e w' => e = .returned (hv (tagH k n r)) ∧ Below w.heap.size w w' := by
  have hwit : wit < ws.length := (List.getElem?_eq_some_iff.1 hk).1
  obtain ⟨xp, cp, rfl, _⟩ := hp.form
  obtain ⟨wb, wo, cw, rfl, _, hr, hwb⟩ := Hs.pos hw (by omega)
  have hE : w.rangeAt wb (wo + wit * 32) (bytesV k.b) := Hs.elem hr hk
  obtain ⟨hb, hB0, hB1, hX⟩ := signW_parts w (.slice xp ps.length cp) (.slice (some ⟨wb, wo, none⟩) ws.length cw) need n r sv
  obtain ⟨W, hW⟩ : ∃ W, W = signW w (.slice xp ps.length cp) (.slice (some ⟨wb, wo, none⟩) ws.length cw) need n r sv := ⟨_, rfl⟩
  rw [← hW] at hb hB0 hB1 hX
  have HP := Lib.hid (hp.below hb)
  have HWs := Lib.hid (hw.below hb)
  have HB0 := Lib.hid hB0
  have HB1 := Lib.hid hB1
  have HX := Lib.hid hX
  have HE := Lib.hid (range_below hE hb)
  have HG := Lib.hid (hg.below hb)
  have HW := Lib.hid hW
  have HM := Lib.hid hm
  obtain ⟨T, hT⟩ : ∃ T, T = textH n r := ⟨_, rfl⟩
  obtain ⟨S, hS⟩ : ∃ S, S = tagH k n r := ⟨_, rfl⟩
  have HT := Lib.hid hT
  have HSE := Lib.hid (show tagN k.b (cat [[3], T.b]) = S.b by rw [hS, hT]; simp [cat, tagH])
  rw [← hS]
  have d1 : decide ((0 : Int) ≤ (wit : Int) ∧ (wit : Int) ≤ (ws.length : Int) - 1) = true := decide_eq_true (by omega)
  have d2 : decide ((0 : Int) ≤ (n : Int) ∧ (n : Int) ≤ 400) = true := decide_eq_true (by omega)
  have D1 := Lib.hid d1
  have D2 := Lib.hid d2
  have hix : (0 : Int) ≤ wit ∧ (wit : Int) < ws.length := ⟨by omega, by omega⟩
  clear hp hw hB0 hB1 hX hW hg hr hE hk hm hT hS d1 d2
  unfold keysV pointV
  go_enter Tryd.func23, Tryd.ntmps23
  go_wp2_with (first
    | (go_at_call 18; refine calls_eq HW.out ((may_any _ _ ps ws need W HP.out HWs.out).mono ?_); rintro e w2 ⟨rfl, hb2⟩; rw [HM.out]; have k1 := (HB0.out.below hb2 HB0.out.lt).cell (i := 1) rfl; have HB12 := Lib.hid (HB1.out.below hb2 HB1.out.lt); have k3 := point_size HB12.out; have HB2 := Lib.hid hb2; have HG2 := Lib.hid (HG.out.below hb2))
    | (go_at_call 30; have HQ := D1; clear D1; refine (within_any wit 0 ((ws.length : Int) - 1) w2).mono ?_; rintro e w3 ⟨rfl, h3⟩; rw [h3, HQ.out]; clear h3 w3)
    | (go_at_call 30; have HQ := D2; clear D2; refine (within_any n 0 400 w2).mono ?_; rintro e w3 ⟨rfl, h3⟩; rw [h3, HQ.out]; clear h3 w3)
    | (refine wpList_load_row rfl 40 (.tmp 5) rfl (w.heap.size + 1) rfl 40 (pointC n r sv).toArray (0, 0) _ (by exact HB12.out) Tryd.underlying40 rfl (by exact point_row _ _ _) ?_)
    | (go_at_call 36; refine (text_any n r sv w2 hn HG2.out).mono ?_; rintro e w4 ⟨rfl, hb4⟩; rw [← HT.out]; unfold hv; have hb24 := HB2.out.trans (hb4.mono HB2.out.size); have HB24 := Lib.hid hb24; clear hb4 hb24 k1 k3)
    | (refine wpList_store_row rfl 31 (.tmp 7) (.tmp 28) rfl w4.heap.size (bytesV T.b).toArray rfl rfl 31 z32.toArray (by exact Blk.newL w4 z32 _) (by exact hv_row _) (by exact z32_old _) (by exact hv_one _) ?_)
    | fail)
  obtain ⟨w5, hw5⟩ : ∃ w5, w5 = (w4.alloc (.cells z32.toArray 31)).setRow w4.heap.size (bytesV T.b).toArray := ⟨_, rfl⟩
  have hb45 : Below w4.heap.size w4 w5 := by rw [hw5]; exact below_setRow ((Below.refl _ _).alloc (Nat.le_refl _) _) (Nat.le_refl _) _
  have hbW5 := HB24.out.trans (hb45.mono HB24.out.size)
  have hT5 : Blk w5 w4.heap.size (bytesV T.b) 31 := by rw [hw5]; exact (Blk.newL w4 z32 _).setRow _
  have HT5 := Lib.hid hT5
  have ht5 := hT5.lt
  have HB05 := Lib.hid (HB0.out.below hbW5 HB0.out.lt)
  have hl05 := HB05.out.lt
  have HE5 := Lib.hid (range_below HE.out hbW5)
  have HX5 := Lib.hid (HX.out.below hbW5 HX.out.lt)
  have HG5 := Lib.hid (HG.out.below hbW5)
  have hw0 := hb.trans (hbW5.mono hb.size)
  refine wp_world hw5 ?_
  clear hT5 hbW5 hb45 hw5 HB24 HB2 HB12 HG2 HT
  refine wp_region_mono 9 (w5.heap.size) [(fun v _ => v = .pointer (some ⟨w.heap.size, 1, none⟩)), (fun v _ => v = .slice (some ⟨wb, wo, none⟩) ws.length cw), (fun v _ => v = .int .i64 wit), (fun v _ => v = .pointer (some ⟨wb, wo + wit * 32, none⟩)), (fun v _ => v = .slice (some ⟨wb, wo + wit * 32, none⟩) 32 32), (fun v w => ∃ c1 c2, v = .slice c1 1 c2 ∧ Bytes w (.slice c1 1 c2) [3]), (fun v _ => v = .slice (some ⟨w4.heap.size, 0, none⟩) 32 32), (fun v w => ∃ vs, Parts w v [[3], T.b] vs), (fun v _ => v = .agg (bytesV S.b).toArray)] (by kernel_rfl) (by kernel_rfl) (Nat.le_refl _) ?mkept _ rfl ?mops ?mfin
  case mkept =>
    repeat (refine List.forall_mem_cons.2 ⟨by first | exact fun _ _ _ _ h => h | exact fun _ _ _ hb ⟨vs, h⟩ => ⟨vs, Parts.below h hb⟩ | exact fun _ _ _ hb ⟨c1, c2, e, h⟩ => ⟨c1, c2, e, IsSl.below h hb⟩ | exact fun _ _ _ hb h => Parts.below h hb | exact fun _ _ _ hb h => IsSl.below h hb, ?_⟩)
    exact fun _ h => by cases h
  case mops =>
    simp only [List.take_succ_cons, List.take_zero, monoAll, List.getD_cons_zero, List.getD_cons_succ]
    iterate 9
    
     (refine ⟨fun x wr hb hd Qg hK => ?_, ?_⟩
      · as_aux_lemma =>
        simp only [fill, Act.put, List.setIfInBounds_toArray, List.set_cons_succ, List.set_cons_zero, needs, Region.binds, List.filter_cons, List.filter_nil, List.map_cons, List.map_nil, if_true, List.mem_cons, List.not_mem_nil, or_false, forall_eq_or_imp, forall_eq, List.getD_cons_zero, List.getD_cons_succ, false_implies, implies_true] at hd hK ⊢
        (try simp only [hd] at hK ⊢)
        first
        | (show wpList _ _ _ [⟨some 30, .load _ _, _, _, _, _⟩] _ _; have c0 := (HB05.out.below hb hl05).cell (i := 1) rfl; go_wp2_with fail; exact hK _ _ rfl (Below.refl _ _))
        | (show wpList _ _ _ [⟨some 34, .buildSlice _ _ _, _, _, _, _⟩] _ _; go_wp2_with fail; exact hK _ _ ⟨_, _, rfl, bytes_alloc wr [3] _ _ rfl⟩ ((Below.refl _ _).alloc (Nat.le_refl _) _))
        | (show wpList _ _ _ [⟨some 36, .buildSlice _ _ _, _, _, _, _⟩] _ _; have hd' : ∃ c1 c2, x 5 = .slice c1 1 c2 ∧ Bytes wr (.slice c1 1 c2) [3] := (by first | exact hd.1 | exact hd.2); obtain ⟨c1, c2, e1, h1⟩ := hd'; simp only [e1] at hK ⊢; go_wp2_with fail; exact hK _ _ ⟨_, Texts.parts (.cons h1 (.cons (bytes_box (HT5.out.below hb ht5)) .nil)) 48 (n := 2) rfl⟩ ((Below.refl _ _).alloc (Nat.le_refl _) _))
        | (show wpList _ _ _ [⟨some 37, .call _, _, _, _, _⟩] _ _; have hd' : ∃ vs, Parts wr (x 7) [[3], T.b] vs := (by first | exact hd | exact hd.1 | exact hd.2); obtain ⟨vs, hp⟩ := hd'; go_wp2_with (go_at_call 37; refine (tag_any _ (x 7) k.b [[3], T.b] vs wr (bytes_mid (range_below HE5.out hb)) hp (by rw [k.len]; decide) (by simp [cat, T.len]) (by simp) (HG5.out.below hb)).mono ?_; rintro e w6 ⟨rfl, hb6⟩; rw [HSE.out]); exact hK _ _ rfl hb6)
        | (go_wp2_with fail; exact hK _ _ rfl (Below.refl _ _)))
    trivial
  case mfin =>
    intro z w7 hb7 hR7
    have x8 := hR7 8 (by decide)
    simp only [List.getD_cons_zero, List.getD_cons_succ] at x8
    have HX7 := Lib.hid (HX5.out.below hb7 HX5.out.lt)
    have hw7 := hw0.trans (hb7.mono hw0.size)
    clear hR7 hb7
    simp only [List.drop_succ_cons, List.drop_zero]
    generalize List.toArray _ = L0
    simp only [List.take_succ_cons, List.take_zero, List.map_cons, List.map_nil, fill, Act.put, List.setIfInBounds_toArray, List.set_cons_succ, List.set_cons_zero, x8]
    clear x8
    go_wp2_with (first
      | (refine wpList_store_row rfl 31 (.tmp 6) (.tmp 37) rfl (w.heap.size + 1 + 1) (bytesV S.b).toArray rfl rfl 31 z32.toArray (by exact HX7.out) (by exact hv_row _) (by exact z32_old _) (by exact hv_one _) ?_)
      | fail)
    exact bodyPost_ret (v := hv S) (results_cell_row rfl _ _ (w.heap.size + 1 + 1) 31 _ (0, 0) _ rfl (HX7.out.setRow _) Tryd.underlying31 rfl (hv_row _)) rfl ⟨rfl, below_setRow hw7 (by omega) _⟩
theorem sign_any (pv wv : Value) (ps ws : List H) (need wit size : Int) (r : H) (sv : Value) (w : World) (hp : Hs w pv ps) (hw : Hs w wv ws) (hwl : ws.length ≤ 1000) (hg : Glob w) :
    Calls Tryd.prog 23 #[keysV pv wv need, .int .i64 wit, pointV size r sv] w fun e w' => e = .returned (hv (signH ps.length ws need wit size r)) ∧ Below w.heap.size w w' := by
  unfold signH
  cases h : signB ps.length ws.length need wit size with
  | false => exact sign_no pv wv ps ws need wit size r sv w hp hw hwl h
  | true =>
    unfold signB at h
    simp only [Bool.and_eq_true, decide_eq_true_iff] at h
    obtain ⟨h1, ⟨h2, h3⟩, h4, h5⟩ := h
    obtain ⟨a, rfl⟩ : ∃ a : Nat, wit = a := ⟨wit.toNat, by omega⟩
    obtain ⟨n, rfl⟩ : ∃ n : Nat, size = n := ⟨size.toNat, by omega⟩
    have ha : a < ws.length := by omega
    have hk : ws[a]? = some ws[a] := List.getElem?_eq_getElem ha
    have := sign_yes pv wv ps ws need a n ws[a] r sv w hp hw hwl h1 hk (by omega) hg
    rw [if_pos rfl, Int.toNat_natCast, Int.toNat_natCast, List.getD_eq_getElem?_getD, hk, Option.getD_some]
    exact this
end Go.Proofs.YtldokkbfahobgaaDoor

/-! WitE: The walk of the reference's Sign. Conditions: the keys can be read; the package's tables read as they are laid. -/
namespace Go.Proofs.YtldokkbfahobgaaDoor
open Go.RowKit

/-- append to a slice of bytes that has no room behind: a new one. -/
theorem wpList_grow_bytes {w : World} {ops : Array Oper} {rest : List Oper} {o : Oper} {a : Act} {Q : Exit → Act → World → Prop} (hgd : o.guard = none) (s y : Operand)
    (ho : o.op = .call { callee := .builtin .append, args := #[s, y], argTypes := #[48, 48] }) (b off : Nat) (xv : Value) (l m : List UInt8) (n : Nat) (hn : l.length = n) (hs : a.eval s = .slice (some ⟨b, off, none⟩) n n) (hL : Bytes w (.slice (some ⟨b, off, none⟩) n n) l) (hy : a.eval y = xv) (hX : Bytes w xv m) (hm : 0 < m.length) (hlen : n + m.length ≤ 1099511627776)
    (h : ∀ v' w', Bytes w' v' (l ++ m) → Below w.heap.size w w' → wpList Tryd.prog ops Q rest (a.put o.dst v') w') : wpList Tryd.prog ops Q (o :: rest) a w := by
  subst hn
  obtain ⟨i0, hi, hz0, hz1, hz2⟩ := info_parts info_u8
  obtain ⟨b1, off1, cap1, rfl, _, hr1, _⟩ := IsSl.pos hX hm (by decide)
  have hcl : ∀ j u, (bytesV l)[j]? = some u → w.cell? (Addr.add ⟨b, off, none⟩ j) = some u := by
    intro j u hu
    rcases hL.2.2 with ⟨e, _⟩ | ⟨ad, cap, e, _, hc⟩
    · cases e
    · cases e
      exact hc j u hu
  refine wpList_append_grows (P := Tryd.prog) w hgd s y 48 ho 5 i0 (.int .u8 0) 1 1 Tryd.underlying48 hi hz0 hz1 hz2 rfl (by decide) (some ⟨b, off, none⟩) l.length l.length (bytesV l) hs (by simp) (by rw [bytesV_len, Nat.mul_one]) (fun b' e' j u hu => by cases e'; exact hcl j u hu) ⟨b1, off1, none⟩ m.length cap1 (bytesV m) hy (by rw [bytesV_len, Nat.mul_one]) (fun j u hu => by rw [Addr.add_mid]; exact hr1 j u hu) (bytesV_one _) (by omega) (by unfold maxLen; omega) (by omega) ?_
  intro v' w' hown hgr
  refine h v' w' ?_ (below_of_grown hgr)
  rw [← bytesV_app] at hown
  have := ownsRow_isSl hown (bytesV_one _)
  unfold Bytes
  rw [List.length_append]
  exact this
set_option maxRecDepth 100000 in
set_option maxHeartbeats 4000000 in
theorem refsign_no (pv wv : Value) (ps ws : List H) (need wit size : Int) (r : H) (sv : Value) (w : World) (hp : Hs w pv ps) (hw : Hs w wv ws) (_hwl : ws.length ≤ 1000) (hno : signB ps.length ws.length need wit size = false) :
    Calls Tryd.prog 27 #[keysV pv wv need, .int .i64 wit, pointV size r sv] w fun e w' => e = .returned (hv z0H) ∧ Below w.heap.size w w' := by
  obtain ⟨xp, cp, rfl, _⟩ := hp.form
  obtain ⟨xw, cw, rfl, _⟩ := hw.form
  obtain ⟨hb, hB0, hB1, hX⟩ := signW_parts w (.slice xp ps.length cp) (.slice xw ws.length cw) need size r sv
  obtain ⟨W, hW⟩ : ∃ W, W = signW w (.slice xp ps.length cp) (.slice xw ws.length cw) need size r sv := ⟨_, rfl⟩
  rw [← hW] at hb hB0 hB1 hX
  have HP := Lib.hid (hp.below hb)
  have HWs := Lib.hid (hw.below hb)
  have HB0 := Lib.hid hB0
  have HB1 := Lib.hid hB1
  have HX := Lib.hid hX
  have HW := Lib.hid hW
  obtain ⟨A, hA⟩ : ∃ A, A = mayB ps.length ws.length need := ⟨_, rfl⟩
  unfold signB at hno
  rw [← hA] at hno
  have HA := Lib.hid hA
  have hcase : A = false ∨ (A = true ∧ wit < 0) ∨ (A = true ∧ ¬ wit < 0 ∧ (ws.length : Int) ≤ wit) ∨ (A = true ∧ ¬ wit < 0 ∧ ¬ (ws.length : Int) ≤ wit ∧ size < 0) ∨ (A = true ∧ ¬ wit < 0 ∧ ¬ (ws.length : Int) ≤ wit ∧ ¬ size < 0 ∧ 400 < size) := by
    cases A
    · exact .inl rfl
    · simp only [Bool.true_and, Bool.and_eq_false_iff, decide_eq_false_iff_not] at hno
      by_cases h1 : wit < 0
      · exact .inr (.inl ⟨rfl, h1⟩)
      · by_cases h2 : (ws.length : Int) ≤ wit
        · exact .inr (.inr (.inl ⟨rfl, h1, h2⟩))
        · by_cases h3 : size < 0
          · exact .inr (.inr (.inr (.inl ⟨rfl, h1, h2, h3⟩)))
          · exact .inr (.inr (.inr (.inr ⟨rfl, h1, h2, h3, by omega⟩)))
  clear hp hw hB0 hB1 hX hA hW hno
  unfold keysV pointV
  rcases hcase with rfl | ⟨rfl, h1⟩ | ⟨rfl, h1, h2⟩ | ⟨rfl, h1, h2, h3⟩ | ⟨rfl, h1, h2, h3, h4⟩
  all_goals
    (try have d1 := decide_eq_true h1)
    (try have d1 := decide_eq_false h1)
    (try have d2 := decide_eq_true h2)
    (try have d2 := decide_eq_false h2)
    (try have d3 := decide_eq_true h3)
    (try have d3 := decide_eq_false h3)
    (try have d4 := decide_eq_true h4)
    go_enter Tryd.func27, Tryd.ntmps27
    go_wp2_with (first
      | (go_at_call 10; refine calls_eq HW.out ((refmay_any _ _ ps ws need W HP.out HWs.out).mono ?_); rintro e w2 ⟨rfl, hb2⟩; rw [← HA.out]; have k1 := (HB0.out.below hb2 HB0.out.lt).cell (i := 1) rfl; have k3 := point_size (HB1.out.below hb2 HB1.out.lt); have HX2 := Lib.hid (HX.out.below hb2 HX.out.lt); have hw2 := hb.trans (hb2.mono hb.size); clear hb2)
      | (refine wpList_store_row rfl 31 (.tmp 6) (.tmp 32) rfl (w.heap.size + 1 + 1) z32.toArray rfl (by rw [z32_arr]; rfl) 31 z32.toArray (by exact HX2.out) (by exact z32_row) (by exact z32_old z0H) (by exact hv_one z0H) ?_)
      | fail)
    exact bodyPost_ret (v := hv z0H) (results_cell_row rfl _ _ (w.heap.size + 1 + 1) 31 _ (0, 0) _ rfl (HX2.out.setRow _) Tryd.underlying31 rfl (hv_row _)) rfl ⟨rfl, below_setRow hw2 (by omega) _⟩
set_option maxRecDepth 100000 in
set_option maxHeartbeats 4000000 in
theorem refsign_yes (pv wv : Value) (ps ws : List H) (need : Int) (wit n : Nat) (k : H) (r : H) (sv : Value) (w : World) (hp : Hs w pv ps) (hw : Hs w wv ws) (hwl : ws.length ≤ 1000) (hm : mayB ps.length ws.length need = true) (hk : ws[wit]? = some k) (hn : n ≤ 400) (hg : Glob w) :
    Calls Tryd.prog 27 #[keysV pv wv need, .int .i64 wit, pointV n r sv] w fun e w' => e = .returned (hv (tagH k n r)) ∧ Below w.heap.size w w' := by
  have hwit : wit < ws.length := (List.getElem?_eq_some_iff.1 hk).1
  obtain ⟨xp, cp, rfl, _⟩ := hp.form
  obtain ⟨wb, wo, cw, rfl, _, hr, hwb⟩ := Hs.pos hw (by omega)
  have hE : w.rangeAt wb (wo + wit * 32) (bytesV k.b) := Hs.elem hr hk
  obtain ⟨hb, hB0, hB1, hX⟩ := signW_parts w (.slice xp ps.length cp) (.slice (some ⟨wb, wo, none⟩) ws.length cw) need n r sv
  obtain ⟨W, hW⟩ : ∃ W, W = signW w (.slice xp ps.length cp) (.slice (some ⟨wb, wo, none⟩) ws.length cw) need n r sv := ⟨_, rfl⟩
  rw [← hW] at hb hB0 hB1 hX
  have HP := Lib.hid (hp.below hb)
  have HWs := Lib.hid (hw.below hb)
  have HB0 := Lib.hid hB0
  have HB1 := Lib.hid hB1
  have HX := Lib.hid hX
  have HE := Lib.hid (range_below hE hb)
  have HG := Lib.hid (hg.below hb)
  have HW := Lib.hid hW
  have HM := Lib.hid hm
  obtain ⟨T, hT⟩ : ∃ T, T = textH n r := ⟨_, rfl⟩
  obtain ⟨S, hS⟩ : ∃ S, S = tagH k n r := ⟨_, rfl⟩
  have HT := Lib.hid (show ofN 6 [numB n, r.b] = T.b by rw [hT]; rfl)
  have HSE := Lib.hid (show tagN k.b ([3] ++ T.b) = S.b by rw [hS, hT]; rfl)
  rw [← hS]
  have hix : (0 : Int) ≤ wit ∧ (wit : Int) < ws.length := ⟨by omega, by omega⟩
  have h1 : ¬ (wit : Int) < 0 := by omega
  have h2 : ¬ (ws.length : Int) ≤ (wit : Int) := by omega
  have h3 : ¬ (n : Int) < 0 := by omega
  have h4 : ¬ (400 : Int) < (n : Int) := by omega
  have d1 := decide_eq_false h1
  have d2 := decide_eq_false h2
  have d3 := decide_eq_false h3
  have d4 := decide_eq_false h4
  have d5 : decide (ws.length ≤ wit) = false := decide_eq_false (by omega)
  have d6 : decide (400 < n) = false := decide_eq_false (by omega)
  clear hp hw hB0 hB1 hX hW hg hr hE hk hm hT hS
  unfold keysV pointV
  go_enter Tryd.func27, Tryd.ntmps27
  go_wp2_with (first
    | (go_at_call 10; refine calls_eq HW.out ((refmay_any _ _ ps ws need W HP.out HWs.out).mono ?_); rintro e w2 ⟨rfl, hb2⟩; rw [HM.out]; have k1 := (HB0.out.below hb2 HB0.out.lt).cell (i := 1) rfl; have HB12 := Lib.hid (HB1.out.below hb2 HB1.out.lt); have k3 := point_size HB12.out; have HB2 := Lib.hid hb2; have HG2 := Lib.hid (HG.out.below hb2))
    | fail)
  have hl12 := HB12.out.lt
  clear k1 k3
  refine wp_region_monoF 8 (w2.heap.size) [7] [(fun v _ => v = .pointer (some ⟨w.heap.size + 1, 0, none⟩)), (fun v _ => v = .int .i64 n), (fun v w => Bytes w v (numB n)), (fun v _ => v = .pointer (some ⟨w.heap.size + 1, 1, none⟩)), (fun v _ => v = .slice (some ⟨w.heap.size + 1, 1, none⟩) 32 32), (fun v w => ∃ vs, Parts w v [numB n, r.b] vs), (fun v _ => v = .agg (bytesV T.b).toArray), RowAt z32 31 w2.heap.size] (by kernel_rfl) (by kernel_rfl) (by decide) (Nat.le_refl _) ?mkept _ rfl ?mops ?mfin
  case mkept =>
    repeat (refine List.forall_mem_cons.2 ⟨by first | exact fun _ _ _ _ h => h | exact fun _ _ _ hb ⟨vs, h⟩ => ⟨vs, Parts.below h hb⟩ | exact fun _ _ _ hb h => Parts.below h hb | exact fun _ _ _ hb h => IsSl.below h hb | exact fun _ _ _ hb h => RowAt.below h hb | exact fun _ _ _ hb ⟨vs, h⟩ => ⟨vs, Parts.below h hb⟩ | exact fun _ _ _ hb h => ownsRow_below h hb (ownsRow_block h) | exact fun _ _ _ hb ⟨g, e, h⟩ => ⟨g, e, ownsRow_below h hb (ownsRow_block h)⟩, ?_⟩)
    exact fun _ h => by cases h
  case mops =>
    simp only [List.take_succ_cons, List.take_zero, monoAllF, List.getD_cons_zero, List.getD_cons_succ]
    iterate 8
    
     (refine ⟨fun x wr hb hd Qg hK => ?_, ?_⟩
      · as_aux_lemma =>
        simp only [fill, Act.put, List.setIfInBounds_toArray, List.set_cons_succ, List.set_cons_zero, needs, Region.binds, List.filter_cons, List.filter_nil, List.map_cons, List.map_nil, if_true, List.mem_cons, List.not_mem_nil, or_false, forall_eq_or_imp, forall_eq, List.getD_cons_zero, List.getD_cons_succ, false_implies, implies_true] at hd hK ⊢
        (try simp only [hd] at hK ⊢)
        first
        | (show wpList _ _ _ [⟨some 34, .load _ _, _, _, _, _⟩] _ _; have c0 := point_size (HB12.out.below hb hl12); go_wp2_with fail; exact hK _ _ rfl (by first | exact trivial | exact fun h => absurd h (by decide) | exact fun _ => new_alloc _ _) (Below.refl _ _))
        | (show wpList _ _ _ [⟨some 35, .call _, _, _, _, _⟩] _ _; go_wp2_with (go_at_call 45; refine (refnum_any n wr hn).mono ?_; rintro e w5 ⟨⟨v5, rfl, hv5⟩, hb5⟩); exact hK _ _ hv5 (by first | exact trivial | exact fun h => absurd h (by decide) | exact fun _ => new_alloc _ _) hb5)
        | (show wpList _ _ _ [⟨some 38, .buildSlice _ _ _, _, _, _, _⟩] _ _; have hd' : Bytes wr (x 2) (numB n) := (by first | exact hd.1 | exact hd.2); obtain ⟨y1, y2, e1, _⟩ := hd'.form; rw [e1] at hd'; simp only [e1] at hK ⊢; go_wp2_with fail; exact hK _ _ ⟨_, Texts.parts (.cons hd' (.cons (bytes_mid (point_root (HB12.out.below hb hl12))) .nil)) 48 (n := 2) rfl⟩ (by first | exact trivial | exact fun h => absurd h (by decide) | exact fun _ => new_alloc _ _) ((Below.refl _ _).alloc (Nat.le_refl _) _))
        | (show wpList _ _ _ [⟨some 39, .call _, _, _, _, _⟩] _ _; have hd' : ∃ vs, Parts wr (x 5) [numB n, r.b] vs := (by first | exact hd | exact hd.1); obtain ⟨vs, hp⟩ := hd'; go_wp2_with (go_at_call 44; refine (refof_any 6 (x 5) [numB n, r.b] vs wr hp (by have := numB_len n; simp [cat, r.len]; omega) (by simp) (HG2.out.below hb)).mono ?_; rintro e w5 ⟨rfl, hb5⟩; rw [HT.out]); exact hK _ _ rfl (by first | exact trivial | exact fun h => absurd h (by decide) | exact fun _ => new_alloc _ _) hb5)
        | (show wpList _ _ _ [⟨some 7, .alloc _, _, _, _, _⟩] _ _; go_wp2_with fail; exact hK _ _ ⟨_, rfl, hb.size, Blk.newL wr z32 31⟩ (by first | exact trivial | exact fun h => absurd h (by decide) | exact fun _ => new_alloc _ _) ((Below.refl _ _).alloc (Nat.le_refl _) _))
        | (go_wp2_with fail; exact hK _ _ rfl (by first | exact trivial | exact fun h => absurd h (by decide) | exact fun _ => new_alloc _ _) (Below.refl _ _)))
    trivial
  case mfin =>
    intro z w3 hb3 hR3 _
    have x6 := hR3 6 (by decide)
    have x7 := hR3 7 (by decide)
    simp only [List.getD_cons_zero, List.getD_cons_succ] at x6 x7
    obtain ⟨g7, x7, hg7, hB7⟩ := x7
    obtain ⟨w5, hw5⟩ : ∃ w5, w5 = w3.setRow g7 (bytesV T.b).toArray := ⟨_, rfl⟩
    have hb5 : Below w2.heap.size w2 w5 := by rw [hw5]; exact below_setRow hb3 hg7 _
    have HB7 := Lib.hid hB7
    have hT5 : Blk w5 g7 (bytesV T.b) 31 := by rw [hw5]; exact hB7.setRow _
    have HT5 := Lib.hid hT5
    have ht5 := hT5.lt
    have hbW5 := HB2.out.trans (hb5.mono HB2.out.size)
    have HB05 := Lib.hid (HB0.out.below hbW5 HB0.out.lt)
    have hl05 := HB05.out.lt
    have HE5 := Lib.hid (range_below HE.out hbW5)
    have HX5 := Lib.hid (HX.out.below hbW5 HX.out.lt)
    have HG5 := Lib.hid (HG.out.below hbW5)
    have hw0 := hb.trans (hbW5.mono hb.size)
    have HW5 := Lib.hid hw5
    clear hR3 hb3 hB7 hT5 hb5 hbW5 hw5 HB2 HB12 HG2 HT
    simp only [List.drop_succ_cons, List.drop_zero]
    generalize List.toArray _ = L0
    simp only [List.take_succ_cons, List.take_zero, List.map_cons, List.map_nil, fill, Act.put, List.setIfInBounds_toArray, List.set_cons_succ, List.set_cons_zero, x6, x7]
    clear x6 x7
    go_wp2_with (first
      | (refine wpList_store_row rfl 31 (.tmp 7) (.tmp 39) rfl g7 (bytesV T.b).toArray rfl rfl 31 z32.toArray (by exact HB7.out) (by exact hv_row _) (by exact z32_old _) (by exact hv_one _) ?_)
      | fail)
    refine wp_world HW5.out ?_
    clear HW5 HB7
    refine wp_region_mono 9 (w5.heap.size) [(fun v _ => v = .pointer (some ⟨w.heap.size, 1, none⟩)), (fun v _ => v = .slice (some ⟨wb, wo, none⟩) ws.length cw), (fun v _ => v = .int .i64 wit), (fun v _ => v = .pointer (some ⟨wb, wo + wit * 32, none⟩)), (fun v _ => v = .slice (some ⟨wb, wo + wit * 32, none⟩) 32 32), (fun v w => ∃ c1, v = .slice (some ⟨c1, 0, none⟩) 1 1 ∧ Bytes w (.slice (some ⟨c1, 0, none⟩) 1 1) [3]), (fun v _ => v = .slice (some ⟨g7, 0, none⟩) 32 32), (fun v w => Bytes w v ([3] ++ T.b)), (fun v _ => v = .agg (bytesV S.b).toArray)] (by kernel_rfl) (by kernel_rfl) (Nat.le_refl _) ?mkept _ rfl ?mops ?mfin
    case mkept =>
      repeat (refine List.forall_mem_cons.2 ⟨by first | exact fun _ _ _ _ h => h | exact fun _ _ _ hb ⟨c1, e, h⟩ => ⟨c1, e, IsSl.below h hb⟩ | exact fun _ _ _ hb h => Parts.below h hb | exact fun _ _ _ hb h => IsSl.below h hb, ?_⟩)
      exact fun _ h => by cases h
    case mops =>
      simp only [List.take_succ_cons, List.take_zero, monoAll, List.getD_cons_zero, List.getD_cons_succ]
      iterate 9
      
       (refine ⟨fun x wr hb hd Qg hK => ?_, ?_⟩
        · as_aux_lemma =>
          simp only [fill, Act.put, List.setIfInBounds_toArray, List.set_cons_succ, List.set_cons_zero, needs, Region.binds, List.filter_cons, List.filter_nil, List.map_cons, List.map_nil, if_true, List.mem_cons, List.not_mem_nil, or_false, forall_eq_or_imp, forall_eq, List.getD_cons_zero, List.getD_cons_succ, false_implies, implies_true] at hd hK ⊢
          (try simp only [hd] at hK ⊢)
          first
          | (show wpList _ _ _ [⟨some 41, .load _ _, _, _, _, _⟩] _ _; have c0 := (HB05.out.below hb hl05).cell (i := 1) rfl; go_wp2_with fail; exact hK _ _ rfl (Below.refl _ _))
          | (show wpList _ _ _ [⟨some 45, .buildSlice _ _ _, _, _, _, _⟩] _ _; go_wp2_with fail; exact hK _ _ ⟨_, rfl, bytes_alloc wr [3] _ _ rfl⟩ ((Below.refl _ _).alloc (Nat.le_refl _) _))
          | (show wpList _ _ _ [⟨some 47, .call _, _, _, _, _⟩] _ _; have hd' : ∃ c1, x 5 = .slice (some ⟨c1, 0, none⟩) 1 1 ∧ Bytes wr (.slice (some ⟨c1, 0, none⟩) 1 1) [3] := (by first | exact hd.1 | exact hd.2); obtain ⟨c1, e1, h1⟩ := hd'; refine wpList_grow_bytes rfl (.tmp 45) (.tmp 46) rfl c1 0 (.slice (some ⟨g7, 0, none⟩) 32 32) [3] T.b 1 rfl (by first | exact e1 | (simp; exact e1)) h1 (by first | rfl | simp) (bytes_box (HT5.out.below hb ht5)) (by rw [T.len]; decide) (by rw [T.len]; decide) ?_; intro v6 w6 h6 hb6; exact hK _ _ h6 hb6)
          | (show wpList _ _ _ [⟨some 48, .call _, _, _, _, _⟩] _ _; have hd' : Bytes wr (x 7) ([3] ++ T.b) := (by first | exact hd.2.1 | exact hd.2 | exact hd.1 | exact hd); go_wp2_with (go_at_call 46; refine (reftag_any _ (x 7) k.b ([3] ++ T.b) wr (bytes_mid (range_below HE5.out hb)) hd' (by rw [k.len]; decide) (by simp [T.len]) (HG5.out.below hb)).mono ?_; rintro e w6 ⟨rfl, hb6⟩; rw [HSE.out]); exact hK _ _ rfl hb6)
          | (go_wp2_with fail; exact hK _ _ rfl (Below.refl _ _)))
      trivial
    case mfin =>
      intro z w7 hb7 hR7
      have x8 := hR7 8 (by decide)
      simp only [List.getD_cons_zero, List.getD_cons_succ] at x8
      have HX7 := Lib.hid (HX5.out.below hb7 HX5.out.lt)
      have hw7 := hw0.trans (hb7.mono hw0.size)
      clear hR7 hb7
      simp only [List.drop_succ_cons, List.drop_zero]
      generalize List.toArray _ = L0
      simp only [List.take_succ_cons, List.take_zero, List.map_cons, List.map_nil, fill, Act.put, List.setIfInBounds_toArray, List.set_cons_succ, List.set_cons_zero, x8]
      clear x8
      go_wp2_with (first
        | (refine wpList_store_row rfl 31 (.tmp 6) (.tmp 48) rfl (w.heap.size + 1 + 1) (bytesV S.b).toArray rfl rfl 31 z32.toArray (by exact HX7.out) (by exact hv_row _) (by exact z32_old _) (by exact hv_one _) ?_)
        | fail)
      exact bodyPost_ret (v := hv S) (results_cell_row rfl _ _ (w.heap.size + 1 + 1) 31 _ (0, 0) _ rfl (HX7.out.setRow _) Tryd.underlying31 rfl (hv_row _)) rfl ⟨rfl, below_setRow hw7 (by omega) _⟩
theorem refsign_any (pv wv : Value) (ps ws : List H) (need wit size : Int) (r : H) (sv : Value) (w : World) (hp : Hs w pv ps) (hw : Hs w wv ws) (hwl : ws.length ≤ 1000) (hg : Glob w) :
    Calls Tryd.prog 27 #[keysV pv wv need, .int .i64 wit, pointV size r sv] w fun e w' => e = .returned (hv (signH ps.length ws need wit size r)) ∧ Below w.heap.size w w' := by
  unfold signH
  cases h : signB ps.length ws.length need wit size with
  | false => exact refsign_no pv wv ps ws need wit size r sv w hp hw hwl h
  | true =>
    unfold signB at h
    simp only [Bool.and_eq_true, decide_eq_true_iff] at h
    obtain ⟨h1, ⟨h2, h3⟩, h4, h5⟩ := h
    obtain ⟨a, rfl⟩ : ∃ a : Nat, wit = a := ⟨wit.toNat, by omega⟩
    obtain ⟨n, rfl⟩ : ∃ n : Nat, size = n := ⟨size.toNat, by omega⟩
    have ha : a < ws.length := by omega
    have hk : ws[a]? = some ws[a] := List.getElem?_eq_getElem ha
    have := refsign_yes pv wv ps ws need a n ws[a] r sv w hp hw hwl h1 hk (by omega) hg
    rw [if_pos rfl, Int.toNat_natCast, Int.toNat_natCast, List.getD_eq_getElem?_getD, hk, Option.getD_some]
    exact this
end Go.Proofs.YtldokkbfahobgaaDoor
