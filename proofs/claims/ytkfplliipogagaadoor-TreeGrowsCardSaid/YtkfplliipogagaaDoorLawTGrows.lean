/- The law TreeGrows, walked: true, and nothing that was there has turned. Conditions: the list can be read; the package's tables read as they are laid. -/
import Derived.Test.YtkfplliipogagaaDoorLawTRoots
import Derived.Test.YtkfplliipogagaaDoorAppLit
namespace Go.Proofs.YtkfplliipogagaaDoor
open Go.RowKit

theorem hs_of_len {w : World} {v : Value} {l : List H} {h : H} (hs : IsSl w v 32 (l.length + 1) (bytesV (hflat (l ++ [h])))) : Hs w v (l ++ [h]) := by
  unfold Hs
  rw [List.length_append]
  exact hs
theorem fr_grown {w w' : World} {b V U : Nat} {x : Value} {st : List H} {row : Option Nat} (h : StU w b V U x st) (hg : w.grownBy w' row) (hr : ∀ k, row = some k → U ≤ k ∧ b < k) : St w' b V x st := by
  obtain ⟨h0, hV, sv, h1, h2, h3⟩ := h
  refine ⟨h0, Nat.le_trans hV hg.size, sv, h1.grown hg (fun e => by have := (hr _ e.symm).2; omega), h2.1, ?_⟩
  rcases h2.2 with hn | ⟨g, cap, cur, rfl, hb, hgg, rest⟩
  · exact .inl hn
  · refine .inr ⟨g, cap, cur, rfl, hb, ?_, rest⟩
    rw [hg.block g (Array.getElem?_eq_some_iff.1 hgg).1 (fun e => by have h4 := (hr _ e.symm).1; have h5 := h3 g rfl; omega)]
    exact hgg
set_option maxRecDepth 100000 in
set_option maxHeartbeats 2000000 in
theorem tgrows_any (v : Value) (l : List H) (h : H) (w : World) (hs : Hs w v l) (hg : Glob w) :
    Calls Tryd.prog 7 #[v, hv h] w fun e w' => e = .returned (.bool true) ∧ Below w.heap.size w w' := by
  obtain ⟨i0, hi, hz0, hz1, hz2⟩ := info_parts info_hash
  obtain ⟨xa, ca, rfl, hca⟩ := hs.form
  have HI := Lib.hid hi
  have HG := Lib.hid hg
  have HS := Lib.hid hs
  have HX0 := Lib.hid (Blk.newL w (bytesV h.b) 24)
  clear hg hs hi
  by_cases h60 : l.length ≤ 60
  · have h1 : ¬ ((60 : Int) < l.length) := by omega
    go_enter Tryd.func7, Tryd.ntmps7
    unfold hv
    go_wp2_with (first
      | (go_at_call 16; refine (alive5_any _ (HG.out.below (by (repeat (first | with_reducible assumption | with_reducible exact Below.refl _ _ | ((with_reducible refine Below.setCell ?_ ?_ _); rotate_left; focus (first | omega | (simp; done) | (simp; omega))) | ((with_reducible refine Below.alloc ?_ ?_ _); rotate_left; focus (first | omega | (simp; done) | (simp; omega))) | ((with_reducible refine below_setRow ?_ ?_ _); rotate_left; focus (first | omega | (simp; done) | (simp; omega))) | (with_reducible refine below_drewN ?_ _) | (with_reducible refine Below.drew ?_)))))).mono ?_; rintro e w1 ⟨rfl, hb1⟩; have hw1 : Below w.heap.size w w1 := Below.trans (by (repeat (first | with_reducible assumption | with_reducible exact Below.refl _ _ | ((with_reducible refine Below.setCell ?_ ?_ _); rotate_left; focus (first | omega | (simp; done) | (simp; omega))) | ((with_reducible refine Below.alloc ?_ ?_ _); rotate_left; focus (first | omega | (simp; done) | (simp; omega))) | ((with_reducible refine below_setRow ?_ ?_ _); rotate_left; focus (first | omega | (simp; done) | (simp; omega))) | (with_reducible refine below_drewN ?_ _) | (with_reducible refine Below.drew ?_)))) (hb1.mono (by simp <;> omega)); have hX1 := HX0.out.below hb1 (by simp); have hF1 := Blk.newL w1 frontV 35; have hs1 := hX1.lt)
      | fail)
    have HFR := Lib.hid (fr_new hF1)
    have hw5 : Below w.heap.size w (w1.alloc (.cells frontV.toArray 35)) := hw1.alloc hw1.size _
    have hX5 : Blk (w1.alloc (.cells frontV.toArray 35)) w.heap.size (bytesV h.b) 24 := hX1.alloc _
    obtain ⟨b, hbe⟩ : ∃ b, b = w1.heap.size := ⟨_, rfl⟩
    obtain ⟨V, hV⟩ : ∃ V, V = (w1.alloc (.cells frontV.toArray 35)).heap.size := ⟨_, rfl⟩
    rw [← hbe, ← hV] at HFR
    rw [← hbe]
    have hbw : w.heap.size < b := by omega
    have HX5 := Lib.hid hX5
    clear hF1 hbe hV hX1 hX5 hb1 HX0
    go_loopw [6] (fun nv wr => ∃ n : Nat, nv = .int .i64 n ∧ n ≤ l.length ∧ Fr wr b V (l.take n) ∧ Below w.heap.size w wr ∧ Blk wr w.heap.size (bytesV h.b) 24) (fun nv _ => l.length - (intOf nv).toNat)
    case atStart => exact ⟨0, rfl, by omega, HFR.out, hw5, HX5.out⟩
    case round =>
      obtain ⟨n, rfl, hn, hF, hw, hX⟩ := hrel
      have HF := Lib.hid hF
      have HX := Lib.hid hX
      clear hF HFR hw5 hw1 hX HX5
      by_cases hnl : n < l.length
      · have hlt : (n : Int) < l.length := by omega
        obtain ⟨y, hy⟩ : ∃ y, l[n]? = some y := ⟨_, List.getElem?_eq_getElem (by omega)⟩
        obtain ⟨bb, off, e1, e2, hr, hbb⟩ := hs_block HS.out (by omega)
        subst e1
        have hE : wr.rangeAt bb (off + n * 32) (bytesV y.b) := range_below (Hs.elem hr hy) hw
        have hix : (0 : Int) ≤ n ∧ (n : Int) < l.length := ⟨by omega, by omega⟩
        have hln : (l.take n).length = n := by rw [List.length_take]; omega
        have HE := Lib.hid hE
        have HY := Lib.hid hy
        have HLN := Lib.hid hln
        clear hE hr hy e2 hln
        go_wp2_with (first
          | (refine wpList_load_mid rfl 24 (.tmp 22) rfl bb (off + n * 32) rfl (bytesV y.b) _ (by exact HE.out) Tryd.underlying24 rfl (by exact hv_info _) ?_)
          | (go_at_call 24; refine (add_any w wr b V (l.take n) y HG.out hw (Nat.le_of_lt hbw) HF.out (by rw [HLN.out]; omega)).mono ?_; rintro e w8 ⟨rfl, hF8, hB8⟩; rw [take_snoc l n y HY.out] at hF8; have HX8 := Lib.hid (HX.out.below hB8.old hbw); have HF8 := Lib.hid hF8; have hw8 := hw.trans (hB8.old.mono (Nat.le_of_lt hbw)); clear hF8 hB8)
          | fail)
        exact ⟨⟨n + 1, by go_num, by omega, HF8.out, hw8, HX8.out⟩, by simp [intOf]; omega⟩
      · have hlt : ¬ (n : Int) < l.length := by omega
        have hF := HF.out
        rw [List.take_of_length_le (by omega)] at hF
        have HFL := Lib.hid hF
        clear hF HF
        go_wp2_with (first
          | (go_at_call 25; refine (size_any wr b V l HFL.out).mono ?_; rintro e w3 ⟨rfl, heqw⟩; rw [heqw]; clear heqw w3)
          | (refine wpList_load_row rfl 24 (.tmp 3) rfl w.heap.size rfl 24 (bytesV h.b).toArray (0, 0) _ (by exact HX.out) Tryd.underlying24 rfl (by exact hv_row _) ?_)
          | (go_at_call 24; refine (add_any w wr b V l h HG.out hw (Nat.le_of_lt hbw) HFL.out (by omega)).mono ?_; rintro e w8 ⟨rfl, hF8, hB8⟩; have hX8 := HX.out.below hB8.old hbw; have HX8 := Lib.hid hX8; have HF8 := Lib.hid hF8; have hw8 := hw.trans (hB8.old.mono (Nat.le_of_lt hbw)); have hl8 := hX8.lt; clear hF8 hB8 hX8)
          | fail)
        have HS8 := Lib.hid (HS.out.below hw8)
        refine wp_region_monoF 5 (w8.heap.size) [] [(fun v wr => ∃ g, v = .slice (some ⟨g, 0, none⟩) 0 0 ∧ wr.ownsRow w8.heap.size 24 32 (.slice (some ⟨g, 0, none⟩) 0 0) 0 []), (fun v _ => v = .slice xa l.length ca), (fun v wr => wr.ownsRow w8.heap.size 24 32 v l.length (bytesV (hflat l))), (fun v _ => v = .agg (bytesV h.b).toArray), (fun v wr => Hs wr v [h])] (by kernel_rfl) (by kernel_rfl) (by decide) (Nat.le_refl _) ?mkept _ rfl ?mops ?mfin
        case mkept =>
          repeat (refine List.forall_mem_cons.2 ⟨by first | exact fun _ _ _ _ h => h | exact fun _ _ _ hb h => Parts.below h hb | exact fun _ _ _ hb h => IsSl.below h hb | exact fun _ _ _ hb h => RowAt.below h hb | exact fun _ _ _ hb ⟨vs, h⟩ => ⟨vs, Parts.below h hb⟩ | exact fun _ _ _ hb h => ownsRow_below h hb (ownsRow_block h) | exact fun _ _ _ hb ⟨g, e, h⟩ => ⟨g, e, ownsRow_below h hb (ownsRow_block h)⟩, ?_⟩)
          exact fun _ h => by cases h
        case mops =>
          simp only [List.take_succ_cons, List.take_zero, monoAllF, List.getD_cons_zero, List.getD_cons_succ]
          iterate 5
          
           (refine ⟨fun x wr hb hd Qg hK => ?_, ?_⟩
            · as_aux_lemma =>
              simp only [fill, Act.put, List.setIfInBounds_toArray, List.set_cons_succ, List.set_cons_zero, needs, Region.binds, List.filter_cons, List.filter_nil, List.map_cons, List.map_nil, if_true, List.mem_cons, List.not_mem_nil, or_false, forall_eq_or_imp, forall_eq, List.getD_cons_zero, List.getD_cons_succ, false_implies, implies_true] at hd hK ⊢
              (try simp only [hd] at hK ⊢)
              first
              | (have hBr := HX8.out.below hb (hl8); refine wpList_load_rowIf rfl 24 (.tmp 3) rfl _ rfl 24 (bytesV h.b).toArray (0, 0) _ (by exact hBr) Tryd.underlying24 rfl (hv_row h) ?_; exact hK _ _ rfl (by first | exact trivial | exact fun h => absurd h (by decide) | exact fun _ => new_alloc _ _) (Below.refl _ _))
              | (refine wpList_hashes rfl [h] 1 _ rfl rfl (by decide) (by decide) (by simp only [List.map_toArray, List.map_cons, List.map_nil]; rfl) ?_; exact hK _ _ (hs_new wr [h] _ rfl rfl) (by first | exact trivial | exact fun h => absurd h (by decide) | exact fun _ => new_alloc _ _) ((Below.refl _ _).alloc (Nat.le_refl _) _))
              | (show wpList _ _ _ [⟨some 28, .buildSlice _ _ _, _, _, _, _⟩] _ _; go_wp2_with fail; exact hK _ _ ⟨_, rfl, own_base (World.ownsRow_made wr #[] 0 (Nat.le_refl _) (by decide) rfl) hb.size⟩ (by first | exact trivial | exact fun h => absurd h (by decide) | exact fun _ => new_alloc _ _) ((Below.refl _ _).alloc (Nat.le_refl _) _))
              | (obtain ⟨⟨g, e0, hown⟩, e1⟩ := hd; refine wpList_app_lit rfl (.tmp 28) (.tmp 29) 31 rfl w8.heap.size 24 i0 (.agg z32.toArray) 32 32 Tryd.underlying31 HI.out hz0 hz1 hz2 rfl (by decide) g e0 hown (.slice xa l.length ca) l.length (bytesV (hflat l)) (by first | rfl | exact e1) (HS8.out.below hb) (by unfold maxLen; omega) (by omega) hb.size ?_; intro v9 w9 hown9 hb9; exact hK _ _ hown9 (by first | exact trivial | exact fun h => absurd h (by decide) | exact fun _ => new_alloc _ _) hb9)
              | (go_wp2_with fail; exact hK _ _ rfl (by first | exact trivial | exact fun h => absurd h (by decide) | exact fun _ => new_alloc _ _) (Below.refl _ _)))
          trivial
        case mfin =>
          intro x w9 hb9 hR _
          have x2 := hR 2 (by decide)
          have x4 := hR 4 (by decide)
          simp only [List.getD_cons_zero, List.getD_cons_succ] at x2 x4
          have X4 := Lib.hid x4
          have X2 := Lib.hid x2
          obtain ⟨ua, uc, hx2⟩ := ownsRow_form x2
          have hw9 := hw8.trans (hb9.mono hw8.size)
          have HF9 := Lib.hid ((St.u HF8.out).keep hb9)
          have hb8 := St.lt HF8.out
          have hsz9 := hb9.size
          obtain ⟨RR, hRR⟩ : ∃ RR, RR = rootN ndH e0H (l ++ [h]) := ⟨_, rfl⟩
          have hre := fun w => is_hash w RR
          have hrv : hv RR = Value.agg (bytesV RR.b).toArray := rfl
          have HRR := Lib.hid hRR
          clear hR hb9 x4 x2 HF8 HX8 HS8 hRR
          simp only [List.drop_succ_cons, List.drop_zero]
          generalize List.toArray _ = L0
          simp only [List.take_succ_cons, List.take_zero, List.map_cons, List.map_nil, fill, Act.put, List.setIfInBounds_toArray, List.set_cons_succ, List.set_cons_zero, hx2]
          rw [hx2] at X2
          clear hx2
          go_wp2_with (first
            | (at_builtin; refine wpList_app rfl (.tmp 30) (.tmp 32) 31 rfl w8.heap.size 24 i0 (.agg z32.toArray) 32 32 Tryd.underlying31 HI.out hz0 hz1 hz2 rfl (by decide) (.slice ua l.length uc) l.length (bytesV (hflat l)) rfl (by exact X2.out) _ 1 (bytesV (hflat [h])) rfl (by exact X4.out) (by unfold maxLen; omega) (by omega) hsz9 ?_; intro a6 c6 w6 hown6 hgrow6 _;
               rw [← bytesV_app, ← hflat_app] at hown6; have hV6 := ownsRow_isSl hown6 (bytesV_one _); have HV6 := Lib.hid (hs_of_len hV6); have hF6 := fr_grown HF9.out hgrow6 (fun k hk => by have := (X2.out.lt k hk).1; exact ⟨this, by omega⟩); have HF6 := Lib.hid hF6; have hw6 := hw9.grown hgrow6 hw9.size (fun k hk => by have := (X2.out.lt k hk).1; omega); clear hown6 hgrow6 hV6 hF6)
            | (go_at_call 25; refine (size_is w6 b V (l ++ [h]) (l.length + 1) HF6.out (by simp)).mono ?_; rintro e w7 ⟨rfl, hb7⟩; have HF7 := Lib.hid (St.keep HF6.out hb7); have HV7 := Lib.hid (HV6.out.below hb7); have hw7 := hw6.trans (hb7.mono hw6.size); clear hb7)
            | (go_at_call 26; refine (froot_any w7 b V (l ++ [h]) HF7.out (by simp; omega) (HG.out.below hw7)).mono ?_; rintro e w10 ⟨rfl, hb10⟩; rw [← HRR.out]; have HV10 := Lib.hid (HV7.out.below hb10); have hw10 := hw7.trans (hb10.mono hw7.size); clear hb10)
            | (go_at_call 32; refine (root_any (l.length + 1) _ (l ++ [h]) w10 (by simp) (by omega) HV10.out (HG.out.below hw10)).mono ?_; rintro e w11 ⟨rfl, hb11⟩; rw [← HRR.out]; have hw11 := hw10.trans (hb11.mono hw10.size); clear hb11)
            | fail)
          go_ret
          exact ⟨rfl, hw11⟩
  · have h1 : (60 : Int) < l.length := by omega
    go_enter Tryd.func7, Tryd.ntmps7
    unfold hv
    go_wp2_with (first
      | (go_at_call 16; refine (alive5_any _ (HG.out.below (by (repeat (first | with_reducible assumption | with_reducible exact Below.refl _ _ | ((with_reducible refine Below.setCell ?_ ?_ _); rotate_left; focus (first | omega | (simp; done) | (simp; omega))) | ((with_reducible refine Below.alloc ?_ ?_ _); rotate_left; focus (first | omega | (simp; done) | (simp; omega))) | ((with_reducible refine below_setRow ?_ ?_ _); rotate_left; focus (first | omega | (simp; done) | (simp; omega))) | (with_reducible refine below_drewN ?_ _) | (with_reducible refine Below.drew ?_)))))).mono ?_; rintro e w1 ⟨rfl, hb1⟩; have hw1 : Below w.heap.size w w1 := Below.trans (by (repeat (first | with_reducible assumption | with_reducible exact Below.refl _ _ | ((with_reducible refine Below.setCell ?_ ?_ _); rotate_left; focus (first | omega | (simp; done) | (simp; omega))) | ((with_reducible refine Below.alloc ?_ ?_ _); rotate_left; focus (first | omega | (simp; done) | (simp; omega))) | ((with_reducible refine below_setRow ?_ ?_ _); rotate_left; focus (first | omega | (simp; done) | (simp; omega))) | (with_reducible refine below_drewN ?_ _) | (with_reducible refine Below.drew ?_)))) (hb1.mono (by simp <;> omega)))
      | fail)
    go_ret
    exact ⟨rfl, hw1⟩
end Go.Proofs.YtkfplliipogagaaDoor
