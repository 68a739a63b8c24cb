/- The law ShaTurns, walked: true, and nothing that was there has turned. Conditions: the text can be read; the state's numbers are below 2^32; the package's tables read as they are laid. -/
import Derived.Test.YtjjoiefngoghpaaDoorAlive1
import Derived.Test.YtjjoiefngoghpaaDoorEq
import Derived.Test.YtjjoiefngoghpaaDoorRefF
namespace Go.Proofs.YtjjoiefngoghpaaDoor
open Go.RowKit

set_option maxRecDepth 100000 in
set_option maxHeartbeats 2000000 in
theorem turns_any (vt : Value) (s : N8) (b : List UInt8) (n : Int) (w : World) (ht : Bytes w vt b) (hs : s.Ok) (hg : Glob w) :
    Calls Tryd.prog 3 #[.agg s.v32.toArray, vt, .int .i64 n] w fun e w' => e = .returned (.bool true) ∧ Below w.heap.size w w' := by
  obtain ⟨xt, ct, rfl, _⟩ := ht.form
  have HG := Lib.hid hg
  have HT := Lib.hid ht
  have HS := Lib.hid hs
  clear hg ht hs
  by_cases hl : b.length ≤ 200
  · by_cases hn : n ≤ 1000000
    · go_enter Tryd.func3, Tryd.ntmps3
      go_wp2_with (first
        | (go_at_call 15; refine (alive1_any _ (HG.out.below (by (repeat (first | with_reducible assumption | with_reducible exact Below.refl _ _ | ((with_reducible refine Below.setCell ?_ ?_ _); rotate_left; focus (first | omega | (simp; done) | (simp; omega))) | ((with_reducible refine Below.alloc ?_ ?_ _); rotate_left; focus (first | omega | (simp; done) | (simp; omega))) | ((with_reducible refine below_setRow ?_ ?_ _); rotate_left; focus (first | omega | (simp; done) | (simp; omega))) | (with_reducible refine below_drewN ?_ _) | (with_reducible refine Below.drew ?_)))))).mono ?_; rintro e w1 ⟨rfl, hb1⟩; have hs1 := hb1.size)
        | fail)
      have hb1' : Below (w.heap.size + 1) (w.alloc (.cells s.v32.toArray 23)) w1 := by
        have := hb1
        rw [World.size_alloc] at this
        exact this
      have hB1 := (Blk.newL w s.v32 23).below hb1' (Nat.lt_succ_self _)
      have hw1 : Below w.heap.size w w1 := ((Below.refl w.heap.size w).alloc (Nat.le_refl _) _).trans (hb1'.mono (Nat.le_succ _))
      have HB1 := Lib.hid hB1
      have HG1 := Lib.hid (HG.out.below hw1)
      have HT1 := Lib.hid (HT.out.below hw1)
      have hlt1 := HB1.out.lt
      clear hb1 hs1 hb1' hB1
      obtain ⟨T, hT⟩ : ∃ T, T = turnAll s b := ⟨_, rfl⟩
      have HTT := Lib.hid hT
      clear hT
      have hee : ∀ w, (Op.equalIn 10000 23 (.agg T.v32.toArray) (.agg T.v32.toArray)).run Tryd.prog w = .ok true w := fun w => eq_eight_same w T.cast
      refine wp_region_mono 14 (w1.heap.size) [(fun v _ => v = .agg s.v32.toArray), (fun v _ => v = .slice xt b.length ct), (fun v _ => v = .agg T.v32.toArray), (fun v _ => v = .agg s.v32.toArray), (fun v _ => v = .slice xt b.length ct), (fun v _ => v = .agg T.v32.toArray), (fun v _ => v = .bool true), (fun v _ => v = .bool true),
        (fun v _ => v = .int .i64 n), (fun v w => Bytes w v (fillAll n)), (fun v _ => v = .int .i64 n), (fun v w => Bytes w v (fillAll n)), (fun v _ => v = .bool true), (fun v _ => v = .bool true)] (by kernel_rfl) (by kernel_rfl) (Nat.le_refl _) ?mkept _ rfl ?mops ?mfin
      case mkept =>
        repeat (refine List.forall_mem_cons.2 ⟨by first | exact fun _ _ _ _ h => h | exact fun _ _ _ hb h => Parts.below h hb | exact fun _ _ _ hb h => IsSl.below h hb, ?_⟩)
        exact fun _ h => by cases h
      case mops =>
        simp only [List.take_succ_cons, List.take_zero, monoAll, List.getD_cons_zero, List.getD_cons_succ]
        iterate 14
        
         (refine ⟨fun x wr hb hd Qg hK => ?_, ?_⟩
          · as_aux_lemma =>
            simp only [fill, Act.put, List.setIfInBounds_toArray, List.set_cons_succ, List.set_cons_zero, needs, Region.binds, List.filter_cons, List.filter_nil, List.map_cons, List.map_nil, if_true, List.mem_cons, List.not_mem_nil, or_false, forall_eq_or_imp, forall_eq, List.getD_cons_zero, List.getD_cons_succ, false_implies, implies_true] at hd hK ⊢
            (try simp only [hd] at hK ⊢)
            first
            | (have hBr := HB1.out.below hb (hlt1); refine wpList_load_rowIf rfl 23 (.tmp 3) rfl _ rfl 23 (s.v32).toArray (0, 0) _ (by exact hBr) Tryd.underlying23 rfl (vals_info _) ?_; exact hK _ _ rfl (Below.refl _ _))
            | (show wpList _ _ _ [⟨some 18, .call _, _, _, _, _⟩] _ _; go_wp2_with (go_at_call 16; refine (turn_all _ b s wr (HT1.out.below hb) HS.out (HG1.out.below hb)).mono ?_; rintro e w5 ⟨rfl, hb5⟩); exact hK _ _ (by rw [HTT.out]) hb5)
            | (show wpList _ _ _ [⟨some 21, .call _, _, _, _, _⟩] _ _; go_wp2_with (go_at_call 17; refine (refturn_all _ b s wr (HT1.out.below hb) HS.out (HG1.out.below hb)).mono ?_; rintro e w5 ⟨rfl, hb5⟩); exact hK _ _ (by rw [HTT.out]) hb5)
            | (show wpList _ _ _ [⟨some 25, .call _, _, _, _, _⟩] _ _; go_wp2_with (go_at_call 19; refine (fill_all n wr hn).mono ?_; rintro e w5 ⟨⟨v5, rfl, hv5⟩, hb5⟩); exact hK _ _ hv5 hb5)
            | (show wpList _ _ _ [⟨some 27, .call _, _, _, _, _⟩] _ _; go_wp2_with (go_at_call 20; refine (reffill_all n wr hn).mono ?_; rintro e w5 ⟨⟨v5, rfl, hv5⟩, hb5⟩); exact hK _ _ hv5 hb5)
            | (show wpList _ _ _ [⟨some 28, .call _, _, _, _, _⟩] _ _; go_wp2_with (go_at_call 18; refine (refbytes_any (x 9) (x 11) (fillAll n) (fillAll n) wr (by simp only [hd]) (by simp only [hd]) (by have := fillAll_len n; omega)).mono ?_; rintro e w5 ⟨rfl, hb5⟩); exact hK _ _ (by simp) hb5)
            | (go_wp2_with fail; exact hK _ _ rfl (Below.refl _ _)))
        trivial
      case mfin =>
        intro x w4 hb4 hR
        have x13 := hR 13 (by decide)
        simp only [List.getD_cons_zero, List.getD_cons_succ] at x13
        have hw4 := hw1.trans (hb4.mono hw1.size)
        clear hR hb4 hee
        simp only [List.drop_succ_cons, List.drop_zero]
        generalize List.toArray _ = L0
        simp only [List.take_succ_cons, List.take_zero, List.map_cons, List.map_nil, fill, Act.put, List.setIfInBounds_toArray, List.set_cons_succ, List.set_cons_zero, x13]
        clear x13
        go_wp2_with fail
        go_ret
        exact ⟨rfl, hw4⟩
    · go_enter Tryd.func3, Tryd.ntmps3
      go_wp2_with (first
        | (go_at_call 15; refine (alive1_any _ (HG.out.below (by (repeat (first | with_reducible assumption | with_reducible exact Below.refl _ _ | ((with_reducible refine Below.setCell ?_ ?_ _); rotate_left; focus (first | omega | (simp; done) | (simp; omega))) | ((with_reducible refine Below.alloc ?_ ?_ _); rotate_left; focus (first | omega | (simp; done) | (simp; omega))) | ((with_reducible refine below_setRow ?_ ?_ _); rotate_left; focus (first | omega | (simp; done) | (simp; omega))) | (with_reducible refine below_drewN ?_ _) | (with_reducible refine Below.drew ?_)))))).mono ?_; rintro e w1 ⟨rfl, hb1⟩)
        | fail)
      go_ret
      exact ⟨rfl, ((Below.refl w.heap.size w).alloc (Nat.le_refl _) _).trans (hb1.mono (by simp))⟩
  · go_enter Tryd.func3, Tryd.ntmps3
    go_wp2_with (first
      | (go_at_call 15; refine (alive1_any _ (HG.out.below (by (repeat (first | with_reducible assumption | with_reducible exact Below.refl _ _ | ((with_reducible refine Below.setCell ?_ ?_ _); rotate_left; focus (first | omega | (simp; done) | (simp; omega))) | ((with_reducible refine Below.alloc ?_ ?_ _); rotate_left; focus (first | omega | (simp; done) | (simp; omega))) | ((with_reducible refine below_setRow ?_ ?_ _); rotate_left; focus (first | omega | (simp; done) | (simp; omega))) | (with_reducible refine below_drewN ?_ _) | (with_reducible refine Below.drew ?_)))))).mono ?_; rintro e w1 ⟨rfl, hb1⟩)
      | fail)
    go_ret
    exact ⟨rfl, ((Below.refl w.heap.size w).alloc (Nat.le_refl _) _).trans (hb1.mono (by simp))⟩
end Go.Proofs.YtjjoiefngoghpaaDoor
