/- The law TreeHashes, walked: true, and nothing that was there has turned. Conditions: the bytes can be read; the digests have 32 bytes; the package's tables read as they are laid. -/
import Derived.Test.YtkfplliipogagaaDoorAlive5
namespace Go.Proofs.YtkfplliipogagaaDoor
open Go.RowKit

theorem int_big (n : Int) (h : ¬ n < 2) : ∃ m : Nat, n = m := ⟨n.toNat, by omega⟩
def splitI (n : Int) : Int := if n < 2 then 0 else (splitN n.toNat : Int)
theorem split_int (n : Int) (w : World) (hn : n ≤ 1099511627776) :
    Calls Tryd.prog 22 #[.int .i64 n] w fun e w' => e = .returned (.int .i64 (splitI n)) ∧ Below w.heap.size w w' := by
  unfold splitI
  by_cases h : n < 2
  · rw [if_pos h]
    exact calls_same (split_low n w h)
  · obtain ⟨m, rfl⟩ := int_big n h
    rw [if_neg h, Int.toNat_natCast]
    exact calls_same (split_any m w (by omega))
theorem refsplit_int (n : Int) (w : World) (hn : n ≤ 1099511627776) :
    Calls Tryd.prog 23 #[.int .i64 n] w fun e w' => e = .returned (.int .i64 (splitI n)) ∧ Below w.heap.size w w' := by
  unfold splitI
  by_cases h : n < 2
  · rw [if_pos h]
    exact calls_same (refsplit_low n w h)
  · obtain ⟨m, rfl⟩ := int_big n h
    rw [if_neg h, Int.toNat_natCast]
    exact calls_same (refsplit_any m w (by omega))
theorem boxes_two (w : World) (a b : H) : Blk ((w.alloc (.cells (bytesV a.b).toArray 24)).alloc (.cells (bytesV b.b).toArray 24)) w.heap.size (bytesV a.b) 24 ∧ Blk ((w.alloc (.cells (bytesV a.b).toArray 24)).alloc (.cells (bytesV b.b).toArray 24)) (w.heap.size + 1) (bytesV b.b) 24 :=
  ⟨(Blk.newL w _ _).alloc _, Blk.newL1 w _ _ _⟩

set_option maxRecDepth 100000 in
set_option maxHeartbeats 2000000 in
theorem thash_any (vb : Value) (b : List UInt8) (l r : H) (n : Int) (w : World) (hb : Bytes w vb b) (hg : Glob w) :
    Calls Tryd.prog 3 #[vb, hv l, hv r, .int .i64 n] w fun e w' => e = .returned (.bool true) ∧ Below w.heap.size w w' := by
  obtain ⟨xb, cb, rfl, _⟩ := hb.form
  have HG := Lib.hid hg
  have HB := Lib.hid hb
  clear hg hb
  by_cases h1 : b.length ≤ 500
  · by_cases h2 : n ≤ 1099511627776
    · have h1' : ¬ ((500 : Int) < b.length) := by omega
      have h2' : ¬ ((1099511627776 : Int) < n) := by omega
      go_enter Tryd.func3, Tryd.ntmps3
      unfold hv
      go_wp2_with (first
        | (go_at_call 16; refine (alive5_any _ (HG.out.below (by (repeat (first | with_reducible assumption | with_reducible exact Below.refl _ _ | ((with_reducible refine Below.setCell ?_ ?_ _); rotate_left; focus (first | omega | (simp; done) | (simp; omega))) | ((with_reducible refine Below.alloc ?_ ?_ _); rotate_left; focus (first | omega | (simp; done) | (simp; omega))) | ((with_reducible refine below_setRow ?_ ?_ _); rotate_left; focus (first | omega | (simp; done) | (simp; omega))) | (with_reducible refine below_drewN ?_ _) | (with_reducible refine Below.drew ?_)))))).mono ?_; rintro e w1 ⟨rfl, hb1⟩; have hw1 : Below w.heap.size w w1 := Below.trans (by (repeat (first | with_reducible assumption | with_reducible exact Below.refl _ _ | ((with_reducible refine Below.setCell ?_ ?_ _); rotate_left; focus (first | omega | (simp; done) | (simp; omega))) | ((with_reducible refine Below.alloc ?_ ?_ _); rotate_left; focus (first | omega | (simp; done) | (simp; omega))) | ((with_reducible refine below_setRow ?_ ?_ _); rotate_left; focus (first | omega | (simp; done) | (simp; omega))) | (with_reducible refine below_drewN ?_ _) | (with_reducible refine Below.drew ?_)))) (hb1.mono (by simp <;> omega)); have hs1 := hb1.size)
        | fail)
      have hb1' : Below (w.heap.size + 1 + 1) ((w.alloc (.cells (bytesV l.b).toArray 24)).alloc (.cells (bytesV r.b).toArray 24)) w1 := by
        have := hb1
        rw [World.size_alloc, World.size_alloc] at this
        exact this
      have HL := Lib.hid ((boxes_two w l r).1.below hb1' (by omega))
      have HR := Lib.hid ((boxes_two w l r).2.below hb1' (by omega))
      have HB1 := Lib.hid (HB.out.below hw1)
      have HG1 := Lib.hid (HG.out.below hw1)
      have hl1 := HL.out.lt
      have hl2 := HR.out.lt
      clear hb1 hb1' hs1
      obtain ⟨L, hL⟩ : ∃ L, L = lfH b := ⟨_, rfl⟩
      obtain ⟨D, hD⟩ : ∃ D, D = ndH l r := ⟨_, rfl⟩
      obtain ⟨s, hs⟩ : ∃ s, s = splitI n := ⟨_, rfl⟩
      have e1 := fun w => is_hash w L
      have e2 := fun w => is_hash w D
      have HLL := Lib.hid hL
      have HD := Lib.hid hD
      have HS := Lib.hid hs
      clear hL hD hs
      refine wp_region_mono 22 (w1.heap.size) [(fun v _ => v = .slice xb b.length cb), (fun v _ => v = .agg (bytesV L.b).toArray), (fun v _ => v = .slice xb b.length cb), (fun v _ => v = .agg (bytesV L.b).toArray), (fun v _ => v = .bool true), (fun v _ => v = .bool true),
        (fun v _ => v = .agg (bytesV l.b).toArray), (fun v _ => v = .agg (bytesV r.b).toArray), (fun v _ => v = .agg (bytesV D.b).toArray), (fun v _ => v = .agg (bytesV l.b).toArray), (fun v _ => v = .agg (bytesV r.b).toArray), (fun v w => Bytes w v (1 :: (l.b ++ r.b))), (fun v _ => v = .agg (bytesV D.b).toArray), (fun v _ => v = .bool true), (fun v _ => v = .bool true), (fun v _ => v = .bool true),
        (fun v _ => v = .int .i64 n), (fun v _ => v = .int .i64 s), (fun v _ => v = .int .i64 n), (fun v _ => v = .int .i64 s), (fun v _ => v = .bool true), (fun v _ => v = .bool true)] (by kernel_rfl) (by kernel_rfl) (Nat.le_refl _) ?mkept _ rfl ?mops ?mfin
      case mkept =>
        repeat (refine List.forall_mem_cons.2 ⟨by first | exact fun _ _ _ _ h => h | exact fun _ _ _ hb h => Parts.below h hb | exact fun _ _ _ hb h => IsSl.below h hb, ?_⟩)
        exact fun _ h => by cases h
      case mops =>
        simp only [List.take_succ_cons, List.take_zero, monoAll, List.getD_cons_zero, List.getD_cons_succ]
        iterate 22
        
         (refine ⟨fun x wr hb hd Qg hK => ?_, ?_⟩
          · as_aux_lemma =>
            simp only [fill, Act.put, List.setIfInBounds_toArray, List.set_cons_succ, List.set_cons_zero, needs, Region.binds, List.filter_cons, List.filter_nil, List.map_cons, List.map_nil, if_true, List.mem_cons, List.not_mem_nil, or_false, forall_eq_or_imp, forall_eq, List.getD_cons_zero, List.getD_cons_succ, false_implies, implies_true] at hd hK ⊢
            (try simp only [hd] at hK ⊢)
            first
            | (have hBr := HL.out.below hb (hl1); refine wpList_load_rowIf rfl 24 (.tmp 5) rfl _ rfl 24 (bytesV l.b).toArray (0, 0) _ (by exact hBr) Tryd.underlying24 rfl (hv_row l) ?_; exact hK _ _ rfl (Below.refl _ _))
            | (have hBr := HR.out.below hb (hl2); refine wpList_load_rowIf rfl 24 (.tmp 6) rfl _ rfl 24 (bytesV r.b).toArray (0, 0) _ (by exact hBr) Tryd.underlying24 rfl (hv_row r) ?_; exact hK _ _ rfl (Below.refl _ _))
            | (show wpList _ _ _ [⟨some 19, .call _, _, _, _, _⟩] _ _; go_wp2_with (go_at_call 17; refine (leaf_any _ b wr (HB1.out.below hb) (by omega) (HG1.out.below hb)).mono ?_; rintro e w5 ⟨rfl, hb5⟩); exact hK _ _ (by rw [HLL.out]; rfl) hb5)
            | (show wpList _ _ _ [⟨some 21, .call _, _, _, _, _⟩] _ _; go_wp2_with (go_at_call 18; refine (refleaf_any _ b wr (HB1.out.below hb) (by omega) (HG1.out.below hb)).mono ?_; rintro e w5 ⟨rfl, hb5⟩); exact hK _ _ (by rw [HLL.out]; rfl) hb5)
            | (show wpList _ _ _ [⟨some 26, .call _, _, _, _, _⟩] _ _; go_wp2_with (go_at_call 19; refine (node_any l r wr (HG1.out.below hb)).mono ?_; rintro e w5 ⟨rfl, hb5⟩); exact hK _ _ (by rw [HD.out]; rfl) hb5)
            | (show wpList _ _ _ [⟨some 29, .call _, _, _, _, _⟩] _ _; go_wp2_with (go_at_call 21; refine (pair_any l r wr).mono ?_; rintro e w5 ⟨⟨v5, rfl, hv5⟩, hb5⟩); exact hK _ _ hv5 hb5)
            | (show wpList _ _ _ [⟨some 30, .call _, _, _, _, _⟩] _ _; go_wp2_with (go_at_call 20; refine (refsum_any (x 11) (1 :: (l.b ++ r.b)) wr (by simp only [hd]) (by simp [H.len]) (HG1.out.below hb)).mono ?_; rintro e w5 ⟨rfl, hb5⟩); exact hK _ _ (by rw [HD.out]; rfl) hb5)
            | (show wpList _ _ _ [⟨some 35, .call _, _, _, _, _⟩] _ _; go_wp2_with (go_at_call 22; refine (split_int n wr h2).mono ?_; rintro e w5 ⟨rfl, hb5⟩); exact hK _ _ (by rw [HS.out]) hb5)
            | (show wpList _ _ _ [⟨some 37, .call _, _, _, _, _⟩] _ _; go_wp2_with (go_at_call 23; refine (refsplit_int n wr h2).mono ?_; rintro e w5 ⟨rfl, hb5⟩); exact hK _ _ (by rw [HS.out]) hb5)
            | (go_wp2_with fail; exact hK _ _ rfl (Below.refl _ _)))
        trivial
      case mfin =>
        intro x wr hb hR
        have x21 := hR 21 (by decide)
        simp only [List.getD_cons_zero, List.getD_cons_succ] at x21
        have hw6 := hw1.trans (hb.mono hw1.size)
        clear hR hb e1 e2
        simp only [List.drop_succ_cons, List.drop_zero]
        generalize List.toArray _ = L0
        simp only [List.take_succ_cons, List.take_zero, List.map_cons, List.map_nil, fill, Act.put, List.setIfInBounds_toArray, List.set_cons_succ, List.set_cons_zero, x21]
        clear x21
        go_wp2_with fail
        go_ret
        exact ⟨rfl, hw6⟩
    · have h1' : ¬ ((500 : Int) < b.length) := by omega
      have h2' : (1099511627776 : Int) < n := by omega
      go_enter Tryd.func3, Tryd.ntmps3
      unfold hv
      go_wp2_with (first
        | (go_at_call 16; refine (alive5_any _ (HG.out.below (by (repeat (first | with_reducible assumption | with_reducible exact Below.refl _ _ | ((with_reducible refine Below.setCell ?_ ?_ _); rotate_left; focus (first | omega | (simp; done) | (simp; omega))) | ((with_reducible refine Below.alloc ?_ ?_ _); rotate_left; focus (first | omega | (simp; done) | (simp; omega))) | ((with_reducible refine below_setRow ?_ ?_ _); rotate_left; focus (first | omega | (simp; done) | (simp; omega))) | (with_reducible refine below_drewN ?_ _) | (with_reducible refine Below.drew ?_)))))).mono ?_; rintro e w1 ⟨rfl, hb1⟩; have hw1 : Below w.heap.size w w1 := Below.trans (by (repeat (first | with_reducible assumption | with_reducible exact Below.refl _ _ | ((with_reducible refine Below.setCell ?_ ?_ _); rotate_left; focus (first | omega | (simp; done) | (simp; omega))) | ((with_reducible refine Below.alloc ?_ ?_ _); rotate_left; focus (first | omega | (simp; done) | (simp; omega))) | ((with_reducible refine below_setRow ?_ ?_ _); rotate_left; focus (first | omega | (simp; done) | (simp; omega))) | (with_reducible refine below_drewN ?_ _) | (with_reducible refine Below.drew ?_)))) (hb1.mono (by simp <;> omega)))
        | fail)
      go_ret
      exact ⟨rfl, hw1⟩
  · have h1' : (500 : Int) < b.length := by omega
    go_enter Tryd.func3, Tryd.ntmps3
    unfold hv
    go_wp2_with (first
      | (go_at_call 16; refine (alive5_any _ (HG.out.below (by (repeat (first | with_reducible assumption | with_reducible exact Below.refl _ _ | ((with_reducible refine Below.setCell ?_ ?_ _); rotate_left; focus (first | omega | (simp; done) | (simp; omega))) | ((with_reducible refine Below.alloc ?_ ?_ _); rotate_left; focus (first | omega | (simp; done) | (simp; omega))) | ((with_reducible refine below_setRow ?_ ?_ _); rotate_left; focus (first | omega | (simp; done) | (simp; omega))) | (with_reducible refine below_drewN ?_ _) | (with_reducible refine Below.drew ?_)))))).mono ?_; rintro e w1 ⟨rfl, hb1⟩; have hw1 : Below w.heap.size w w1 := Below.trans (by (repeat (first | with_reducible assumption | with_reducible exact Below.refl _ _ | ((with_reducible refine Below.setCell ?_ ?_ _); rotate_left; focus (first | omega | (simp; done) | (simp; omega))) | ((with_reducible refine Below.alloc ?_ ?_ _); rotate_left; focus (first | omega | (simp; done) | (simp; omega))) | ((with_reducible refine below_setRow ?_ ?_ _); rotate_left; focus (first | omega | (simp; done) | (simp; omega))) | (with_reducible refine below_drewN ?_ _) | (with_reducible refine Below.drew ?_)))) (hb1.mono (by simp <;> omega)))
      | fail)
    go_ret
    exact ⟨rfl, hw1⟩
end Go.Proofs.YtkfplliipogagaaDoor
