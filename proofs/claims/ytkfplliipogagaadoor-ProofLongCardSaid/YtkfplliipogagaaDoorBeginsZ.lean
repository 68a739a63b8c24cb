/- The walk of Begins where the first number is 0. Conditions: the proof can be read; the package's tables read as they are laid. -/
import Derived.Test.YtkfplliipogagaaDoorBothW
namespace Go.Proofs.YtkfplliipogagaaDoor
open Go.RowKit

set_option maxRecDepth 100000 in
set_option maxHeartbeats 1000000 in
theorem begins_zero (w : World) (h y : H) (n : Int) (pv : Value) (P : List H) (hs : Hs w pv P) (hg : Glob w) :
    Calls Tryd.prog 44 #[.int .i64 0, .int .i64 n, hv h, hv y, pv] w fun e w' => e = .returned (.bool (decide (0 ≤ n) && decide (n ≤ 1048576) && decide (P.length = 0) && (h.b == e0H.b))) ∧ Below w.heap.size w w' := by
  obtain ⟨xa, ca, rfl, _⟩ := hs.form
  obtain ⟨b, hb⟩ : ∃ b, b = (h.b == e0H.b) := ⟨_, rfl⟩
  rw [← hb]
  obtain ⟨w1, hw1⟩ : ∃ w1, w1 = (w.alloc (.cells (bytesV h.b).toArray 24)).alloc (.cells (bytesV y.b).toArray 24) := ⟨_, rfl⟩
  have hbw : Below w.heap.size w w1 := by rw [hw1]; (repeat (first | with_reducible assumption | with_reducible exact Below.refl _ _ | ((with_reducible refine Below.setCell ?_ ?_ _); rotate_left; focus (first | omega | (simp; done) | (simp; omega))) | ((with_reducible refine Below.alloc ?_ ?_ _); rotate_left; focus (first | omega | (simp; done) | (simp; omega))) | ((with_reducible refine below_setRow ?_ ?_ _); rotate_left; focus (first | omega | (simp; done) | (simp; omega))) | (with_reducible refine below_drewN ?_ _) | (with_reducible refine Below.drew ?_)))
  have hs1 : w1.heap.size = w.heap.size + 1 + 1 := by rw [hw1]; simp
  have hX : Blk w1 w.heap.size (bytesV h.b) 24 := by rw [hw1]; exact (Blk.newL w _ _).alloc _
  have HX := Lib.hid (hw1 ▸ hX)
  have HG := Lib.hid (hw1 ▸ hg.below hbw)
  have HW := Lib.hid (hw1 ▸ hbw)
  have HB := Lib.hid hb
  have hlt : w.heap.size < ((w.alloc (.cells (bytesV h.b).toArray 24)).alloc (.cells (bytesV y.b).toArray 24)).heap.size := by simp; omega
  clear hX hs hg hw1 hbw hs1 w1 hb
  unfold hv
  by_cases h1 : 0 ≤ n
  · have g1 : decide ((0 : Int) ≤ n) = true := decide_eq_true h1
    by_cases h2 : n ≤ 1048576
    · have g2 : decide ((n : Int) ≤ 1048576) = true := decide_eq_true h2
      by_cases h3 : P.length = 0
      · have g3 : ((P.length : Int) == 0) = true := by rw [beq_iff_eq]; omega
        have g4 : decide (P.length = 0) = true := decide_eq_true h3
        rw [g1, g2, g4, Bool.true_and, Bool.true_and, Bool.true_and]
        clear h1 h2 h3 g4
        go_enter Tryd.func44, Tryd.ntmps44
        go_wp2_with fail
        refine wp_region_mono 16 (((w.alloc (.cells (bytesV h.b).toArray 24)).alloc (.cells (bytesV y.b).toArray 24)).heap.size) [(fun v _ => v = .int .i64 n), (fun v _ => v = .bool true), (fun v _ => v = .bool true), (fun v _ => v = .int .i64 n), (fun v _ => v = .bool true), (fun v _ => v = .bool true), (fun v _ => v = .bool true),
          (fun v _ => v = .slice xa P.length ca), (fun v _ => v = .int .i64 P.length), (fun v _ => v = .bool true), (fun v _ => v = .bool true), (fun v _ => v = .bool true), (fun v _ => v = .agg (bytesV h.b).toArray), (fun v _ => v = .agg (bytesV e0H.b).toArray), (fun v _ => v = .bool b), (fun v _ => v = .bool b)] (by kernel_rfl) (by kernel_rfl) (Nat.le_refl _) ?mkept _ rfl ?mops ?mfin
        case mkept =>
          repeat (refine List.forall_mem_cons.2 ⟨by first | exact fun _ _ _ _ h => h | exact fun _ _ _ hb h => Parts.below h hb | exact fun _ _ _ hb h => IsSl.below h hb, ?_⟩)
          exact fun _ h => by cases h
        case mops =>
          simp only [List.take_succ_cons, List.take_zero, monoAll, List.getD_cons_zero, List.getD_cons_succ]
          iterate 16
          
           (refine ⟨fun x wr hb hd Qg hK => ?_, ?_⟩
            · as_aux_lemma =>
              simp only [fill, Act.put, List.setIfInBounds_toArray, List.set_cons_succ, List.set_cons_zero, needs, Region.binds, List.filter_cons, List.filter_nil, List.map_cons, List.map_nil, if_true, List.mem_cons, List.not_mem_nil, or_false, forall_eq_or_imp, forall_eq, List.getD_cons_zero, List.getD_cons_succ, false_implies, implies_true] at hd hK ⊢
              (try simp only [hd] at hK ⊢)
              first
              | (have hBr := HX.out.below hb (hlt); refine wpList_load_rowIf rfl 24 (.tmp 7) rfl _ rfl 24 (bytesV h.b).toArray (0, 0) _ (by exact hBr) Tryd.underlying24 rfl (hv_row h) ?_; exact hK _ _ rfl (Below.refl _ _))
              | (show wpList _ _ _ [⟨some 29, .call _, _, _, _, _⟩] _ _; go_wp2_with (go_at_call 32; refine (root_empty none 0 wr (HG.out.below hb)).mono ?_; rintro e w5 ⟨rfl, hb5⟩); exact hK _ _ (rfl) hb5)
              | (show wpList _ _ _ [⟨some 30, .call _, _, _, _, _⟩] _ _; go_wp2_with (go_at_call 63; refine (equal_any h.b e0H.b wr h.len e0H.len).mono ?_; rintro e w5 ⟨rfl, hb5⟩); exact hK _ _ (by rw [← HB.out]) hb5)
              | (go_wp2_with fail; exact hK _ _ rfl (Below.refl _ _)))
          trivial
        case mfin =>
          intro z w9 hb9 hR
          have z15 := hR 15 (by decide)
          simp only [List.getD_cons_zero, List.getD_cons_succ] at z15
          have hw9 := HW.out.trans (hb9.mono (Nat.le_of_lt hlt))
          clear hR hb9
          simp only [List.drop_succ_cons, List.drop_zero]
          generalize List.toArray _ = L0
          simp only [List.take_succ_cons, List.take_zero, List.map_cons, List.map_nil, fill, Act.put, List.setIfInBounds_toArray, List.set_cons_succ, List.set_cons_zero, z15]
          clear z15
          go_wp2_with fail
          go_ret
          exact ⟨rfl, hw9⟩
      · have g3 : ((P.length : Int) == 0) = false := by rw [beq_eq_false_iff_ne]; omega
        rw [g1, g2, show decide (P.length = 0) = false from decide_eq_false h3, Bool.true_and, Bool.true_and, Bool.false_and]
        clear h1 h2 h3
        go_enter Tryd.func44, Tryd.ntmps44
        go_wp2_with fail
        refine wp_region_mono 16 (((w.alloc (.cells (bytesV h.b).toArray 24)).alloc (.cells (bytesV y.b).toArray 24)).heap.size) [(fun v _ => v = .int .i64 n), (fun v _ => v = .bool true), (fun v _ => v = .bool true), (fun v _ => v = .int .i64 n), (fun v _ => v = .bool true), (fun v _ => v = .bool true), (fun v _ => v = .bool true), (fun v _ => v = .slice xa P.length ca), (fun v _ => v = .int .i64 P.length), (fun v _ => v = .bool false), (fun v _ => v = .bool false), (fun v _ => v = .bool false), (fun v _ => v = undef), (fun v _ => v = undef), (fun v _ => v = undef), (fun v _ => v = .bool false)] (by kernel_rfl) (by kernel_rfl) (Nat.le_refl _) ?mkept _ rfl ?mops ?mfin
        case mkept =>
          repeat (refine List.forall_mem_cons.2 ⟨by first | exact fun _ _ _ _ h => h | exact fun _ _ _ hb h => Parts.below h hb | exact fun _ _ _ hb h => IsSl.below h hb, ?_⟩)
          exact fun _ h => by cases h
        case mops =>
          simp only [List.take_succ_cons, List.take_zero, monoAll, List.getD_cons_zero, List.getD_cons_succ]
          iterate 16
           (refine ⟨fun x wr hb hd Qg hK => ?_, ?_⟩
            · as_aux_lemma =>
              simp only [fill, Act.put, List.setIfInBounds_toArray, List.set_cons_succ, List.set_cons_zero, needs, Region.binds, List.filter_cons, List.filter_nil, List.map_cons, List.map_nil, if_true, List.mem_cons, List.not_mem_nil, or_false, forall_eq_or_imp, forall_eq, List.getD_cons_zero, List.getD_cons_succ, false_implies, implies_true] at hd hK ⊢
              (try simp only [hd] at hK ⊢)
              first
              | (fail)
              | (go_wp2_with fail; exact hK _ _ rfl (Below.refl _ _)))
          trivial
        case mfin =>
          intro z w9 hb9 hR
          have z15 := hR 15 (by decide)
          simp only [List.getD_cons_zero, List.getD_cons_succ] at z15
          have hw9 := HW.out.trans (hb9.mono (Nat.le_of_lt hlt))
          clear hR hb9
          simp only [List.drop_succ_cons, List.drop_zero]
          generalize List.toArray _ = L0
          simp only [List.take_succ_cons, List.take_zero, List.map_cons, List.map_nil, fill, Act.put, List.setIfInBounds_toArray, List.set_cons_succ, List.set_cons_zero, z15]
          clear z15
          go_wp2_with fail
          go_ret
          exact ⟨rfl, hw9⟩
    · have g2 : decide ((n : Int) ≤ 1048576) = false := decide_eq_false h2
      rw [g1, g2, Bool.true_and, Bool.false_and, Bool.false_and]
      clear h1 h2
      go_enter Tryd.func44, Tryd.ntmps44
      go_wp2_with fail
      refine wp_region_mono 16 (((w.alloc (.cells (bytesV h.b).toArray 24)).alloc (.cells (bytesV y.b).toArray 24)).heap.size) [(fun v _ => v = .int .i64 n), (fun v _ => v = .bool true), (fun v _ => v = .bool true), (fun v _ => v = .int .i64 n), (fun v _ => v = .bool false), (fun v _ => v = .bool false), (fun v _ => v = .bool false), (fun v _ => v = undef), (fun v _ => v = undef), (fun v _ => v = undef), (fun v _ => v = .bool false), (fun v _ => v = .bool false), (fun v _ => v = undef), (fun v _ => v = undef), (fun v _ => v = undef), (fun v _ => v = .bool false)] (by kernel_rfl) (by kernel_rfl) (Nat.le_refl _) ?mkept _ rfl ?mops ?mfin
      case mkept =>
        repeat (refine List.forall_mem_cons.2 ⟨by first | exact fun _ _ _ _ h => h | exact fun _ _ _ hb h => Parts.below h hb | exact fun _ _ _ hb h => IsSl.below h hb, ?_⟩)
        exact fun _ h => by cases h
      case mops =>
        simp only [List.take_succ_cons, List.take_zero, monoAll, List.getD_cons_zero, List.getD_cons_succ]
        iterate 16
         (refine ⟨fun x wr hb hd Qg hK => ?_, ?_⟩
          · as_aux_lemma =>
            simp only [fill, Act.put, List.setIfInBounds_toArray, List.set_cons_succ, List.set_cons_zero, needs, Region.binds, List.filter_cons, List.filter_nil, List.map_cons, List.map_nil, if_true, List.mem_cons, List.not_mem_nil, or_false, forall_eq_or_imp, forall_eq, List.getD_cons_zero, List.getD_cons_succ, false_implies, implies_true] at hd hK ⊢
            (try simp only [hd] at hK ⊢)
            first
            | (fail)
            | (go_wp2_with fail; exact hK _ _ rfl (Below.refl _ _)))
        trivial
      case mfin =>
        intro z w9 hb9 hR
        have z15 := hR 15 (by decide)
        simp only [List.getD_cons_zero, List.getD_cons_succ] at z15
        have hw9 := HW.out.trans (hb9.mono (Nat.le_of_lt hlt))
        clear hR hb9
        simp only [List.drop_succ_cons, List.drop_zero]
        generalize List.toArray _ = L0
        simp only [List.take_succ_cons, List.take_zero, List.map_cons, List.map_nil, fill, Act.put, List.setIfInBounds_toArray, List.set_cons_succ, List.set_cons_zero, z15]
        clear z15
        go_wp2_with fail
        go_ret
        exact ⟨rfl, hw9⟩
  · have g1 : decide ((0 : Int) ≤ n) = false := decide_eq_false h1
    rw [g1, Bool.false_and, Bool.false_and, Bool.false_and]
    clear h1
    go_enter Tryd.func44, Tryd.ntmps44
    go_wp2_with fail
    refine wp_region_mono 16 (((w.alloc (.cells (bytesV h.b).toArray 24)).alloc (.cells (bytesV y.b).toArray 24)).heap.size) [(fun v _ => v = .int .i64 n), (fun v _ => v = .bool false), (fun v _ => v = .bool false), (fun v _ => v = undef), (fun v _ => v = undef), (fun v _ => v = .bool false), (fun v _ => v = .bool false), (fun v _ => v = undef), (fun v _ => v = undef), (fun v _ => v = undef), (fun v _ => v = .bool false), (fun v _ => v = .bool false), (fun v _ => v = undef), (fun v _ => v = undef), (fun v _ => v = undef), (fun v _ => v = .bool false)] (by kernel_rfl) (by kernel_rfl) (Nat.le_refl _) ?mkept _ rfl ?mops ?mfin
    case mkept =>
      repeat (refine List.forall_mem_cons.2 ⟨by first | exact fun _ _ _ _ h => h | exact fun _ _ _ hb h => Parts.below h hb | exact fun _ _ _ hb h => IsSl.below h hb, ?_⟩)
      exact fun _ h => by cases h
    case mops =>
      simp only [List.take_succ_cons, List.take_zero, monoAll, List.getD_cons_zero, List.getD_cons_succ]
      iterate 16
       (refine ⟨fun x wr hb hd Qg hK => ?_, ?_⟩
        · as_aux_lemma =>
          simp only [fill, Act.put, List.setIfInBounds_toArray, List.set_cons_succ, List.set_cons_zero, needs, Region.binds, List.filter_cons, List.filter_nil, List.map_cons, List.map_nil, if_true, List.mem_cons, List.not_mem_nil, or_false, forall_eq_or_imp, forall_eq, List.getD_cons_zero, List.getD_cons_succ, false_implies, implies_true] at hd hK ⊢
          (try simp only [hd] at hK ⊢)
          first
          | (fail)
          | (go_wp2_with fail; exact hK _ _ rfl (Below.refl _ _)))
      trivial
    case mfin =>
      intro z w9 hb9 hR
      have z15 := hR 15 (by decide)
      simp only [List.getD_cons_zero, List.getD_cons_succ] at z15
      have hw9 := HW.out.trans (hb9.mono (Nat.le_of_lt hlt))
      clear hR hb9
      simp only [List.drop_succ_cons, List.drop_zero]
      generalize List.toArray _ = L0
      simp only [List.take_succ_cons, List.take_zero, List.map_cons, List.map_nil, fill, Act.put, List.setIfInBounds_toArray, List.set_cons_succ, List.set_cons_zero, z15]
      clear z15
      go_wp2_with fail
      go_ret
      exact ⟨rfl, hw9⟩
end Go.Proofs.YtkfplliipogagaaDoor
