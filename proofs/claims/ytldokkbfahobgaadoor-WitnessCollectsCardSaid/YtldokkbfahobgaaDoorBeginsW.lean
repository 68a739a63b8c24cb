/- The walk of Begins where the first number is 0. The walk of Begins where the first number is not 0. Conditions: what each part says. -/
import Derived.Test.YtldokkbfahobgaaDoorBothW
/-! BeginsZ: The walk of Begins where the first number is 0. Conditions: the proof can be read; the package's tables read as they are laid. -/
namespace Go.Proofs.YtldokkbfahobgaaDoor
open Go.RowKit

set_option maxRecDepth 100000 in
set_option maxHeartbeats 1000000 in
theorem begins_zero (w : World) (h y : H) (n : Int) (pv : Value) (P : List H) (hs : Hs w pv P) (hg : Glob w) :
    Calls Tryd.prog 24 #[.int .i64 0, .int .i64 n, hv h, hv y, pv] w fun e w' => e = .returned (.bool (decide (0 ≤ n) && decide (n ≤ 1048576) && decide (P.length = 0) && (h.b == e0H.b))) ∧ Below w.heap.size w w' := by
  obtain ⟨xa, ca, rfl, _⟩ := hs.form
  obtain ⟨b, hb⟩ : ∃ b, b = (h.b == e0H.b) := ⟨_, rfl⟩
  rw [← hb]
  obtain ⟨w1, hw1⟩ : ∃ w1, w1 = (w.alloc (.cells (bytesV h.b).toArray 31)).alloc (.cells (bytesV y.b).toArray 31) := ⟨_, rfl⟩
  have hbw : Below w.heap.size w w1 := by rw [hw1]; (repeat (first | with_reducible assumption | with_reducible exact Below.refl _ _ | ((with_reducible refine Below.setCell ?_ ?_ _); rotate_left; focus (first | omega | (simp; done) | (simp; omega))) | ((with_reducible refine Below.alloc ?_ ?_ _); rotate_left; focus (first | omega | (simp; done) | (simp; omega))) | ((with_reducible refine below_setRow ?_ ?_ _); rotate_left; focus (first | omega | (simp; done) | (simp; omega))) | (with_reducible refine below_drewN ?_ _) | (with_reducible refine Below.drew ?_)))
  have hs1 : w1.heap.size = w.heap.size + 1 + 1 := by rw [hw1]; simp
  have hX : Blk w1 w.heap.size (bytesV h.b) 31 := by rw [hw1]; exact (Blk.newL w _ _).alloc _
  have HX := Lib.hid (hw1 ▸ hX)
  have HG := Lib.hid (hw1 ▸ hg.below hbw)
  have HW := Lib.hid (hw1 ▸ hbw)
  have HB := Lib.hid hb
  have hlt : w.heap.size < ((w.alloc (.cells (bytesV h.b).toArray 31)).alloc (.cells (bytesV y.b).toArray 31)).heap.size := by simp; omega
  clear hX hs hg hw1 hbw hs1 w1 hb
  unfold hv
  by_cases h1 : 0 ≤ n
  · have g1 : decide ((0 : Int) ≤ n) = true := decide_eq_true h1
    by_cases h2 : n ≤ 1048576
    · have g2 : decide ((n : Int) ≤ 1048576) = true := decide_eq_true h2
      by_cases h3 : P.length = 0
      · have g3 : ((P.length : Int) == 0) = true := by rw [beq_iff_eq]; omega
        have g4 : decide (P.length = 0) = true := decide_eq_true h3
        rw [g1, g2, g4, Bool.true_and, Bool.true_and, Bool.true_and]
        clear h1 h2 h3 g4
        go_enter Tryd.func24, Tryd.ntmps24
        go_wp2_with fail
        refine wp_region_mono 16 (((w.alloc (.cells (bytesV h.b).toArray 31)).alloc (.cells (bytesV y.b).toArray 31)).heap.size) [(fun v _ => v = .int .i64 n), (fun v _ => v = .bool true), (fun v _ => v = .bool true), (fun v _ => v = .int .i64 n), (fun v _ => v = .bool true), (fun v _ => v = .bool true), (fun v _ => v = .bool true),
          (fun v _ => v = .slice xa P.length ca), (fun v _ => v = .int .i64 P.length), (fun v _ => v = .bool true), (fun v _ => v = .bool true), (fun v _ => v = .bool true), (fun v _ => v = .agg (bytesV h.b).toArray), (fun v _ => v = .agg (bytesV e0H.b).toArray), (fun v _ => v = .bool b), (fun v _ => v = .bool b)] (by kernel_rfl) (by kernel_rfl) (Nat.le_refl _) ?mkept _ rfl ?mops ?mfin
        case mkept =>
          repeat (refine List.forall_mem_cons.2 ⟨by first | exact fun _ _ _ _ h => h | exact fun _ _ _ hb h => Parts.below h hb | exact fun _ _ _ hb h => IsSl.below h hb, ?_⟩)
          exact fun _ h => by cases h
        case mops =>
          simp only [List.take_succ_cons, List.take_zero, monoAll, List.getD_cons_zero, List.getD_cons_succ]
          iterate 16
          
           (refine ⟨fun x wr hb hd Qg hK => ?_, ?_⟩
            · as_aux_lemma =>
              simp only [fill, Act.put, List.setIfInBounds_toArray, List.set_cons_succ, List.set_cons_zero, needs, Region.binds, List.filter_cons, List.filter_nil, List.map_cons, List.map_nil, if_true, List.mem_cons, List.not_mem_nil, or_false, forall_eq_or_imp, forall_eq, List.getD_cons_zero, List.getD_cons_succ, false_implies, implies_true] at hd hK ⊢
              (try simp only [hd] at hK ⊢)
              first
              | (have hBr := HX.out.below hb (hlt); refine wpList_load_rowIf rfl 31 (.tmp 7) rfl _ rfl 31 (bytesV h.b).toArray (0, 0) _ (by exact hBr) Tryd.underlying31 rfl (hv_row h) ?_; exact hK _ _ rfl (Below.refl _ _))
              | (show wpList _ _ _ [⟨some 29, .call _, _, _, _, _⟩] _ _; go_wp2_with (go_at_call 19; refine (root_empty none 0 wr (HG.out.below hb)).mono ?_; rintro e w5 ⟨rfl, hb5⟩); exact hK _ _ (rfl) hb5)
              | (show wpList _ _ _ [⟨some 30, .call _, _, _, _, _⟩] _ _; go_wp2_with (go_at_call 38; refine (equal_any h.b e0H.b wr h.len e0H.len).mono ?_; rintro e w5 ⟨rfl, hb5⟩); exact hK _ _ (by rw [← HB.out]) hb5)
              | (go_wp2_with fail; exact hK _ _ rfl (Below.refl _ _)))
          trivial
        case mfin =>
          intro z w9 hb9 hR
          have z15 := hR 15 (by decide)
          simp only [List.getD_cons_zero, List.getD_cons_succ] at z15
          have hw9 := HW.out.trans (hb9.mono (Nat.le_of_lt hlt))
          clear hR hb9
          simp only [List.drop_succ_cons, List.drop_zero]
          generalize List.toArray _ = L0
          simp only [List.take_succ_cons, List.take_zero, List.map_cons, List.map_nil, fill, Act.put, List.setIfInBounds_toArray, List.set_cons_succ, List.set_cons_zero, z15]
          clear z15
          go_wp2_with fail
          go_ret
          exact ⟨rfl, hw9⟩
      · have g3 : ((P.length : Int) == 0) = false := by rw [beq_eq_false_iff_ne]; omega
        rw [g1, g2, show decide (P.length = 0) = false from decide_eq_false h3, Bool.true_and, Bool.true_and, Bool.false_and]
        clear h1 h2 h3
        go_enter Tryd.func24, Tryd.ntmps24
        go_wp2_with fail
        refine wp_region_mono 16 (((w.alloc (.cells (bytesV h.b).toArray 31)).alloc (.cells (bytesV y.b).toArray 31)).heap.size) [(fun v _ => v = .int .i64 n), (fun v _ => v = .bool true), (fun v _ => v = .bool true), (fun v _ => v = .int .i64 n), (fun v _ => v = .bool true), (fun v _ => v = .bool true), (fun v _ => v = .bool true), (fun v _ => v = .slice xa P.length ca), (fun v _ => v = .int .i64 P.length), (fun v _ => v = .bool false), (fun v _ => v = .bool false), (fun v _ => v = .bool false), (fun v _ => v = undef), (fun v _ => v = undef), (fun v _ => v = undef), (fun v _ => v = .bool false)] (by kernel_rfl) (by kernel_rfl) (Nat.le_refl _) ?mkept _ rfl ?mops ?mfin
        case mkept =>
          repeat (refine List.forall_mem_cons.2 ⟨by first | exact fun _ _ _ _ h => h | exact fun _ _ _ hb h => Parts.below h hb | exact fun _ _ _ hb h => IsSl.below h hb, ?_⟩)
          exact fun _ h => by cases h
        case mops =>
          simp only [List.take_succ_cons, List.take_zero, monoAll, List.getD_cons_zero, List.getD_cons_succ]
          iterate 16
           (refine ⟨fun x wr hb hd Qg hK => ?_, ?_⟩
            · as_aux_lemma =>
              simp only [fill, Act.put, List.setIfInBounds_toArray, List.set_cons_succ, List.set_cons_zero, needs, Region.binds, List.filter_cons, List.filter_nil, List.map_cons, List.map_nil, if_true, List.mem_cons, List.not_mem_nil, or_false, forall_eq_or_imp, forall_eq, List.getD_cons_zero, List.getD_cons_succ, false_implies, implies_true] at hd hK ⊢
              (try simp only [hd] at hK ⊢)
              first
              | (fail)
              | (go_wp2_with fail; exact hK _ _ rfl (Below.refl _ _)))
          trivial
        case mfin =>
          intro z w9 hb9 hR
          have z15 := hR 15 (by decide)
          simp only [List.getD_cons_zero, List.getD_cons_succ] at z15
          have hw9 := HW.out.trans (hb9.mono (Nat.le_of_lt hlt))
          clear hR hb9
          simp only [List.drop_succ_cons, List.drop_zero]
          generalize List.toArray _ = L0
          simp only [List.take_succ_cons, List.take_zero, List.map_cons, List.map_nil, fill, Act.put, List.setIfInBounds_toArray, List.set_cons_succ, List.set_cons_zero, z15]
          clear z15
          go_wp2_with fail
          go_ret
          exact ⟨rfl, hw9⟩
    · have g2 : decide ((n : Int) ≤ 1048576) = false := decide_eq_false h2
      rw [g1, g2, Bool.true_and, Bool.false_and, Bool.false_and]
      clear h1 h2
      go_enter Tryd.func24, Tryd.ntmps24
      go_wp2_with fail
      refine wp_region_mono 16 (((w.alloc (.cells (bytesV h.b).toArray 31)).alloc (.cells (bytesV y.b).toArray 31)).heap.size) [(fun v _ => v = .int .i64 n), (fun v _ => v = .bool true), (fun v _ => v = .bool true), (fun v _ => v = .int .i64 n), (fun v _ => v = .bool false), (fun v _ => v = .bool false), (fun v _ => v = .bool false), (fun v _ => v = undef), (fun v _ => v = undef), (fun v _ => v = undef), (fun v _ => v = .bool false), (fun v _ => v = .bool false), (fun v _ => v = undef), (fun v _ => v = undef), (fun v _ => v = undef), (fun v _ => v = .bool false)] (by kernel_rfl) (by kernel_rfl) (Nat.le_refl _) ?mkept _ rfl ?mops ?mfin
      case mkept =>
        repeat (refine List.forall_mem_cons.2 ⟨by first | exact fun _ _ _ _ h => h | exact fun _ _ _ hb h => Parts.below h hb | exact fun _ _ _ hb h => IsSl.below h hb, ?_⟩)
        exact fun _ h => by cases h
      case mops =>
        simp only [List.take_succ_cons, List.take_zero, monoAll, List.getD_cons_zero, List.getD_cons_succ]
        iterate 16
         (refine ⟨fun x wr hb hd Qg hK => ?_, ?_⟩
          · as_aux_lemma =>
            simp only [fill, Act.put, List.setIfInBounds_toArray, List.set_cons_succ, List.set_cons_zero, needs, Region.binds, List.filter_cons, List.filter_nil, List.map_cons, List.map_nil, if_true, List.mem_cons, List.not_mem_nil, or_false, forall_eq_or_imp, forall_eq, List.getD_cons_zero, List.getD_cons_succ, false_implies, implies_true] at hd hK ⊢
            (try simp only [hd] at hK ⊢)
            first
            | (fail)
            | (go_wp2_with fail; exact hK _ _ rfl (Below.refl _ _)))
        trivial
      case mfin =>
        intro z w9 hb9 hR
        have z15 := hR 15 (by decide)
        simp only [List.getD_cons_zero, List.getD_cons_succ] at z15
        have hw9 := HW.out.trans (hb9.mono (Nat.le_of_lt hlt))
        clear hR hb9
        simp only [List.drop_succ_cons, List.drop_zero]
        generalize List.toArray _ = L0
        simp only [List.take_succ_cons, List.take_zero, List.map_cons, List.map_nil, fill, Act.put, List.setIfInBounds_toArray, List.set_cons_succ, List.set_cons_zero, z15]
        clear z15
        go_wp2_with fail
        go_ret
        exact ⟨rfl, hw9⟩
  · have g1 : decide ((0 : Int) ≤ n) = false := decide_eq_false h1
    rw [g1, Bool.false_and, Bool.false_and, Bool.false_and]
    clear h1
    go_enter Tryd.func24, Tryd.ntmps24
    go_wp2_with fail
    refine wp_region_mono 16 (((w.alloc (.cells (bytesV h.b).toArray 31)).alloc (.cells (bytesV y.b).toArray 31)).heap.size) [(fun v _ => v = .int .i64 n), (fun v _ => v = .bool false), (fun v _ => v = .bool false), (fun v _ => v = undef), (fun v _ => v = undef), (fun v _ => v = .bool false), (fun v _ => v = .bool false), (fun v _ => v = undef), (fun v _ => v = undef), (fun v _ => v = undef), (fun v _ => v = .bool false), (fun v _ => v = .bool false), (fun v _ => v = undef), (fun v _ => v = undef), (fun v _ => v = undef), (fun v _ => v = .bool false)] (by kernel_rfl) (by kernel_rfl) (Nat.le_refl _) ?mkept _ rfl ?mops ?mfin
    case mkept =>
      repeat (refine List.forall_mem_cons.2 ⟨by first | exact fun _ _ _ _ h => h | exact fun _ _ _ hb h => Parts.below h hb | exact fun _ _ _ hb h => IsSl.below h hb, ?_⟩)
      exact fun _ h => by cases h
    case mops =>
      simp only [List.take_succ_cons, List.take_zero, monoAll, List.getD_cons_zero, List.getD_cons_succ]
      iterate 16
       (refine ⟨fun x wr hb hd Qg hK => ?_, ?_⟩
        · as_aux_lemma =>
          simp only [fill, Act.put, List.setIfInBounds_toArray, List.set_cons_succ, List.set_cons_zero, needs, Region.binds, List.filter_cons, List.filter_nil, List.map_cons, List.map_nil, if_true, List.mem_cons, List.not_mem_nil, or_false, forall_eq_or_imp, forall_eq, List.getD_cons_zero, List.getD_cons_succ, false_implies, implies_true] at hd hK ⊢
          (try simp only [hd] at hK ⊢)
          first
          | (fail)
          | (go_wp2_with fail; exact hK _ _ rfl (Below.refl _ _)))
      trivial
    case mfin =>
      intro z w9 hb9 hR
      have z15 := hR 15 (by decide)
      simp only [List.getD_cons_zero, List.getD_cons_succ] at z15
      have hw9 := HW.out.trans (hb9.mono (Nat.le_of_lt hlt))
      clear hR hb9
      simp only [List.drop_succ_cons, List.drop_zero]
      generalize List.toArray _ = L0
      simp only [List.take_succ_cons, List.take_zero, List.map_cons, List.map_nil, fill, Act.put, List.setIfInBounds_toArray, List.set_cons_succ, List.set_cons_zero, z15]
      clear z15
      go_wp2_with fail
      go_ret
      exact ⟨rfl, hw9⟩
end Go.Proofs.YtldokkbfahobgaaDoor

/-! BeginsS: The walk of Begins where the first number is not 0. Conditions: the proof can be read, at most 4096 hashes; the package's tables read as they are laid. -/
namespace Go.Proofs.YtldokkbfahobgaaDoor
open Go.RowKit

theorem two_lit (w : World) : (w.alloc (.cells z32.toArray 31)).alloc (.cells z32.toArray 31) = (w.alloc (.cells #[.int .u8 0, .int .u8 0, .int .u8 0, .int .u8 0, .int .u8 0, .int .u8 0, .int .u8 0, .int .u8 0, .int .u8 0, .int .u8 0, .int .u8 0, .int .u8 0, .int .u8 0, .int .u8 0, .int .u8 0, .int .u8 0, .int .u8 0, .int .u8 0, .int .u8 0, .int .u8 0, .int .u8 0, .int .u8 0, .int .u8 0, .int .u8 0, .int .u8 0, .int .u8 0, .int .u8 0, .int .u8 0, .int .u8 0, .int .u8 0, .int .u8 0, .int .u8 0] 31)).alloc (.cells #[.int .u8 0, .int .u8 0, .int .u8 0, .int .u8 0, .int .u8 0, .int .u8 0, .int .u8 0, .int .u8 0, .int .u8 0, .int .u8 0, .int .u8 0, .int .u8 0, .int .u8 0, .int .u8 0, .int .u8 0, .int .u8 0, .int .u8 0, .int .u8 0, .int .u8 0, .int .u8 0, .int .u8 0, .int .u8 0, .int .u8 0, .int .u8 0, .int .u8 0, .int .u8 0, .int .u8 0, .int .u8 0, .int .u8 0, .int .u8 0, .int .u8 0, .int .u8 0] 31) := by rw [z32_arr]
/-- Two hashes laid in new blocks. -/
def twoW (w : World) (p q : H) : World := (((w.alloc (.cells #[.int .u8 0, .int .u8 0, .int .u8 0, .int .u8 0, .int .u8 0, .int .u8 0, .int .u8 0, .int .u8 0, .int .u8 0, .int .u8 0, .int .u8 0, .int .u8 0, .int .u8 0, .int .u8 0, .int .u8 0, .int .u8 0, .int .u8 0, .int .u8 0, .int .u8 0, .int .u8 0, .int .u8 0, .int .u8 0, .int .u8 0, .int .u8 0, .int .u8 0, .int .u8 0, .int .u8 0, .int .u8 0, .int .u8 0, .int .u8 0, .int .u8 0, .int .u8 0] 31)).alloc (.cells #[.int .u8 0, .int .u8 0, .int .u8 0, .int .u8 0, .int .u8 0, .int .u8 0, .int .u8 0, .int .u8 0, .int .u8 0, .int .u8 0, .int .u8 0, .int .u8 0, .int .u8 0, .int .u8 0, .int .u8 0, .int .u8 0, .int .u8 0, .int .u8 0, .int .u8 0, .int .u8 0, .int .u8 0, .int .u8 0, .int .u8 0, .int .u8 0, .int .u8 0, .int .u8 0, .int .u8 0, .int .u8 0, .int .u8 0, .int .u8 0, .int .u8 0, .int .u8 0] 31)).setRow w.heap.size (bytesV p.b).toArray).setRow (w.heap.size + 1) (bytesV q.b).toArray
theorem two_parts (w : World) (p q : H) : Below w.heap.size w (twoW w p q) ∧ (twoW w p q).heap.size = w.heap.size + 1 + 1 ∧ Blk (twoW w p q) w.heap.size (bytesV p.b) 31 ∧ Blk (twoW w p q) (w.heap.size + 1) (bytesV q.b) 31 ∧
    Blk ((w.alloc (.cells #[.int .u8 0, .int .u8 0, .int .u8 0, .int .u8 0, .int .u8 0, .int .u8 0, .int .u8 0, .int .u8 0, .int .u8 0, .int .u8 0, .int .u8 0, .int .u8 0, .int .u8 0, .int .u8 0, .int .u8 0, .int .u8 0, .int .u8 0, .int .u8 0, .int .u8 0, .int .u8 0, .int .u8 0, .int .u8 0, .int .u8 0, .int .u8 0, .int .u8 0, .int .u8 0, .int .u8 0, .int .u8 0, .int .u8 0, .int .u8 0, .int .u8 0, .int .u8 0] 31)).alloc (.cells #[.int .u8 0, .int .u8 0, .int .u8 0, .int .u8 0, .int .u8 0, .int .u8 0, .int .u8 0, .int .u8 0, .int .u8 0, .int .u8 0, .int .u8 0, .int .u8 0, .int .u8 0, .int .u8 0, .int .u8 0, .int .u8 0, .int .u8 0, .int .u8 0, .int .u8 0, .int .u8 0, .int .u8 0, .int .u8 0, .int .u8 0, .int .u8 0, .int .u8 0, .int .u8 0, .int .u8 0, .int .u8 0, .int .u8 0, .int .u8 0, .int .u8 0, .int .u8 0] 31)) w.heap.size z32 31 ∧ Blk (((w.alloc (.cells #[.int .u8 0, .int .u8 0, .int .u8 0, .int .u8 0, .int .u8 0, .int .u8 0, .int .u8 0, .int .u8 0, .int .u8 0, .int .u8 0, .int .u8 0, .int .u8 0, .int .u8 0, .int .u8 0, .int .u8 0, .int .u8 0, .int .u8 0, .int .u8 0, .int .u8 0, .int .u8 0, .int .u8 0, .int .u8 0, .int .u8 0, .int .u8 0, .int .u8 0, .int .u8 0, .int .u8 0, .int .u8 0, .int .u8 0, .int .u8 0, .int .u8 0, .int .u8 0] 31)).alloc (.cells #[.int .u8 0, .int .u8 0, .int .u8 0, .int .u8 0, .int .u8 0, .int .u8 0, .int .u8 0, .int .u8 0, .int .u8 0, .int .u8 0, .int .u8 0, .int .u8 0, .int .u8 0, .int .u8 0, .int .u8 0, .int .u8 0, .int .u8 0, .int .u8 0, .int .u8 0, .int .u8 0, .int .u8 0, .int .u8 0, .int .u8 0, .int .u8 0, .int .u8 0, .int .u8 0, .int .u8 0, .int .u8 0, .int .u8 0, .int .u8 0, .int .u8 0, .int .u8 0] 31)).setRow w.heap.size (bytesV p.b).toArray) (w.heap.size + 1) z32 31 := by
  unfold twoW
  rw [← two_lit]
  have h1 : Blk ((w.alloc (.cells z32.toArray 31)).alloc (.cells z32.toArray 31)) w.heap.size z32 31 := (Blk.newL w z32 _).alloc _
  have h2 : Blk ((w.alloc (.cells z32.toArray 31)).alloc (.cells z32.toArray 31)) (w.heap.size + 1) z32 31 := Blk.newL1 w _ z32 _
  have h3 : Blk (((w.alloc (.cells z32.toArray 31)).alloc (.cells z32.toArray 31)).setRow w.heap.size (bytesV p.b).toArray) (w.heap.size + 1) z32 31 := h2.setRow_other (by omega) _
  have h0 : Below w.heap.size w ((w.alloc (.cells z32.toArray 31)).alloc (.cells z32.toArray 31)) := by (repeat (first | with_reducible assumption | with_reducible exact Below.refl _ _ | ((with_reducible refine Below.setCell ?_ ?_ _); rotate_left; focus (first | omega | (simp; done) | (simp; omega))) | ((with_reducible refine Below.alloc ?_ ?_ _); rotate_left; focus (first | omega | (simp; done) | (simp; omega))) | ((with_reducible refine below_setRow ?_ ?_ _); rotate_left; focus (first | omega | (simp; done) | (simp; omega))) | (with_reducible refine below_drewN ?_ _) | (with_reducible refine Below.drew ?_)))
  exact ⟨below_setRow (below_setRow h0 (by omega) _) (by omega) _, by simp, (h1.setRow _).setRow_other (by omega) _, h3.setRow _, h1, h3⟩
set_option maxRecDepth 100000 in
set_option maxHeartbeats 4000000 in
theorem begins_some (w : World) (x y : H) (m n : Int) (pv : Value) (P : List H) (hs : Hs w pv P) (hl : P.length ≤ 4096) (hg : Glob w) (hm : m ≠ 0) (c b1 b2 : Bool) (p q : H) (hc : (bothR x m n P).isSome = c) (hp : ((bothR x m n P).getD (z0H, z0H)).1 = p) (hq : ((bothR x m n P).getD (z0H, z0H)).2 = q) (hb1 : (p.b == x.b) = b1) (hb2 : (q.b == y.b) = b2) :
    Calls Tryd.prog 24 #[.int .i64 m, .int .i64 n, hv x, hv y, pv] w fun e w' => e = .returned (.bool (c && b1 && b2)) ∧ Below w.heap.size w w' := by
  obtain ⟨w1, hw1⟩ : ∃ w1, w1 = (w.alloc (.cells (bytesV x.b).toArray 31)).alloc (.cells (bytesV y.b).toArray 31) := ⟨_, rfl⟩
  have hbw : Below w.heap.size w w1 := by rw [hw1]; (repeat (first | with_reducible assumption | with_reducible exact Below.refl _ _ | ((with_reducible refine Below.setCell ?_ ?_ _); rotate_left; focus (first | omega | (simp; done) | (simp; omega))) | ((with_reducible refine Below.alloc ?_ ?_ _); rotate_left; focus (first | omega | (simp; done) | (simp; omega))) | ((with_reducible refine below_setRow ?_ ?_ _); rotate_left; focus (first | omega | (simp; done) | (simp; omega))) | (with_reducible refine below_drewN ?_ _) | (with_reducible refine Below.drew ?_)))
  have hs1 : w1.heap.size = w.heap.size + 1 + 1 := by rw [hw1]; simp
  have hX : Blk w1 w.heap.size (bytesV x.b) 31 := by rw [hw1]; exact (Blk.newL w _ _).alloc _
  have hY : Blk w1 (w.heap.size + 1) (bytesV y.b) 31 := by rw [hw1]; exact Blk.newL1 w _ _ _
  have hne : ((m : Int) == 0) = false := by rw [beq_eq_false_iff_ne]; exact hm
  have hcall := both_any w1 x m n pv P (hs.below hbw) hl (hg.below hbw)
  rw [hc, hp, hq] at hcall
  have HC := Lib.hid hcall
  have HX0 := Lib.hid (hw1 ▸ hX)
  have HX := Lib.hid hX
  have HY := Lib.hid hY
  have HW := Lib.hid hw1
  have HB1 := Lib.hid hb1
  have HB2 := Lib.hid hb2
  clear hX hY hs hg hw1 hp hq hc hb1 hb2 hm hcall
  unfold hv
  cases c with
  | false =>
    show Calls _ _ _ _ fun e w' => e = .returned (.bool false) ∧ Below w.heap.size w w'
    go_enter Tryd.func24, Tryd.ntmps24
    go_wp2_with (first
      | (refine wpList_load_row rfl 31 (.tmp 7) rfl w.heap.size rfl 31 (bytesV x.b).toArray (0, 0) _ (by exact HX0.out) Tryd.underlying31 rfl (by exact hv_row _) ?_)
      | (go_at_call 39; refine calls_eq HW.out (HC.out.mono ?_); rintro e w2 ⟨rfl, hb2⟩; unfold hv; have hw2 := hbw.trans (hb2.mono hbw.size); obtain ⟨t0, t1, _, _, t4, t5⟩ := two_parts w2 p q; have hw3 := hw2.trans (t0.mono hw2.size); have T4 := Lib.hid t4; have T5 := Lib.hid t5; clear hb2 t0 t1 t4 t5)
      | (refine wpList_store_row rfl 31 (.tmp 11) (.tmp 38) rfl w2.heap.size (bytesV p.b).toArray rfl rfl 31 z32.toArray (by exact T4.out) (by exact hv_row _) (by exact z32_old _) (by exact hv_one _) ?_)
      | (refine wpList_store_row rfl 31 (.tmp 12) (.tmp 39) rfl (w2.heap.size + 1) (bytesV q.b).toArray rfl rfl 31 z32.toArray (by exact T5.out) (by exact hv_row _) (by exact z32_old _) (by exact hv_one _) ?_)
      | fail)
    go_ret
    exact ⟨rfl, hw3⟩
  | true =>
    show Calls _ _ _ _ fun e w' => e = .returned (.bool (b1 && b2)) ∧ Below w.heap.size w w'
    cases b1 with
    | false =>
      show Calls _ _ _ _ fun e w' => e = .returned (.bool false) ∧ Below w.heap.size w w'
      go_enter Tryd.func24, Tryd.ntmps24
      go_wp2_with (first
        | (refine wpList_load_row rfl 31 (.tmp 7) rfl w.heap.size rfl 31 (bytesV x.b).toArray (0, 0) _ (by exact HX0.out) Tryd.underlying31 rfl (by exact hv_row _) ?_)
        | (go_at_call 39; refine calls_eq HW.out (HC.out.mono ?_); rintro e w2 ⟨rfl, hb2⟩; unfold hv; have hw2 := hbw.trans (hb2.mono hbw.size); obtain ⟨t0, t1, t2, _, t4, t5⟩ := two_parts w2 p q; have hw3 := hw2.trans (t0.mono hw2.size); have HX3 := Lib.hid ((HX.out.below hb2 HX.out.lt).below t0 (Nat.lt_of_lt_of_le HX.out.lt hb2.size)); have T2 := Lib.hid t2; have T4 := Lib.hid t4; have T5 := Lib.hid t5; clear hb2 t0 t1 t2 t4 t5)
        | (refine wpList_store_row rfl 31 (.tmp 11) (.tmp 38) rfl w2.heap.size (bytesV p.b).toArray rfl rfl 31 z32.toArray (by exact T4.out) (by exact hv_row _) (by exact z32_old _) (by exact hv_one _) ?_)
        | (refine wpList_store_row rfl 31 (.tmp 12) (.tmp 39) rfl (w2.heap.size + 1) (bytesV q.b).toArray rfl rfl 31 z32.toArray (by exact T5.out) (by exact hv_row _) (by exact z32_old _) (by exact hv_one _) ?_)
        | (refine wpList_load_rowIf rfl 31 (.tmp 11) rfl w2.heap.size rfl 31 (bytesV p.b).toArray (0, 0) _ (by exact T2.out) Tryd.underlying31 rfl (by exact hv_row _) ?_)
        | (refine wpList_load_rowIf rfl 31 (.tmp 7) rfl w.heap.size rfl 31 (bytesV x.b).toArray (0, 0) _ (by exact HX3.out) Tryd.underlying31 rfl (by exact hv_row _) ?_)
        | (go_at_call 38; refine (equal_any p.b x.b _ p.len x.len).mono ?_; rintro e w5 ⟨rfl, hb5⟩; rw [HB1.out])
        | fail)
      go_ret
      exact ⟨rfl, hw3.trans (hb5.mono hw3.size)⟩
    | true =>
      show Calls _ _ _ _ fun e w' => e = .returned (.bool b2) ∧ Below w.heap.size w w'
      have HB12 := Lib.hid HB2
      clear HB2
      go_enter Tryd.func24, Tryd.ntmps24
      go_wp2_with (first
        | (refine wpList_load_row rfl 31 (.tmp 7) rfl w.heap.size rfl 31 (bytesV x.b).toArray (0, 0) _ (by exact HX0.out) Tryd.underlying31 rfl (by exact hv_row _) ?_)
        | (go_at_call 39; refine calls_eq HW.out (HC.out.mono ?_); rintro e w2 ⟨rfl, hb2⟩; unfold hv; have hw2 := hbw.trans (hb2.mono hbw.size); obtain ⟨t0, t1, t2, t3, t4, t5⟩ := two_parts w2 p q; have hw3 := hw2.trans (t0.mono hw2.size); have HX3 := Lib.hid ((HX.out.below hb2 HX.out.lt).below t0 (Nat.lt_of_lt_of_le HX.out.lt hb2.size)); have HY3 := Lib.hid ((HY.out.below hb2 HY.out.lt).below t0 (Nat.lt_of_lt_of_le HY.out.lt hb2.size)); have T2 := Lib.hid t2; have T3 := Lib.hid t3; have T4 := Lib.hid t4; have T5 := Lib.hid t5; clear hb2 t0 t1 t2 t3 t4 t5)
        | (refine wpList_store_row rfl 31 (.tmp 11) (.tmp 38) rfl w2.heap.size (bytesV p.b).toArray rfl rfl 31 z32.toArray (by exact T4.out) (by exact hv_row _) (by exact z32_old _) (by exact hv_one _) ?_)
        | (refine wpList_store_row rfl 31 (.tmp 12) (.tmp 39) rfl (w2.heap.size + 1) (bytesV q.b).toArray rfl rfl 31 z32.toArray (by exact T5.out) (by exact hv_row _) (by exact z32_old _) (by exact hv_one _) ?_)
        | (refine wpList_load_rowIf rfl 31 (.tmp 11) rfl w2.heap.size rfl 31 (bytesV p.b).toArray (0, 0) _ (by exact T2.out) Tryd.underlying31 rfl (by exact hv_row _) ?_)
        | (refine wpList_load_rowIf rfl 31 (.tmp 7) rfl w.heap.size rfl 31 (bytesV x.b).toArray (0, 0) _ (by exact HX3.out) Tryd.underlying31 rfl (by exact hv_row _) ?_)
        | (go_at_call 38; have hb1 := HB1.out; refine (equal_any p.b x.b _ p.len x.len).mono ?_; rintro e w5 ⟨rfl, hb5⟩; rw [hb1]; clear hb1; have HB2 := Lib.hid HB12.out.out; have T35 := Lib.hid (T3.out.below hb5 T3.out.lt); have HY5 := Lib.hid (HY3.out.below hb5 HY3.out.lt); have hw5 := hw3.trans (hb5.mono hw3.size); clear HB1 hb5)
        | (refine wpList_load_rowIf rfl 31 (.tmp 12) rfl (w2.heap.size + 1) rfl 31 (bytesV q.b).toArray (0, 0) _ (by exact T35.out) Tryd.underlying31 rfl (by exact hv_row _) ?_)
        | (refine wpList_load_rowIf rfl 31 (.tmp 8) rfl (w.heap.size + 1) rfl 31 (bytesV y.b).toArray (0, 0) _ (by exact HY5.out) Tryd.underlying31 rfl (by exact hv_row _) ?_)
        | (go_at_call 38; refine (equal_any q.b y.b _ q.len y.len).mono ?_; rintro e w6 ⟨rfl, hb6⟩; rw [HB2.out])
        | fail)
      go_ret
      exact ⟨rfl, hw5.trans (hb6.mono hw5.size)⟩
end Go.Proofs.YtldokkbfahobgaaDoor
