/- The walk of the reference's Begins where the first number is 0. The walks of the reference's Both, whatever the numbers, and of both Begins. Path and Prove, and the reference's, whatever the number. What paths and proofs come to, in plain Lean: for the laws of layer 6. No condition. Conditions: what each part says. -/
import Derived.Test.YtldokkbfahobgaaDoorRef6U
import Derived.Test.YtldokkbfahobgaaDoorBeginsW
import Derived.Test.YtldokkbfahobgaaDoorRef6W
import Derived.Test.YtldokkbfahobgaaDoorPathW
/-! Ref6Z: The walk of the reference's Begins where the first number is 0. Conditions: the proof can be read; the package's tables read as they are laid. -/
namespace Go.Proofs.YtldokkbfahobgaaDoor
open Go.RowKit

set_option maxRecDepth 100000 in
set_option maxHeartbeats 1000000 in
theorem refbegins_zero (w : World) (h y : H) (n : Int) (pv : Value) (P : List H) (hs : Hs w pv P) (hg : Glob w) :
    Calls Tryd.prog 26 #[.int .i64 0, .int .i64 n, hv h, hv y, pv] w fun e w' => e = .returned (.bool (decide (0 ≤ n) && decide (n ≤ 1048576) && decide (P.length = 0) && (h.b == e0H.b))) ∧ Below w.heap.size w w' := by
  obtain ⟨xa, ca, rfl, _⟩ := hs.form
  obtain ⟨b, hb⟩ : ∃ b, b = (h.b == e0H.b) := ⟨_, rfl⟩
  rw [← hb]
  obtain ⟨w1, hw1⟩ : ∃ w1, w1 = (w.alloc (.cells (bytesV h.b).toArray 31)).alloc (.cells (bytesV y.b).toArray 31) := ⟨_, rfl⟩
  have hbw : Below w.heap.size w w1 := by rw [hw1]; (repeat (first | with_reducible assumption | with_reducible exact Below.refl _ _ | ((with_reducible refine Below.setCell ?_ ?_ _); rotate_left; focus (first | omega | (simp; done) | (simp; omega))) | ((with_reducible refine Below.alloc ?_ ?_ _); rotate_left; focus (first | omega | (simp; done) | (simp; omega))) | ((with_reducible refine below_setRow ?_ ?_ _); rotate_left; focus (first | omega | (simp; done) | (simp; omega))) | (with_reducible refine below_drewN ?_ _) | (with_reducible refine Below.drew ?_)))
  have hs1 : w1.heap.size = w.heap.size + 1 + 1 := by rw [hw1]; simp
  have hX : Blk w1 w.heap.size (bytesV h.b) 31 := by rw [hw1]; exact (Blk.newL w _ _).alloc _
  have HX := Lib.hid (hw1 ▸ hX)
  have HG := Lib.hid (hw1 ▸ hg.below hbw)
  have HW := Lib.hid (hw1 ▸ hbw)
  have HB := Lib.hid hb
  have hlt : w.heap.size < ((w.alloc (.cells (bytesV h.b).toArray 31)).alloc (.cells (bytesV y.b).toArray 31)).heap.size := by simp; omega
  clear hX hs hg hw1 hbw hs1 w1 hb
  unfold hv
  by_cases h1 : 0 ≤ n
  · have g1 : decide ((0 : Int) ≤ n) = true := decide_eq_true h1
    by_cases h2 : n ≤ 1048576
    · have g2 : decide ((n : Int) ≤ 1048576) = true := decide_eq_true h2
      by_cases h3 : P.length = 0
      · have g3 : ((P.length : Int) == 0) = true := by rw [beq_iff_eq]; omega
        have g4 : decide (P.length = 0) = true := decide_eq_true h3
        rw [g1, g2, g4, Bool.true_and, Bool.true_and, Bool.true_and]
        clear h1 h2 h3 g4
        have heq : ∀ w, (Op.equalIn 10000 31 (.agg (bytesV h.b).toArray) (.agg (bytesV e0H.b).toArray)).run Tryd.prog w = .ok b w := fun w => by rw [eq_hash w h.b e0H.b h.len e0H.len, ← HB.out]
        go_enter Tryd.func26, Tryd.ntmps26
        go_wp2_with fail
        refine wp_region_mono 16 (((w.alloc (.cells (bytesV h.b).toArray 31)).alloc (.cells (bytesV y.b).toArray 31)).heap.size) [(fun v _ => v = .int .i64 n), (fun v _ => v = .bool true), (fun v _ => v = .bool true), (fun v _ => v = .int .i64 n), (fun v _ => v = .bool true), (fun v _ => v = .bool true), (fun v _ => v = .bool true),
          (fun v _ => v = .slice xa P.length ca), (fun v _ => v = .int .i64 P.length), (fun v _ => v = .bool true), (fun v _ => v = .bool true), (fun v _ => v = .bool true), (fun v _ => v = .agg (bytesV h.b).toArray), (fun v _ => v = .agg (bytesV e0H.b).toArray), (fun v _ => v = .bool b), (fun v _ => v = .bool b)] (by kernel_rfl) (by kernel_rfl) (Nat.le_refl _) ?mkept _ rfl ?mops ?mfin
        case mkept =>
          repeat (refine List.forall_mem_cons.2 ⟨by first | exact fun _ _ _ _ h => h | exact fun _ _ _ hb h => Parts.below h hb | exact fun _ _ _ hb h => IsSl.below h hb, ?_⟩)
          exact fun _ h => by cases h
        case mops =>
          simp only [List.take_succ_cons, List.take_zero, monoAll, List.getD_cons_zero, List.getD_cons_succ]
          iterate 16
          
           (refine ⟨fun x wr hb hd Qg hK => ?_, ?_⟩
            · as_aux_lemma =>
              simp only [fill, Act.put, List.setIfInBounds_toArray, List.set_cons_succ, List.set_cons_zero, needs, Region.binds, List.filter_cons, List.filter_nil, List.map_cons, List.map_nil, if_true, List.mem_cons, List.not_mem_nil, or_false, forall_eq_or_imp, forall_eq, List.getD_cons_zero, List.getD_cons_succ, false_implies, implies_true] at hd hK ⊢
              (try simp only [hd] at hK ⊢)
              first
              | (have hBr := HX.out.below hb (hlt); refine wpList_load_rowIf rfl 31 (.tmp 7) rfl _ rfl 31 (bytesV h.b).toArray (0, 0) _ (by exact hBr) Tryd.underlying31 rfl (hv_row h) ?_; exact hK _ _ rfl (Below.refl _ _))
              | (show wpList _ _ _ [⟨some 29, .call _, _, _, _, _⟩] _ _; go_wp2_with (go_at_call 40; refine (refsum_any (.slice none 0 0) [] wr (IsSl.nil wr 1) (by decide) (HG.out.below hb)).mono ?_; rintro e w5 ⟨rfl, hb5⟩); exact hK _ _ (rfl) hb5)
              | (go_wp2_with fail; exact hK _ _ rfl (Below.refl _ _)))
          trivial
        case mfin =>
          intro z w9 hb9 hR
          have z15 := hR 15 (by decide)
          simp only [List.getD_cons_zero, List.getD_cons_succ] at z15
          have hw9 := HW.out.trans (hb9.mono (Nat.le_of_lt hlt))
          clear hR hb9
          simp only [List.drop_succ_cons, List.drop_zero]
          generalize List.toArray _ = L0
          simp only [List.take_succ_cons, List.take_zero, List.map_cons, List.map_nil, fill, Act.put, List.setIfInBounds_toArray, List.set_cons_succ, List.set_cons_zero, z15]
          clear z15
          go_wp2_with fail
          go_ret
          exact ⟨rfl, hw9⟩
      · have g3 : ((P.length : Int) == 0) = false := by rw [beq_eq_false_iff_ne]; omega
        rw [g1, g2, show decide (P.length = 0) = false from decide_eq_false h3, Bool.true_and, Bool.true_and, Bool.false_and]
        clear h1 h2 h3
        go_enter Tryd.func26, Tryd.ntmps26
        go_wp2_with fail
        refine wp_region_mono 16 (((w.alloc (.cells (bytesV h.b).toArray 31)).alloc (.cells (bytesV y.b).toArray 31)).heap.size) [(fun v _ => v = .int .i64 n), (fun v _ => v = .bool true), (fun v _ => v = .bool true), (fun v _ => v = .int .i64 n), (fun v _ => v = .bool true), (fun v _ => v = .bool true), (fun v _ => v = .bool true), (fun v _ => v = .slice xa P.length ca), (fun v _ => v = .int .i64 P.length), (fun v _ => v = .bool false), (fun v _ => v = .bool false), (fun v _ => v = .bool false), (fun v _ => v = undef), (fun v _ => v = undef), (fun v _ => v = undef), (fun v _ => v = .bool false)] (by kernel_rfl) (by kernel_rfl) (Nat.le_refl _) ?mkept _ rfl ?mops ?mfin
        case mkept =>
          repeat (refine List.forall_mem_cons.2 ⟨by first | exact fun _ _ _ _ h => h | exact fun _ _ _ hb h => Parts.below h hb | exact fun _ _ _ hb h => IsSl.below h hb, ?_⟩)
          exact fun _ h => by cases h
        case mops =>
          simp only [List.take_succ_cons, List.take_zero, monoAll, List.getD_cons_zero, List.getD_cons_succ]
          iterate 16
           (refine ⟨fun x wr hb hd Qg hK => ?_, ?_⟩
            · as_aux_lemma =>
              simp only [fill, Act.put, List.setIfInBounds_toArray, List.set_cons_succ, List.set_cons_zero, needs, Region.binds, List.filter_cons, List.filter_nil, List.map_cons, List.map_nil, if_true, List.mem_cons, List.not_mem_nil, or_false, forall_eq_or_imp, forall_eq, List.getD_cons_zero, List.getD_cons_succ, false_implies, implies_true] at hd hK ⊢
              (try simp only [hd] at hK ⊢)
              first
              | (fail)
              | (go_wp2_with fail; exact hK _ _ rfl (Below.refl _ _)))
          trivial
        case mfin =>
          intro z w9 hb9 hR
          have z15 := hR 15 (by decide)
          simp only [List.getD_cons_zero, List.getD_cons_succ] at z15
          have hw9 := HW.out.trans (hb9.mono (Nat.le_of_lt hlt))
          clear hR hb9
          simp only [List.drop_succ_cons, List.drop_zero]
          generalize List.toArray _ = L0
          simp only [List.take_succ_cons, List.take_zero, List.map_cons, List.map_nil, fill, Act.put, List.setIfInBounds_toArray, List.set_cons_succ, List.set_cons_zero, z15]
          clear z15
          go_wp2_with fail
          go_ret
          exact ⟨rfl, hw9⟩
    · have g2 : decide ((n : Int) ≤ 1048576) = false := decide_eq_false h2
      rw [g1, g2, Bool.true_and, Bool.false_and, Bool.false_and]
      clear h1 h2
      go_enter Tryd.func26, Tryd.ntmps26
      go_wp2_with fail
      refine wp_region_mono 16 (((w.alloc (.cells (bytesV h.b).toArray 31)).alloc (.cells (bytesV y.b).toArray 31)).heap.size) [(fun v _ => v = .int .i64 n), (fun v _ => v = .bool true), (fun v _ => v = .bool true), (fun v _ => v = .int .i64 n), (fun v _ => v = .bool false), (fun v _ => v = .bool false), (fun v _ => v = .bool false), (fun v _ => v = undef), (fun v _ => v = undef), (fun v _ => v = undef), (fun v _ => v = .bool false), (fun v _ => v = .bool false), (fun v _ => v = undef), (fun v _ => v = undef), (fun v _ => v = undef), (fun v _ => v = .bool false)] (by kernel_rfl) (by kernel_rfl) (Nat.le_refl _) ?mkept _ rfl ?mops ?mfin
      case mkept =>
        repeat (refine List.forall_mem_cons.2 ⟨by first | exact fun _ _ _ _ h => h | exact fun _ _ _ hb h => Parts.below h hb | exact fun _ _ _ hb h => IsSl.below h hb, ?_⟩)
        exact fun _ h => by cases h
      case mops =>
        simp only [List.take_succ_cons, List.take_zero, monoAll, List.getD_cons_zero, List.getD_cons_succ]
        iterate 16
         (refine ⟨fun x wr hb hd Qg hK => ?_, ?_⟩
          · as_aux_lemma =>
            simp only [fill, Act.put, List.setIfInBounds_toArray, List.set_cons_succ, List.set_cons_zero, needs, Region.binds, List.filter_cons, List.filter_nil, List.map_cons, List.map_nil, if_true, List.mem_cons, List.not_mem_nil, or_false, forall_eq_or_imp, forall_eq, List.getD_cons_zero, List.getD_cons_succ, false_implies, implies_true] at hd hK ⊢
            (try simp only [hd] at hK ⊢)
            first
            | (fail)
            | (go_wp2_with fail; exact hK _ _ rfl (Below.refl _ _)))
        trivial
      case mfin =>
        intro z w9 hb9 hR
        have z15 := hR 15 (by decide)
        simp only [List.getD_cons_zero, List.getD_cons_succ] at z15
        have hw9 := HW.out.trans (hb9.mono (Nat.le_of_lt hlt))
        clear hR hb9
        simp only [List.drop_succ_cons, List.drop_zero]
        generalize List.toArray _ = L0
        simp only [List.take_succ_cons, List.take_zero, List.map_cons, List.map_nil, fill, Act.put, List.setIfInBounds_toArray, List.set_cons_succ, List.set_cons_zero, z15]
        clear z15
        go_wp2_with fail
        go_ret
        exact ⟨rfl, hw9⟩
  · have g1 : decide ((0 : Int) ≤ n) = false := decide_eq_false h1
    rw [g1, Bool.false_and, Bool.false_and, Bool.false_and]
    clear h1
    go_enter Tryd.func26, Tryd.ntmps26
    go_wp2_with fail
    refine wp_region_mono 16 (((w.alloc (.cells (bytesV h.b).toArray 31)).alloc (.cells (bytesV y.b).toArray 31)).heap.size) [(fun v _ => v = .int .i64 n), (fun v _ => v = .bool false), (fun v _ => v = .bool false), (fun v _ => v = undef), (fun v _ => v = undef), (fun v _ => v = .bool false), (fun v _ => v = .bool false), (fun v _ => v = undef), (fun v _ => v = undef), (fun v _ => v = undef), (fun v _ => v = .bool false), (fun v _ => v = .bool false), (fun v _ => v = undef), (fun v _ => v = undef), (fun v _ => v = undef), (fun v _ => v = .bool false)] (by kernel_rfl) (by kernel_rfl) (Nat.le_refl _) ?mkept _ rfl ?mops ?mfin
    case mkept =>
      repeat (refine List.forall_mem_cons.2 ⟨by first | exact fun _ _ _ _ h => h | exact fun _ _ _ hb h => Parts.below h hb | exact fun _ _ _ hb h => IsSl.below h hb, ?_⟩)
      exact fun _ h => by cases h
    case mops =>
      simp only [List.take_succ_cons, List.take_zero, monoAll, List.getD_cons_zero, List.getD_cons_succ]
      iterate 16
       (refine ⟨fun x wr hb hd Qg hK => ?_, ?_⟩
        · as_aux_lemma =>
          simp only [fill, Act.put, List.setIfInBounds_toArray, List.set_cons_succ, List.set_cons_zero, needs, Region.binds, List.filter_cons, List.filter_nil, List.map_cons, List.map_nil, if_true, List.mem_cons, List.not_mem_nil, or_false, forall_eq_or_imp, forall_eq, List.getD_cons_zero, List.getD_cons_succ, false_implies, implies_true] at hd hK ⊢
          (try simp only [hd] at hK ⊢)
          first
          | (fail)
          | (go_wp2_with fail; exact hK _ _ rfl (Below.refl _ _)))
      trivial
    case mfin =>
      intro z w9 hb9 hR
      have z15 := hR 15 (by decide)
      simp only [List.getD_cons_zero, List.getD_cons_succ] at z15
      have hw9 := HW.out.trans (hb9.mono (Nat.le_of_lt hlt))
      clear hR hb9
      simp only [List.drop_succ_cons, List.drop_zero]
      generalize List.toArray _ = L0
      simp only [List.take_succ_cons, List.take_zero, List.map_cons, List.map_nil, fill, Act.put, List.setIfInBounds_toArray, List.set_cons_succ, List.set_cons_zero, z15]
      clear z15
      go_wp2_with fail
      go_ret
      exact ⟨rfl, hw9⟩
end Go.Proofs.YtldokkbfahobgaaDoor

/-! Ref6G: The walks of the reference's Both, whatever the numbers, and of both Begins. Conditions: the proof can be read, at most 4096 hashes; the package's tables read as they are laid. -/
namespace Go.Proofs.YtldokkbfahobgaaDoor
open Go.RowKit

theorem refboth_any (w : World) (x : H) (m n : Int) (pv : Value) (P : List H) (hs : Hs w pv P) (hl : P.length ≤ 4096) (hg : Glob w) :
    Calls Tryd.prog 43 #[.int .i64 m, .int .i64 n, hv x, pv] w fun e w' => e = .returned (.tuple #[hv ((bothR x m n P).getD (z0H, z0H)).1, hv ((bothR x m n P).getD (z0H, z0H)).2, .bool (bothR x m n P).isSome]) ∧ Below w.heap.size w w' := by
  rw [← bothV1_eq, ← bothV2_eq]
  by_cases h : 1 ≤ m ∧ m ≤ n ∧ n ≤ 1048576
  · obtain ⟨a, rfl⟩ : ∃ a : Nat, m = a := ⟨m.toNat, by omega⟩
    obtain ⟨b, rfl⟩ : ∃ b : Nat, n = b := ⟨n.toNat, by omega⟩
    rw [show bothR x (a : Int) (b : Int) P = bothN ndH x b a P from if_pos h]
    exact refboth_ok w x a b pv P hs hl hg (by omega) (by omega) (by omega)
  · rw [show bothR x m n P = none from if_neg h]
    exact refboth_bad w x m n pv (by omega)
set_option maxRecDepth 100000 in
set_option maxHeartbeats 4000000 in
theorem refbegins_some (w : World) (x y : H) (m n : Int) (pv : Value) (P : List H) (hs : Hs w pv P) (hl : P.length ≤ 4096) (hg : Glob w) (hm : m ≠ 0) (c b1 b2 : Bool) (p q : H) (hc : (bothR x m n P).isSome = c) (hp : ((bothR x m n P).getD (z0H, z0H)).1 = p) (hq : ((bothR x m n P).getD (z0H, z0H)).2 = q) (hb1 : (p.b == x.b) = b1) (hb2 : (q.b == y.b) = b2) :
    Calls Tryd.prog 26 #[.int .i64 m, .int .i64 n, hv x, hv y, pv] w fun e w' => e = .returned (.bool (c && b1 && b2)) ∧ Below w.heap.size w w' := by
  obtain ⟨w1, hw1⟩ : ∃ w1, w1 = (w.alloc (.cells (bytesV x.b).toArray 31)).alloc (.cells (bytesV y.b).toArray 31) := ⟨_, rfl⟩
  have hbw : Below w.heap.size w w1 := by rw [hw1]; (repeat (first | with_reducible assumption | with_reducible exact Below.refl _ _ | ((with_reducible refine Below.setCell ?_ ?_ _); rotate_left; focus (first | omega | (simp; done) | (simp; omega))) | ((with_reducible refine Below.alloc ?_ ?_ _); rotate_left; focus (first | omega | (simp; done) | (simp; omega))) | ((with_reducible refine below_setRow ?_ ?_ _); rotate_left; focus (first | omega | (simp; done) | (simp; omega))) | (with_reducible refine below_drewN ?_ _) | (with_reducible refine Below.drew ?_)))
  have hs1 : w1.heap.size = w.heap.size + 1 + 1 := by rw [hw1]; simp
  have hX : Blk w1 w.heap.size (bytesV x.b) 31 := by rw [hw1]; exact (Blk.newL w _ _).alloc _
  have hY : Blk w1 (w.heap.size + 1) (bytesV y.b) 31 := by rw [hw1]; exact Blk.newL1 w _ _ _
  have hne : ((m : Int) == 0) = false := by rw [beq_eq_false_iff_ne]; exact hm
  have hcall := refboth_any w1 x m n pv P (hs.below hbw) hl (hg.below hbw)
  rw [hc, hp, hq] at hcall
  have HC := Lib.hid hcall
  have HX0 := Lib.hid (hw1 ▸ hX)
  have HX := Lib.hid hX
  have HY := Lib.hid hY
  have HW := Lib.hid hw1
  have HB1 := Lib.hid hb1
  have HB2 := Lib.hid hb2
  clear hX hY hs hg hw1 hp hq hc hb1 hb2 hm hcall
  unfold hv
  cases c with
  | false =>
    show Calls _ _ _ _ fun e w' => e = .returned (.bool false) ∧ Below w.heap.size w w'
    go_enter Tryd.func26, Tryd.ntmps26
    go_wp2_with (first
      | (refine wpList_load_row rfl 31 (.tmp 7) rfl w.heap.size rfl 31 (bytesV x.b).toArray (0, 0) _ (by exact HX0.out) Tryd.underlying31 rfl (by exact hv_row _) ?_)
      | (go_at_call 43; refine calls_eq HW.out (HC.out.mono ?_); rintro e w2 ⟨rfl, hb2⟩; unfold hv; have hw2 := hbw.trans (hb2.mono hbw.size); obtain ⟨t0, t1, _, _, t4, t5⟩ := two_parts w2 p q; have hw3 := hw2.trans (t0.mono hw2.size); have T4 := Lib.hid t4; have T5 := Lib.hid t5; clear hb2 t0 t1 t4 t5)
      | (refine wpList_store_row rfl 31 (.tmp 11) (.tmp 38) rfl w2.heap.size (bytesV p.b).toArray rfl rfl 31 z32.toArray (by exact T4.out) (by exact hv_row _) (by exact z32_old _) (by exact hv_one _) ?_)
      | (refine wpList_store_row rfl 31 (.tmp 12) (.tmp 39) rfl (w2.heap.size + 1) (bytesV q.b).toArray rfl rfl 31 z32.toArray (by exact T5.out) (by exact hv_row _) (by exact z32_old _) (by exact hv_one _) ?_)
      | fail)
    go_ret
    exact ⟨rfl, hw3⟩
  | true =>
    show Calls _ _ _ _ fun e w' => e = .returned (.bool (b1 && b2)) ∧ Below w.heap.size w w'
    cases b1 with
    | false =>
      show Calls _ _ _ _ fun e w' => e = .returned (.bool false) ∧ Below w.heap.size w w'
      have heq : ∀ w, (Op.equalIn 10000 31 (.agg (bytesV p.b).toArray) (.agg (bytesV x.b).toArray)).run Tryd.prog w = .ok false w := fun w => by rw [eq_hash w p.b x.b p.len x.len, HB1.out]
      go_enter Tryd.func26, Tryd.ntmps26
      go_wp2_with (first
        | (refine wpList_load_row rfl 31 (.tmp 7) rfl w.heap.size rfl 31 (bytesV x.b).toArray (0, 0) _ (by exact HX0.out) Tryd.underlying31 rfl (by exact hv_row _) ?_)
        | (go_at_call 43; refine calls_eq HW.out (HC.out.mono ?_); rintro e w2 ⟨rfl, hb2⟩; unfold hv; have hw2 := hbw.trans (hb2.mono hbw.size); obtain ⟨t0, t1, t2, _, t4, t5⟩ := two_parts w2 p q; have hw3 := hw2.trans (t0.mono hw2.size); have HX3 := Lib.hid ((HX.out.below hb2 HX.out.lt).below t0 (Nat.lt_of_lt_of_le HX.out.lt hb2.size)); have T2 := Lib.hid t2; have T4 := Lib.hid t4; have T5 := Lib.hid t5; clear hb2 t0 t1 t2 t4 t5)
        | (refine wpList_store_row rfl 31 (.tmp 11) (.tmp 38) rfl w2.heap.size (bytesV p.b).toArray rfl rfl 31 z32.toArray (by exact T4.out) (by exact hv_row _) (by exact z32_old _) (by exact hv_one _) ?_)
        | (refine wpList_store_row rfl 31 (.tmp 12) (.tmp 39) rfl (w2.heap.size + 1) (bytesV q.b).toArray rfl rfl 31 z32.toArray (by exact T5.out) (by exact hv_row _) (by exact z32_old _) (by exact hv_one _) ?_)
        | (refine wpList_load_rowIf rfl 31 (.tmp 11) rfl w2.heap.size rfl 31 (bytesV p.b).toArray (0, 0) _ (by exact T2.out) Tryd.underlying31 rfl (by exact hv_row _) ?_)
        | (refine wpList_load_rowIf rfl 31 (.tmp 7) rfl w.heap.size rfl 31 (bytesV x.b).toArray (0, 0) _ (by exact HX3.out) Tryd.underlying31 rfl (by exact hv_row _) ?_)
        | fail)
      go_ret
      exact ⟨rfl, hw3⟩
    | true =>
      show Calls _ _ _ _ fun e w' => e = .returned (.bool b2) ∧ Below w.heap.size w w'
      have heq : ∀ w, (Op.equalIn 10000 31 (.agg (bytesV p.b).toArray) (.agg (bytesV x.b).toArray)).run Tryd.prog w = .ok true w := fun w => by rw [eq_hash w p.b x.b p.len x.len, HB1.out]
      have heq2 : ∀ w, (Op.equalIn 10000 31 (.agg (bytesV q.b).toArray) (.agg (bytesV y.b).toArray)).run Tryd.prog w = .ok b2 w := fun w => by rw [eq_hash w q.b y.b q.len y.len, HB2.out]
      go_enter Tryd.func26, Tryd.ntmps26
      go_wp2_with (first
        | (refine wpList_load_row rfl 31 (.tmp 7) rfl w.heap.size rfl 31 (bytesV x.b).toArray (0, 0) _ (by exact HX0.out) Tryd.underlying31 rfl (by exact hv_row _) ?_)
        | (go_at_call 43; refine calls_eq HW.out (HC.out.mono ?_); rintro e w2 ⟨rfl, hb2⟩; unfold hv; have hw2 := hbw.trans (hb2.mono hbw.size); obtain ⟨t0, t1, t2, t3, t4, t5⟩ := two_parts w2 p q; have hw3 := hw2.trans (t0.mono hw2.size); have HX3 := Lib.hid ((HX.out.below hb2 HX.out.lt).below t0 (Nat.lt_of_lt_of_le HX.out.lt hb2.size)); have HY3 := Lib.hid ((HY.out.below hb2 HY.out.lt).below t0 (Nat.lt_of_lt_of_le HY.out.lt hb2.size)); have T2 := Lib.hid t2; have T3 := Lib.hid t3; have T4 := Lib.hid t4; have T5 := Lib.hid t5; clear hb2 t0 t1 t2 t3 t4 t5)
        | (refine wpList_store_row rfl 31 (.tmp 11) (.tmp 38) rfl w2.heap.size (bytesV p.b).toArray rfl rfl 31 z32.toArray (by exact T4.out) (by exact hv_row _) (by exact z32_old _) (by exact hv_one _) ?_)
        | (refine wpList_store_row rfl 31 (.tmp 12) (.tmp 39) rfl (w2.heap.size + 1) (bytesV q.b).toArray rfl rfl 31 z32.toArray (by exact T5.out) (by exact hv_row _) (by exact z32_old _) (by exact hv_one _) ?_)
        | (refine wpList_load_rowIf rfl 31 (.tmp 11) rfl w2.heap.size rfl 31 (bytesV p.b).toArray (0, 0) _ (by exact T2.out) Tryd.underlying31 rfl (by exact hv_row _) ?_)
        | (refine wpList_load_rowIf rfl 31 (.tmp 7) rfl w.heap.size rfl 31 (bytesV x.b).toArray (0, 0) _ (by exact HX3.out) Tryd.underlying31 rfl (by exact hv_row _) ?_)
        | (refine wpList_load_rowIf rfl 31 (.tmp 12) rfl (w2.heap.size + 1) rfl 31 (bytesV q.b).toArray (0, 0) _ (by exact T3.out) Tryd.underlying31 rfl (by exact hv_row _) ?_)
        | (refine wpList_load_rowIf rfl 31 (.tmp 8) rfl (w.heap.size + 1) rfl 31 (bytesV y.b).toArray (0, 0) _ (by exact HY3.out) Tryd.underlying31 rfl (by exact hv_row _) ?_)
        | fail)
      go_ret
      exact ⟨rfl, hw3⟩
def begR (m n : Int) (x y : H) (P : List H) : Bool := if m = 0 then decide (0 ≤ n) && decide (n ≤ 1048576) && decide (P.length = 0) && (x.b == e0H.b) else (bothR x m n P).isSome && (((bothR x m n P).getD (z0H, z0H)).1.b == x.b) && (((bothR x m n P).getD (z0H, z0H)).2.b == y.b)
theorem begins_any (w : World) (x y : H) (m n : Int) (pv : Value) (P : List H) (hs : Hs w pv P) (hl : P.length ≤ 4096) (hg : Glob w) :
    Calls Tryd.prog 24 #[.int .i64 m, .int .i64 n, hv x, hv y, pv] w fun e w' => e = .returned (.bool (begR m n x y P)) ∧ Below w.heap.size w w' := by
  unfold begR
  by_cases hm : m = 0
  · subst hm
    rw [if_pos rfl]
    exact begins_zero w x y n pv P hs hg
  · rw [if_neg hm]
    exact begins_some w x y m n pv P hs hl hg hm _ _ _ _ _ rfl rfl rfl rfl rfl
theorem refbegins_any (w : World) (x y : H) (m n : Int) (pv : Value) (P : List H) (hs : Hs w pv P) (hl : P.length ≤ 4096) (hg : Glob w) :
    Calls Tryd.prog 26 #[.int .i64 m, .int .i64 n, hv x, hv y, pv] w fun e w' => e = .returned (.bool (begR m n x y P)) ∧ Below w.heap.size w w' := by
  unfold begR
  by_cases hm : m = 0
  · subst hm
    rw [if_pos rfl]
    exact refbegins_zero w x y n pv P hs hg
  · rw [if_neg hm]
    exact refbegins_some w x y m n pv P hs hl hg hm _ _ _ _ _ rfl rfl rfl rfl rfl
end Go.Proofs.YtldokkbfahobgaaDoor

/-! Four: Path and Prove, and the reference's, whatever the number. Conditions: the list can be read, at most 2^40 hashes; the package's tables read as they are laid. -/
namespace Go.Proofs.YtldokkbfahobgaaDoor
open Go.RowKit

def pathR (l : List H) (i : Int) : List H := if 0 ≤ i ∧ i < l.length then pathN ndH e0H l i.toNat else []
def subR (l : List H) (m : Int) : List H := if 1 ≤ m ∧ m ≤ l.length then subN ndH e0H l m.toNat true else []
theorem prove_i (v : Value) (l : List H) (m : Int) (w : World) (hle : l.length ≤ 1099511627776) (hs : Hs w v l) (hg : Glob w) :
    Calls Tryd.prog 20 #[v, .int .i64 m] w fun e w' => (∃ v', e = .returned (.tuple #[v', .bool (decide (1 ≤ m ∧ m ≤ l.length))]) ∧ Hs w' v' (subR l m)) ∧ Below w.heap.size w w' := by
  unfold subR
  by_cases h : 1 ≤ m ∧ m ≤ l.length
  · rw [if_pos h, decide_eq_true h]
    obtain ⟨a, rfl⟩ : ∃ a : Nat, m = a := ⟨m.toNat, by omega⟩
    exact (prove_any v l a w hle hs hg (by omega) (by omega)).mono fun e w' ⟨⟨v', h1, h2⟩, h3⟩ => ⟨⟨v', h1, h2.hs⟩, h3⟩
  · rw [if_neg h, decide_eq_false h]
    exact (prove_none v l m w hs (by omega)).mono fun e w' ⟨h1, h2⟩ => ⟨⟨_, h1, Hs.nil _⟩, h2 ▸ Below.refl _ _⟩
theorem refprove_i (v : Value) (l : List H) (m : Int) (w : World) (hle : l.length ≤ 1099511627776) (hs : Hs w v l) (hg : Glob w) :
    Calls Tryd.prog 29 #[v, .int .i64 m] w fun e w' => (∃ v', e = .returned (.tuple #[v', .bool (decide (1 ≤ m ∧ m ≤ l.length))]) ∧ Hs w' v' (subR l m)) ∧ Below w.heap.size w w' := by
  unfold subR
  by_cases h : 1 ≤ m ∧ m ≤ l.length
  · rw [if_pos h, decide_eq_true h]
    obtain ⟨a, rfl⟩ : ∃ a : Nat, m = a := ⟨m.toNat, by omega⟩
    exact refprove_any v l a w hle hs hg (by omega) (by omega)
  · rw [if_neg h, decide_eq_false h]
    exact (refprove_none v l m w hs (by omega)).mono fun e w' ⟨h1, h2⟩ => ⟨⟨_, h1, Hs.nil _⟩, h2 ▸ Below.refl _ _⟩
theorem refprove_len (l : List H) (m : Int) (h : l.length ≤ 1099511627776) : (subR l m).length ≤ 41 := by
  unfold subR
  split
  · exact sub_few l _ true (by omega) (by omega) h
  · simp
theorem path_few (l : List H) (i : Int) (h : l.length ≤ 1099511627776) : (pathR l i).length ≤ 40 := by
  unfold pathR
  split
  · exact path_len l _ (by omega) h
  · simp
end Go.Proofs.YtldokkbfahobgaaDoor

/-! HoldP: What paths and proofs come to, in plain Lean: for the laws of layer 6. No condition. -/
namespace Go.Proofs.YtldokkbfahobgaaDoor
open Go.RowKit

theorem comesR_path (l : List H) (i : Nat) (x : H) (h : l[i]? = some x) (hn : l.length ≤ 1048576) : comesR x i l.length (pathN ndH e0H l i) = some (rootN ndH e0H l) := by
  have hi := (List.getElem?_eq_some_iff.1 h).1
  unfold comesR
  rw [if_pos (by omega)]
  exact comes_path ndH e0H l i x h
theorem in_path (l : List H) (i : Nat) (x : H) (h : l[i]? = some x) (hn : l.length ≤ 1048576) : inR x (rootN ndH e0H l) i l.length (pathN ndH e0H l i) = true := by
  unfold inR
  rw [comesR_path l i x h hn]
  simp
theorem bothR_sub (l : List H) (m : Nat) (h1 : 1 ≤ m) (h2 : m ≤ l.length) (hn : l.length ≤ 1048576) : bothR (rootN ndH e0H (l.take m)) m l.length (subN ndH e0H l m true) = some (rootN ndH e0H (l.take m), rootN ndH e0H l) := by
  unfold bothR
  rw [if_pos (by omega)]
  exact both_sub ndH e0H l m h1 h2
theorem beg_sub (l : List H) (m : Nat) (h1 : 1 ≤ m) (h2 : m ≤ l.length) (hn : l.length ≤ 1048576) : begR m l.length (rootN ndH e0H (l.take m)) (rootN ndH e0H l) (subN ndH e0H l m true) = true := by
  unfold begR
  rw [if_neg (by omega), bothR_sub l m h1 h2 hn]
  simp
theorem digitsN_pos (n : Nat) (h : 0 < n) : digitsN n = digitsN (n / 2) + 1 := by rw [digitsN, dif_neg (by omega)]
theorem digitsN_zero : digitsN 0 = 0 := by rw [digitsN, dif_pos rfl]
theorem digitsN_le : ∀ (n : Nat), digitsN n ≤ n := by
  intro n
  induction n using Nat.strongRecOn with
  | _ n ih =>
    by_cases h : n = 0
    · subst h; rw [digitsN_zero]; exact Nat.le_refl _
    · rw [digitsN_pos n (by omega)]
      have := ih (n / 2) (by omega)
      omega
theorem path_digits (l : List H) (i : Nat) (hi : i < l.length) : (pathN ndH e0H l i).length ≤ digitsN l.length := by
  obtain ⟨x, hx⟩ : ∃ x, l[i]? = some x := ⟨_, List.getElem?_eq_getElem hi⟩
  rw [(path_both ndH e0H _ l i x rfl hx).1]
  exact sidesN_len _ _ _ (Nat.le_of_lt (digitsN_lt _))
theorem sub_digits (l : List H) (m : Nat) (h1 : 1 ≤ m) (h2 : m ≤ l.length) : (subN ndH e0H l m true).length ≤ digitsN l.length + 1 := by
  rw [sub_len ndH e0H l m h1 h2]
  have := sidesM_len (digitsN l.length) l.length m (Nat.le_of_lt (digitsN_lt _))
  split <;> omega
/-- A path of another length comes to nothing. -/
theorem comesR_len (x : H) (i n : Int) (P : List H) (h : P.length ≠ (sidesN n.toNat i.toNat).length) : comesR x i n P = none := by
  unfold comesR
  split
  · unfold comesN
    rw [if_neg (fun e => h e.symm)]
  · rfl
theorem path_sides (l : List H) (i : Nat) (hi : i < l.length) : (pathN ndH e0H l i).length = (sidesN l.length i).length := by
  obtain ⟨x, hx⟩ : ∃ x, l[i]? = some x := ⟨_, List.getElem?_eq_getElem hi⟩
  exact (path_both ndH e0H _ l i x rfl hx).1
theorem comesR_longer (l : List H) (i : Nat) (x : H) (P : List H) (hi : i < l.length) (h : P.length ≠ (pathN ndH e0H l i).length) : comesR x i l.length P = none := by
  refine comesR_len x i l.length P ?_
  rw [path_sides l i hi] at h
  simpa using h
theorem bothR_longer (l : List H) (m : Nat) (x : H) (P : List H) (h1 : 1 ≤ m) (h2 : m ≤ l.length) (h : P.length ≠ (subN ndH e0H l m true).length) : bothR x m l.length P = none := by
  unfold bothR
  split
  · refine both_len ndH x _ _ P ?_
    rw [sub_len ndH e0H l m h1 h2] at h
    simpa using h
  · rfl
theorem sub_self (l : List H) : subN ndH e0H l l.length true = [] := by rw [subN_end l l.length true rfl]; rfl
theorem bothR_self (x : H) (n : Nat) (h1 : 1 ≤ n) (hn : n ≤ 1048576) : bothR x n n [] = some (x, x) := by
  unfold bothR
  rw [if_pos (by omega)]
  show bothN ndH x n n [] = _
  unfold bothN
  rw [wholeN, dif_pos (.inr rfl), sidesM, dif_pos (.inr rfl)]
  rfl
theorem beg_self (x y : H) (n : Nat) (h1 : 1 ≤ n) (hn : n ≤ 1048576) : begR n n x y [] = (x.b == y.b) := by
  unfold begR
  rw [if_neg (by omega), bothR_self x n h1 hn]
  simp
theorem beg_none (y : H) (n : Nat) (P : List H) (hn : n ≤ 1048576) : begR 0 n e0H y P = decide (P.length = 0) := by
  unfold begR
  rw [if_pos rfl]
  rw [decide_eq_true (by omega : (0 : Int) ≤ n), decide_eq_true (by omega : (n : Int) ≤ 1048576)]
  simp
end Go.Proofs.YtldokkbfahobgaaDoor
