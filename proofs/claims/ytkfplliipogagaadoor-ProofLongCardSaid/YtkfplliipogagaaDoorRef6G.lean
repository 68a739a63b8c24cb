/- The walks of the reference's Both, whatever the numbers, and of both Begins. Conditions: the proof can be read, at most 4096 hashes; the package's tables read as they are laid. -/
import Derived.Test.YtkfplliipogagaaDoorRef6Z
import Derived.Test.YtkfplliipogagaaDoorBeginsZ
import Derived.Test.YtkfplliipogagaaDoorBeginsS
namespace Go.Proofs.YtkfplliipogagaaDoor
open Go.RowKit

theorem refboth_any (w : World) (x : H) (m n : Int) (pv : Value) (P : List H) (hs : Hs w pv P) (hl : P.length ≤ 4096) (hg : Glob w) :
    Calls Tryd.prog 41 #[.int .i64 m, .int .i64 n, hv x, pv] w fun e w' => e = .returned (.tuple #[hv ((bothR x m n P).getD (z0H, z0H)).1, hv ((bothR x m n P).getD (z0H, z0H)).2, .bool (bothR x m n P).isSome]) ∧ Below w.heap.size w w' := by
  rw [← bothV1_eq, ← bothV2_eq]
  by_cases h : 1 ≤ m ∧ m ≤ n ∧ n ≤ 1048576
  · obtain ⟨a, rfl⟩ : ∃ a : Nat, m = a := ⟨m.toNat, by omega⟩
    obtain ⟨b, rfl⟩ : ∃ b : Nat, n = b := ⟨n.toNat, by omega⟩
    rw [show bothR x (a : Int) (b : Int) P = bothN ndH x b a P from if_pos h]
    exact refboth_ok w x a b pv P hs hl hg (by omega) (by omega) (by omega)
  · rw [show bothR x m n P = none from if_neg h]
    exact refboth_bad w x m n pv (by omega)
set_option maxRecDepth 100000 in
set_option maxHeartbeats 4000000 in
theorem refbegins_some (w : World) (x y : H) (m n : Int) (pv : Value) (P : List H) (hs : Hs w pv P) (hl : P.length ≤ 4096) (hg : Glob w) (hm : m ≠ 0) (c b1 b2 : Bool) (p q : H) (hc : (bothR x m n P).isSome = c) (hp : ((bothR x m n P).getD (z0H, z0H)).1 = p) (hq : ((bothR x m n P).getD (z0H, z0H)).2 = q) (hb1 : (p.b == x.b) = b1) (hb2 : (q.b == y.b) = b2) :
    Calls Tryd.prog 45 #[.int .i64 m, .int .i64 n, hv x, hv y, pv] w fun e w' => e = .returned (.bool (c && b1 && b2)) ∧ Below w.heap.size w w' := by
  obtain ⟨w1, hw1⟩ : ∃ w1, w1 = (w.alloc (.cells (bytesV x.b).toArray 24)).alloc (.cells (bytesV y.b).toArray 24) := ⟨_, rfl⟩
  have hbw : Below w.heap.size w w1 := by rw [hw1]; (repeat (first | with_reducible assumption | with_reducible exact Below.refl _ _ | ((with_reducible refine Below.setCell ?_ ?_ _); rotate_left; focus (first | omega | (simp; done) | (simp; omega))) | ((with_reducible refine Below.alloc ?_ ?_ _); rotate_left; focus (first | omega | (simp; done) | (simp; omega))) | ((with_reducible refine below_setRow ?_ ?_ _); rotate_left; focus (first | omega | (simp; done) | (simp; omega))) | (with_reducible refine below_drewN ?_ _) | (with_reducible refine Below.drew ?_)))
  have hs1 : w1.heap.size = w.heap.size + 1 + 1 := by rw [hw1]; simp
  have hX : Blk w1 w.heap.size (bytesV x.b) 24 := by rw [hw1]; exact (Blk.newL w _ _).alloc _
  have hY : Blk w1 (w.heap.size + 1) (bytesV y.b) 24 := by rw [hw1]; exact Blk.newL1 w _ _ _
  have hne : ((m : Int) == 0) = false := by rw [beq_eq_false_iff_ne]; exact hm
  have hcall := refboth_any w1 x m n pv P (hs.below hbw) hl (hg.below hbw)
  rw [hc, hp, hq] at hcall
  have HC := Lib.hid hcall
  have HX0 := Lib.hid (hw1 ▸ hX)
  have HX := Lib.hid hX
  have HY := Lib.hid hY
  have HW := Lib.hid hw1
  have HB1 := Lib.hid hb1
  have HB2 := Lib.hid hb2
  clear hX hY hs hg hw1 hp hq hc hb1 hb2 hm hcall
  unfold hv
  cases c with
  | false =>
    show Calls _ _ _ _ fun e w' => e = .returned (.bool false) ∧ Below w.heap.size w w'
    go_enter Tryd.func45, Tryd.ntmps45
    go_wp2_with (first
      | (refine wpList_load_row rfl 24 (.tmp 7) rfl w.heap.size rfl 24 (bytesV x.b).toArray (0, 0) _ (by exact HX0.out) Tryd.underlying24 rfl (by exact hv_row _) ?_)
      | (go_at_call 41; refine calls_eq HW.out (HC.out.mono ?_); rintro e w2 ⟨rfl, hb2⟩; unfold hv; have hw2 := hbw.trans (hb2.mono hbw.size); obtain ⟨t0, t1, _, _, t4, t5⟩ := two_parts w2 p q; have hw3 := hw2.trans (t0.mono hw2.size); have T4 := Lib.hid t4; have T5 := Lib.hid t5; clear hb2 t0 t1 t4 t5)
      | (refine wpList_store_row rfl 24 (.tmp 11) (.tmp 38) rfl w2.heap.size (bytesV p.b).toArray rfl rfl 24 z32.toArray (by exact T4.out) (by exact hv_row _) (by exact z32_old _) (by exact hv_one _) ?_)
      | (refine wpList_store_row rfl 24 (.tmp 12) (.tmp 39) rfl (w2.heap.size + 1) (bytesV q.b).toArray rfl rfl 24 z32.toArray (by exact T5.out) (by exact hv_row _) (by exact z32_old _) (by exact hv_one _) ?_)
      | fail)
    go_ret
    exact ⟨rfl, hw3⟩
  | true =>
    show Calls _ _ _ _ fun e w' => e = .returned (.bool (b1 && b2)) ∧ Below w.heap.size w w'
    cases b1 with
    | false =>
      show Calls _ _ _ _ fun e w' => e = .returned (.bool false) ∧ Below w.heap.size w w'
      have heq : ∀ w, (Op.equalIn 10000 24 (.agg (bytesV p.b).toArray) (.agg (bytesV x.b).toArray)).run Tryd.prog w = .ok false w := fun w => by rw [eq_hash w p.b x.b p.len x.len, HB1.out]
      go_enter Tryd.func45, Tryd.ntmps45
      go_wp2_with (first
        | (refine wpList_load_row rfl 24 (.tmp 7) rfl w.heap.size rfl 24 (bytesV x.b).toArray (0, 0) _ (by exact HX0.out) Tryd.underlying24 rfl (by exact hv_row _) ?_)
        | (go_at_call 41; refine calls_eq HW.out (HC.out.mono ?_); rintro e w2 ⟨rfl, hb2⟩; unfold hv; have hw2 := hbw.trans (hb2.mono hbw.size); obtain ⟨t0, t1, t2, _, t4, t5⟩ := two_parts w2 p q; have hw3 := hw2.trans (t0.mono hw2.size); have HX3 := Lib.hid ((HX.out.below hb2 HX.out.lt).below t0 (Nat.lt_of_lt_of_le HX.out.lt hb2.size)); have T2 := Lib.hid t2; have T4 := Lib.hid t4; have T5 := Lib.hid t5; clear hb2 t0 t1 t2 t4 t5)
        | (refine wpList_store_row rfl 24 (.tmp 11) (.tmp 38) rfl w2.heap.size (bytesV p.b).toArray rfl rfl 24 z32.toArray (by exact T4.out) (by exact hv_row _) (by exact z32_old _) (by exact hv_one _) ?_)
        | (refine wpList_store_row rfl 24 (.tmp 12) (.tmp 39) rfl (w2.heap.size + 1) (bytesV q.b).toArray rfl rfl 24 z32.toArray (by exact T5.out) (by exact hv_row _) (by exact z32_old _) (by exact hv_one _) ?_)
        | (refine wpList_load_rowIf rfl 24 (.tmp 11) rfl w2.heap.size rfl 24 (bytesV p.b).toArray (0, 0) _ (by exact T2.out) Tryd.underlying24 rfl (by exact hv_row _) ?_)
        | (refine wpList_load_rowIf rfl 24 (.tmp 7) rfl w.heap.size rfl 24 (bytesV x.b).toArray (0, 0) _ (by exact HX3.out) Tryd.underlying24 rfl (by exact hv_row _) ?_)
        | fail)
      go_ret
      exact ⟨rfl, hw3⟩
    | true =>
      show Calls _ _ _ _ fun e w' => e = .returned (.bool b2) ∧ Below w.heap.size w w'
      have heq : ∀ w, (Op.equalIn 10000 24 (.agg (bytesV p.b).toArray) (.agg (bytesV x.b).toArray)).run Tryd.prog w = .ok true w := fun w => by rw [eq_hash w p.b x.b p.len x.len, HB1.out]
      have heq2 : ∀ w, (Op.equalIn 10000 24 (.agg (bytesV q.b).toArray) (.agg (bytesV y.b).toArray)).run Tryd.prog w = .ok b2 w := fun w => by rw [eq_hash w q.b y.b q.len y.len, HB2.out]
      go_enter Tryd.func45, Tryd.ntmps45
      go_wp2_with (first
        | (refine wpList_load_row rfl 24 (.tmp 7) rfl w.heap.size rfl 24 (bytesV x.b).toArray (0, 0) _ (by exact HX0.out) Tryd.underlying24 rfl (by exact hv_row _) ?_)
        | (go_at_call 41; refine calls_eq HW.out (HC.out.mono ?_); rintro e w2 ⟨rfl, hb2⟩; unfold hv; have hw2 := hbw.trans (hb2.mono hbw.size); obtain ⟨t0, t1, t2, t3, t4, t5⟩ := two_parts w2 p q; have hw3 := hw2.trans (t0.mono hw2.size); have HX3 := Lib.hid ((HX.out.below hb2 HX.out.lt).below t0 (Nat.lt_of_lt_of_le HX.out.lt hb2.size)); have HY3 := Lib.hid ((HY.out.below hb2 HY.out.lt).below t0 (Nat.lt_of_lt_of_le HY.out.lt hb2.size)); have T2 := Lib.hid t2; have T3 := Lib.hid t3; have T4 := Lib.hid t4; have T5 := Lib.hid t5; clear hb2 t0 t1 t2 t3 t4 t5)
        | (refine wpList_store_row rfl 24 (.tmp 11) (.tmp 38) rfl w2.heap.size (bytesV p.b).toArray rfl rfl 24 z32.toArray (by exact T4.out) (by exact hv_row _) (by exact z32_old _) (by exact hv_one _) ?_)
        | (refine wpList_store_row rfl 24 (.tmp 12) (.tmp 39) rfl (w2.heap.size + 1) (bytesV q.b).toArray rfl rfl 24 z32.toArray (by exact T5.out) (by exact hv_row _) (by exact z32_old _) (by exact hv_one _) ?_)
        | (refine wpList_load_rowIf rfl 24 (.tmp 11) rfl w2.heap.size rfl 24 (bytesV p.b).toArray (0, 0) _ (by exact T2.out) Tryd.underlying24 rfl (by exact hv_row _) ?_)
        | (refine wpList_load_rowIf rfl 24 (.tmp 7) rfl w.heap.size rfl 24 (bytesV x.b).toArray (0, 0) _ (by exact HX3.out) Tryd.underlying24 rfl (by exact hv_row _) ?_)
        | (refine wpList_load_rowIf rfl 24 (.tmp 12) rfl (w2.heap.size + 1) rfl 24 (bytesV q.b).toArray (0, 0) _ (by exact T3.out) Tryd.underlying24 rfl (by exact hv_row _) ?_)
        | (refine wpList_load_rowIf rfl 24 (.tmp 8) rfl (w.heap.size + 1) rfl 24 (bytesV y.b).toArray (0, 0) _ (by exact HY3.out) Tryd.underlying24 rfl (by exact hv_row _) ?_)
        | fail)
      go_ret
      exact ⟨rfl, hw3⟩
def begR (m n : Int) (x y : H) (P : List H) : Bool := if m = 0 then decide (0 ≤ n) && decide (n ≤ 1048576) && decide (P.length = 0) && (x.b == e0H.b) else (bothR x m n P).isSome && (((bothR x m n P).getD (z0H, z0H)).1.b == x.b) && (((bothR x m n P).getD (z0H, z0H)).2.b == y.b)
theorem begins_any (w : World) (x y : H) (m n : Int) (pv : Value) (P : List H) (hs : Hs w pv P) (hl : P.length ≤ 4096) (hg : Glob w) :
    Calls Tryd.prog 44 #[.int .i64 m, .int .i64 n, hv x, hv y, pv] w fun e w' => e = .returned (.bool (begR m n x y P)) ∧ Below w.heap.size w w' := by
  unfold begR
  by_cases hm : m = 0
  · subst hm
    rw [if_pos rfl]
    exact begins_zero w x y n pv P hs hg
  · rw [if_neg hm]
    exact begins_some w x y m n pv P hs hl hg hm _ _ _ _ _ rfl rfl rfl rfl rfl
theorem refbegins_any (w : World) (x y : H) (m n : Int) (pv : Value) (P : List H) (hs : Hs w pv P) (hl : P.length ≤ 4096) (hg : Glob w) :
    Calls Tryd.prog 45 #[.int .i64 m, .int .i64 n, hv x, hv y, pv] w fun e w' => e = .returned (.bool (begR m n x y P)) ∧ Below w.heap.size w w' := by
  unfold begR
  by_cases hm : m = 0
  · subst hm
    rw [if_pos rfl]
    exact refbegins_zero w x y n pv P hs hg
  · rw [if_neg hm]
    exact refbegins_some w x y m n pv P hs hl hg hm _ _ _ _ _ rfl rfl rfl rfl rfl
end Go.Proofs.YtkfplliipogagaaDoor
