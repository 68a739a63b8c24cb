/- The walk of Begins where the first number is not 0. Conditions: the proof can be read, at most 4096 hashes; the package's tables read as they are laid. -/
import Derived.Test.YtkfplliipogagaaDoorBothW
namespace Go.Proofs.YtkfplliipogagaaDoor
open Go.RowKit

theorem two_lit (w : World) : (w.alloc (.cells z32.toArray 24)).alloc (.cells z32.toArray 24) = (w.alloc (.cells #[.int .u8 0, .int .u8 0, .int .u8 0, .int .u8 0, .int .u8 0, .int .u8 0, .int .u8 0, .int .u8 0, .int .u8 0, .int .u8 0, .int .u8 0, .int .u8 0, .int .u8 0, .int .u8 0, .int .u8 0, .int .u8 0, .int .u8 0, .int .u8 0, .int .u8 0, .int .u8 0, .int .u8 0, .int .u8 0, .int .u8 0, .int .u8 0, .int .u8 0, .int .u8 0, .int .u8 0, .int .u8 0, .int .u8 0, .int .u8 0, .int .u8 0, .int .u8 0] 24)).alloc (.cells #[.int .u8 0, .int .u8 0, .int .u8 0, .int .u8 0, .int .u8 0, .int .u8 0, .int .u8 0, .int .u8 0, .int .u8 0, .int .u8 0, .int .u8 0, .int .u8 0, .int .u8 0, .int .u8 0, .int .u8 0, .int .u8 0, .int .u8 0, .int .u8 0, .int .u8 0, .int .u8 0, .int .u8 0, .int .u8 0, .int .u8 0, .int .u8 0, .int .u8 0, .int .u8 0, .int .u8 0, .int .u8 0, .int .u8 0, .int .u8 0, .int .u8 0, .int .u8 0] 24) := by rw [z32_arr]
/-- Two hashes laid in new blocks. -/
def twoW (w : World) (p q : H) : World := (((w.alloc (.cells #[.int .u8 0, .int .u8 0, .int .u8 0, .int .u8 0, .int .u8 0, .int .u8 0, .int .u8 0, .int .u8 0, .int .u8 0, .int .u8 0, .int .u8 0, .int .u8 0, .int .u8 0, .int .u8 0, .int .u8 0, .int .u8 0, .int .u8 0, .int .u8 0, .int .u8 0, .int .u8 0, .int .u8 0, .int .u8 0, .int .u8 0, .int .u8 0, .int .u8 0, .int .u8 0, .int .u8 0, .int .u8 0, .int .u8 0, .int .u8 0, .int .u8 0, .int .u8 0] 24)).alloc (.cells #[.int .u8 0, .int .u8 0, .int .u8 0, .int .u8 0, .int .u8 0, .int .u8 0, .int .u8 0, .int .u8 0, .int .u8 0, .int .u8 0, .int .u8 0, .int .u8 0, .int .u8 0, .int .u8 0, .int .u8 0, .int .u8 0, .int .u8 0, .int .u8 0, .int .u8 0, .int .u8 0, .int .u8 0, .int .u8 0, .int .u8 0, .int .u8 0, .int .u8 0, .int .u8 0, .int .u8 0, .int .u8 0, .int .u8 0, .int .u8 0, .int .u8 0, .int .u8 0] 24)).setRow w.heap.size (bytesV p.b).toArray).setRow (w.heap.size + 1) (bytesV q.b).toArray
theorem two_parts (w : World) (p q : H) : Below w.heap.size w (twoW w p q) ∧ (twoW w p q).heap.size = w.heap.size + 1 + 1 ∧ Blk (twoW w p q) w.heap.size (bytesV p.b) 24 ∧ Blk (twoW w p q) (w.heap.size + 1) (bytesV q.b) 24 ∧
    Blk ((w.alloc (.cells #[.int .u8 0, .int .u8 0, .int .u8 0, .int .u8 0, .int .u8 0, .int .u8 0, .int .u8 0, .int .u8 0, .int .u8 0, .int .u8 0, .int .u8 0, .int .u8 0, .int .u8 0, .int .u8 0, .int .u8 0, .int .u8 0, .int .u8 0, .int .u8 0, .int .u8 0, .int .u8 0, .int .u8 0, .int .u8 0, .int .u8 0, .int .u8 0, .int .u8 0, .int .u8 0, .int .u8 0, .int .u8 0, .int .u8 0, .int .u8 0, .int .u8 0, .int .u8 0] 24)).alloc (.cells #[.int .u8 0, .int .u8 0, .int .u8 0, .int .u8 0, .int .u8 0, .int .u8 0, .int .u8 0, .int .u8 0, .int .u8 0, .int .u8 0, .int .u8 0, .int .u8 0, .int .u8 0, .int .u8 0, .int .u8 0, .int .u8 0, .int .u8 0, .int .u8 0, .int .u8 0, .int .u8 0, .int .u8 0, .int .u8 0, .int .u8 0, .int .u8 0, .int .u8 0, .int .u8 0, .int .u8 0, .int .u8 0, .int .u8 0, .int .u8 0, .int .u8 0, .int .u8 0] 24)) w.heap.size z32 24 ∧ Blk (((w.alloc (.cells #[.int .u8 0, .int .u8 0, .int .u8 0, .int .u8 0, .int .u8 0, .int .u8 0, .int .u8 0, .int .u8 0, .int .u8 0, .int .u8 0, .int .u8 0, .int .u8 0, .int .u8 0, .int .u8 0, .int .u8 0, .int .u8 0, .int .u8 0, .int .u8 0, .int .u8 0, .int .u8 0, .int .u8 0, .int .u8 0, .int .u8 0, .int .u8 0, .int .u8 0, .int .u8 0, .int .u8 0, .int .u8 0, .int .u8 0, .int .u8 0, .int .u8 0, .int .u8 0] 24)).alloc (.cells #[.int .u8 0, .int .u8 0, .int .u8 0, .int .u8 0, .int .u8 0, .int .u8 0, .int .u8 0, .int .u8 0, .int .u8 0, .int .u8 0, .int .u8 0, .int .u8 0, .int .u8 0, .int .u8 0, .int .u8 0, .int .u8 0, .int .u8 0, .int .u8 0, .int .u8 0, .int .u8 0, .int .u8 0, .int .u8 0, .int .u8 0, .int .u8 0, .int .u8 0, .int .u8 0, .int .u8 0, .int .u8 0, .int .u8 0, .int .u8 0, .int .u8 0, .int .u8 0] 24)).setRow w.heap.size (bytesV p.b).toArray) (w.heap.size + 1) z32 24 := by
  unfold twoW
  rw [← two_lit]
  have h1 : Blk ((w.alloc (.cells z32.toArray 24)).alloc (.cells z32.toArray 24)) w.heap.size z32 24 := (Blk.newL w z32 _).alloc _
  have h2 : Blk ((w.alloc (.cells z32.toArray 24)).alloc (.cells z32.toArray 24)) (w.heap.size + 1) z32 24 := Blk.newL1 w _ z32 _
  have h3 : Blk (((w.alloc (.cells z32.toArray 24)).alloc (.cells z32.toArray 24)).setRow w.heap.size (bytesV p.b).toArray) (w.heap.size + 1) z32 24 := h2.setRow_other (by omega) _
  have h0 : Below w.heap.size w ((w.alloc (.cells z32.toArray 24)).alloc (.cells z32.toArray 24)) := by (repeat (first | with_reducible assumption | with_reducible exact Below.refl _ _ | ((with_reducible refine Below.setCell ?_ ?_ _); rotate_left; focus (first | omega | (simp; done) | (simp; omega))) | ((with_reducible refine Below.alloc ?_ ?_ _); rotate_left; focus (first | omega | (simp; done) | (simp; omega))) | ((with_reducible refine below_setRow ?_ ?_ _); rotate_left; focus (first | omega | (simp; done) | (simp; omega))) | (with_reducible refine below_drewN ?_ _) | (with_reducible refine Below.drew ?_)))
  exact ⟨below_setRow (below_setRow h0 (by omega) _) (by omega) _, by simp, (h1.setRow _).setRow_other (by omega) _, h3.setRow _, h1, h3⟩
set_option maxRecDepth 100000 in
set_option maxHeartbeats 4000000 in
theorem begins_some (w : World) (x y : H) (m n : Int) (pv : Value) (P : List H) (hs : Hs w pv P) (hl : P.length ≤ 4096) (hg : Glob w) (hm : m ≠ 0) (c b1 b2 : Bool) (p q : H) (hc : (bothR x m n P).isSome = c) (hp : ((bothR x m n P).getD (z0H, z0H)).1 = p) (hq : ((bothR x m n P).getD (z0H, z0H)).2 = q) (hb1 : (p.b == x.b) = b1) (hb2 : (q.b == y.b) = b2) :
    Calls Tryd.prog 44 #[.int .i64 m, .int .i64 n, hv x, hv y, pv] w fun e w' => e = .returned (.bool (c && b1 && b2)) ∧ Below w.heap.size w w' := by
  obtain ⟨w1, hw1⟩ : ∃ w1, w1 = (w.alloc (.cells (bytesV x.b).toArray 24)).alloc (.cells (bytesV y.b).toArray 24) := ⟨_, rfl⟩
  have hbw : Below w.heap.size w w1 := by rw [hw1]; (repeat (first | with_reducible assumption | with_reducible exact Below.refl _ _ | ((with_reducible refine Below.setCell ?_ ?_ _); rotate_left; focus (first | omega | (simp; done) | (simp; omega))) | ((with_reducible refine Below.alloc ?_ ?_ _); rotate_left; focus (first | omega | (simp; done) | (simp; omega))) | ((with_reducible refine below_setRow ?_ ?_ _); rotate_left; focus (first | omega | (simp; done) | (simp; omega))) | (with_reducible refine below_drewN ?_ _) | (with_reducible refine Below.drew ?_)))
  have hs1 : w1.heap.size = w.heap.size + 1 + 1 := by rw [hw1]; simp
  have hX : Blk w1 w.heap.size (bytesV x.b) 24 := by rw [hw1]; exact (Blk.newL w _ _).alloc _
  have hY : Blk w1 (w.heap.size + 1) (bytesV y.b) 24 := by rw [hw1]; exact Blk.newL1 w _ _ _
  have hne : ((m : Int) == 0) = false := by rw [beq_eq_false_iff_ne]; exact hm
  have hcall := both_any w1 x m n pv P (hs.below hbw) hl (hg.below hbw)
  rw [hc, hp, hq] at hcall
  have HC := Lib.hid hcall
  have HX0 := Lib.hid (hw1 ▸ hX)
  have HX := Lib.hid hX
  have HY := Lib.hid hY
  have HW := Lib.hid hw1
  have HB1 := Lib.hid hb1
  have HB2 := Lib.hid hb2
  clear hX hY hs hg hw1 hp hq hc hb1 hb2 hm hcall
  unfold hv
  cases c with
  | false =>
    show Calls _ _ _ _ fun e w' => e = .returned (.bool false) ∧ Below w.heap.size w w'
    go_enter Tryd.func44, Tryd.ntmps44
    go_wp2_with (first
      | (refine wpList_load_row rfl 24 (.tmp 7) rfl w.heap.size rfl 24 (bytesV x.b).toArray (0, 0) _ (by exact HX0.out) Tryd.underlying24 rfl (by exact hv_row _) ?_)
      | (go_at_call 40; refine calls_eq HW.out (HC.out.mono ?_); rintro e w2 ⟨rfl, hb2⟩; unfold hv; have hw2 := hbw.trans (hb2.mono hbw.size); obtain ⟨t0, t1, _, _, t4, t5⟩ := two_parts w2 p q; have hw3 := hw2.trans (t0.mono hw2.size); have T4 := Lib.hid t4; have T5 := Lib.hid t5; clear hb2 t0 t1 t4 t5)
      | (refine wpList_store_row rfl 24 (.tmp 11) (.tmp 38) rfl w2.heap.size (bytesV p.b).toArray rfl rfl 24 z32.toArray (by exact T4.out) (by exact hv_row _) (by exact z32_old _) (by exact hv_one _) ?_)
      | (refine wpList_store_row rfl 24 (.tmp 12) (.tmp 39) rfl (w2.heap.size + 1) (bytesV q.b).toArray rfl rfl 24 z32.toArray (by exact T5.out) (by exact hv_row _) (by exact z32_old _) (by exact hv_one _) ?_)
      | fail)
    go_ret
    exact ⟨rfl, hw3⟩
  | true =>
    show Calls _ _ _ _ fun e w' => e = .returned (.bool (b1 && b2)) ∧ Below w.heap.size w w'
    cases b1 with
    | false =>
      show Calls _ _ _ _ fun e w' => e = .returned (.bool false) ∧ Below w.heap.size w w'
      go_enter Tryd.func44, Tryd.ntmps44
      go_wp2_with (first
        | (refine wpList_load_row rfl 24 (.tmp 7) rfl w.heap.size rfl 24 (bytesV x.b).toArray (0, 0) _ (by exact HX0.out) Tryd.underlying24 rfl (by exact hv_row _) ?_)
        | (go_at_call 40; refine calls_eq HW.out (HC.out.mono ?_); rintro e w2 ⟨rfl, hb2⟩; unfold hv; have hw2 := hbw.trans (hb2.mono hbw.size); obtain ⟨t0, t1, t2, _, t4, t5⟩ := two_parts w2 p q; have hw3 := hw2.trans (t0.mono hw2.size); have HX3 := Lib.hid ((HX.out.below hb2 HX.out.lt).below t0 (Nat.lt_of_lt_of_le HX.out.lt hb2.size)); have T2 := Lib.hid t2; have T4 := Lib.hid t4; have T5 := Lib.hid t5; clear hb2 t0 t1 t2 t4 t5)
        | (refine wpList_store_row rfl 24 (.tmp 11) (.tmp 38) rfl w2.heap.size (bytesV p.b).toArray rfl rfl 24 z32.toArray (by exact T4.out) (by exact hv_row _) (by exact z32_old _) (by exact hv_one _) ?_)
        | (refine wpList_store_row rfl 24 (.tmp 12) (.tmp 39) rfl (w2.heap.size + 1) (bytesV q.b).toArray rfl rfl 24 z32.toArray (by exact T5.out) (by exact hv_row _) (by exact z32_old _) (by exact hv_one _) ?_)
        | (refine wpList_load_rowIf rfl 24 (.tmp 11) rfl w2.heap.size rfl 24 (bytesV p.b).toArray (0, 0) _ (by exact T2.out) Tryd.underlying24 rfl (by exact hv_row _) ?_)
        | (refine wpList_load_rowIf rfl 24 (.tmp 7) rfl w.heap.size rfl 24 (bytesV x.b).toArray (0, 0) _ (by exact HX3.out) Tryd.underlying24 rfl (by exact hv_row _) ?_)
        | (go_at_call 63; refine (equal_any p.b x.b _ p.len x.len).mono ?_; rintro e w5 ⟨rfl, hb5⟩; rw [HB1.out])
        | fail)
      go_ret
      exact ⟨rfl, hw3.trans (hb5.mono hw3.size)⟩
    | true =>
      show Calls _ _ _ _ fun e w' => e = .returned (.bool b2) ∧ Below w.heap.size w w'
      have HB12 := Lib.hid HB2
      clear HB2
      go_enter Tryd.func44, Tryd.ntmps44
      go_wp2_with (first
        | (refine wpList_load_row rfl 24 (.tmp 7) rfl w.heap.size rfl 24 (bytesV x.b).toArray (0, 0) _ (by exact HX0.out) Tryd.underlying24 rfl (by exact hv_row _) ?_)
        | (go_at_call 40; refine calls_eq HW.out (HC.out.mono ?_); rintro e w2 ⟨rfl, hb2⟩; unfold hv; have hw2 := hbw.trans (hb2.mono hbw.size); obtain ⟨t0, t1, t2, t3, t4, t5⟩ := two_parts w2 p q; have hw3 := hw2.trans (t0.mono hw2.size); have HX3 := Lib.hid ((HX.out.below hb2 HX.out.lt).below t0 (Nat.lt_of_lt_of_le HX.out.lt hb2.size)); have HY3 := Lib.hid ((HY.out.below hb2 HY.out.lt).below t0 (Nat.lt_of_lt_of_le HY.out.lt hb2.size)); have T2 := Lib.hid t2; have T3 := Lib.hid t3; have T4 := Lib.hid t4; have T5 := Lib.hid t5; clear hb2 t0 t1 t2 t3 t4 t5)
        | (refine wpList_store_row rfl 24 (.tmp 11) (.tmp 38) rfl w2.heap.size (bytesV p.b).toArray rfl rfl 24 z32.toArray (by exact T4.out) (by exact hv_row _) (by exact z32_old _) (by exact hv_one _) ?_)
        | (refine wpList_store_row rfl 24 (.tmp 12) (.tmp 39) rfl (w2.heap.size + 1) (bytesV q.b).toArray rfl rfl 24 z32.toArray (by exact T5.out) (by exact hv_row _) (by exact z32_old _) (by exact hv_one _) ?_)
        | (refine wpList_load_rowIf rfl 24 (.tmp 11) rfl w2.heap.size rfl 24 (bytesV p.b).toArray (0, 0) _ (by exact T2.out) Tryd.underlying24 rfl (by exact hv_row _) ?_)
        | (refine wpList_load_rowIf rfl 24 (.tmp 7) rfl w.heap.size rfl 24 (bytesV x.b).toArray (0, 0) _ (by exact HX3.out) Tryd.underlying24 rfl (by exact hv_row _) ?_)
        | (go_at_call 63; have hb1 := HB1.out; refine (equal_any p.b x.b _ p.len x.len).mono ?_; rintro e w5 ⟨rfl, hb5⟩; rw [hb1]; clear hb1; have HB2 := Lib.hid HB12.out.out; have T35 := Lib.hid (T3.out.below hb5 T3.out.lt); have HY5 := Lib.hid (HY3.out.below hb5 HY3.out.lt); have hw5 := hw3.trans (hb5.mono hw3.size); clear HB1 hb5)
        | (refine wpList_load_rowIf rfl 24 (.tmp 12) rfl (w2.heap.size + 1) rfl 24 (bytesV q.b).toArray (0, 0) _ (by exact T35.out) Tryd.underlying24 rfl (by exact hv_row _) ?_)
        | (refine wpList_load_rowIf rfl 24 (.tmp 8) rfl (w.heap.size + 1) rfl 24 (bytesV y.b).toArray (0, 0) _ (by exact HY5.out) Tryd.underlying24 rfl (by exact hv_row _) ?_)
        | (go_at_call 63; refine (equal_any q.b y.b _ q.len y.len).mono ?_; rintro e w6 ⟨rfl, hb6⟩; rw [HB2.out])
        | fail)
      go_ret
      exact ⟨rfl, hw5.trans (hb6.mono hw5.size)⟩
end Go.Proofs.YtkfplliipogagaaDoor
