/- The walk of the reference's Both where its numbers are not in order; plain facts of the sides. Two blocks laid and filled in a region that draws its order: the invariant, step by step. A block laid and filled. No condition. Conditions: what each part says. -/
import Derived.Test.YtldokkbfahobgaaDoorRef6W
import Derived.Test.YtldokkbfahobgaaDoorBothW
import Derived.Test.YtldokkbfahobgaaDoorBeginsW
/-! Ref6E: The walk of the reference's Both where its numbers are not in order; plain facts of the sides. Conditions: none. -/
namespace Go.Proofs.YtldokkbfahobgaaDoor
open Go.RowKit

theorem sidesM_end (n m : Nat) (h : n < 2 ∨ m = n) : sidesM n m = [] := by rw [sidesM, dif_pos h]
theorem sidesM_left (n m : Nat) (h : ¬ (n < 2 ∨ m = n)) (hi : m ≤ splitN n) : sidesM n m = sidesM (splitN n) m ++ [true] := by rw [sidesM, dif_neg h, if_pos hi]
theorem sidesM_right (n m : Nat) (h : ¬ (n < 2 ∨ m = n)) (hi : ¬ m ≤ splitN n) : sidesM n m = sidesM (n - splitN n) (m - splitN n) ++ [false] := by rw [sidesM, dif_neg h, if_neg hi]
theorem wholeN_end (n m : Nat) (b : Bool) (h : n < 2 ∨ m = n) : wholeN n m b = b := by rw [wholeN, dif_pos h]
theorem wholeN_left (n m : Nat) (b : Bool) (h : ¬ (n < 2 ∨ m = n)) (hi : m ≤ splitN n) : wholeN n m b = wholeN (splitN n) m b := by rw [wholeN, dif_neg h, if_pos hi]
theorem wholeN_right (n m : Nat) (b : Bool) (h : ¬ (n < 2 ∨ m = n)) (hi : ¬ m ≤ splitN n) : wholeN n m b = wholeN (n - splitN n) (m - splitN n) false := by rw [wholeN, dif_neg h, if_neg hi]
theorem climb2_step (p : H × H) (A : List Bool) (P : List H) (j : Nat) (b : Bool) (o : H) (hA : A[j]? = some b) (hP : P[j]? = some o) :
    climb2 ndH p ((A.zip P).take (j + 1)) = if b then ((climb2 ndH p ((A.zip P).take j)).1, ndH (climb2 ndH p ((A.zip P).take j)).2 o) else (ndH o (climb2 ndH p ((A.zip P).take j)).1, ndH o (climb2 ndH p ((A.zip P).take j)).2) := by
  have hz : (A.zip P)[j]? = some (b, o) := by rw [List.getElem?_zip_eq_some]; exact ⟨hA, hP⟩
  rw [List.take_add_one, hz]
  unfold climb2
  rw [List.foldl_append]
  rfl
theorem hw3_lit (w : World) (l : List Value) (e : TypeId) : ((w.alloc (.cells l.toArray e)).alloc (.cells z32.toArray 31)).alloc (.cells z32.toArray 31) = ((w.alloc (.cells l.toArray e)).alloc (.cells #[.int .u8 0, .int .u8 0, .int .u8 0, .int .u8 0, .int .u8 0, .int .u8 0, .int .u8 0, .int .u8 0, .int .u8 0, .int .u8 0, .int .u8 0, .int .u8 0, .int .u8 0, .int .u8 0, .int .u8 0, .int .u8 0, .int .u8 0, .int .u8 0, .int .u8 0, .int .u8 0, .int .u8 0, .int .u8 0, .int .u8 0, .int .u8 0, .int .u8 0, .int .u8 0, .int .u8 0, .int .u8 0, .int .u8 0, .int .u8 0, .int .u8 0, .int .u8 0] 31)).alloc (.cells #[.int .u8 0, .int .u8 0, .int .u8 0, .int .u8 0, .int .u8 0, .int .u8 0, .int .u8 0, .int .u8 0, .int .u8 0, .int .u8 0, .int .u8 0, .int .u8 0, .int .u8 0, .int .u8 0, .int .u8 0, .int .u8 0, .int .u8 0, .int .u8 0, .int .u8 0, .int .u8 0, .int .u8 0, .int .u8 0, .int .u8 0, .int .u8 0, .int .u8 0, .int .u8 0, .int .u8 0, .int .u8 0, .int .u8 0, .int .u8 0, .int .u8 0, .int .u8 0] 31) := by rw [z32_arr]
set_option maxRecDepth 100000 in
set_option maxHeartbeats 1000000 in
theorem refboth_bad (w : World) (x : H) (m n : Int) (pv : Value) (hc : m < 1 ∨ (1 ≤ m ∧ n < m) ∨ (1 ≤ m ∧ m ≤ n ∧ 1048576 < n)) :
    Calls Tryd.prog 43 #[.int .i64 m, .int .i64 n, hv x, pv] w fun e w' => e = .returned (.tuple #[.agg z32.toArray, .agg z32.toArray, .bool false]) ∧ Below w.heap.size w w' := by
  have hb : Below w.heap.size w (((w.alloc (.cells (bytesV x.b).toArray 31)).alloc (.cells z32.toArray 31)).alloc (.cells z32.toArray 31)) := by (repeat (first | with_reducible assumption | with_reducible exact Below.refl _ _ | ((with_reducible refine Below.setCell ?_ ?_ _); rotate_left; focus (first | omega | (simp; done) | (simp; omega))) | ((with_reducible refine Below.alloc ?_ ?_ _); rotate_left; focus (first | omega | (simp; done) | (simp; omega))) | ((with_reducible refine below_setRow ?_ ?_ _); rotate_left; focus (first | omega | (simp; done) | (simp; omega))) | (with_reducible refine below_drewN ?_ _) | (with_reducible refine Below.drew ?_)))
  have h3 : Blk (((w.alloc (.cells (bytesV x.b).toArray 31)).alloc (.cells z32.toArray 31)).alloc (.cells z32.toArray 31)) (w.heap.size + 1) z32 31 := (Blk.newL1 w _ _ _).alloc _
  have h4 : Blk (((w.alloc (.cells (bytesV x.b).toArray 31)).alloc (.cells z32.toArray 31)).alloc (.cells z32.toArray 31)) (w.heap.size + 1 + 1) z32 31 := Blk.newL2 w _ _ _ _
  rw [hw3_lit] at hb h3 h4
  have H3 := Lib.hid h3
  have H4 := Lib.hid h4
  clear h3 h4
  unfold hv
  rcases hc with h | ⟨h, h'⟩ | ⟨h, h', h''⟩
  all_goals
    go_enter Tryd.func43, Tryd.ntmps43
    go_wp2_with (first
      | (refine wpList_store_row rfl 31 (.tmp 8) (.tmp 31) rfl (w.heap.size + 1) z32.toArray rfl (by rw [z32_arr]; rfl) 31 z32.toArray (by exact H3.out) (by exact z32_row) (by exact z32_old z0H) (by exact hv_one z0H) ?_)
      | (refine wpList_store_row rfl 31 (.tmp 9) (.tmp 32) rfl (w.heap.size + 1 + 1) z32.toArray rfl (by rw [z32_arr]; rfl) 31 z32.toArray (by exact H4.out.setRow_other (by omega) _) (by exact z32_row) (by exact z32_old z0H) (by exact hv_one z0H) ?_)
      | fail)
    exact bodyPost_ret (results_row2_tmp (p := 8) (p2 := 9) (u := 10) rfl _ _ (w.heap.size + 1) (w.heap.size + 1 + 1) 31 31 z32.toArray z32.toArray (0, 0) (0, 0) _ rfl rfl ((H3.out.setRow z32).setRow_other (by omega) _) ((H4.out.setRow_other (by omega) _).setRow z32) Tryd.underlying31 rfl z32_row z32_row) rfl ⟨rfl, below_setRow (below_setRow hb (by omega) _) (by omega) _⟩
end Go.Proofs.YtldokkbfahobgaaDoor

/-! TwoJ: Two blocks laid and filled in a region that draws its order: the invariant, step by step. A block laid and filled. No condition. -/
namespace Go.Proofs.YtldokkbfahobgaaDoor
open Go Go.BigFrame Go.RowKit

theorem bothN_whole (x : H) (n m : Nat) (P : List H) (hw : wholeN n m true = true) : bothN ndH x n m P = if (sidesM n m).length = P.length then some (climb2 ndH (x, x) ((sidesM n m).zip P)) else none := by
  unfold bothN
  rw [if_pos hw]
theorem bothN_nil (x : H) (n m : Nat) (P : List H) (hw : wholeN n m true = false) (hP : P.length = 0) : bothN ndH x n m P = none := by
  unfold bothN
  rw [hw, if_neg (by decide), List.eq_nil_of_length_eq_zero hP]
theorem bothN_open (x h : H) (n m : Nat) (P : List H) (hw : wholeN n m true = false) (hP : P[0]? = some h) : bothN ndH x n m P = if (sidesM n m).length = P.length - 1 then some (climb2 ndH (h, h) ((sidesM n m).zip (P.drop 1))) else none := by
  unfold bothN
  rw [hw, if_neg (by decide)]
  cases P with
  | nil => cases hP
  | cons y t =>
    cases hP
    rfl
/-- A hash laid in a new block. -/
def oneW (w : World) (o : H) : World := (w.alloc (.cells #[.int .u8 0, .int .u8 0, .int .u8 0, .int .u8 0, .int .u8 0, .int .u8 0, .int .u8 0, .int .u8 0, .int .u8 0, .int .u8 0, .int .u8 0, .int .u8 0, .int .u8 0, .int .u8 0, .int .u8 0, .int .u8 0, .int .u8 0, .int .u8 0, .int .u8 0, .int .u8 0, .int .u8 0, .int .u8 0, .int .u8 0, .int .u8 0, .int .u8 0, .int .u8 0, .int .u8 0, .int .u8 0, .int .u8 0, .int .u8 0, .int .u8 0, .int .u8 0] 31)).setRow w.heap.size (bytesV o.b).toArray
theorem one_parts (w : World) (o : H) : Below w.heap.size w (oneW w o) ∧ (oneW w o).heap.size = w.heap.size + 1 ∧ Blk (oneW w o) w.heap.size (bytesV o.b) 31 ∧ Blk (w.alloc (.cells #[.int .u8 0, .int .u8 0, .int .u8 0, .int .u8 0, .int .u8 0, .int .u8 0, .int .u8 0, .int .u8 0, .int .u8 0, .int .u8 0, .int .u8 0, .int .u8 0, .int .u8 0, .int .u8 0, .int .u8 0, .int .u8 0, .int .u8 0, .int .u8 0, .int .u8 0, .int .u8 0, .int .u8 0, .int .u8 0, .int .u8 0, .int .u8 0, .int .u8 0, .int .u8 0, .int .u8 0, .int .u8 0, .int .u8 0, .int .u8 0, .int .u8 0, .int .u8 0] 31)) w.heap.size z32 31 := by
  unfold oneW
  rw [← z32_arr]
  have h1 := Blk.newL w z32 31
  exact ⟨below_setRow ((Below.refl _ _).alloc (Nat.le_refl _) _) (Nat.le_refl _) _, by simp, h1.setRow _, h1⟩
def twoJ (U : World) (cs zs : List Value) (e : TypeId) (L : Nat → Bool) (x : Nat → Value) (w : World) : Prop :=
  Below U.heap.size U w ∧ (L 0 = true → x 0 = .agg cs.toArray) ∧ (L 1 = true → x 1 = .agg cs.toArray) ∧ (L 2 = true → ∃ p, x 2 = .pointer (some ⟨p, 0, none⟩) ∧ U.heap.size ≤ p ∧ Blk w p (if L 4 = true then cs else zs) e) ∧
    (L 3 = true → ∃ q, x 3 = .pointer (some ⟨q, 0, none⟩) ∧ U.heap.size ≤ q ∧ Blk w q zs e) ∧ (L 2 = true → L 3 = true → x 2 ≠ x 3) ∧ (L 4 = true → L 2 = true)
section
variable {U : World} {cs zs : List Value} {e : TypeId} {L : Nat → Bool} {x : Nat → Value} {w : World}
theorem twoJ_start (h : ∀ j, j < 5 → L j = false) : twoJ U cs zs e L x U.drew := by
  have n0 := h 0 (by decide)
  have n1 := h 1 (by decide)
  have n2 := h 2 (by decide)
  have n3 := h 3 (by decide)
  have n4 := h 4 (by decide)
  refine ⟨(Below.refl _ _).drew, fun h => ?_, fun h => ?_, fun h => ?_, fun h => ?_, fun h => ?_, fun h => ?_⟩
  · rw [n0] at h; cases h
  · rw [n1] at h; cases h
  · rw [n2] at h; cases h
  · rw [n3] at h; cases h
  · rw [n2] at h; cases h
  · rw [n4] at h; cases h
theorem twoJ_v0 (h : twoJ U cs zs e L x w) : twoJ U cs zs e (updL L 0) (upd x 0 (.agg cs.toArray)) w := by
  obtain ⟨b0, j0, j1, j2, j3, j4, j5⟩ := h
  exact ⟨b0, fun _ => rfl, j1, j2, j3, j4, j5⟩
theorem twoJ_v1 (h : twoJ U cs zs e L x w) : twoJ U cs zs e (updL L 1) (upd x 1 (.agg cs.toArray)) w := by
  obtain ⟨b0, j0, j1, j2, j3, j4, j5⟩ := h
  exact ⟨b0, j0, fun _ => rfl, j2, j3, j4, j5⟩
theorem twoJ_p (h : twoJ U cs zs e L x w) (hL : L 2 = false) : twoJ U cs zs e (updL L 2) (upd x 2 (.pointer (some ⟨w.heap.size, 0, none⟩))) (w.alloc (.cells zs.toArray e)) := by
  obtain ⟨b0, j0, j1, j2, j3, j4, j5⟩ := h
  have h4 : L 4 = false := by
    cases h : L 4 with
    | false => rfl
    | true => rw [j5 h] at hL; cases hL
  refine ⟨b0.alloc b0.size _, j0, j1, fun _ => ⟨_, rfl, b0.size, ?_⟩, fun h => ?_, fun _ h => ?_, fun h => rfl⟩
  · show Blk _ _ (if L 4 = true then cs else zs) e
    rw [h4]
    exact Blk.newL w zs e
  · obtain ⟨q, e1, e2, e3⟩ := j3 h
    exact ⟨q, e1, e2, e3.alloc _⟩
  · obtain ⟨q, e1, e2, e3⟩ := j3 h
    have := e3.lt
    show Value.pointer (some ⟨w.heap.size, 0, none⟩) ≠ x 3
    rw [e1]
    intro hh
    injection hh with hh
    injection hh with hh
    injection hh with hh
    omega
theorem twoJ_q (h : twoJ U cs zs e L x w) : twoJ U cs zs e (updL L 3) (upd x 3 (.pointer (some ⟨w.heap.size, 0, none⟩))) (w.alloc (.cells zs.toArray e)) := by
  obtain ⟨b0, j0, j1, j2, j3, j4, j5⟩ := h
  refine ⟨b0.alloc b0.size _, j0, j1, fun h => ?_, fun _ => ⟨_, rfl, b0.size, Blk.newL w zs e⟩, fun h _ => ?_, j5⟩
  · obtain ⟨p, e1, e2, e3⟩ := j2 h
    exact ⟨p, e1, e2, e3.alloc _⟩
  · obtain ⟨p, e1, e2, e3⟩ := j2 h
    have := e3.lt
    show x 2 ≠ Value.pointer (some ⟨w.heap.size, 0, none⟩)
    rw [e1]
    intro hh
    injection hh with hh
    injection hh with hh
    injection hh with hh
    omega
theorem twoJ_st (h : twoJ U cs zs e L x w) (hL : L 2 = true) (p : Nat) (hp : x 2 = .pointer (some ⟨p, 0, none⟩)) (v : Value) : twoJ U cs zs e (updL L 4) (upd x 4 v) (w.setRow p cs.toArray) := by
  obtain ⟨b0, j0, j1, j2, j3, j4, j5⟩ := h
  obtain ⟨p', e1, e2, e3⟩ := j2 hL
  have hpp : p' = p := by
    rw [e1] at hp
    injection hp with hp
    injection hp with hp
    injection hp
  subst hpp
  refine ⟨below_setRow b0 e2 _, j0, j1, fun _ => ⟨p', e1, e2, ?_⟩, fun h => ?_, j4, fun _ => hL⟩
  · show Blk _ _ (if updL L 4 4 = true then cs else zs) e
    rw [if_pos (show updL L 4 4 = true from rfl)]
    exact e3.setRow cs
  · obtain ⟨q, f1, f2, f3⟩ := j3 h
    refine ⟨q, f1, f2, f3.setRow_other ?_ _⟩
    intro hh
    have := j4 hL h
    apply this
    rw [e1, f1]
    first
    | rw [hh]
    | rw [← hh]
theorem twoJ_end (h : twoJ U cs zs e L x w) (hL : ∀ j, j < 5 → L j = true) : ∃ p q, x 1 = .agg cs.toArray ∧ x 2 = .pointer (some ⟨p, 0, none⟩) ∧ x 3 = .pointer (some ⟨q, 0, none⟩) ∧ U.heap.size ≤ p ∧ U.heap.size ≤ q ∧ p ≠ q ∧ Blk w p cs e ∧ Blk w q zs e ∧ Below U.heap.size U w := by
  obtain ⟨b0, j0, j1, j2, j3, j4, j5⟩ := h
  obtain ⟨p, e1, e2, e3⟩ := j2 (hL 2 (by decide))
  obtain ⟨q, f1, f2, f3⟩ := j3 (hL 3 (by decide))
  rw [if_pos (hL 4 (by decide))] at e3
  refine ⟨p, q, j1 (hL 1 (by decide)), e1, f1, e2, f2, fun hh => ?_, e3, f3, b0⟩
  apply j4 (hL 2 (by decide)) (hL 3 (by decide))
  rw [e1, f1, hh]
end
end Go.Proofs.YtldokkbfahobgaaDoor
