/- What the law ShaBlocks says, in plain numbers: a text of whole blocks is turned block by block, and its digest's words are the last state's. No condition. -/
import Derived.Test.YtkfplliipogagaaDoorShaN
namespace Go.Proofs.YtkfplliipogagaaDoor
open Go.RowKit

theorem N8.Ok.lt {s : N8} (h : s.Ok) (j : Nat) : s.get j < 4294967296 := by
  match j with
  | 0 => exact h.a
  | 1 => exact h.b
  | 2 => exact h.c
  | 3 => exact h.d
  | 4 => exact h.e
  | 5 => exact h.f
  | 6 => exact h.g
  | j + 7 => exact h.h
theorem blk_pre (p q : List UInt8) (i : Nat) (h : 64 * (i + 1) ≤ p.length) : blk (p ++ q) i = blk p i := by
  unfold blk
  rw [List.drop_append_of_le_length (by omega), List.take_append_of_le_length (by rw [List.length_drop]; omega)]
theorem blk_end (p q : List UInt8) (N : Nat) (hp : p.length = 64 * N) (hq : q.length = 64) : blk (p ++ q) N = q := by
  unfold blk
  rw [List.drop_append, List.drop_of_length_le (by omega), hp, Nat.sub_self, List.drop_zero, List.nil_append, List.take_of_length_le (by omega)]
theorem stateN_pre (p q : List UInt8) : ∀ k, 64 * k ≤ p.length → stateN (p ++ q) k = stateN p k
  | 0, _ => rfl
  | k + 1, h => by
    show turnN (stateN (p ++ q) k) (blk (p ++ q) k) = turnN (stateN p k) (blk p k)
    rw [stateN_pre p q k (by omega), blk_pre p q k h]
theorem fillP_blocks (N : Nat) : (fillP (64 * N)).length = 64 := by
  rw [fillP_len]
  unfold fillZ
  omega
/-- The words of a state, read off its digest. -/
theorem byteN_digest (s : N8) (j : Nat) (h : j < 32) : byteN ((List.range 32).map (digBN s)) j = s.get (j / 4) / 2 ^ (24 - 8 * (j % 4)) % 256 := by
  unfold byteN digBN
  rw [List.getElem?_map, List.getElem?_range h]
  simp
theorem word_digest (s : N8) (hs : s.Ok) (i : Nat) (h : i < 8) : wordN ((List.range 32).map (digBN s)) i = s.get i := by
  rw [wordN_sum, byteN_digest _ _ (by omega), byteN_digest _ _ (by omega), byteN_digest _ _ (by omega), byteN_digest _ _ (by omega)]
  have hl := hs.lt i
  rw [show 4 * i / 4 = i by omega, show (4 * i + 1) / 4 = i by omega, show (4 * i + 2) / 4 = i by omega, show (4 * i + 3) / 4 = i by omega,
    show 4 * i % 4 = 0 by omega, show (4 * i + 1) % 4 = 1 by omega, show (4 * i + 2) % 4 = 2 by omega, show (4 * i + 3) % 4 = 3 by omega]
  generalize s.get i = x at *
  simp only [Nat.mul_zero, Nat.sub_zero, Nat.reduceMul, Nat.reduceSub, Nat.reducePow, Nat.div_one]
  omega
theorem sum_blocks (p : List UInt8) (N : Nat) (hp : p.length = 64 * N) (i : Nat) (h : i < 8) :
    wordN (sumN p) i = (turnN (stateN p N) (fillP (64 * N))).get i := by
  unfold sumN
  have hl : (padded p).length / 64 = N + 1 := by
    rw [padded_len, hp, fillP_blocks]
    omega
  rw [hl, word_digest _ (stateN_ok _ _) i h]
  show (turnN (stateN (padded p) N) (blk (padded p) N)).get i = _
  unfold padded
  rw [hp, stateN_pre _ _ N (by omega), blk_end _ _ N hp (fillP_blocks N)]
end Go.Proofs.YtkfplliipogagaaDoor
