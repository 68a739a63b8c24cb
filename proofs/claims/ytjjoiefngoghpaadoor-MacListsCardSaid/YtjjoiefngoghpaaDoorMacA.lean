/- The walk of mac.pad: a key's 64 bytes, each put together with another one. Condition: the key can be read. -/
import Derived.Test.YtjjoiefngoghpaaDoorSumAt
import Derived.Test.YtjjoiefngoghpaaDoorEq
import Derived.Test.YtjjoiefngoghpaaDoorLater
import Derived.Laws.CopyOwn
import Derived.Laws.MakeOwn
namespace Go.Proofs.YtjjoiefngoghpaaDoor
open Go.RowKit

def keyAt (k : List UInt8) (i : Nat) : UInt8 := k[i]?.getD 0
/-- A key's first 64 bytes, bytes 0 behind, each put together with b. -/
def padN (k : List UInt8) (b : UInt8) : List UInt8 := (List.range 64).map fun i => keyAt k i ^^^ b
theorem padN_len (k : List UInt8) (b : UInt8) : (padN k b).length = 64 := by simp [padN]
theorem xor_u8 (x y : UInt8) : bits .xor .u8 (x.toNat : Int) (y.toNat : Int) = ((x ^^^ y).toNat : Int) := by
  have h := Nat.xor_lt_two_pow (n := 8) x.toNat_lt y.toNat_lt
  have hx := x.toNat_lt
  have hy := y.toNat_lt
  simp only [bits, ofInt_nat]
  rw [UInt8.toNat_xor]
  have e : (BitVec.ofNat IntKind.u8.bits x.toNat ^^^ BitVec.ofNat IntKind.u8.bits y.toNat).toNat = x.toNat ^^^ y.toNat := by
    show (BitVec.ofNat 8 x.toNat ^^^ BitVec.ofNat 8 y.toNat).toNat = _
    rw [BitVec.toNat_xor, BitVec.toNat_ofNat, BitVec.toNat_ofNat, Nat.mod_eq_of_lt hx, Nat.mod_eq_of_lt hy]
  rw [e]
  simp only [IntKind.wrap, IntKind.bits, IntKind.signed]
  simp
  omega
/-- The cells behind j of the rounds. -/
def padRow (k : List UInt8) (b : UInt8) (j : Nat) : List UInt8 := (List.range 64).map fun i => if i < j then keyAt k i ^^^ b else keyAt k i
theorem padRow_len (k : List UInt8) (b : UInt8) (j : Nat) : (padRow k b j).length = 64 := by simp [padRow]
theorem padRow_at (k : List UInt8) (b : UInt8) (j i : Nat) (h : i < 64) : (padRow k b j)[i]? = some (if i < j then keyAt k i ^^^ b else keyAt k i) := by simp [padRow, h]
theorem padRow_64 (k : List UInt8) (b : UInt8) : padRow k b 64 = padN k b := by
  unfold padRow padN
  refine List.map_congr_left fun i hi => ?_
  rw [if_pos (List.mem_range.1 hi)]
theorem padRow_set (k : List UInt8) (b : UInt8) (j : Nat) : (bytesV (padRow k b j)).set j (.int .u8 ((keyAt k j ^^^ b).toNat : Int)) = bytesV (padRow k b (j + 1)) := by
  unfold bytesV
  have : (padRow k b j).set j (keyAt k j ^^^ b) = padRow k b (j + 1) := by
    apply List.ext_getElem?
    intro i
    by_cases hi : i < 64
    · rw [List.getElem?_set, padRow_len, padRow_at _ _ _ _ hi, padRow_at _ _ _ _ hi]
      by_cases hk : j = i
      · subst hk; rw [if_pos rfl, if_pos hi, if_pos (by omega)]
      · rw [if_neg hk]
        by_cases h2 : i < j
        · rw [if_pos h2, if_pos (by omega)]
        · rw [if_neg h2, if_neg (by omega)]
    · rw [List.getElem?_eq_none (by simp [padRow_len]; omega), List.getElem?_eq_none (by simp [padRow_len]; omega)]
  rw [← this, List.map_set]

def zerosB (n : Nat) : List UInt8 := List.replicate n 0
theorem zerosB_len (n : Nat) : (zerosB n).length = n := by simp [zerosB]
theorem make_bytes (n : Nat) (hn : n ≤ 281474976710656) (w : World) :
    (Instr.makeSlice 24 (.int .i64 (n : Int)) (.int .i64 (n : Int))).run Tryd.prog w = .ok (.slice (some ⟨w.heap.size, 0, none⟩) n n) (w.alloc (.cells (bytesV (zerosB n)).toArray 5)) := by
  obtain ⟨i0, hi, hz0, hz1, hz2⟩ := info_parts info_u8
  rw [run_make w 24 5 i0 _ Tryd.underlying24 hi hz0 .i64 .i64 n n (by omega) (by omega) (by rw [hz2]; omega) (by omega)]
  rw [hz1, Nat.mul_one, Int.toNat_natCast]
  congr 4
  apply Array.ext
  · simp [madeCells, bytesV, zerosB]
  · intro i h1 h2
    simp [madeCells, bytesV, zerosB, Value.cells, Nat.mod_one]

theorem padRow_zero (k : List UInt8) (b : UInt8) : k.take 64 ++ (zerosB 64).drop (k.take 64).length = padRow k b 0 := by
  apply List.ext_getElem?
  intro i
  by_cases hi : i < 64
  · rw [padRow_at _ _ _ _ hi, if_neg (by omega)]
    unfold keyAt
    by_cases h2 : i < k.length
    · rw [List.getElem?_append_left (by rw [List.length_take]; omega), List.getElem?_take, if_pos hi, List.getElem?_eq_getElem h2]
      rfl
    · rw [List.getElem?_append_right (by rw [List.length_take]; omega), List.getElem?_drop, List.getElem?_eq_none (l := k) (by omega), zerosB, List.getElem?_replicate, if_pos (by rw [List.length_take]; omega)]
      rfl
  · rw [List.getElem?_eq_none (by rw [List.length_append, List.length_drop, zerosB_len, List.length_take]; omega), List.getElem?_eq_none (by rw [padRow_len]; omega)]

set_option maxRecDepth 100000 in
set_option maxHeartbeats 400000 in
theorem pad_any (v : Value) (k : List UInt8) (b : UInt8) (w : World) (hk : Bytes w v k) :
    Calls Tryd.prog 42 #[v, .int .u8 (b.toNat : Int)] w fun e w' => (∃ v', e = .returned v' ∧ Bytes w' v' (padN k b)) ∧ Below w.heap.size w w' := by
  obtain ⟨xa, ca, rfl, _⟩ := hk.form
  have HK := Lib.hid hk
  clear hk
  have hmk : ∀ w : World, (Instr.makeSlice 24 (.int .i64 64) (.int .i64 64)).run Tryd.prog w = .ok (.slice (some ⟨w.heap.size, 0, none⟩) 64 64) (w.alloc (.cells (bytesV (zerosB 64)).toArray 5)) := fun w => make_bytes 64 (by omega) w
  go_enter Tryd.func42, Tryd.ntmps42
  have hmin : (bytesV (k.take 64)).length = Nat.min k.length 64 := by rw [bytesV_len, List.length_take, Nat.min_comm]
  have hsp : splice (bytesV (zerosB 64)) 0 (bytesV (k.take 64)) = bytesV (padRow k b 0) := by
    unfold splice
    rw [List.take_zero, List.nil_append, bytesV_len, ← padRow_zero k b, bytesV_app]
    congr 1
    unfold bytesV
    rw [List.map_drop, Nat.zero_add]
  have hsrc : 0 < (bytesV (k.take 64)).length → some (⟨w.heap.size, 0, none⟩ : Addr) = some ⟨w.heap.size, 0, none⟩ ∧ ∃ ad, xa = some ad ∧ ∀ j v, (bytesV (k.take 64))[j]? = some v → (w.alloc (.cells (bytesV (zerosB 64)).toArray 5)).cell? (ad.add j) = some v := by
    intro hpos
    refine ⟨rfl, ?_⟩
    rw [bytesV_len, List.length_take] at hpos
    rcases HK.out.2.2 with ⟨_, hl⟩ | ⟨ad, cap, e, _, hr⟩
    · omega
    · cases e
      refine ⟨ad, rfl, fun j u hj => ?_⟩
      have hu : (bytesV k)[j]? = some u := by
        unfold bytesV at hj ⊢
        rw [List.map_take, List.getElem?_take] at hj
        split at hj
        · exact hj
        · cases hj
      refine (Below.cell ((Below.refl w.heap.size w).alloc (Nat.le_refl _) _) (World.block_lt_of_cell? _ _ (hr j u hu))).trans (hr j u hu)
  have HSRC := Lib.hid hsrc
  clear hsrc
  have HMIN := Lib.hid hmin
  have HSP := Lib.hid hsp
  clear hmin hsp
  go_wp2_with (first
    | (refine wpList_copy_splice rfl (.tmp 8) (.tmp 9) 24 24 rfl 5 Tryd.underlying24 (by kernel_rfl) (some ⟨w.heap.size, 0, none⟩) xa 64 64 k.length ca rfl rfl
        w.heap.size 0 (bytesV (zerosB 64)) 5 (by exact Blk.newL w _ _) (bytesV (k.take 64)) HMIN.out (by exact HSRC.out) (by rw [bytesV_len, bytesV_len, zerosB_len, List.length_take]; omega) (bytesV_one _) w.heap.size w (by (repeat (first | with_reducible assumption | with_reducible exact Below.refl _ _ | ((with_reducible refine Below.setCell ?_ ?_ _); rotate_left; focus (first | omega | (simp; done) | (simp; omega))) | ((with_reducible refine Below.alloc ?_ ?_ _); rotate_left; focus (first | omega | (simp; done) | (simp; omega))) | ((with_reducible refine below_setRow ?_ ?_ _); rotate_left; focus (first | omega | (simp; done) | (simp; omega))) | (with_reducible refine below_drewN ?_ _) | (with_reducible refine Below.drew ?_)))) (Nat.le_refl _) ?_; intro w1 hB1 hb1)
    | fail)
  rw [HSP.out] at hB1
  go_loopw [13] (fun i wr => ∃ j : Nat, j ≤ 64 ∧ i = .int .i64 j ∧ Blk wr w.heap.size (bytesV (padRow k b j)) 5 ∧ Below w.heap.size w wr) (fun i _ => 64 - (intOf i).toNat)
  case atStart => exact ⟨0, by omega, rfl, hB1.out, hb1⟩
  case round =>
    clear hB1 hb1 HSP HMIN hmk
    obtain ⟨j, hj, rfl, hB, hb⟩ := hrel
    have HB := Lib.hid hB
    clear hB
    by_cases h64 : j < 64
    · have hat : (bytesV (padRow k b j))[j]? = some (.int .u8 ((keyAt k j).toNat : Int)) := bytesV_at _ _ _ (by rw [padRow_at _ _ _ _ h64, if_neg (by omega)])
      have c0 : wr.cell? ⟨w.heap.size, j, none⟩ = some (.int .u8 ((keyAt k j).toNat : Int)) := HB.out.cell hat
      have f0 : wr.frozen? ⟨w.heap.size, j, none⟩ = false := HB.out.frozen j
      have hx := xor_u8 (keyAt k j) b
      go_wp2_with fail
      refine ⟨⟨j + 1, by omega, by go_num, ?_, by (repeat (first | with_reducible assumption | with_reducible exact Below.refl _ _ | ((with_reducible refine Below.setCell ?_ ?_ _); rotate_left; focus (first | omega | (simp; done) | (simp; omega))) | ((with_reducible refine Below.alloc ?_ ?_ _); rotate_left; focus (first | omega | (simp; done) | (simp; omega))) | ((with_reducible refine below_setRow ?_ ?_ _); rotate_left; focus (first | omega | (simp; done) | (simp; omega))) | (with_reducible refine below_drewN ?_ _) | (with_reducible refine Below.drew ?_)))⟩, by simp [intOf]; omega⟩
      rw [← padRow_set, UInt8.toNat_xor]
      exact HB.out.set j _
    · obtain rfl : j = 64 := by omega
      go_wp2_with fail
      go_ret
      refine ⟨⟨_, rfl, ?_⟩, hb⟩
      have h1 : wr.rangeAt w.heap.size 0 (bytesV (padN k b)) := fun i u hi => by
        rw [Nat.zero_add]
        rw [← padRow_64] at hi
        exact HB.out.cell hi
      have := IsSl.of_range (n := 64) (cap := 64) (size := 1) (by rw [bytesV_len, padN_len]) (bytesV_one _) (Nat.le_refl _) h1
      unfold Bytes
      rw [padN_len]
      exact this
end Go.Proofs.YtjjoiefngoghpaaDoor
