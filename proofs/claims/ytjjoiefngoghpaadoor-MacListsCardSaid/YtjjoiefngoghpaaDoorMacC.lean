/- The walk of mac.Equal, and of its closure. Condition: two rows of 32 bytes. -/
import Derived.Test.YtjjoiefngoghpaaDoorMacB
namespace Go.Proofs.YtjjoiefngoghpaaDoor
open Go.RowKit

theorem or_u8 (x y : UInt8) : bits .or .u8 (x.toNat : Int) (y.toNat : Int) = ((x ||| y).toNat : Int) := by
  have h := Nat.or_lt_two_pow (n := 8) x.toNat_lt y.toNat_lt
  have hx := x.toNat_lt
  have hy := y.toNat_lt
  simp only [bits, ofInt_nat]
  rw [UInt8.toNat_or]
  have e : (BitVec.ofNat IntKind.u8.bits x.toNat ||| BitVec.ofNat IntKind.u8.bits y.toNat).toNat = x.toNat ||| y.toNat := by
    show (BitVec.ofNat 8 x.toNat ||| BitVec.ofNat 8 y.toNat).toNat = _
    rw [BitVec.toNat_or, BitVec.toNat_ofNat, BitVec.toNat_ofNat, Nat.mod_eq_of_lt hx, Nat.mod_eq_of_lt hy]
  rw [e]
  simp only [IntKind.wrap, IntKind.bits, IntKind.signed]
  simp
  omega
/-- How the first k bytes differ, all put together. -/
def diffN (a b : List UInt8) : Nat → UInt8
  | 0 => 0
  | k + 1 => diffN a b k ||| (keyAt a k ^^^ keyAt b k)
theorem or_zero (x y : UInt8) (h : x ||| y = 0) : x = 0 ∧ y = 0 := by
  have hx : (x ||| y).toNat = 0 := by rw [h]; rfl
  rw [UInt8.toNat_or] at hx
  have := Nat.or_eq_zero_iff.1 hx
  exact ⟨UInt8.toNat_inj.1 this.1, UInt8.toNat_inj.1 this.2⟩
theorem xor_zero (x y : UInt8) (h : x ^^^ y = 0) : x = y := by
  have h2 := congrArg (· ^^^ y) h
  simp only [UInt8.xor_assoc, UInt8.xor_self, UInt8.xor_zero, UInt8.zero_xor] at h2
  exact h2
theorem diffN_zero (a b : List UInt8) : ∀ k, diffN a b k = 0 → ∀ i, i < k → keyAt a i = keyAt b i
  | 0, _, i, hi => by omega
  | k + 1, h, i, hi => by
    obtain ⟨h1, h2⟩ := or_zero _ _ h
    by_cases e : i = k
    · subst e; exact xor_zero _ _ h2
    · exact diffN_zero a b k h1 i (by omega)
theorem diffN_same (a : List UInt8) : ∀ k, diffN a a k = 0
  | 0 => rfl
  | k + 1 => by
    show diffN a a k ||| (keyAt a k ^^^ keyAt a k) = 0
    rw [diffN_same a k, UInt8.xor_self]
    rfl
theorem diffN_iff (a b : List UInt8) (ha : a.length = 32) (hb : b.length = 32) : (((diffN a b 32).toNat : Int) == 0) = (a == b) := by
  by_cases h : a = b
  · subst h
    rw [diffN_same]
    simp
  · have hn : diffN a b 32 ≠ 0 := fun h0 => h (by
      have := diffN_zero a b 32 h0
      apply List.ext_getElem?
      intro i
      by_cases hi : i < 32
      · have h1 := this i hi
        unfold keyAt at h1
        rw [List.getElem?_eq_getElem (by omega), List.getElem?_eq_getElem (by omega)] at h1 ⊢
        simpa using h1
      · rw [List.getElem?_eq_none (by omega), List.getElem?_eq_none (by omega)])
    have : (diffN a b 32).toNat ≠ 0 := fun h0 => hn (UInt8.toNat_inj.1 h0)
    rw [show (a == b) = false by simpa using h]
    simp
    omega

set_option maxRecDepth 100000 in
set_option maxHeartbeats 400000 in
theorem equal1_any (i A B C : Nat) (x a b : UInt8) (w : World) (hi : i < 32) (hx : w.cell? ⟨A, 0, none⟩ = some (.int .u8 (x.toNat : Int))) (hf : w.frozen? ⟨A, 0, none⟩ = false)
    (ha : w.cell? ⟨B, i, none⟩ = some (.int .u8 (a.toNat : Int))) (hb : w.cell? ⟨C, i, none⟩ = some (.int .u8 (b.toNat : Int))) :
    Calls Tryd.prog 44 #[.int .i64 i, .pointer (some ⟨A, 0, none⟩), .pointer (some ⟨B, 0, none⟩), .pointer (some ⟨C, 0, none⟩)] w fun e w' => e = .returned (.tuple #[]) ∧ ∃ n, w' = (w.drewN n).setCell ⟨A, 0, none⟩ (.int .u8 ((x ||| (a ^^^ b)).toNat : Int)) := by
  have h1 := xor_u8 a b
  have h2 := or_u8 x (a ^^^ b)
  rw [UInt8.toNat_xor] at h1 h2
  go_enter Tryd.func44, Tryd.ntmps44
  go_wp2_with fail
  (refine wp_region_quiet_tail 9 (by kernel_rfl) (by kernel_rfl) ?_; simp only [List.take_succ_cons, List.take_zero, List.drop_succ_cons, List.drop_zero]; (repeat (go_big_quiet_step (fail))); refine wpQuiet_nil ?_; intro _ hw'; obtain ⟨nq, hw''⟩ := hw'; subst hw'')
  go_wp2_with fail
  exact bodyPost_end (results_none rfl _ _ _) rfl ⟨rfl, nq, by rw [UInt8.toNat_or, UInt8.toNat_xor]⟩

set_option maxRecDepth 100000 in
set_option maxHeartbeats 400000 in
theorem equal_any (a b : List UInt8) (w : World) (hla : a.length = 32) (hlb : b.length = 32) :
    Calls Tryd.prog 29 #[hash32 a, hash32 b] w fun e w' => e = .returned (.bool (a == b)) ∧ Below w.heap.size w w' := by
  have hiff := diffN_iff a b hla hlb
  have HIFF := Lib.hid hiff
  have HLA := Lib.hid hla
  have HLB := Lib.hid hlb
  clear hiff hla hlb
  unfold hash32
  go_enter Tryd.func29, Tryd.ntmps29
  go_wp2_with fail
  go_loopw [9] (fun i wr => ∃ k : Nat, k ≤ 32 ∧ i = .int .i64 k ∧ Blk wr w.heap.size (bytesV a) 31 ∧ Blk wr (w.heap.size + 1) (bytesV b) 31 ∧ Blk wr (w.heap.size + 1 + 1) [.int .u8 ((diffN a b k).toNat : Int)] 5 ∧ Below w.heap.size w wr) (fun i _ => 32 - (intOf i).toNat)
  case atStart =>
    exact ⟨0, by omega, rfl, ((Blk.newL w _ _).alloc _).alloc _, (Blk.newL1 w _ _ _).alloc _, Blk.newL2 w _ _ _ _, by (repeat (first | with_reducible assumption | with_reducible exact Below.refl _ _ | ((with_reducible refine Below.setCell ?_ ?_ _); rotate_left; focus (first | omega | (simp; done) | (simp; omega))) | ((with_reducible refine Below.alloc ?_ ?_ _); rotate_left; focus (first | omega | (simp; done) | (simp; omega))) | ((with_reducible refine below_setRow ?_ ?_ _); rotate_left; focus (first | omega | (simp; done) | (simp; omega))) | (with_reducible refine below_drewN ?_ _) | (with_reducible refine Below.drew ?_)))⟩
  case round =>
    obtain ⟨k, hk, rfl, hA, hB, hX, hb⟩ := hrel
    have HA := Lib.hid hA
    have HB := Lib.hid hB
    have HX := Lib.hid hX
    clear hA hB hX
    by_cases h32 : k < 32
    · have ka : a[k]? = some (keyAt a k) := by unfold keyAt; rw [List.getElem?_eq_getElem (by rw [HLA.out]; exact h32)]; rfl
      have kb : b[k]? = some (keyAt b k) := by unfold keyAt; rw [List.getElem?_eq_getElem (by rw [HLB.out]; exact h32)]; rfl
      have HKA := Lib.hid ka
      have HKB := Lib.hid kb
      clear ka kb
      go_wp2_with (go_at_call 44; refine (equal1_any k (w.heap.size + 1 + 1) w.heap.size (w.heap.size + 1) (diffN a b k) (keyAt a k) (keyAt b k) wr h32 (HX.out.cell rfl) (HX.out.frozen 0) (HA.out.cell (bytesV_at _ _ _ HKA.out)) (HB.out.cell (bytesV_at _ _ _ HKB.out))).mono ?_; rintro e w2 ⟨rfl, nq, rfl⟩)
      have e : ((diffN a b (k + 1)).toNat : Int) = (((diffN a b k).toNat ||| (keyAt a k).toNat ^^^ (keyAt b k).toNat : Nat) : Int) := by
        show ((diffN a b k ||| (keyAt a k ^^^ keyAt b k)).toNat : Int) = _
        rw [UInt8.toNat_or, UInt8.toNat_xor]
      refine ⟨⟨k + 1, by omega, by go_num, (HA.out.drewN nq).set_other (by simp <;> omega) _, (HB.out.drewN nq).set_other (by simp) _, ?_, (below_drewN hb nq).setCell (by simp <;> omega) _⟩, by simp [intOf]; omega⟩
      rw [e]
      exact (HX.out.drewN nq).set 0 _
    · obtain rfl : k = 32 := by omega
      have c0 : wr.cell? ⟨w.heap.size + 1 + 1, 0, none⟩ = some (.int .u8 ((diffN a b 32).toNat : Int)) := HX.out.cell rfl
      go_wp2_with fail
      go_ret
      exact ⟨congrArg (fun x => Ending.returned (.bool x)) HIFF.out, hb⟩
end Go.Proofs.YtjjoiefngoghpaaDoor
