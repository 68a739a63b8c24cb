/- The walks of the reference's Fill and Bytes. Conditions: the length is below 2^48; the texts can be read. -/
import Derived.Test.YtkfplliipogagaaDoorShaD
import Derived.Test.YtkfplliipogagaaDoorSumAt
namespace Go.Proofs.YtkfplliipogagaaDoor
open Go.RowKit

def fstepN (k : Nat) : Nat := 72057594037927936 / 256 ^ k
theorem fstepN_succ (k : Nat) : fstepN (k + 1) = fstepN k / 256 := by unfold fstepN; rw [Nat.pow_succ, Nat.div_div_eq_div_mul]
theorem fstepN_eq (k : Nat) (h : k < 8) : fstepN k = 2 ^ (8 * (7 - k)) := by
  match k, h with
  | 0, _ => rfl
  | 1, _ => rfl
  | 2, _ => rfl
  | 3, _ => rfl
  | 4, _ => rfl
  | 5, _ => rfl
  | 6, _ => rfl
  | 7, _ => rfl
theorem fstepN_lt (k : Nat) : fstepN k ≤ 72057594037927936 := Nat.div_le_self _ _
def fillRel3 (n : Nat) (w : World) (v s i : Value) (wr : World) : Prop :=
  ∃ (k S : Nat) (a : Option Addr) (cap : Nat), k ≤ 8 ∧ S = fstepN k ∧ i = .int .i64 k ∧ s = .int .u64 S ∧ v = .slice a (fillZ n + 1 + k) cap ∧ wr.ownsRow w.heap.size 5 1 (.slice a (fillZ n + 1 + k) cap) (fillZ n + 1 + k) (bytesV (fillH (fillZ n)) ++ bytesV (be64 (8 * n) k)) ∧ Below w.heap.size w wr

set_option maxRecDepth 100000 in
set_option maxHeartbeats 800000 in
theorem reffill_any (n : Nat) (w : World) (hn : n < 281474976710656) :
    Calls Tryd.prog 47 #[.int .i64 n] w fun e w' => (∃ a cap, e = .returned (.slice a (fillP n).length cap) ∧ w'.ownsRow w.heap.size 5 1 (.slice a (fillP n).length cap) (fillP n).length (bytesV (fillP n))) ∧ Below w.heap.size w w' := by
  obtain ⟨i0, hi, hz0, hz1, hz2⟩ := info_parts info_u8
  go_enter Tryd.func47, Tryd.ntmps47
  go_wp2_with fail
  go_loopw [3] (fun v wr => fillRel1 n w v wr) (fun v _ => 100 - lenOf v)
  case atStart =>
    refine ⟨0, _, 1, by omega, rfl, ⟨rfl, .inr ⟨_, 1, #[.int .u8 128], rfl, Nat.le_refl _, Blk.new _ _ _, Nat.le_refl _, by decide, rfl, rfl⟩⟩, by (repeat (first | with_reducible assumption | with_reducible exact Below.refl _ _ | ((with_reducible refine Below.setCell ?_ ?_ _); rotate_left; focus (first | omega | (simp; done) | (simp; omega))) | ((with_reducible refine Below.alloc ?_ ?_ _); rotate_left; focus (first | omega | (simp; done) | (simp; omega))) | ((with_reducible refine below_setRow ?_ ?_ _); rotate_left; focus (first | omega | (simp; done) | (simp; omega))) | (with_reducible refine below_drewN ?_ _) | (with_reducible refine Below.drew ?_)))⟩
  case round =>
    obtain ⟨j, a, cap, hj, rfl, hown, hb⟩ := hrel
    have ht := fillZ_test n j hj
    have HO := Lib.hid hown
    clear hown
    have hj63 : j ≤ 63 := Nat.le_trans hj (fillZ_lt n)
    by_cases hz : j = fillZ n
    · have htt : (((n : Int) + ((j : Int) + 1)) % 64 != 56) = false := by have := ht.2 hz; simp; omega
      clear ht
      have HZ := Lib.hid hz
      clear hz
      go_wp2_with fail
      obtain ⟨wo, hwo⟩ : ∃ wo : World, wo = wr := ⟨_, rfl⟩
      subst hwo
      go_loopw [3, 5, 6] (fun v s i wr => fillRel3 n w v s i wr) (fun _ _ i _ => 8 - (intOf i).toNat)
      case atStart =>
        obtain rfl := HZ.out
        exact ⟨0, _, a, cap, by omega, rfl, rfl, rfl, rfl, by simpa [be64, bytesV] using HO.out, hb⟩
      case round =>
        clear HO hb hj
        obtain ⟨k, S, a2, cap2, hk, hS, rfl, rfl, rfl, hown, hb⟩ := hrel
        have hz63 := fillZ_lt n
        have hS64 : S ≤ 72057594037927936 := by rw [hS]; exact fstepN_lt k
        have HO := Lib.hid hown
        have HS := Lib.hid hS
        clear hown hS
        by_cases h8 : k < 8
        · have hSp : 0 < S := by rw [HS.out, fstepN_eq k h8]; exact Nat.pow_pos (by decide)
          have hq0 : (0 : Int) ≤ (n : Int) * 8 / S := Int.ediv_nonneg (by omega) (by omega)
          have hqm : ((n : Int) * 8 / S).tmod 256 = (n : Int) * 8 / S % 256 := Int.tmod_eq_emod_of_nonneg hq0
          go_wp2_with (at_builtin; refine wpList_app rfl (.tmp 26) (.tmp 32) 22 rfl w.heap.size 5 i0 (.int .u8 0) 1 1 Tryd.underlying22 hi hz0 hz1 hz2 rfl (by decide) (.slice a2 (fillZ n + 1 + k) cap2) _ _ rfl (by exact HO.out.alloc _) _ 1 [.int .u8 ((n : Int) * 8 / S % 256)] rfl (by exact isSl_new _ _ _ _ _ rfl (by simp [Value.oneCell'])) (by unfold maxLen; omega) (by omega) (by have := hb.size; simp; omega) ?_; intro a' cap' w1 hown' hgrow _)
          refine ⟨⟨k + 1, S / 256, a', cap', by omega, by rw [fstepN_succ, HS.out], by go_num, by go_num, rfl, ?_, (hb.alloc hb.size _).grown hgrow (by have := hb.size; simp; omega) (fun k hk => (HO.out.lt k hk).1)⟩, by simp [intOf]; omega⟩
          have e := be64_snoc (8 * n) k h8
          rw [show ((8 * n : Nat) : Int) = (n : Int) * 8 by omega] at e
          rw [HS.out, fstepN_eq k h8] at hown'
          rw [show ((2 ^ (8 * (7 - k)) : Nat) : Int) = 2 ^ (8 * (7 - k)) by simp] at hown'
          rw [← e, ← List.append_assoc]
          exact hown'
        · obtain rfl : k = 8 := by omega
          go_wp2_with fail
          go_ret
          exact ⟨⟨a2, cap2, by rw [fillP_len]; rfl, by rw [fillP_len, fillP_V]; exact HO.out⟩, hb⟩
    · have htt : (((n : Int) + ((j : Int) + 1)) % 64 != 56) = true := by have : ¬ (n + (j + 1)) % 64 = 56 := fun h => hz (ht.1 h); simp; omega
      clear ht
      go_wp2_with (at_builtin; refine wpList_app rfl (.tmp 16) (.tmp 17) 22 rfl w.heap.size 5 i0 (.int .u8 0) 1 1 Tryd.underlying22 hi hz0 hz1 hz2 rfl (by decide) (.slice a (j + 1) cap) _ _ rfl (by exact HO.out.alloc _) _ 1 [.int .u8 0] rfl (by exact isSl_new _ _ _ _ _ rfl (by simp [Value.oneCell'])) (by unfold maxLen; omega) (by omega) (by have := hb.size; simp; omega) ?_; intro a' cap' w1 hown' hgrow _)
      refine ⟨⟨j + 1, a', cap', by omega, rfl, by rw [← fillH_snoc]; exact hown', (hb.alloc hb.size _).grown hgrow (by have := hb.size; simp; omega) (fun k hk => (HO.out.lt k hk).1)⟩, by simp [lenOf]; omega⟩
end Go.Proofs.YtkfplliipogagaaDoor
