/- The walk of sha.Fill: what fills up a text. Condition: the length is below 2^48. -/
import Derived.Test.YtkfplliipogagaaDoorShaC
import Derived.Test.YtkfplliipogagaaDoorSlice
namespace Go.Proofs.YtkfplliipogagaaDoor
open Go.RowKit

theorem info_u8 : (Tryd.prog.info? 5).map (fun i => (i.zero, i.size, i.bytes)) = some (some (.int .u8 0), 1, 1) := by kernel_rfl

def fillZ (n : Nat) : Nat := (119 - n % 64) % 64
def be64 (n : Nat) (k : Nat) : List UInt8 := (List.range k).map fun j => UInt8.ofNat (n / 2 ^ (8 * (7 - j)))
def fillP (n : Nat) : List UInt8 := 128 :: (List.replicate (fillZ n) 0 ++ be64 (8 * n) 8)
def fillH (j : Nat) : List UInt8 := 128 :: List.replicate j 0
theorem fillH_snoc (j : Nat) : bytesV (fillH j) ++ [.int .u8 0] = bytesV (fillH (j + 1)) := by
  have : fillH (j + 1) = fillH j ++ [0] := by unfold fillH; rw [List.replicate_succ']; rfl
  rw [this, bytesV_app]; rfl
theorem fillH_len (j : Nat) : (fillH j).length = j + 1 := by simp [fillH]
theorem be64_len (n k : Nat) : (be64 n k).length = k := by simp [be64]
theorem be64_snoc (n k : Nat) (_hk : k < 8) : bytesV (be64 n k) ++ [.int .u8 ((n : Int) / 2 ^ (8 * (7 - k)) % 256)] = bytesV (be64 n (k + 1)) := by
  have : be64 n (k + 1) = be64 n k ++ [UInt8.ofNat (n / 2 ^ (8 * (7 - k)))] := by unfold be64; rw [List.range_succ]; simp
  rw [this, bytesV_app]
  simp [bytesV]
theorem fillZ_test (n j : Nat) (hj : j ≤ fillZ n) : (n + (j + 1)) % 64 = 56 ↔ j = fillZ n := by
  unfold fillZ at *
  omega

def fillRel1 (n : Nat) (w : World) (v : Value) (wr : World) : Prop :=
  ∃ (j : Nat) (a : Option Addr) (cap : Nat), j ≤ fillZ n ∧ v = .slice a (j + 1) cap ∧ wr.ownsRow w.heap.size 5 1 (.slice a (j + 1) cap) (j + 1) (bytesV (fillH j)) ∧ Below w.heap.size w wr
def lenOf : Value → Nat | .slice _ n _ => n | _ => 0

def fillRel2 (n : Nat) (w : World) (v i : Value) (wr : World) : Prop :=
  ∃ (k : Nat) (a : Option Addr) (cap : Nat), k ≤ 8 ∧ i = .int .i64 (7 - (k : Int)) ∧ v = .slice a (fillZ n + 1 + k) cap ∧ wr.ownsRow w.heap.size 5 1 (.slice a (fillZ n + 1 + k) cap) (fillZ n + 1 + k) (bytesV (fillH (fillZ n)) ++ bytesV (be64 (8 * n) k)) ∧ Below w.heap.size w wr
theorem fillP_len (n : Nat) : (fillP n).length = fillZ n + 1 + 8 := by simp [fillP, be64_len]
theorem fillP_V (n : Nat) : bytesV (fillP n) = bytesV (fillH (fillZ n)) ++ bytesV (be64 (8 * n) 8) := by
  rw [← bytesV_app]; rfl
theorem fillZ_lt (n : Nat) : fillZ n ≤ 63 := by unfold fillZ; omega

set_option maxRecDepth 100000 in
set_option maxHeartbeats 400000 in
theorem fill_any (n : Nat) (w : World) (hn : n < 281474976710656) :
    Calls Tryd.prog 54 #[.int .i64 n] w fun e w' => (∃ a cap, e = .returned (.slice a (fillP n).length cap) ∧ w'.ownsRow w.heap.size 5 1 (.slice a (fillP n).length cap) (fillP n).length (bytesV (fillP n))) ∧ Below w.heap.size w w' := by
  obtain ⟨i0, hi, hz0, hz1, hz2⟩ := info_parts info_u8
  go_enter Tryd.func54, Tryd.ntmps54
  go_wp2_with fail
  go_loopw [3] (fun v wr => fillRel1 n w v wr) (fun v _ => 100 - lenOf v)
  case atStart =>
    refine ⟨0, _, 1, by omega, rfl, ⟨rfl, .inr ⟨_, 1, #[.int .u8 128], rfl, Nat.le_refl _, Blk.new _ _ _, Nat.le_refl _, by decide, rfl, rfl⟩⟩, by (repeat (first | with_reducible assumption | with_reducible exact Below.refl _ _ | ((with_reducible refine Below.setCell ?_ ?_ _); rotate_left; focus (first | omega | (simp; done) | (simp; omega))) | ((with_reducible refine Below.alloc ?_ ?_ _); rotate_left; focus (first | omega | (simp; done) | (simp; omega))) | ((with_reducible refine below_setRow ?_ ?_ _); rotate_left; focus (first | omega | (simp; done) | (simp; omega))) | (with_reducible refine below_drewN ?_ _) | (with_reducible refine Below.drew ?_)))⟩
  case round =>
    obtain ⟨j, a, cap, hj, rfl, hown, hb⟩ := hrel
    have ht := fillZ_test n j hj
    have HO := Lib.hid hown
    clear hown
    have hj63 : j ≤ 63 := Nat.le_trans hj (fillZ_lt n)
    by_cases hz : j = fillZ n
    · have htt : (((n : Int) + ((j : Int) + 1)) % 64 != 56) = false := by have := ht.2 hz; simp; omega
      clear ht
      have HZ := Lib.hid hz
      clear hz
      go_wp2_with fail
      obtain ⟨wo, hwo⟩ : ∃ wo : World, wo = wr := ⟨_, rfl⟩
      subst hwo
      go_loopw [3, 5] (fun v i wr => fillRel2 n w v i wr) (fun _ i _ => ((intOf i) + 1).toNat)
      case atStart =>
        obtain rfl := HZ.out
        exact ⟨0, a, cap, by omega, by simp, rfl, by simpa [be64, bytesV] using HO.out, hb⟩
      case round =>
        clear HO hb hj
        obtain ⟨k, a2, cap2, hk, rfl, rfl, hown, hb⟩ := hrel
        have hz63 := fillZ_lt n
        have HO := Lib.hid hown
        clear hown
        by_cases h8 : k < 8
        · go_wp2_with (at_builtin; refine wpList_app rfl (.tmp 25) (.tmp 31) 22 rfl w.heap.size 5 i0 (.int .u8 0) 1 1 Tryd.underlying22 hi hz0 hz1 hz2 rfl (by decide) (.slice a2 (fillZ n + 1 + k) cap2) _ _ rfl (by exact HO.out.alloc _) _ 1 [.int .u8 ((n : Int) * 8 / 2 ^ (8 * (7 - k)) % 256)] rfl (by exact isSl_new _ _ _ _ _ rfl (by simp [Value.oneCell'])) (by unfold maxLen; omega) (by omega) (by have := hb.size; simp; omega) ?_; intro a' cap' w1 hown' hgrow _)
          refine ⟨⟨k + 1, a', cap', by omega, by simp; omega, rfl, ?_, (hb.alloc hb.size _).grown hgrow (by have := hb.size; simp; omega) (fun k hk => (HO.out.lt k hk).1)⟩, by simp [intOf]; omega⟩
          have e := be64_snoc (8 * n) k h8
          rw [show ((8 * n : Nat) : Int) = (n : Int) * 8 by omega] at e
          rw [← e, ← List.append_assoc]
          exact hown'
        · obtain rfl : k = 8 := by omega
          go_wp2_with fail
          go_ret
          exact ⟨⟨a2, cap2, by rw [fillP_len]; rfl, by rw [fillP_len, fillP_V]; exact HO.out⟩, hb⟩
    · have htt : (((n : Int) + ((j : Int) + 1)) % 64 != 56) = true := by have : ¬ (n + (j + 1)) % 64 = 56 := fun h => hz (ht.1 h); simp; omega
      clear ht
      go_wp2_with (at_builtin; refine wpList_app rfl (.tmp 15) (.tmp 16) 22 rfl w.heap.size 5 i0 (.int .u8 0) 1 1 Tryd.underlying22 hi hz0 hz1 hz2 rfl (by decide) (.slice a (j + 1) cap) _ _ rfl (by exact HO.out.alloc _) _ 1 [.int .u8 0] rfl (by exact isSl_new _ _ _ _ _ rfl (by simp [Value.oneCell'])) (by unfold maxLen; omega) (by omega) (by have := hb.size; simp; omega) ?_; intro a' cap' w1 hown' hgrow _)
      refine ⟨⟨j + 1, a', cap', by omega, rfl, by rw [← fillH_snoc]; exact hown', (hb.alloc hb.size _).grown hgrow (by have := hb.size; simp; omega) (fun k hk => (HO.out.lt k hk).1)⟩, by simp [lenOf]; omega⟩
end Go.Proofs.YtkfplliipogagaaDoor
