/- The walk of the reference's Number. Condition: at most 1000 bytes. -/
import Derived.Test.YtjjoiefngoghpaaDoorMacD
namespace Go.Proofs.YtjjoiefngoghpaaDoor
open Go.RowKit

set_option maxRecDepth 100000 in
set_option maxHeartbeats 400000 in
theorem number_any (n : Int) (many : Nat) (w : World) (hm : many ≤ 1000) :
    Calls Tryd.prog 35 #[.int .i64 n, .int .i64 many] w fun e w' => (∃ v', e = .returned v' ∧ Bytes w' v' (rowN (u64N n) many)) ∧ Below w.heap.size w w' := by
  have hmk := fun w => make_bytes many (by omega) w
  have hwr := u64_wrap n
  obtain ⟨N, hN⟩ : ∃ N, N = u64N n := ⟨_, rfl⟩
  have hlt : N < 18446744073709551616 := by rw [hN]; exact u64N_lt n
  rw [← hN] at hwr ⊢
  clear hN
  go_enter Tryd.func35, Tryd.ntmps35
  go_wp2_with fail
  go_loopw [6, 7] (fun x i wr => ∃ j m : Nat, j ≤ many ∧ m = N / 256 ^ j ∧ m < 18446744073709551616 ∧ x = .int .u64 m ∧ i = .int .i64 ((many : Int) - 1 - j) ∧ Blk wr w.heap.size (bytesV (rowP N many j)) 5 ∧ Below w.heap.size w wr) (fun _ i _ => (intOf i + 1).toNat)
  case atStart => exact ⟨0, N, by omega, by simp, hlt, rfl, by simp, by rw [rowP_0]; exact Blk.newL w _ _, by (repeat (first | with_reducible assumption | with_reducible exact Below.refl _ _ | ((with_reducible refine Below.setCell ?_ ?_ _); rotate_left; focus (first | omega | (simp; done) | (simp; omega))) | ((with_reducible refine Below.alloc ?_ ?_ _); rotate_left; focus (first | omega | (simp; done) | (simp; omega))) | ((with_reducible refine below_setRow ?_ ?_ _); rotate_left; focus (first | omega | (simp; done) | (simp; omega))) | (with_reducible refine below_drewN ?_ _) | (with_reducible refine Below.drew ?_)))⟩
  case round =>
    clear hmk hwr
    obtain ⟨j, m, hj, hme, hm64, rfl, rfl, hB, hb⟩ := hrel
    have HB := Lib.hid hB
    have HME := Lib.hid hme
    clear hB hme
    by_cases hjm : j < many
    · have c0 : wr.cell? ⟨w.heap.size, many - 1 - j, none⟩ = some (.int .u8 0) := HB.out.cell (by
        have := bytesV_at (rowP N many j) (many - 1 - j) 0 (by rw [rowP_at _ _ _ _ (by omega), if_neg (by omega)])
        simpa using this)
      have f0 : wr.frozen? ⟨w.heap.size, many - 1 - j, none⟩ = false := HB.out.frozen _
      have hix : (((many : Int) - 1 - j).toNat) = many - 1 - j := by omega
      go_wp2_with fail
      refine ⟨⟨j + 1, m / 256, by omega, ?_, by omega, by congr 1, by congr 1; omega, ?_, hb.setCell (by simp) _⟩, by simp [intOf]; omega⟩
      · rw [HME.out, Nat.div_div_eq_div_mul, Nat.pow_succ]
      · rw [← rowP_set _ _ _ hjm, ← HME.out]
        have e : ((UInt8.ofNat m).toNat : Int) = (m : Int) % 256 := by rw [UInt8.toNat_ofNat']; omega
        rw [e]
        exact HB.out.set _ _
    · obtain rfl : j = many := by omega
      go_wp2_with fail
      go_ret
      refine ⟨⟨_, rfl, ?_⟩, hb⟩
      have h1 : wr.rangeAt w.heap.size 0 (bytesV (rowN N j)) := fun i u hi => by
        rw [Nat.zero_add]
        rw [← rowP_all] at hi
        exact HB.out.cell hi
      have := IsSl.of_range (n := j) (cap := j) (size := 1) (by rw [bytesV_len, rowN_len, Nat.mul_one]) (bytesV_one _) (Nat.le_refl _) h1
      unfold Bytes
      rw [rowN_len]
      exact this
end Go.Proofs.YtjjoiefngoghpaaDoor
