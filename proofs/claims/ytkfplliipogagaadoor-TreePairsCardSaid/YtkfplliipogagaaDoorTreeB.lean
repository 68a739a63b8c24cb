/- The walk of tree.Split. Condition: the number is at most 2^62. -/
import Derived.Test.YtkfplliipogagaaDoorTreeA
import Derived.Test.YtkfplliipogagaaDoorTreeP
namespace Go.Proofs.YtkfplliipogagaaDoor
open Go.RowKit

theorem splitN_small (n : Nat) (h : n < 2) : splitN n = 0 := by unfold splitN; rw [if_pos h]
set_option maxRecDepth 100000 in
set_option maxHeartbeats 400000 in
theorem split_low (n : Int) (w : World) (h : n < 2) :
    Calls Tryd.prog 22 #[.int .i64 n] w fun e w' => e = .returned (.int .i64 0) ∧ w' = w := by
  go_enter Tryd.func22, Tryd.ntmps22
  go_wp2_with fail
  go_ret
  exact ⟨rfl, rfl⟩
set_option maxRecDepth 100000 in
set_option maxHeartbeats 400000 in
theorem split_any (n : Nat) (w : World) (hn : n ≤ 4611686018427387904) :
    Calls Tryd.prog 22 #[.int .i64 n] w fun e w' => e = .returned (.int .i64 (splitN n)) ∧ w' = w := by
  by_cases h2 : n < 2
  · rw [splitN_small n h2]
    exact split_low n w (by omega)
  · go_enter Tryd.func22, Tryd.ntmps22
    go_wp2_with fail
    go_loopw [3] (fun kv wr => ∃ k j : Nat, k = 2 ^ j ∧ 1 ≤ k ∧ k < n ∧ kv = .int .i64 k ∧ wr = w) (fun kv _ => n - (intOf kv).toNat)
    case atStart => exact ⟨1, 0, rfl, by omega, by omega, rfl, rfl⟩
    case round =>
      obtain ⟨k, j, hk, h1, hkn, rfl, rfl⟩ := hrel
      have HK := Lib.hid hk
      clear hk
      by_cases hlt : (k : Int) < (n : Int) - k
      · go_wp2_with fail
        exact ⟨⟨k * 2, j + 1, by rw [HK.out, Nat.pow_succ], by omega, by omega, by go_num, by trivial⟩, by simp [intOf]; omega⟩
      · go_wp2_with fail
        go_ret
        refine ⟨?_, rfl⟩
        rw [splitN_unique n j (by rw [← HK.out]; exact hkn) (by rw [Nat.pow_succ, ← HK.out]; omega), ← HK.out]
        rfl
end Go.Proofs.YtkfplliipogagaaDoor
