/- The walks of the reference's right and shift. Condition: a number below 2^32, a turn of 1 to 31. -/
import Derived.Test.YtkfplliipogagaaDoorShaN
namespace Go.Proofs.YtkfplliipogagaaDoor
open Go.RowKit

set_option maxHeartbeats 400000 in
theorem shift_any (x : Int) (n : Int) (w : World) (h0 : 0 ≤ n) (h1 : n ≤ 31) :
    Calls Tryd.prog 65 #[.int .u64 x, .int .i64 n] w fun e w' => e = .returned (.int .u64 (x / 2 ^ n.toNat)) ∧ w' = w := by
  go_enter Tryd.func65, Tryd.ntmps65
  go_wp2
  go_ret
  exact ⟨rfl, rfl⟩
set_option maxHeartbeats 400000 in
theorem right_any (x : Nat) (n : Int) (w : World) (hx1 : x < 4294967296) (h0 : 1 ≤ n) (h1 : n ≤ 31) :
    Calls Tryd.prog 64 #[.int .u64 x, .int .i64 n] w fun e w' => e = .returned (.int .u64 (rrN x n.toNat)) ∧ w' = w := by
  obtain ⟨a, rfl⟩ : ∃ a : Nat, n = (a : Int) := ⟨n.toNat, by omega⟩
  have e := right_nat x a hx1 (by omega)
  have e1 : (32 - (a : Int)).toNat = 32 - a := by omega
  go_enter Tryd.func64, Tryd.ntmps64
  go_wp2
  go_ret
  exact ⟨by simp, rfl⟩
end Go.Proofs.YtkfplliipogagaaDoor
