/- The walks of math/bits.RotateLeft32, sha.turned and sha.moved: each computes what it says, and only draws. No condition but the range of the turns. -/
import Derived.Test.YtkfplliipogagaaDoorProg
import Derived.Test.YtkfplliipogagaaDoorBase
namespace Go.Proofs.YtkfplliipogagaaDoor
open Go.RowKit

theorem rot_and (a : Nat) (h1 : 1 ≤ a) (h2 : a ≤ 31) : bits .and .u64 (IntKind.u64.wrap (-(a:Int))) 31 = 32 - (a:Int) := by
  have : ∀ a : Fin 32, 1 ≤ a.val → bits .and .u64 (IntKind.u64.wrap (-(a.val:Int))) 31 = 32 - (a.val:Int) := by decide
  exact this ⟨a, by omega⟩ h1

def rr (x : Int) (a : Nat) : Int := bits .or .u32 (x * 2 ^ (32 - a) % 4294967296) (x / 2 ^ a)
def turnedI (x : Int) (a b c : Nat) : Int := bits .xor .u32 (bits .xor .u32 (rr x a) (rr x b)) (rr x c)
def movedI (x : Int) (a b c : Nat) : Int := bits .xor .u32 (bits .xor .u32 (rr x a) (rr x b)) (x / 2 ^ c)

set_option maxHeartbeats 400000 in
theorem rotl_any (x : Int) (k : Int) (w : World) (h1 : -31 ≤ k) (h2 : k ≤ -1) :
    Calls Tryd.prog 75 #[.int .u32 x, .int .i64 k] w fun e w' => e = .returned (.int .u32 (rr x (-k).toNat)) ∧ w' = w := by
  obtain ⟨a, rfl⟩ : ∃ a : Nat, k = -(a:Int) := ⟨(-k).toNat, by omega⟩
  have h1' : 1 ≤ a := by omega
  have h2' : a ≤ 31 := by omega
  have hb := rot_and a h1' h2'
  have hs : IntKind.u64.wrap (32 - (32 - (a:Int))) = a := by simp [IntKind.wrap, IntKind.bits, IntKind.signed]; omega
  have e1 : (32 - (a:Int)).toNat = 32 - a := by omega
  go_enter Tryd.func75, Tryd.ntmps75
  go_wp2
  go_ret
  exact ⟨by simp [rr], rfl⟩

set_option maxHeartbeats 400000 in
theorem turned_any (x : Int) (a b c : Int) (w : World) (ha1 : 1 ≤ a) (ha2 : a ≤ 31) (hb1 : 1 ≤ b) (hb2 : b ≤ 31) (hc1 : 1 ≤ c) (hc2 : c ≤ 31) :
    Calls Tryd.prog 70 #[.int .u32 x, .int .i64 a, .int .i64 b, .int .i64 c] w fun e w' => e = .returned (.int .u32 (turnedI x a.toNat b.toNat c.toNat)) ∧ w' = w := by
  go_enter Tryd.func70, Tryd.ntmps70
  go_wp2_with (go_at_call 75; refine (rotl_any _ _ _ (by omega) (by omega)).mono ?_; rintro e w' ⟨rfl, rfl⟩)
  go_ret
  exact ⟨by simp [turnedI], rfl⟩

set_option maxHeartbeats 400000 in
theorem moved_any (x : Int) (a b c : Int) (w : World) (ha1 : 1 ≤ a) (ha2 : a ≤ 31) (hb1 : 1 ≤ b) (hb2 : b ≤ 31) (hc1 : 1 ≤ c) (hc2 : c ≤ 31) :
    Calls Tryd.prog 74 #[.int .u32 x, .int .i64 a, .int .i64 b, .int .i64 c] w fun e w' => e = .returned (.int .u32 (movedI x a.toNat b.toNat c.toNat)) ∧ ∃ n, w' = w.drewN n := by
  go_enter Tryd.func74, Tryd.ntmps74
  go_wp2
  go_quiet ((go_at_call 75; exact Calls.quiet_of_same (rotl_any _ _ _ (by omega) (by omega))))
  go_wp2
  go_ret
  exact ⟨by simp [movedI], _, rfl⟩
end Go.Proofs.YtkfplliipogagaaDoor
