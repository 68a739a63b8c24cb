/- The law ShaFills, walked: true, and nothing that was there has turned. Condition: the package's tables read as they are laid. -/
import Derived.Test.YtjjoiefngoghpaaDoorAlive1
namespace Go.Proofs.YtjjoiefngoghpaaDoor
open Go.RowKit

set_option maxHeartbeats 400000 in
theorem fill_neg (n : Int) (w : World) (hn : n < 0) :
    Calls Tryd.prog 19 #[.int .i64 n] w fun e w' => e = .returned (.slice none 0 0) ∧ w' = w := by
  go_enter Tryd.func19, Tryd.ntmps19
  go_wp2
  go_ret
  exact ⟨rfl, rfl⟩

theorem fillP_first (n : Nat) : (bytesV (fillP n))[0]? = some (.int .u8 128) := rfl
theorem fillP_last (n : Nat) : (bytesV (fillP n))[fillZ n + 8]? = some (.int .u8 ((n : Int) * 8 % 256)) := by
  have h : (fillP n)[fillZ n + 8]? = some (UInt8.ofNat (8 * n)) := by
    unfold fillP
    rw [show fillZ n + 8 = (fillZ n + 7) + 1 by omega, List.getElem?_cons_succ, List.getElem?_append_right (by simp)]
    simp [be64]
  rw [bytesV_at _ _ _ h]
  congr 2
  rw [UInt8.toNat_ofNat']
  omega

set_option maxRecDepth 100000 in
set_option maxHeartbeats 400000 in
theorem fills_out (n : Int) (w : World) (hg : Glob w) (hn : n < 0 ∨ 1000000 < n) :
    Calls Tryd.prog 6 #[.int .i64 n] w fun e w' => e = .returned (.bool true) ∧ Below w.heap.size w w' := by
  have HG := Lib.hid hg
  clear hg
  rcases hn with hn | hn
  · go_enter Tryd.func6, Tryd.ntmps6
    go_wp2_with (first
      | (go_at_call 15; refine (alive1_any w HG.out).mono ?_; rintro e w1 ⟨rfl, hb1⟩)
      | (go_at_call 19; refine (fill_neg _ _ (by omega)).mono ?_; rintro e w2 ⟨rfl, rfl⟩))
    go_ret
    exact ⟨rfl, hb1⟩
  · have hn0 : ¬ n < 0 := by omega
    go_enter Tryd.func6, Tryd.ntmps6
    go_wp2_with (first
      | (go_at_call 15; refine (alive1_any w HG.out).mono ?_; rintro e w1 ⟨rfl, hb1⟩)
      | (go_at_call 19; refine (fill_neg _ _ (by omega)).mono ?_; rintro e w2 ⟨rfl, rfl⟩))
    go_ret
    exact ⟨rfl, hb1⟩

set_option maxRecDepth 100000 in
set_option maxHeartbeats 400000 in
theorem fills_in (n : Nat) (w : World) (hg : Glob w) (hn : n ≤ 1000000) :
    Calls Tryd.prog 6 #[.int .i64 n] w fun e w' => e = .returned (.bool true) ∧ Below w.heap.size w w' := by
  have HG := Lib.hid hg
  clear hg
  have hn0 : ¬ (n : Int) < 0 := by omega
  have hz := fillZ_lt n
  have hlen := fillP_len n
  have hmod : (n + (fillZ n + 1 + 8)) % 64 = 0 := by unfold fillZ; omega
  have HM := Lib.hid hmod
  have HLN := Lib.hid hlen
  clear hmod hlen
  go_enter Tryd.func6, Tryd.ntmps6
  go_wp2_with (go_at_call 15; refine (alive1_any w HG.out).mono ?_; rintro e w1 ⟨rfl, hb1⟩)
  refine (fill_any n w1 (by omega)).mono ?_
  rintro e w2 ⟨⟨a, cap, rfl, hown⟩, hb2⟩
  have hsl := ownsRow_isSl hown (bytesV_one _)
  rw [HLN.out] at hsl ⊢
  obtain ⟨b, off, c, e, hc, hr, _⟩ := hsl.pos (by omega) (by decide)
  cases e
  have c0 : w2.cell? ⟨b, off, none⟩ = some (.int .u8 128) := by have := hr 0 _ (fillP_first n); simpa using this
  have c1 : w2.cell? ⟨b, off + (fillZ n + 8), none⟩ = some (.int .u8 ((n : Int) * 8 % 256)) := hr _ _ (fillP_last n)
  have hm1 : (((n : Int) + ((fillZ n : Int) + 1 + 8)) % 64 == 0) = true := by have := HM.out; simp; omega
  have hB := hb1.trans (hb2.mono hb1.size)
  clear hown hr hb1 hb2 hsl
  go_wp2_with fail
  go_ret
  refine ⟨?_, hB⟩
  rw [Int.mul_comm]
  simp
end Go.Proofs.YtjjoiefngoghpaaDoor
