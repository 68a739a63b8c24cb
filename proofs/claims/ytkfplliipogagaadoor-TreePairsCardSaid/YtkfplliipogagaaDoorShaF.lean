/- The walk of the iterator sha.blocks$1, whatever the loop's body keeps. Condition: the text is whole blocks. -/
import Derived.RangeFuncNested
import Derived.RangeFuncBound
import Derived.RangeFuncCalls
import Derived.RangeFuncLeaves
import Derived.Shelf.Abstract
import Derived.Shelf.RegionOpen
import Derived.OwnWalkIn
import Derived.TacticsInMore
import Derived.LoopNIn
import Derived.LoopIn
import Derived.Test.YtkfplliipogagaaDoorShaE
namespace Go.Proofs.YtkfplliipogagaaDoor
open Go.RowKit Go.Shelf

/-- What the iterator's variable holds when i of N blocks have been handed on. -/
def BoxAt (b off cap N Bx i : Nat) (W : World) : Prop :=
  W.frozen? ⟨Bx, 0, none⟩ = false ∧ ∃ a c, W.cell? ⟨Bx, 0, none⟩ = some (.slice a (64 * (N - i)) c) ∧ 64 * (N - i) ≤ c ∧ (i < N → a = some ⟨b, off + 64 * i, none⟩ ∧ c = cap - 64 * i)

def lenAt (Bx : Nat) (W : World) : Nat := match W.cell? ⟨Bx, 0, none⟩ with | some (.slice _ n _) => n | _ => 0
theorem lenAt_of {Bx : Nat} {W : World} {a : Option Addr} {n c : Nat} (h : W.cell? ⟨Bx, 0, none⟩ = some (.slice a n c)) : lenAt Bx W = n := by unfold lenAt; rw [h]
def iterRel (b off cap N Bx : Nat) (J : Nat → World → Prop) (W : World) : Prop := ∃ i, i ≤ N ∧ J i W ∧ BoxAt b off cap N Bx i W

set_option maxRecDepth 100000 in
set_option maxHeartbeats 1000000 in
theorem blocks_iter (m l b off cap N Bx : Nat) (J : Nat → World → Prop) (hcap : 64 * N ≤ cap)
    (hY : ∀ i W, i < N → J i W → YieldAt Fence.wide (m - 1) Tryd.prog l #[.slice (some ⟨b, off + 64 * i, none⟩) 64 (cap - 64 * i)] W fun e W' =>
      e = .returned (.bool true) ∧ J (i + 1) W' ∧ W'.cell? ⟨Bx, 0, none⟩ = W.cell? ⟨Bx, 0, none⟩ ∧ W'.frozen? ⟨Bx, 0, none⟩ = W.frozen? ⟨Bx, 0, none⟩)
    (hJ : ∀ i W v, J i W → J i (W.setCell ⟨Bx, 0, none⟩ v))
    (W : World) (h0 : J 0 W) (hB : BoxAt b off cap N Bx 0 W) :
    CallsIn Fence.wide m Tryd.prog 68 #[.func (.yield l) #[] #[], .pointer (some ⟨Bx, 0, none⟩)] W fun e W' => (∃ v, e = .returned v) ∧ J N W' := by
  have HY := Lib.hid hY
  have HJ := Lib.hid hJ
  clear hY hJ
  refine callsIn_of_wp Tryd.func68 rfl trivial ?_ rfl
  simp only [Tryd.ntmps68, List.size_toArray, List.length_cons, List.length_nil, Nat.reduceAdd, Nat.reduceSub, Array.replicate_succ, Array.replicate_zero, List.push_toArray, List.append_toArray, List.nil_append, List.cons_append]
  gi_wp2
  gi_loopw [3] (fun _ wr => iterRel b off cap N Bx J wr) (fun _ wr => lenAt Bx wr)
  case atStart => exact ⟨0, by omega, h0, hB⟩
  case round =>
    obtain ⟨i, hi, hj, hf, a, c, hc, hcl, hlt⟩ := hrel
    have hla := lenAt_of hc
    by_cases hN : i < N
    · obtain ⟨rfl, rfl⟩ := hlt hN
      clear hlt
      obtain ⟨fn, tmps, assign, body, hy, hR⟩ := HY.out i wr hN hj
      have hHR := Lib.hid hR
      have hLA := Lib.hid hla
      clear hla hR
      gi_wp2
      refine ⟨fun h => by simp [Fence.wide] at h, ?_⟩
      refine hHR.out.mono ?_
      rintro e W3 ⟨rfl, hj3, hc3, hf3⟩
      have hc4 := hc3.trans hc
      have hf4 := hf3.trans hf
      have HJ3 := Lib.hid hj3
      clear hc3 hf3 hj3 hy hHR hc hf hj
      by_cases h64 : cap - 64 * i = 64
      · gi_wp2
        have hc5 : (W3.setCell ⟨Bx, 0, none⟩ (.slice (some ⟨b, off + 64 * i, none⟩) (64 * (N - i) - 64) 0)).cell? ⟨Bx, 0, none⟩ = some (.slice (some ⟨b, off + 64 * i, none⟩) (64 * (N - i) - 64) 0) := World.cell?_setCell_same' _ _ _ (by rw [hc4]; rfl)
        refine ⟨⟨i + 1, by omega, HJ.out _ _ _ HJ3.out, by rw [World.frozen?_setCell]; exact hf4, _, _, by rw [hc5, show 64 * (N - i) - 64 = 64 * (N - (i + 1)) by omega], by omega, fun h => by omega⟩, by rw [lenAt_of hc5, hLA.out]; omega⟩
      · gi_wp2
        have hc5 : (W3.setCell ⟨Bx, 0, none⟩ (.slice (some ⟨b, off + 64 * i + 64, none⟩) (64 * (N - i) - 64) (cap - 64 * i - 64))).cell? ⟨Bx, 0, none⟩ = some (.slice (some ⟨b, off + 64 * i + 64, none⟩) (64 * (N - i) - 64) (cap - 64 * i - 64)) := World.cell?_setCell_same' _ _ _ (by rw [hc4]; rfl)
        refine ⟨⟨i + 1, by omega, HJ.out _ _ _ HJ3.out, by rw [World.frozen?_setCell]; exact hf4, _, _, by rw [hc5, show 64 * (N - i) - 64 = 64 * (N - (i + 1)) by omega], by omega, fun h => ⟨by rw [show off + 64 * i + 64 = off + 64 * (i + 1) by omega], by omega⟩⟩, by rw [lenAt_of hc5, hLA.out]; omega⟩
    · obtain rfl : i = N := by omega
      have hLA := Lib.hid hla
      clear hla hlt
      gi_wp2
      go_end0
      exact ⟨⟨_, rfl⟩, hj⟩
end Go.Proofs.YtkfplliipogagaaDoor
