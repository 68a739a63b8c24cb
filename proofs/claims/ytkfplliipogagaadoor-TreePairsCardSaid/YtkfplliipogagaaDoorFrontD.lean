/- The walk of a stack's down and of its iterator, whatever the loop's body keeps. Condition: the stack holds at least one. -/
import Derived.Test.YtkfplliipogagaaDoorFrontC
import Derived.Test.YtkfplliipogagaaDoorRange
namespace Go.Proofs.YtkfplliipogagaaDoor
open Go.RowKit Go.Shelf
attribute [local go_sem] Oper.semAt_some

set_option maxHeartbeats 400000 in
theorem down_any (b : Nat) (w : World) :
    Calls Tryd.prog 51 #[.pointer (some ⟨b, 0, none⟩)] w fun e w' => e = .returned (.func (.func 66) #[] #[.pointer (some ⟨w.heap.size, 0, none⟩)]) ∧ w' = w.alloc (.cells #[.pointer (some ⟨b, 0, none⟩)] 88) := by
  go_enter Tryd.func51, Tryd.ntmps51
  go_wp2
  go_ret
  exact ⟨rfl, rfl⟩

set_option maxRecDepth 100000 in
set_option maxHeartbeats 1000000 in
theorem down_iter (m l b Bx g off cap N : Nat) (st : List H) (hN : st.length = N) (hpos : 0 < N) (hmax : N ≤ 1099511627776) (J : Nat → World → Prop)
    (hY : ∀ i x W, i < N → st[N - 1 - i]? = some x → J i W → YieldAt Fence.wide (m - 1) Tryd.prog l #[hv x] W fun e W' => e = .returned (.bool true) ∧ J (i + 1) W')
    (hC : ∀ i W, J i W → W.cell? ⟨Bx, 0, none⟩ = some (.pointer (some ⟨b, 0, none⟩)) ∧ W.cell? ⟨b, 0, none⟩ = some (.slice (some ⟨g, off, none⟩) N cap) ∧ W.rangeAt g off (bytesV (hflat st)))
    (W : World) (h0 : J 0 W) :
    CallsIn Fence.wide m Tryd.prog 66 #[.func (.yield l) #[] #[], .pointer (some ⟨Bx, 0, none⟩)] W fun e W' => (∃ v, e = .returned v) ∧ J N W' := by
  have HY := Lib.hid hY
  have HC := Lib.hid hC
  have HN := Lib.hid hN
  obtain ⟨c1, c2, _⟩ := hC 0 W h0
  clear hY hC hN
  refine callsIn_of_wp Tryd.func66 rfl trivial ?_ rfl
  simp only [Tryd.ntmps66, List.size_toArray, List.length_cons, List.length_nil, Nat.reduceAdd, Nat.reduceSub, Array.replicate_succ, Array.replicate_zero, List.push_toArray, List.append_toArray, List.nil_append, List.cons_append]
  gi_wp2
  gi_loopw [3] (fun nv wr => ∃ (i : Nat) (z : Int), i ≤ N ∧ nv = .int .i64 z ∧ z = (N : Int) - 1 - i ∧ J i wr) (fun nv _ => (intOf nv + 1).toNat)
  case atStart => exact ⟨0, _, by omega, rfl, by omega, h0⟩
  case round =>
    clear c1 c2
    obtain ⟨i, z, hi, rfl, hz, hj⟩ := hrel
    by_cases hiN : i < N
    · obtain ⟨k, hk⟩ : ∃ k : Nat, k = N - 1 - i := ⟨_, rfl⟩
      have hzk : z = (k : Int) := by omega
      subst hzk
      obtain ⟨x, hx⟩ : ∃ x, st[k]? = some x := ⟨_, List.getElem?_eq_getElem (by rw [HN.out]; omega)⟩
      obtain ⟨c1, c2, hr⟩ := HC.out i wr hj
      have hE := Hs.elem hr hx
      obtain ⟨fn, tmps, assign, body, hy, hR⟩ := HY.out i x wr hiN (by rw [← hk]; exact hx) hj
      have HE := Lib.hid hE
      have hHR := Lib.hid hR
      have HK := Lib.hid hk
      have hkN : k < N := by omega
      clear hr hE hR hx hk hz
      unfold hv at hy
      gi_wp2_with (first
        | (refine wpListIn_load_mid rfl 24 (.tmp 20) rfl g (off + k * 32) rfl (bytesV x.b) _ (by exact HE.out) Tryd.underlying24 rfl (by exact hv_info _) ?_)
        | fail)
      refine ⟨fun h => by simp [Fence.wide] at h, ?_⟩
      refine hHR.out.mono ?_
      rintro e W3 ⟨rfl, hj3⟩
      have HJ3 := Lib.hid hj3
      clear hj3 hy hHR HE c1 c2 hj
      gi_wp2
      have := HK.out
      refine ⟨⟨i + 1, (k : Int) - 1, by omega, rfl, by omega, HJ3.out⟩, by first | (simp [intOf]; done) | (simp [intOf]; omega)⟩
    · obtain rfl : i = N := by omega
      have hz2 : z < 0 := by omega
      have HJ := Lib.hid hj
      clear hj hz
      gi_wp2
      go_end0
      exact ⟨⟨_, rfl⟩, HJ.out⟩
end Go.Proofs.YtkfplliipogagaaDoor
