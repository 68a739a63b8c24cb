/- The law ProofPaths, walked: true, and nothing that was there has turned. Conditions: the list can be read; the package's tables read as they are laid. -/
import Derived.Test.YtkfplliipogagaaDoorAlive6
namespace Go.Proofs.YtkfplliipogagaaDoor
open Go.RowKit

set_option maxRecDepth 100000 in
set_option maxHeartbeats 4000000 in
theorem ppaths_any (v : Value) (l : List H) (i m : Int) (w : World) (hs : Hs w v l) (hg : Glob w) :
    Calls Tryd.prog 9 #[v, .int .i64 i, .int .i64 m] w fun e w' => e = .returned (.bool true) ∧ Below w.heap.size w w' := by
  obtain ⟨xa, ca, rfl, hca⟩ := hs.form
  have HG := Lib.hid hg
  have HS := Lib.hid hs
  clear hg hs
  by_cases h70 : l.length ≤ 70
  · have h1 : ¬ ((70 : Int) < l.length) := by omega
    have hle : l.length ≤ 1099511627776 := by omega
    obtain ⟨b1, hb1⟩ : ∃ b, b = decide (0 ≤ i ∧ i < l.length) := ⟨_, rfl⟩
    obtain ⟨b2, hb2⟩ : ∃ b, b = decide (1 ≤ m ∧ m ≤ l.length) := ⟨_, rfl⟩
    have HB1 := Lib.hid hb1
    have HB2 := Lib.hid hb2
    have HL1 := Lib.hid (path_few l i hle)
    have HL2 := Lib.hid (refprove_len l m hle)
    have HLE := Lib.hid hle
    clear hb1 hb2 hle
    obtain ⟨p, hp⟩ : ∃ p, p = pathR l i := ⟨_, rfl⟩
    obtain ⟨q, hq⟩ : ∃ q, q = subR l m := ⟨_, rfl⟩
    have HP := Lib.hid hp
    have HQ := Lib.hid hq
    clear hp hq
    have heb : ∀ (b : Bool) w, (binOp .eql 4 (.bool b) (.bool b)).run Tryd.prog w = .ok (.bool true) w := fun b w => by cases b <;> rfl
    go_enter Tryd.func9, Tryd.ntmps9
    go_wp2_with (first
      | (go_at_call 33; refine (alive6_any w HG.out).mono ?_; rintro e w1 ⟨rfl, hw1⟩; have HS1 := Lib.hid (HS.out.below hw1); have HG1 := Lib.hid (HG.out.below hw1))
      | (go_at_call 34; refine (path_i _ l i w1 HLE.out HS1.out HG1.out).mono ?_; rintro e w2 ⟨⟨v2, rfl, hv2⟩, hb2⟩; rw [← HP.out] at hv2; rw [← HB1.out]; have hw2 := hw1.trans (hb2.mono hw1.size); have HS2 := Lib.hid (HS.out.below hw2); have HG2 := Lib.hid (HG.out.below hw2); have HV2 := Lib.hid hv2; clear hv2 hb2)
      | (go_at_call 35; refine (refpath_i _ l i w2 HLE.out HS2.out HG2.out).mono ?_; rintro e w3 ⟨⟨v3, rfl, hv3⟩, hb3⟩; rw [← HP.out] at hv3; rw [← HB1.out]; have hw3 := hw2.trans (hb3.mono hw2.size); have HS3 := Lib.hid (HS.out.below hw3); have HG3 := Lib.hid (HG.out.below hw3); have HV23 := Lib.hid (HV2.out.below hb3); have HV3 := Lib.hid hv3; clear hv3 hb3)
      | (go_at_call 36; refine (prove_i _ l m w3 HLE.out HS3.out HG3.out).mono ?_; rintro e w4 ⟨⟨v4, rfl, hv4⟩, hb4⟩; rw [← HQ.out] at hv4; rw [← HB2.out]; have hw4 := hw3.trans (hb4.mono hw3.size); have HS4 := Lib.hid (HS.out.below hw4); have HG4 := Lib.hid (HG.out.below hw4); have HV24 := Lib.hid (HV23.out.below hb4); have HV34 := Lib.hid (HV3.out.below hb4); have HV4 := Lib.hid hv4; clear hv4 hb4)
      | (go_at_call 37; refine (refprove_i _ l m w4 HLE.out HS4.out HG4.out).mono ?_; rintro e w5 ⟨⟨v5, rfl, hv5⟩, hb5⟩; rw [← HQ.out] at hv5; rw [← HB2.out]; have hw5 := hw4.trans (hb5.mono hw4.size); have HV25 := Lib.hid (HV24.out.below hb5); have HV35 := Lib.hid (HV34.out.below hb5); have HV45 := Lib.hid (HV4.out.below hb5); have HV5 := Lib.hid hv5; clear hv5 hb5)
      | (go_at_call 30; have hx := HV25.out; refine (refsame_any v2 v3 p p w5 hx HV35.out (by rw [HP.out]; have := HL1.out; omega)).mono ?_; rintro e w6 ⟨rfl, hb6⟩; rw [decide_eq_true (rfl : p = p)]; have HV46 := Lib.hid (HV45.out.below hb6); have HV56 := Lib.hid (HV5.out.below hb6); have hw6 := hw5.trans (hb6.mono hw5.size); clear hx hb6 HV25)
      | (go_at_call 30; refine (refsame_any v4 v5 q q w6 HV46.out HV56.out (by rw [HQ.out]; have := HL2.out; omega)).mono ?_; rintro e w7 ⟨rfl, hb7⟩; rw [decide_eq_true (rfl : q = q)]; have hw7 := hw6.trans (hb7.mono hw6.size); clear hb7)
      | fail)
    go_ret
    exact ⟨rfl, hw7⟩
  · have h1 : (70 : Int) < l.length := by omega
    go_enter Tryd.func9, Tryd.ntmps9
    go_wp2_with (first
      | (go_at_call 33; refine (alive6_any w HG.out).mono ?_; rintro e w1 ⟨rfl, hw1⟩)
      | fail)
    go_ret
    exact ⟨rfl, hw1⟩
end Go.Proofs.YtkfplliipogagaaDoor
