/- The law LinkOr, walked: true, and nothing that was there has turned. Conditions: the lists and the proof can be read, at most 2^20 texts of at most 2^20 bytes, 2^20 hashes; the package's tables read as they are laid. -/
import Derived.Test.YtnbnjoejmepkjaaDoorAliveW
import Derived.Test.YtnbnjoejmepkjaaDoorMoreW
import Derived.Test.YtnbnjoejmepkjaaDoorLinkU
namespace Go.Proofs.YtnbnjoejmepkjaaDoor
open Go.RowKit

set_option maxRecDepth 100000 in
set_option maxHeartbeats 8000000 in
theorem lor_any (va vb vl : Value) (a b : List (List UInt8)) (xs ys : List Value) (P : List H) (w : World) (ha : Parts w va a xs) (hb : Parts w vb b ys) (hs : Hs w vl P) (hla : a.length ≤ 1048576) (hea : ∀ l ∈ a, l.length ≤ 1048576) (hlb : b.length ≤ 1048576) (heb : ∀ l ∈ b, l.length ≤ 1048576) (hlp : P.length ≤ 1048576) (hg : Glob w) :
    Calls Tryd.prog 4 #[va, vb, vl] w fun e w' => e = .returned (.bool true) ∧ Below w.heap.size w w' := by
  obtain ⟨xa, ca, rfl, _⟩ := ha.sl.form
  obtain ⟨xb, cb, rfl, _⟩ := hb.sl.form
  obtain ⟨xp, cp, rfl, _⟩ := hs.form
  have hsm : P.length + gN a a.length + gN b b.length ≤ 1152921504606846976 := by
    have h1 := gN_bulk hea hla
    have h2 := gN_bulk heb hlb
    omega
  have HA := Lib.hid ha
  have HB := Lib.hid hb
  have HS := Lib.hid hs
  have HG := Lib.hid hg
  have HSM := Lib.hid hsm
  clear ha hb hs hg hsm hea heb
  cases hga : great20B a b P with
  | true =>
    have GA := Lib.hid hga
    clear hga
    go_enter Tryd.func4, Tryd.ntmps4
    go_wp2_with (first
      | (go_at_call 8; refine (alive20_any w HG.out).mono ?_; rintro e w1 ⟨rfl, hb1⟩; have hw1 := hb1; have HA1 := Lib.hid (HA.out.below hb1); have HB1 := Lib.hid (HB.out.below hb1); have HS1 := Lib.hid (HS.out.below hb1); clear hb1)
      | (go_at_call 9; refine (great20_any _ _ _ a b xs ys P w1 HA1.out HB1.out HS1.out HSM.out).mono ?_; rintro e w2 ⟨rfl, h2⟩; rw [h2, GA.out]; clear h2 w2)
      | fail)
    go_ret
    exact ⟨rfl, hw1⟩
  | false =>
    have GA := Lib.hid hga
    obtain ⟨sp, sa, sb, ta0, tb0⟩ := not_great20 hga
    have HTA := Lib.hid (show ∀ l ∈ a, l.length ≤ 35184372088832 from fun l hl => by have := ta0 l hl; omega)
    have HTB := Lib.hid (show ∀ l ∈ b, l.length ≤ 35184372088832 from fun l hl => by have := tb0 l hl; omega)
    have hfl := find_le (P := P) (m := 10000) (by decide) (fun l hl => by have := ta0 l hl; omega) (fun l hl => by have := tb0 l hl; omega)
    clear hga ta0 tb0 hla hlb hlp
    obtain ⟨F, hF⟩ : ∃ F, F = findB a b P := ⟨_, rfl⟩
    rw [← hF] at hfl
    cases F with
    | some r =>
      obtain ⟨x, y⟩ := r
      obtain ⟨k1, k2, k3⟩ := find_some hF.symm
      have hx : x.length ≤ 10000 := hfl.1
      have hy : y.length ≤ 10000 := hfl.2
      have HF := Lib.hid hF
      have K1 := Lib.hid k1
      have K2 := Lib.hid k2
      have K3 := Lib.hid k3
      clear hF k1 k2 k3 hfl
      go_enter Tryd.func4, Tryd.ntmps4
      go_wp2_with (first
        | (go_at_call 8; refine (alive20_any w HG.out).mono ?_; rintro e w1 ⟨rfl, hb1⟩; have hw1 := hb1; have HA1 := Lib.hid (HA.out.below hb1); have HB1 := Lib.hid (HB.out.below hb1); have HS1 := Lib.hid (HS.out.below hb1); have HG1 := Lib.hid (HG.out.below hb1); clear hb1)
        | (go_at_call 9; have HQ := HA1; refine (great20_any _ _ _ a b xs ys P w1 HQ.out HB1.out HS1.out HSM.out).mono ?_; rintro e w2 ⟨rfl, h2⟩; rw [h2, GA.out]; clear h2 w2 HQ)
        | (go_at_call 10; have HQ := HA1; clear HA1; refine (lfind_any _ _ _ a b xs ys P w1 HQ.out HB1.out HS1.out (by omega) (by omega) (by omega) HTA.out HTB.out HG1.out).mono ?_; rintro e w2 ⟨h2, hb2⟩; rw [← HF.out] at h2; obtain ⟨v1, v2, rfl, q1, q2⟩ := h2; rw [show (some (x, y)).isSome = true from rfl]; have q1' : Bytes w2 v1 x := q1; have q2' : Bytes w2 v2 y := q2; clear q1 q2; obtain ⟨f1, f2, rfl, _⟩ := q1'.form; obtain ⟨f3, f4, rfl, _⟩ := q2'.form; have Q1 := Lib.hid q1'; have Q2 := Lib.hid q2'; clear q1' q2'; have hw2 := hw1.trans (hb2.mono hw1.size); have HA2 := Lib.hid (HQ.out.below hb2); have HB2 := Lib.hid (HB1.out.below hb2); have HS2 := Lib.hid (HS1.out.below hb2); have HG2 := Lib.hid (HG1.out.below hb2); clear hb2)
        | (go_at_call 17; refine (cis_any _ _ x y w2 Q1.out Q2.out (by omega) (by omega) HG2.out).mono ?_; rintro e w3 ⟨rfl, hb3⟩; rw [K3.out]; have hw3 := hw2.trans (hb3.mono hw2.size); have HA3 := Lib.hid (HA2.out.below hb3); have HB3 := Lib.hid (HB2.out.below hb3); have HS3 := Lib.hid (HS2.out.below hb3); have HG3 := Lib.hid (HG2.out.below hb3); clear hb3)
        | (go_at_call 13; refine (lis_any _ _ _ a b xs ys P w3 HA3.out HB3.out HS3.out (by omega) (by omega) (by omega) HTA.out HTB.out HG3.out).mono ?_; rintro e w4 ⟨rfl, hb4⟩; rw [K1.out]; have hw4 := hw3.trans (hb4.mono hw3.size); have HA4 := Lib.hid (HA3.out.below hb4); have HB4 := Lib.hid (HB3.out.below hb4); clear hb4)
        | (go_at_call 15; refine (lbegins_any _ _ a b xs ys w4 HA4.out HB4.out (by omega)).mono ?_; rintro e w5 ⟨rfl, h5⟩; rw [h5, K2.out]; clear h5 w5)
        | fail)
      go_ret
      exact ⟨rfl, hw4⟩
    | none =>
      have HF := Lib.hid hF
      clear hfl
      cases hl : linkB a b P with
      | false =>
        have HL := Lib.hid hl
        clear hF hl
        go_enter Tryd.func4, Tryd.ntmps4
        go_wp2_with (first
          | (go_at_call 8; refine (alive20_any w HG.out).mono ?_; rintro e w1 ⟨rfl, hb1⟩; have hw1 := hb1; have HA1 := Lib.hid (HA.out.below hb1); have HB1 := Lib.hid (HB.out.below hb1); have HS1 := Lib.hid (HS.out.below hb1); have HG1 := Lib.hid (HG.out.below hb1); clear hb1)
          | (go_at_call 9; have HQ := HA1; refine (great20_any _ _ _ a b xs ys P w1 HQ.out HB1.out HS1.out HSM.out).mono ?_; rintro e w2 ⟨rfl, h2⟩; rw [h2, GA.out]; clear h2 w2 HQ)
          | (go_at_call 10; have HQ := HA1; clear HA1; refine (lfind_any _ _ _ a b xs ys P w1 HQ.out HB1.out HS1.out (by omega) (by omega) (by omega) HTA.out HTB.out HG1.out).mono ?_; rintro e w2 ⟨h2, hb2⟩; rw [← HF.out] at h2; obtain ⟨e1, e2, e3, e4, rfl⟩ := lextR_get h2; have hw2 := hw1.trans (hb2.mono hw1.size); have HA2 := Lib.hid (HQ.out.below hb2); have HB2 := Lib.hid (HB1.out.below hb2); have HS2 := Lib.hid (HS1.out.below hb2); have HG2 := Lib.hid (HG1.out.below hb2); clear hb2 h2)
          | (go_at_call 13; refine (lis_any _ _ _ a b xs ys P w2 HA2.out HB2.out HS2.out (by omega) (by omega) (by omega) HTA.out HTB.out HG2.out).mono ?_; rintro e w4 ⟨rfl, hb4⟩; rw [HL.out]; have hw4 := hw2.trans (hb4.mono hw2.size); clear hb4)
          | fail)
        go_ret
        exact ⟨rfl, hw4⟩
      | true =>
        have HL := Lib.hid hl
        have HBG := Lib.hid (find_none' hF.symm hl)
        clear hF hl
        go_enter Tryd.func4, Tryd.ntmps4
        go_wp2_with (first
          | (go_at_call 8; refine (alive20_any w HG.out).mono ?_; rintro e w1 ⟨rfl, hb1⟩; have hw1 := hb1; have HA1 := Lib.hid (HA.out.below hb1); have HB1 := Lib.hid (HB.out.below hb1); have HS1 := Lib.hid (HS.out.below hb1); have HG1 := Lib.hid (HG.out.below hb1); clear hb1)
          | (go_at_call 9; have HQ := HA1; refine (great20_any _ _ _ a b xs ys P w1 HQ.out HB1.out HS1.out HSM.out).mono ?_; rintro e w2 ⟨rfl, h2⟩; rw [h2, GA.out]; clear h2 w2 HQ)
          | (go_at_call 10; have HQ := HA1; clear HA1; refine (lfind_any _ _ _ a b xs ys P w1 HQ.out HB1.out HS1.out (by omega) (by omega) (by omega) HTA.out HTB.out HG1.out).mono ?_; rintro e w2 ⟨h2, hb2⟩; rw [← HF.out] at h2; obtain ⟨e1, e2, e3, e4, rfl⟩ := lextR_get h2; have hw2 := hw1.trans (hb2.mono hw1.size); have HA2 := Lib.hid (HQ.out.below hb2); have HB2 := Lib.hid (HB1.out.below hb2); have HS2 := Lib.hid (HS1.out.below hb2); have HG2 := Lib.hid (HG1.out.below hb2); clear hb2 h2)
          | (go_at_call 13; refine (lis_any _ _ _ a b xs ys P w2 HA2.out HB2.out HS2.out (by omega) (by omega) (by omega) HTA.out HTB.out HG2.out).mono ?_; rintro e w4 ⟨rfl, hb4⟩; rw [HL.out]; have hw4 := hw2.trans (hb4.mono hw2.size); have HA4 := Lib.hid (HA2.out.below hb4); have HB4 := Lib.hid (HB2.out.below hb4); clear hb4)
          | (go_at_call 15; refine (lbegins_any _ _ a b xs ys w4 HA4.out HB4.out (by omega)).mono ?_; rintro e w5 ⟨rfl, h5⟩; rw [h5, HBG.out]; clear h5 w5)
          | fail)
        go_ret
        exact ⟨rfl, hw4⟩
end Go.Proofs.YtnbnjoejmepkjaaDoor
