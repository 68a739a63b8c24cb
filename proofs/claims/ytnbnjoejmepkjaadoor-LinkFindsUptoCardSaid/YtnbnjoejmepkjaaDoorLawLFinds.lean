/- The law LinkFinds, walked: true, and nothing that was there has turned. Conditions: the lists and the proof can be read, at most 2^20 texts of at most 2^20 bytes, 2^20 hashes; the package's tables read as they are laid. -/
import Derived.Test.YtnbnjoejmepkjaaDoorAliveW
import Derived.Test.YtnbnjoejmepkjaaDoorMoreW
import Derived.Test.YtnbnjoejmepkjaaDoorLinkU
import Derived.Test.YtnbnjoejmepkjaaDoorLinkV
namespace Go.Proofs.YtnbnjoejmepkjaaDoor
open Go.RowKit

set_option maxRecDepth 100000 in
set_option maxHeartbeats 8000000 in
theorem lfinds_any (va vb vl : Value) (a b : List (List UInt8)) (xs ys : List Value) (P : List H) (w : World) (ha : Parts w va a xs) (hb : Parts w vb b ys) (hs : Hs w vl P) (hla : a.length ≤ 1048576) (hea : ∀ l ∈ a, l.length ≤ 1048576) (hlb : b.length ≤ 1048576) (heb : ∀ l ∈ b, l.length ≤ 1048576) (hlp : P.length ≤ 1048576) (hg : Glob w) :
    Calls Tryd.prog 3 #[va, vb, vl] w fun e w' => e = .returned (.bool true) ∧ Below w.heap.size w w' := by
  obtain ⟨xa, ca, rfl, _⟩ := ha.sl.form
  obtain ⟨xb, cb, rfl, _⟩ := hb.sl.form
  obtain ⟨xp, cp, rfl, _⟩ := hs.form
  have hsm : P.length + gN a a.length + gN b b.length ≤ 1152921504606846976 := by
    have h1 := gN_bulk hea hla
    have h2 := gN_bulk heb hlb
    omega
  have HA := Lib.hid ha
  have HB := Lib.hid hb
  have HS := Lib.hid hs
  have HG := Lib.hid hg
  have HSM := Lib.hid hsm
  clear ha hb hs hg hsm hea heb
  cases hga : great20B a b P with
  | true =>
    have GA := Lib.hid hga
    clear hga
    go_enter Tryd.func3, Tryd.ntmps3
    go_wp2_with (first
      | (go_at_call 8; refine (alive20_any w HG.out).mono ?_; rintro e w1 ⟨rfl, hb1⟩; have hw1 := hb1; have HA1 := Lib.hid (HA.out.below hb1); have HB1 := Lib.hid (HB.out.below hb1); have HS1 := Lib.hid (HS.out.below hb1); clear hb1)
      | (go_at_call 9; refine (great20_any _ _ _ a b xs ys P w1 HA1.out HB1.out HS1.out HSM.out).mono ?_; rintro e w2 ⟨rfl, h2⟩; rw [h2, GA.out]; clear h2 w2)
      | fail)
    go_ret
    exact ⟨rfl, hw1⟩
  | false =>
    have GA := Lib.hid hga
    obtain ⟨sp, sa, sb, ta0, tb0⟩ := not_great20 hga
    have HTA := Lib.hid (show ∀ l ∈ a, l.length ≤ 35184372088832 from fun l hl => by have := ta0 l hl; omega)
    have HTB := Lib.hid (show ∀ l ∈ b, l.length ≤ 35184372088832 from fun l hl => by have := tb0 l hl; omega)
    have hfl := find_le (P := P) (m := 10000) (by decide) (fun l hl => by have := ta0 l hl; omega) (fun l hl => by have := tb0 l hl; omega)
    clear hga ta0 tb0 hla hlb hlp
    obtain ⟨F, hF⟩ : ∃ F, F = findB a b P := ⟨_, rfl⟩
    rw [← hF] at hfl
    obtain ⟨x, hx⟩ : ∃ x, x = (F.getD ([], [])).1 := ⟨_, rfl⟩
    obtain ⟨y, hy⟩ : ∃ y, y = (F.getD ([], [])).2 := ⟨_, rfl⟩
    obtain ⟨q, hq⟩ : ∃ q, q = F.isSome := ⟨_, rfl⟩
    rw [← hx, ← hy] at hfl
    have hlx : x.length ≤ 10000 := hfl.1
    have hly : y.length ≤ 10000 := hfl.2
    have HEX : ∀ (e : Ending) (w : World), ExtR (findB a b P) e w → ∃ f1 f2 f3 f4, e = .returned (.tuple #[.slice f1 x.length f2, .slice f3 y.length f4, .bool q]) ∧ Bytes w (.slice f1 x.length f2) x ∧ Bytes w (.slice f3 y.length f4) y := by
      intro e w h
      rw [← hF] at h
      obtain ⟨v1, v2, rfl, k1, k2⟩ := h
      rw [← hx] at k1
      rw [← hy] at k2
      rw [← hq]
      obtain ⟨f1, f2, rfl, _⟩ := k1.form
      obtain ⟨f3, f4, rfl, _⟩ := k2.form
      exact ⟨f1, f2, f3, f4, rfl, k1, k2⟩
    have HEX := Lib.hid HEX
    obtain ⟨L, hL⟩ : ∃ L, L = linkB a b P := ⟨_, rfl⟩
    obtain ⟨B, hB⟩ : ∃ B, B = beginsB a b := ⟨_, rfl⟩
    have HL := Lib.hid hL
    have HBG := Lib.hid hB
    have HXX := Lib.hid (show (x == x) = true by simp)
    have HYY := Lib.hid (show (y == y) = true by simp)
    have hqq : (q == q) = true := by simp
    have hLL : (L == L) = true := by simp
    have hBB : (B == B) = true := by simp
    clear hF hx hy hq hfl hL hB
    go_enter Tryd.func3, Tryd.ntmps3
    go_wp2_with (first
      | (go_at_call 8; refine (alive20_any w HG.out).mono ?_; rintro e w1 ⟨rfl, hb1⟩; have hw1 := hb1; have HA1 := Lib.hid (HA.out.below hb1); have HB1 := Lib.hid (HB.out.below hb1); have HS1 := Lib.hid (HS.out.below hb1); have HG1 := Lib.hid (HG.out.below hb1); clear hb1)
      | (go_at_call 9; have HQ := HA1; refine (great20_any _ _ _ a b xs ys P w1 HQ.out HB1.out HS1.out HSM.out).mono ?_; rintro e w2 ⟨rfl, h2⟩; rw [h2, GA.out]; clear h2 w2 HQ)
      | (go_at_call 10; have HQ := HA1; clear HA1; refine (lfind_any _ _ _ a b xs ys P w1 HQ.out HB1.out HS1.out (by omega) (by omega) (by omega) HTA.out HTB.out HG1.out).mono ?_; rintro e w2 ⟨h2, hb2⟩; obtain ⟨f1, f2, f3, f4, rfl, q1, q2⟩ := HEX.out _ _ h2; have Q1 := Lib.hid q1; have Q2 := Lib.hid q2; clear q1 q2 h2; have hw2 := hw1.trans (hb2.mono hw1.size); have HA2 := Lib.hid (HQ.out.below hb2); have HB2 := Lib.hid (HB1.out.below hb2); have HS2 := Lib.hid (HS1.out.below hb2); have HG2 := Lib.hid (HG1.out.below hb2); clear hb2)
      | (go_at_call 11; have HQ := HA2; clear HA2; refine (reffind_any _ _ _ a b xs ys P w2 HQ.out HB2.out HS2.out (by omega) (by omega) (by omega) HTA.out HTB.out HG2.out).mono ?_; rintro e w3 ⟨h3, hb3⟩; obtain ⟨g1, g2, g3, g4, rfl, q1, q2⟩ := HEX.out _ _ h3; have R1 := Lib.hid q1; have R2 := Lib.hid q2; have P1 := Lib.hid (Q1.out.below hb3); have P2 := Lib.hid (Q2.out.below hb3); clear q1 q2 h3; have hw3 := hw2.trans (hb3.mono hw2.size); have HA3 := Lib.hid (HQ.out.below hb3); have HB3 := Lib.hid (HB2.out.below hb3); have HS3 := Lib.hid (HS2.out.below hb3); have HG3 := Lib.hid (HG2.out.below hb3); clear hb3)
      | (go_at_call 12; have HQ := P1; clear P1; refine (refbytes_any _ _ x x w3 HQ.out R1.out (by omega)).mono ?_; rintro e w4 ⟨rfl, hb4⟩; rw [HXX.out]; have hw4 := hw3.trans (hb4.mono hw3.size); have HA4 := Lib.hid (HA3.out.below hb4); have HB4 := Lib.hid (HB3.out.below hb4); have HS4 := Lib.hid (HS3.out.below hb4); have HG4 := Lib.hid (HG3.out.below hb4); have T2 := Lib.hid (P2.out.below hb4); have U2 := Lib.hid (R2.out.below hb4); clear hb4)
      | (go_at_call 12; refine (refbytes_any _ _ y y w4 T2.out U2.out (by omega)).mono ?_; rintro e w5 ⟨rfl, hb5⟩; rw [HYY.out]; have hw5 := hw4.trans (hb5.mono hw4.size); have HA5 := Lib.hid (HA4.out.below hb5); have HB5 := Lib.hid (HB4.out.below hb5); have HS5 := Lib.hid (HS4.out.below hb5); have HG5 := Lib.hid (HG4.out.below hb5); clear hb5)
      | (go_at_call 13; refine (lis_any _ _ _ a b xs ys P w5 HA5.out HB5.out HS5.out (by omega) (by omega) (by omega) HTA.out HTB.out HG5.out).mono ?_; rintro e w6 ⟨rfl, hb6⟩; rw [← HL.out]; have hw6 := hw5.trans (hb6.mono hw5.size); have HA6 := Lib.hid (HA5.out.below hb6); have HB6 := Lib.hid (HB5.out.below hb6); have HS6 := Lib.hid (HS5.out.below hb6); have HG6 := Lib.hid (HG5.out.below hb6); clear hb6)
      | (go_at_call 14; refine (reflis_any _ _ _ a b xs ys P w6 HA6.out HB6.out HS6.out (by omega) (by omega) (by omega) HTA.out HTB.out HG6.out).mono ?_; rintro e w7 ⟨rfl, hb7⟩; rw [← HL.out]; have hw7 := hw6.trans (hb7.mono hw6.size); have HA7 := Lib.hid (HA6.out.below hb7); have HB7 := Lib.hid (HB6.out.below hb7); clear hb7)
      | (go_at_call 15; refine (lbegins_any _ _ a b xs ys w7 HA7.out HB7.out (by omega)).mono ?_; rintro e w8 ⟨rfl, h8⟩; rw [h8, ← HBG.out]; clear h8 w8)
      | (go_at_call 16; refine (reflbegins_any _ _ a b xs ys w7 HA7.out HB7.out (by omega) HTA.out).mono ?_; rintro e w8 ⟨rfl, hb8⟩; rw [← HBG.out]; have hw8 := hw7.trans (hb8.mono hw7.size); clear hb8)
      | fail)
    go_ret
    exact ⟨rfl, hw8⟩
end Go.Proofs.YtnbnjoejmepkjaaDoor
