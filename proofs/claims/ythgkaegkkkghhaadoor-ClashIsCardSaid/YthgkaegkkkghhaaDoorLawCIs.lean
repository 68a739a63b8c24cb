/- The law ClashIs, walked: true, and nothing that was there has turned. Conditions: the lists can be read; the package's tables read as they are laid. -/
import Derived.Test.YthgkaegkkkghhaaDoorLawCLists
namespace Go.Proofs.YthgkaegkkkghhaaDoor
open Go.RowKit

set_option maxRecDepth 100000 in
set_option maxHeartbeats 8000000 in
theorem clis_any (va vb : Value) (a b : List (List UInt8)) (xs ys : List Value) (w : World) (ha : Parts w va a xs) (hb : Parts w vb b ys) (hma : ∀ l ∈ a, l.length ≤ 4611686018427387904) (hna : a.length ≤ 4611686018427387904) (hmb : ∀ l ∈ b, l.length ≤ 4611686018427387904) (hnb : b.length ≤ 4611686018427387904) (hg : Glob w) :
    Calls Tryd.prog 5 #[va, vb] w fun e w' => e = .returned (.bool true) ∧ Below w.heap.size w w' := by
  obtain ⟨xa, ca, rfl, _⟩ := ha.sl.form
  obtain ⟨xb, cb, rfl, _⟩ := hb.sl.form
  have HA := Lib.hid ha
  have HB := Lib.hid hb
  have HG := Lib.hid hg
  have HMA := Lib.hid hma
  have HMB := Lib.hid hmb
  clear ha hb hg hma hmb
  cases hga : greatB a with
  | true =>
    have GA := Lib.hid hga
    clear hga
    go_enter Tryd.func5, Tryd.ntmps5
    go_wp2_with (first
      | (go_at_call 9; refine (alive7_any w HG.out).mono ?_; rintro e w1 ⟨rfl, hb1⟩; have hw1 := hb1;  have HA1 := Lib.hid (HA.out.below hb1); have HB1 := Lib.hid (HB.out.below hb1); have HG1 := Lib.hid (HG.out.below hb1); clear hb1)
      | (go_at_call 10; have HQ := HA1; clear HA1; refine (great7_any _ a xs w1 HQ.out HMA.out hna).mono ?_; rintro e w2 ⟨rfl, hb2⟩; rw [GA.out]; have hw2 := hw1.trans (hb2.mono hw1.size); have HA2 := Lib.hid (HQ.out.below hb2); have HB2 := Lib.hid (HB1.out.below hb2); have HG2 := Lib.hid (HG1.out.below hb2); clear hb2)
      | fail)
    go_ret
    exact ⟨rfl, hw2⟩
  | false =>
    have GA := Lib.hid hga
    clear hga
    cases hgb : greatB b with
    | true =>
      have GB := Lib.hid hgb
      clear hgb
      go_enter Tryd.func5, Tryd.ntmps5
      go_wp2_with (first
        | (go_at_call 9; refine (alive7_any w HG.out).mono ?_; rintro e w1 ⟨rfl, hb1⟩; have hw1 := hb1;  have HA1 := Lib.hid (HA.out.below hb1); have HB1 := Lib.hid (HB.out.below hb1); have HG1 := Lib.hid (HG.out.below hb1); clear hb1)
        | (go_at_call 10; have HQ := HA1; clear HA1; refine (great7_any _ a xs w1 HQ.out HMA.out hna).mono ?_; rintro e w2 ⟨rfl, hb2⟩; rw [GA.out]; have hw2 := hw1.trans (hb2.mono hw1.size); have HA2 := Lib.hid (HQ.out.below hb2); have HB2 := Lib.hid (HB1.out.below hb2); have HG2 := Lib.hid (HG1.out.below hb2); clear hb2)
        | (go_at_call 10; have HQ := HB2; clear HB2; refine (great7_any _ b ys w2 HQ.out HMB.out hnb).mono ?_; rintro e w3 ⟨rfl, hb3⟩; rw [GB.out]; have hw3 := hw2.trans (hb3.mono hw2.size); have HB3 := Lib.hid (HQ.out.below hb3); have HA3 := Lib.hid (HA2.out.below hb3); have HG3 := Lib.hid (HG2.out.below hb3); clear hb3)
        | fail)
      go_ret
      exact ⟨rfl, hw3⟩
    | false =>
      have GB := Lib.hid hgb
      clear hgb
      obtain ⟨sa, ta⟩ := small_of GA.out
      obtain ⟨sb, tb⟩ := small_of GB.out
      obtain ⟨l1, l2⟩ := extractB_le (a := a) (b := b) (m := 4000) (by decide) (fun l hl => by have := (not_great GA.out).2 l hl; omega) (fun l hl => by have := (not_great GB.out).2 l hl; omega)
      obtain ⟨R1, hR1⟩ : ∃ R, R = rootB a := ⟨_, rfl⟩
      obtain ⟨R2, hR2⟩ : ∃ R, R = rootB b := ⟨_, rfl⟩
      have HTA := Lib.hid ta
      have HTB := Lib.hid tb
      have RA := Lib.hid hR1
      have RB := Lib.hid hR2
      clear ta tb
      cases hZ : extractB a b with
      | some p =>
        obtain ⟨X, Y⟩ := p
        obtain ⟨k1, k2, k3⟩ := extract_clash a b X Y hZ
        rw [hZ] at l1 l2
        have l1' : X.length ≤ 4000 := l1
        have l2' : Y.length ≤ 4000 := l2
        rw [← hR1, ← hR2] at k3
        have heq : ∀ w, (Op.equalIn 10000 30 (.agg (bytesV R1.b).toArray) (.agg (bytesV R2.b).toArray)).run Tryd.prog w = .ok true w := fun w => by rw [k3]; exact is_hash w R2
        have hll : ((a.length : Int) == b.length) = true := by rw [beq_iff_eq, k2]
        have HZ := Lib.hid hZ
        have HC := Lib.hid k1
        clear hZ k1 k2 k3 hR1 hR2 l1 l2
        go_enter Tryd.func5, Tryd.ntmps5
        go_wp2_with (first
          | (go_at_call 9; refine (alive7_any w HG.out).mono ?_; rintro e w1 ⟨rfl, hb1⟩; have hw1 := hb1;  have HA1 := Lib.hid (HA.out.below hb1); have HB1 := Lib.hid (HB.out.below hb1); have HG1 := Lib.hid (HG.out.below hb1); clear hb1)
          | (go_at_call 10; have HQ := HA1; clear HA1; refine (great7_any _ a xs w1 HQ.out HMA.out hna).mono ?_; rintro e w2 ⟨rfl, hb2⟩; rw [GA.out]; have hw2 := hw1.trans (hb2.mono hw1.size); have HA2 := Lib.hid (HQ.out.below hb2); have HB2 := Lib.hid (HB1.out.below hb2); have HG2 := Lib.hid (HG1.out.below hb2); clear hb2)
          | (go_at_call 10; have HQ := HB2; clear HB2; refine (great7_any _ b ys w2 HQ.out HMB.out hnb).mono ?_; rintro e w3 ⟨rfl, hb3⟩; rw [GB.out]; have hw3 := hw2.trans (hb3.mono hw2.size); have HB3 := Lib.hid (HQ.out.below hb3); have HA3 := Lib.hid (HA2.out.below hb3); have HG3 := Lib.hid (HG2.out.below hb3); clear hb3)
          | (go_at_call 11; refine (extract_any _ _ a b xs ys w3 HA3.out HB3.out sa sb HTA.out HTB.out HG3.out).mono ?_; rintro e w4 ⟨h4, hb4⟩; rw [HZ.out] at h4; obtain ⟨v1, v2, rfl, k1, k2⟩ := h4; rw [show (some (X, Y)).isSome = true from rfl]; have K1 := Lib.hid (show Bytes w4 v1 X from k1); have K2 := Lib.hid (show Bytes w4 v2 Y from k2); clear k1 k2; have hw4 := hw3.trans (hb4.mono hw3.size); have HA4 := Lib.hid (HA3.out.below hb4); have HB4 := Lib.hid (HB3.out.below hb4); have HG4 := Lib.hid (HG3.out.below hb4); clear hb4)
          | (go_at_call 16; refine (cis_any _ _ X Y w4 K1.out K2.out (by omega) (by omega) HG4.out).mono ?_; rintro e w7 ⟨rfl, hb7⟩; rw [HC.out]; have hw7 := hw4.trans (hb7.mono hw4.size); have HA7 := Lib.hid (HA4.out.below hb7); have HB7 := Lib.hid (HB4.out.below hb7); have HG7 := Lib.hid (HG4.out.below hb7); clear hb7)
          | (go_at_call 14; have HQ := HA7; clear HA7; refine (roots_any _ a xs w7 HQ.out sa HTA.out HG7.out).mono ?_; rintro e w5 ⟨rfl, hb5⟩; rw [← RA.out]; unfold hv; have hw5 := hw7.trans (hb5.mono hw7.size); have HA5 := Lib.hid (HQ.out.below hb5); have HB5 := Lib.hid (HB7.out.below hb5); have HG5 := Lib.hid (HG7.out.below hb5); clear hb5)
          | (go_at_call 14; refine (roots_any _ b ys w5 HB5.out sb HTB.out HG5.out).mono ?_; rintro e w6 ⟨rfl, hb6⟩; rw [← RB.out]; unfold hv; have hw6 := hw5.trans (hb6.mono hw5.size); have HA6 := Lib.hid (HA5.out.below hb6); have HB6 := Lib.hid (HB5.out.below hb6); have HG6 := Lib.hid (HG5.out.below hb6); clear hb6)
          | fail)
        go_ret
        exact ⟨rfl, hw6⟩
      | none =>
        have HZ := Lib.hid hZ
        clear hZ l1 l2
        by_cases hl : a.length = b.length
        · have hll : ((a.length : Int) != b.length) = false := by rw [hl]; simp
          have HL := Lib.hid hl
          clear hl
          by_cases hr : R1 = R2
          · have hs : a = b := Classical.byContradiction fun hs => by
              have := HZ.out
              unfold extractB at this
              rw [if_neg (by rintro (h | h | h); exact h HL.out; exact hs h; exact h (by rw [← hR1, ← hR2]; exact hr))] at this
              cases this
            have heq : ∀ w, (Op.equalIn 10000 30 (.agg (bytesV R1.b).toArray) (.agg (bytesV R2.b).toArray)).run Tryd.prog w = .ok true w := fun w => by rw [hr]; exact is_hash w R2
            have HE := Lib.hid (show (a == b) = true by simp [hs])
            clear hs hr hR1 hR2
            go_enter Tryd.func5, Tryd.ntmps5
            go_wp2_with (first
              | (go_at_call 9; refine (alive7_any w HG.out).mono ?_; rintro e w1 ⟨rfl, hb1⟩; have hw1 := hb1;  have HA1 := Lib.hid (HA.out.below hb1); have HB1 := Lib.hid (HB.out.below hb1); have HG1 := Lib.hid (HG.out.below hb1); clear hb1)
              | (go_at_call 10; have HQ := HA1; clear HA1; refine (great7_any _ a xs w1 HQ.out HMA.out hna).mono ?_; rintro e w2 ⟨rfl, hb2⟩; rw [GA.out]; have hw2 := hw1.trans (hb2.mono hw1.size); have HA2 := Lib.hid (HQ.out.below hb2); have HB2 := Lib.hid (HB1.out.below hb2); have HG2 := Lib.hid (HG1.out.below hb2); clear hb2)
              | (go_at_call 10; have HQ := HB2; clear HB2; refine (great7_any _ b ys w2 HQ.out HMB.out hnb).mono ?_; rintro e w3 ⟨rfl, hb3⟩; rw [GB.out]; have hw3 := hw2.trans (hb3.mono hw2.size); have HB3 := Lib.hid (HQ.out.below hb3); have HA3 := Lib.hid (HA2.out.below hb3); have HG3 := Lib.hid (HG2.out.below hb3); clear hb3)
              | (go_at_call 11; refine (extract_any _ _ a b xs ys w3 HA3.out HB3.out sa sb HTA.out HTB.out HG3.out).mono ?_; rintro e w4 ⟨h4, hb4⟩; rw [HZ.out] at h4; obtain ⟨e1, e2, e3, e4, rfl⟩ := extR_get h4; have hw4 := hw3.trans (hb4.mono hw3.size); have HA4 := Lib.hid (HA3.out.below hb4); have HB4 := Lib.hid (HB3.out.below hb4); have HG4 := Lib.hid (HG3.out.below hb4); clear hb4)
              | (go_at_call 14; have HQ := HA4; clear HA4; refine (roots_any _ a xs w4 HQ.out sa HTA.out HG4.out).mono ?_; rintro e w5 ⟨rfl, hb5⟩; rw [← RA.out]; unfold hv; have hw5 := hw4.trans (hb5.mono hw4.size); have HA5 := Lib.hid (HQ.out.below hb5); have HB5 := Lib.hid (HB4.out.below hb5); have HG5 := Lib.hid (HG4.out.below hb5); clear hb5)
              | (go_at_call 14; refine (roots_any _ b ys w5 HB5.out sb HTB.out HG5.out).mono ?_; rintro e w6 ⟨rfl, hb6⟩; rw [← RB.out]; unfold hv; have hw6 := hw5.trans (hb6.mono hw5.size); have HA6 := Lib.hid (HA5.out.below hb6); have HB6 := Lib.hid (HB5.out.below hb6); have HG6 := Lib.hid (HG5.out.below hb6); clear hb6)
              | (go_at_call 20; refine (refsames_any _ _ a b xs ys w6 HA6.out HB6.out (by omega) HTA.out).mono ?_; rintro e w7 ⟨rfl, hb7⟩; rw [HE.out]; have hw7 := hw6.trans (hb7.mono hw6.size); clear hb7)
              | fail)
            go_ret
            exact ⟨rfl, hw7⟩
          · have heq := fun w => ne_hash w R1 R2 hr
            clear hr hR1 hR2
            go_enter Tryd.func5, Tryd.ntmps5
            go_wp2_with (first
              | (go_at_call 9; refine (alive7_any w HG.out).mono ?_; rintro e w1 ⟨rfl, hb1⟩; have hw1 := hb1;  have HA1 := Lib.hid (HA.out.below hb1); have HB1 := Lib.hid (HB.out.below hb1); have HG1 := Lib.hid (HG.out.below hb1); clear hb1)
              | (go_at_call 10; have HQ := HA1; clear HA1; refine (great7_any _ a xs w1 HQ.out HMA.out hna).mono ?_; rintro e w2 ⟨rfl, hb2⟩; rw [GA.out]; have hw2 := hw1.trans (hb2.mono hw1.size); have HA2 := Lib.hid (HQ.out.below hb2); have HB2 := Lib.hid (HB1.out.below hb2); have HG2 := Lib.hid (HG1.out.below hb2); clear hb2)
              | (go_at_call 10; have HQ := HB2; clear HB2; refine (great7_any _ b ys w2 HQ.out HMB.out hnb).mono ?_; rintro e w3 ⟨rfl, hb3⟩; rw [GB.out]; have hw3 := hw2.trans (hb3.mono hw2.size); have HB3 := Lib.hid (HQ.out.below hb3); have HA3 := Lib.hid (HA2.out.below hb3); have HG3 := Lib.hid (HG2.out.below hb3); clear hb3)
              | (go_at_call 11; refine (extract_any _ _ a b xs ys w3 HA3.out HB3.out sa sb HTA.out HTB.out HG3.out).mono ?_; rintro e w4 ⟨h4, hb4⟩; rw [HZ.out] at h4; obtain ⟨e1, e2, e3, e4, rfl⟩ := extR_get h4; have hw4 := hw3.trans (hb4.mono hw3.size); have HA4 := Lib.hid (HA3.out.below hb4); have HB4 := Lib.hid (HB3.out.below hb4); have HG4 := Lib.hid (HG3.out.below hb4); clear hb4)
              | (go_at_call 14; have HQ := HA4; clear HA4; refine (roots_any _ a xs w4 HQ.out sa HTA.out HG4.out).mono ?_; rintro e w5 ⟨rfl, hb5⟩; rw [← RA.out]; unfold hv; have hw5 := hw4.trans (hb5.mono hw4.size); have HA5 := Lib.hid (HQ.out.below hb5); have HB5 := Lib.hid (HB4.out.below hb5); have HG5 := Lib.hid (HG4.out.below hb5); clear hb5)
              | (go_at_call 14; refine (roots_any _ b ys w5 HB5.out sb HTB.out HG5.out).mono ?_; rintro e w6 ⟨rfl, hb6⟩; rw [← RB.out]; unfold hv; have hw6 := hw5.trans (hb6.mono hw5.size); have HA6 := Lib.hid (HA5.out.below hb6); have HB6 := Lib.hid (HB5.out.below hb6); have HG6 := Lib.hid (HG5.out.below hb6); clear hb6)
              | fail)
            go_ret
            exact ⟨rfl, hw6⟩
        · have hll : ((a.length : Int) != b.length) = true := by simp; omega
          clear hl hR1 hR2
          go_enter Tryd.func5, Tryd.ntmps5
          go_wp2_with (first
            | (go_at_call 9; refine (alive7_any w HG.out).mono ?_; rintro e w1 ⟨rfl, hb1⟩; have hw1 := hb1;  have HA1 := Lib.hid (HA.out.below hb1); have HB1 := Lib.hid (HB.out.below hb1); have HG1 := Lib.hid (HG.out.below hb1); clear hb1)
            | (go_at_call 10; have HQ := HA1; clear HA1; refine (great7_any _ a xs w1 HQ.out HMA.out hna).mono ?_; rintro e w2 ⟨rfl, hb2⟩; rw [GA.out]; have hw2 := hw1.trans (hb2.mono hw1.size); have HA2 := Lib.hid (HQ.out.below hb2); have HB2 := Lib.hid (HB1.out.below hb2); have HG2 := Lib.hid (HG1.out.below hb2); clear hb2)
            | (go_at_call 10; have HQ := HB2; clear HB2; refine (great7_any _ b ys w2 HQ.out HMB.out hnb).mono ?_; rintro e w3 ⟨rfl, hb3⟩; rw [GB.out]; have hw3 := hw2.trans (hb3.mono hw2.size); have HB3 := Lib.hid (HQ.out.below hb3); have HA3 := Lib.hid (HA2.out.below hb3); have HG3 := Lib.hid (HG2.out.below hb3); clear hb3)
            | (go_at_call 11; refine (extract_any _ _ a b xs ys w3 HA3.out HB3.out sa sb HTA.out HTB.out HG3.out).mono ?_; rintro e w4 ⟨h4, hb4⟩; rw [HZ.out] at h4; obtain ⟨e1, e2, e3, e4, rfl⟩ := extR_get h4; have hw4 := hw3.trans (hb4.mono hw3.size); have HA4 := Lib.hid (HA3.out.below hb4); have HB4 := Lib.hid (HB3.out.below hb4); have HG4 := Lib.hid (HG3.out.below hb4); clear hb4)
            | fail)
          go_ret
          exact ⟨rfl, hw4⟩
end Go.Proofs.YthgkaegkkkghhaaDoor
