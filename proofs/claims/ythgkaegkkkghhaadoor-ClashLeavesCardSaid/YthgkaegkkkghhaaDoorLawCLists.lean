/- The law ClashLists, walked: true, and nothing that was there has turned. Conditions: the lists and the texts can be read; the package's tables read as they are laid. -/
import Derived.Test.YthgkaegkkkghhaaDoorAlive7
import Derived.Test.YthgkaegkkkghhaaDoorClashV
namespace Go.Proofs.YthgkaegkkkghhaaDoor
open Go.RowKit

theorem small_of {ls : List (List UInt8)} (h : greatB ls = false) : ls.length ≤ 4000 ∧ ∀ l ∈ ls, l.length ≤ 35184372088832 := by
  obtain ⟨h1, h2⟩ := not_great h
  exact ⟨by omega, fun l hl => by have := h2 l hl; omega⟩
theorem extractB_le {a b : List (List UInt8)} {m : Nat} (hm : 65 ≤ m) (ha : ∀ l ∈ a, l.length < m) (hb : ∀ l ∈ b, l.length < m) : ((extractB a b).getD ([], [])).1.length ≤ m ∧ ((extractB a b).getD ([], [])).2.length ≤ m := by
  have htx : ∀ (l : List (List UInt8)), (∀ x ∈ l, x.length < m) → (textB l).length ≤ m := fun l hl => by
    unfold textB
    split
    · rename_i h1
      obtain ⟨x, rfl⟩ := List.length_eq_one_iff.1 h1
      have := hl x (by simp)
      simp
      omega
    · simp [H.len]
      omega
  have hdn : ∀ (n : Nat) (a b : List (List UInt8)), a.length = n → (∀ x ∈ a, x.length < m) → (∀ x ∈ b, x.length < m) → (downB a b).1.length ≤ m ∧ (downB a b).2.length ≤ m := by
    intro n
    induction n using Nat.strongRecOn with
    | _ n ih =>
      intro a b hn ha hb
      rw [downB]
      by_cases hs : a.length < 2 ∨ textB a ≠ textB b
      · rw [dif_pos hs]
        exact ⟨htx a ha, htx b hb⟩
      · rw [dif_neg hs]
        have hlt := splitN_lt a.length (by omega)
        have hpos := splitN_pos a.length (by omega)
        split
        · exact ih _ (by rw [List.length_drop]; omega) _ _ rfl (fun x h => ha x (List.mem_of_mem_drop h)) (fun x h => hb x (List.mem_of_mem_drop h))
        · exact ih _ (by rw [List.length_take]; omega) _ _ rfl (fun x h => ha x (List.mem_of_mem_take h)) (fun x h => hb x (List.mem_of_mem_take h))
  unfold extractB
  split
  · exact ⟨Nat.zero_le _, Nat.zero_le _⟩
  · exact hdn _ a b rfl ha hb
set_option maxRecDepth 100000 in
set_option maxHeartbeats 8000000 in
theorem clists_any (va vb vx vy : Value) (a b : List (List UInt8)) (xs ys : List Value) (x y : List UInt8) (w : World) (ha : Parts w va a xs) (hb : Parts w vb b ys) (hx : Bytes w vx x) (hy : Bytes w vy y) (hma : ∀ l ∈ a, l.length ≤ 4611686018427387904) (hna : a.length ≤ 4611686018427387904) (hmb : ∀ l ∈ b, l.length ≤ 4611686018427387904) (hnb : b.length ≤ 4611686018427387904) (hg : Glob w) :
    Calls Tryd.prog 3 #[va, vb, vx, vy] w fun e w' => e = .returned (.bool true) ∧ Below w.heap.size w w' := by
  obtain ⟨xa, ca, rfl, _⟩ := hx.form
  obtain ⟨xb, cb, rfl, _⟩ := hy.form
  have HA := Lib.hid ha
  have HB := Lib.hid hb
  have HX := Lib.hid hx
  have HY := Lib.hid hy
  have HG := Lib.hid hg
  have HMA := Lib.hid hma
  have HMB := Lib.hid hmb
  clear ha hb hx hy hg hma hmb
  cases hga : greatB a with
  | true =>
    have GA := Lib.hid hga
    clear hga
    go_enter Tryd.func3, Tryd.ntmps3
    go_wp2_with (first
      | (go_at_call 9; refine (alive7_any w HG.out).mono ?_; rintro e w1 ⟨rfl, hb1⟩; have hw1 := hb1;  have HA1 := Lib.hid (HA.out.below hb1); have HB1 := Lib.hid (HB.out.below hb1); have HX1 := Lib.hid (HX.out.below hb1); have HY1 := Lib.hid (HY.out.below hb1); have HG1 := Lib.hid (HG.out.below hb1); clear hb1)
      | (go_at_call 10; have HQ := HA1; clear HA1; refine (great7_any _ a xs w1 HQ.out HMA.out hna).mono ?_; rintro e w2 ⟨rfl, hb2⟩; rw [GA.out]; have hw2 := hw1.trans (hb2.mono hw1.size); have HA2 := Lib.hid (HQ.out.below hb2); have HB2 := Lib.hid (HB1.out.below hb2); have HX2 := Lib.hid (HX1.out.below hb2); have HY2 := Lib.hid (HY1.out.below hb2); have HG2 := Lib.hid (HG1.out.below hb2); clear hb2)
      | fail)
    go_ret
    exact ⟨rfl, hw2⟩
  | false =>
    have GA := Lib.hid hga
    clear hga
    cases hgb : greatB b with
    | true =>
      have GB := Lib.hid hgb
      clear hgb
      go_enter Tryd.func3, Tryd.ntmps3
      go_wp2_with (first
        | (go_at_call 9; refine (alive7_any w HG.out).mono ?_; rintro e w1 ⟨rfl, hb1⟩; have hw1 := hb1;  have HA1 := Lib.hid (HA.out.below hb1); have HB1 := Lib.hid (HB.out.below hb1); have HX1 := Lib.hid (HX.out.below hb1); have HY1 := Lib.hid (HY.out.below hb1); have HG1 := Lib.hid (HG.out.below hb1); clear hb1)
        | (go_at_call 10; have HQ := HA1; clear HA1; refine (great7_any _ a xs w1 HQ.out HMA.out hna).mono ?_; rintro e w2 ⟨rfl, hb2⟩; rw [GA.out]; have hw2 := hw1.trans (hb2.mono hw1.size); have HA2 := Lib.hid (HQ.out.below hb2); have HB2 := Lib.hid (HB1.out.below hb2); have HX2 := Lib.hid (HX1.out.below hb2); have HY2 := Lib.hid (HY1.out.below hb2); have HG2 := Lib.hid (HG1.out.below hb2); clear hb2)
        | (go_at_call 10; have HQ := HB2; clear HB2; refine (great7_any _ b ys w2 HQ.out HMB.out hnb).mono ?_; rintro e w3 ⟨rfl, hb3⟩; rw [GB.out]; have hw3 := hw2.trans (hb3.mono hw2.size); have HB3 := Lib.hid (HQ.out.below hb3); have HA3 := Lib.hid (HA2.out.below hb3); have HX3 := Lib.hid (HX2.out.below hb3); have HY3 := Lib.hid (HY2.out.below hb3); have HG3 := Lib.hid (HG2.out.below hb3); clear hb3)
        | fail)
      go_ret
      exact ⟨rfl, hw3⟩
    | false =>
      have GB := Lib.hid hgb
      clear hgb
      by_cases hx3 : (300 : Int) < x.length
      · go_enter Tryd.func3, Tryd.ntmps3
        go_wp2_with (first
          | (go_at_call 9; refine (alive7_any w HG.out).mono ?_; rintro e w1 ⟨rfl, hb1⟩; have hw1 := hb1;  have HA1 := Lib.hid (HA.out.below hb1); have HB1 := Lib.hid (HB.out.below hb1); have HX1 := Lib.hid (HX.out.below hb1); have HY1 := Lib.hid (HY.out.below hb1); have HG1 := Lib.hid (HG.out.below hb1); clear hb1)
          | (go_at_call 10; have HQ := HA1; clear HA1; refine (great7_any _ a xs w1 HQ.out HMA.out hna).mono ?_; rintro e w2 ⟨rfl, hb2⟩; rw [GA.out]; have hw2 := hw1.trans (hb2.mono hw1.size); have HA2 := Lib.hid (HQ.out.below hb2); have HB2 := Lib.hid (HB1.out.below hb2); have HX2 := Lib.hid (HX1.out.below hb2); have HY2 := Lib.hid (HY1.out.below hb2); have HG2 := Lib.hid (HG1.out.below hb2); clear hb2)
          | (go_at_call 10; have HQ := HB2; clear HB2; refine (great7_any _ b ys w2 HQ.out HMB.out hnb).mono ?_; rintro e w3 ⟨rfl, hb3⟩; rw [GB.out]; have hw3 := hw2.trans (hb3.mono hw2.size); have HB3 := Lib.hid (HQ.out.below hb3); have HA3 := Lib.hid (HA2.out.below hb3); have HX3 := Lib.hid (HX2.out.below hb3); have HY3 := Lib.hid (HY2.out.below hb3); have HG3 := Lib.hid (HG2.out.below hb3); clear hb3)
          | fail)
        go_ret
        exact ⟨rfl, hw3⟩
      by_cases hy3 : (300 : Int) < y.length
      · go_enter Tryd.func3, Tryd.ntmps3
        go_wp2_with (first
          | (go_at_call 9; refine (alive7_any w HG.out).mono ?_; rintro e w1 ⟨rfl, hb1⟩; have hw1 := hb1;  have HA1 := Lib.hid (HA.out.below hb1); have HB1 := Lib.hid (HB.out.below hb1); have HX1 := Lib.hid (HX.out.below hb1); have HY1 := Lib.hid (HY.out.below hb1); have HG1 := Lib.hid (HG.out.below hb1); clear hb1)
          | (go_at_call 10; have HQ := HA1; clear HA1; refine (great7_any _ a xs w1 HQ.out HMA.out hna).mono ?_; rintro e w2 ⟨rfl, hb2⟩; rw [GA.out]; have hw2 := hw1.trans (hb2.mono hw1.size); have HA2 := Lib.hid (HQ.out.below hb2); have HB2 := Lib.hid (HB1.out.below hb2); have HX2 := Lib.hid (HX1.out.below hb2); have HY2 := Lib.hid (HY1.out.below hb2); have HG2 := Lib.hid (HG1.out.below hb2); clear hb2)
          | (go_at_call 10; have HQ := HB2; clear HB2; refine (great7_any _ b ys w2 HQ.out HMB.out hnb).mono ?_; rintro e w3 ⟨rfl, hb3⟩; rw [GB.out]; have hw3 := hw2.trans (hb3.mono hw2.size); have HB3 := Lib.hid (HQ.out.below hb3); have HA3 := Lib.hid (HA2.out.below hb3); have HX3 := Lib.hid (HX2.out.below hb3); have HY3 := Lib.hid (HY2.out.below hb3); have HG3 := Lib.hid (HG2.out.below hb3); clear hb3)
          | fail)
        go_ret
        exact ⟨rfl, hw3⟩
      obtain ⟨sa, ta⟩ := small_of GA.out
      obtain ⟨sb, tb⟩ := small_of GB.out
      obtain ⟨Z, hZ⟩ : ∃ Z, Z = extractB a b := ⟨_, rfl⟩
      obtain ⟨l1, l2⟩ := extractB_le (a := a) (b := b) (m := 4000) (by decide) (fun l hl => by have := (not_great GA.out).2 l hl; omega) (fun l hl => by have := (not_great GB.out).2 l hl; omega)
      rw [← hZ] at l1 l2
      obtain ⟨X1, hX1⟩ : ∃ X, X = (Z.getD ([], [])).1 := ⟨_, rfl⟩
      obtain ⟨X2, hX2⟩ : ∃ X, X = (Z.getD ([], [])).2 := ⟨_, rfl⟩
      obtain ⟨s, hs⟩ : ∃ s, s = Z.isSome := ⟨_, rfl⟩
      rw [← hX1] at l1
      rw [← hX2] at l2
      obtain ⟨R, hR⟩ : ∃ R, R = rootB a := ⟨_, rfl⟩
      obtain ⟨c, hc⟩ : ∃ c, c = clashB x y := ⟨_, rfl⟩
      have heq := fun w => is_hash w R
      have HTA := Lib.hid ta
      have HTB := Lib.hid tb
      have HZ := Lib.hid hZ
      have QX1 := Lib.hid hX1
      have QX2 := Lib.hid hX2
      have HSs := Lib.hid hs
      have HR := Lib.hid hR
      have HC := Lib.hid hc
      clear ta tb hZ hX1 hX2 hs hR hc
      go_enter Tryd.func3, Tryd.ntmps3
      go_wp2_with (first
        | (go_at_call 9; refine (alive7_any w HG.out).mono ?_; rintro e w1 ⟨rfl, hb1⟩; have hw1 := hb1;  have HA1 := Lib.hid (HA.out.below hb1); have HB1 := Lib.hid (HB.out.below hb1); have HX1 := Lib.hid (HX.out.below hb1); have HY1 := Lib.hid (HY.out.below hb1); have HG1 := Lib.hid (HG.out.below hb1); clear hb1)
        | (go_at_call 10; have HQ := HA1; clear HA1; refine (great7_any _ a xs w1 HQ.out HMA.out hna).mono ?_; rintro e w2 ⟨rfl, hb2⟩; rw [GA.out]; have hw2 := hw1.trans (hb2.mono hw1.size); have HA2 := Lib.hid (HQ.out.below hb2); have HB2 := Lib.hid (HB1.out.below hb2); have HX2 := Lib.hid (HX1.out.below hb2); have HY2 := Lib.hid (HY1.out.below hb2); have HG2 := Lib.hid (HG1.out.below hb2); clear hb2)
        | (go_at_call 10; have HQ := HB2; clear HB2; refine (great7_any _ b ys w2 HQ.out HMB.out hnb).mono ?_; rintro e w3 ⟨rfl, hb3⟩; rw [GB.out]; have hw3 := hw2.trans (hb3.mono hw2.size); have HB3 := Lib.hid (HQ.out.below hb3); have HA3 := Lib.hid (HA2.out.below hb3); have HX3 := Lib.hid (HX2.out.below hb3); have HY3 := Lib.hid (HY2.out.below hb3); have HG3 := Lib.hid (HG2.out.below hb3); clear hb3)
        | (go_at_call 11; refine (extract_any _ _ a b xs ys w3 HA3.out HB3.out sa sb HTA.out HTB.out HG3.out).mono ?_; rintro e w4 ⟨h4, hb4⟩; rw [← HZ.out] at h4; obtain ⟨v1, v2, rfl, k1, k2⟩ := h4; rw [← QX1.out] at k1; rw [← QX2.out] at k2; rw [← HSs.out]; have hw4 := hw3.trans (hb4.mono hw3.size); have HA4 := Lib.hid (HA3.out.below hb4); have HB4 := Lib.hid (HB3.out.below hb4); have HX4 := Lib.hid (HX3.out.below hb4); have HY4 := Lib.hid (HY3.out.below hb4); have HG4 := Lib.hid (HG3.out.below hb4); have K1 := Lib.hid k1; have K2 := Lib.hid k2; clear hb4 k1 k2)
        | (go_at_call 12; refine (refextract_any _ _ _ a b xs ys w4 rfl HA4.out HB4.out sa sb HTA.out HTB.out HG4.out).mono ?_; rintro e w5 ⟨h5, hb5⟩; rw [← HZ.out] at h5; obtain ⟨v3, v4, rfl, k3, k4⟩ := h5; rw [← QX1.out] at k3; rw [← QX2.out] at k4; rw [← HSs.out]; have hw5 := hw4.trans (hb5.mono hw4.size); have HA5 := Lib.hid (HA4.out.below hb5); have HX5 := Lib.hid (HX4.out.below hb5); have HY5 := Lib.hid (HY4.out.below hb5); have HG5 := Lib.hid (HG4.out.below hb5); have K15 := Lib.hid (K1.out.below hb5); have K25 := Lib.hid (K2.out.below hb5); have K3 := Lib.hid k3; have K4 := Lib.hid k4; clear hb5 k3 k4)
        | (go_at_call 13; have HQ := K15; clear K15; refine (refbytes_any _ _ X1 X1 w5 HQ.out K3.out (by omega)).mono ?_; rintro e w6 ⟨rfl, hb6⟩; rw [beq_self_eq_true]; have hw6 := hw5.trans (hb6.mono hw5.size); have HA6 := Lib.hid (HA5.out.below hb6); have HX6 := Lib.hid (HX5.out.below hb6); have HY6 := Lib.hid (HY5.out.below hb6); have HG6 := Lib.hid (HG5.out.below hb6); have K26 := Lib.hid (K25.out.below hb6); have K46 := Lib.hid (K4.out.below hb6); clear hb6)
        | (go_at_call 13; refine (refbytes_any _ _ X2 X2 w6 K26.out K46.out (by omega)).mono ?_; rintro e w7 ⟨rfl, hb7⟩; rw [beq_self_eq_true]; have hw7 := hw6.trans (hb7.mono hw6.size); have HA7 := Lib.hid (HA6.out.below hb7); have HX7 := Lib.hid (HX6.out.below hb7); have HY7 := Lib.hid (HY6.out.below hb7); have HG7 := Lib.hid (HG6.out.below hb7); clear hb7)
        | (go_at_call 14; refine (roots_any _ a xs w7 HA7.out sa HTA.out HG7.out).mono ?_; rintro e w8 ⟨rfl, hb8⟩; rw [← HR.out]; unfold hv; have hw8 := hw7.trans (hb8.mono hw7.size); have HA8 := Lib.hid (HA7.out.below hb8); have HX8 := Lib.hid (HX7.out.below hb8); have HY8 := Lib.hid (HY7.out.below hb8); have HG8 := Lib.hid (HG7.out.below hb8); clear hb8)
        | (go_at_call 15; refine (refroots_any _ a xs w8 HA8.out sa HTA.out HG8.out).mono ?_; rintro e w9 ⟨rfl, hb9⟩; rw [← HR.out]; unfold hv; have hw9 := hw8.trans (hb9.mono hw8.size); have HX9 := Lib.hid (HX8.out.below hb9); have HY9 := Lib.hid (HY8.out.below hb9); have HG9 := Lib.hid (HG8.out.below hb9); clear hb9)
        | (go_at_call 16; refine (cis_any _ _ x y w9 HX9.out HY9.out (by omega) (by omega) HG9.out).mono ?_; rintro e w10 ⟨rfl, hb10⟩; rw [← HC.out]; have hw10 := hw9.trans (hb10.mono hw9.size); have HX10 := Lib.hid (HX9.out.below hb10); have HY10 := Lib.hid (HY9.out.below hb10); have HG10 := Lib.hid (HG9.out.below hb10); clear hb10)
        | (go_at_call 17; refine (refis_any _ _ x y w10 HX10.out HY10.out (by omega) (by omega) HG10.out).mono ?_; rintro e w11 ⟨rfl, hb11⟩; rw [← HC.out]; have hw11 := hw10.trans (hb11.mono hw10.size); clear hb11)
        | fail)
      go_ret
      exact ⟨rfl, hw11⟩
end Go.Proofs.YthgkaegkkkghhaaDoor
