/- The law ClashPaths, walked: true, and nothing that was there has turned. Conditions: the texts and the paths can be read; the package's tables read as they are laid. -/
import Derived.Test.YthgkaegkkkghhaaDoorAlive7
import Derived.Test.YthgkaegkkkghhaaDoorAboveW
namespace Go.Proofs.YthgkaegkkkghhaaDoor
open Go.RowKit

theorem firstB_mem {l : List (List UInt8 × List UInt8)} {p : List UInt8 × List UInt8} (h : firstB l = some p) : p ∈ l := by
  induction l with
  | nil => cases h
  | cons q l ih =>
    obtain ⟨u, v⟩ := q
    rw [firstB] at h
    split at h
    · cases h
      exact List.mem_cons_self
    · exact List.mem_cons_of_mem _ (ih h)
theorem pathsB_le (x y : List UInt8) (i n : Int) (P Q : List H) (m : Nat) (hm : 65 ≤ m) (hx : x.length < m) (hy : y.length < m) : ((pathsB x y i n P Q).getD ([], [])).1.length ≤ m ∧ ((pathsB x y i n P Q).getD ([], [])).2.length ≤ m := by
  unfold pathsB
  split
  · cases hf : firstB (pairsB x y i.toNat n.toNat P Q) with
    | none => exact ⟨Nat.zero_le _, Nat.zero_le _⟩
    | some p =>
      have hp := firstB_mem hf
      unfold pairsB at hp
      obtain ⟨u, v⟩ := p
      have h1 := (List.of_mem_zip hp).1
      have h2 := (List.of_mem_zip hp).2
      rw [List.mem_reverse] at h1 h2
      exact ⟨textsB_le _ m hm _ (by simp; omega) u h1, textsB_le _ m hm _ (by simp; omega) v h2⟩
  · exact ⟨Nat.zero_le _, Nat.zero_le _⟩
set_option maxRecDepth 100000 in
set_option maxHeartbeats 8000000 in
theorem cpaths_any (vx vy vp vq : Value) (x y : List UInt8) (i n : Int) (P Q : List H) (w : World) (hx : Bytes w vx x) (hy : Bytes w vy y) (hp : Hs w vp P) (hq : Hs w vq Q) (hg : Glob w) :
    Calls Tryd.prog 4 #[vx, vy, .int .i64 i, .int .i64 n, vp, vq] w fun e w' => e = .returned (.bool true) ∧ Below w.heap.size w w' := by
  obtain ⟨xa, ca, rfl, _⟩ := hx.form
  obtain ⟨xb, cb, rfl, _⟩ := hy.form
  obtain ⟨xp, cp, rfl, _⟩ := hp.form
  obtain ⟨xq, cq, rfl, _⟩ := hq.form
  have HX := Lib.hid hx
  have HY := Lib.hid hy
  have HP := Lib.hid hp
  have HQ := Lib.hid hq
  have HG := Lib.hid hg
  clear hx hy hp hq hg
  by_cases h0 : (300 : Int) < x.length
  · go_enter Tryd.func4, Tryd.ntmps4
    go_wp2_with (first
      | (go_at_call 9; refine (alive7_any w HG.out).mono ?_; rintro e w1 ⟨rfl, hb1⟩; have hw1 := hb1;  have HX1 := Lib.hid (HX.out.below hb1); have HY1 := Lib.hid (HY.out.below hb1); have HP1 := Lib.hid (HP.out.below hb1); have HQ1 := Lib.hid (HQ.out.below hb1); have HG1 := Lib.hid (HG.out.below hb1); clear hb1)
      | fail)
    go_ret
    exact ⟨rfl, hw1⟩
  by_cases h1 : (300 : Int) < y.length
  · go_enter Tryd.func4, Tryd.ntmps4
    go_wp2_with (first
      | (go_at_call 9; refine (alive7_any w HG.out).mono ?_; rintro e w1 ⟨rfl, hb1⟩; have hw1 := hb1;  have HX1 := Lib.hid (HX.out.below hb1); have HY1 := Lib.hid (HY.out.below hb1); have HP1 := Lib.hid (HP.out.below hb1); have HQ1 := Lib.hid (HQ.out.below hb1); have HG1 := Lib.hid (HG.out.below hb1); clear hb1)
      | fail)
    go_ret
    exact ⟨rfl, hw1⟩
  by_cases h2 : (30 : Int) < P.length
  · go_enter Tryd.func4, Tryd.ntmps4
    go_wp2_with (first
      | (go_at_call 9; refine (alive7_any w HG.out).mono ?_; rintro e w1 ⟨rfl, hb1⟩; have hw1 := hb1;  have HX1 := Lib.hid (HX.out.below hb1); have HY1 := Lib.hid (HY.out.below hb1); have HP1 := Lib.hid (HP.out.below hb1); have HQ1 := Lib.hid (HQ.out.below hb1); have HG1 := Lib.hid (HG.out.below hb1); clear hb1)
      | fail)
    go_ret
    exact ⟨rfl, hw1⟩
  by_cases h3 : (30 : Int) < Q.length
  · go_enter Tryd.func4, Tryd.ntmps4
    go_wp2_with (first
      | (go_at_call 9; refine (alive7_any w HG.out).mono ?_; rintro e w1 ⟨rfl, hb1⟩; have hw1 := hb1;  have HX1 := Lib.hid (HX.out.below hb1); have HY1 := Lib.hid (HY.out.below hb1); have HP1 := Lib.hid (HP.out.below hb1); have HQ1 := Lib.hid (HQ.out.below hb1); have HG1 := Lib.hid (HG.out.below hb1); clear hb1)
      | fail)
    go_ret
    exact ⟨rfl, hw1⟩
  obtain ⟨Z, hZ⟩ : ∃ Z, Z = pathsB x y i n P Q := ⟨_, rfl⟩
  obtain ⟨l1, l2⟩ := pathsB_le x y i n P Q 4000 (by decide) (by omega) (by omega)
  rw [← hZ] at l1 l2
  obtain ⟨X1, hX1⟩ : ∃ X, X = (Z.getD ([], [])).1 := ⟨_, rfl⟩
  obtain ⟨X2, hX2⟩ : ∃ X, X = (Z.getD ([], [])).2 := ⟨_, rfl⟩
  obtain ⟨s, hs⟩ : ∃ s, s = Z.isSome := ⟨_, rfl⟩
  rw [← hX1] at l1
  rw [← hX2] at l2
  have HZ := Lib.hid hZ
  have QX1 := Lib.hid hX1
  have QX2 := Lib.hid hX2
  have HSs := Lib.hid hs
  clear hZ hX1 hX2 hs
  go_enter Tryd.func4, Tryd.ntmps4
  go_wp2_with (first
    | (go_at_call 9; refine (alive7_any w HG.out).mono ?_; rintro e w1 ⟨rfl, hb1⟩; have hw1 := hb1;  have HX1 := Lib.hid (HX.out.below hb1); have HY1 := Lib.hid (HY.out.below hb1); have HP1 := Lib.hid (HP.out.below hb1); have HQ1 := Lib.hid (HQ.out.below hb1); have HG1 := Lib.hid (HG.out.below hb1); clear hb1)
    | (go_at_call 18; refine (paths_any _ _ x y i n _ _ P Q w1 HX1.out HY1.out (by omega) (by omega) HP1.out HQ1.out (by omega) (by omega) HG1.out).mono ?_; rintro e w2 ⟨h4, hb2⟩; rw [← HZ.out] at h4; obtain ⟨v1, v2, rfl, k1, k2⟩ := h4; rw [← QX1.out] at k1; rw [← QX2.out] at k2; rw [← HSs.out]; have hw2 := hw1.trans (hb2.mono hw1.size); have HX2 := Lib.hid (HX1.out.below hb2); have HY2 := Lib.hid (HY1.out.below hb2); have HP2 := Lib.hid (HP1.out.below hb2); have HQ2 := Lib.hid (HQ1.out.below hb2); have HG2 := Lib.hid (HG1.out.below hb2); have K1 := Lib.hid k1; have K2 := Lib.hid k2; clear hb2 k1 k2)
    | (go_at_call 19; refine (refpaths_any _ _ x y i n _ _ P Q w2 HX2.out HY2.out (by omega) (by omega) HP2.out HQ2.out (by omega) (by omega) HG2.out).mono ?_; rintro e w3 ⟨h5, hb3⟩; rw [← HZ.out] at h5; obtain ⟨v3, v4, rfl, k3, k4⟩ := h5; rw [← QX1.out] at k3; rw [← QX2.out] at k4; rw [← HSs.out]; have hw3 := hw2.trans (hb3.mono hw2.size); have K13 := Lib.hid (K1.out.below hb3); have K23 := Lib.hid (K2.out.below hb3); have K3 := Lib.hid k3; have K4 := Lib.hid k4; clear hb3 k3 k4)
    | (go_at_call 13; have HR := K13; clear K13; refine (refbytes_any _ _ X1 X1 w3 HR.out K3.out (by omega)).mono ?_; rintro e w6 ⟨rfl, hb6⟩; rw [beq_self_eq_true]; have hw6 := hw3.trans (hb6.mono hw3.size); have K26 := Lib.hid (K23.out.below hb6); have K46 := Lib.hid (K4.out.below hb6); clear hb6)
    | (go_at_call 13; refine (refbytes_any _ _ X2 X2 w6 K26.out K46.out (by omega)).mono ?_; rintro e w7 ⟨rfl, hb7⟩; rw [beq_self_eq_true]; have hw7 := hw6.trans (hb7.mono hw6.size); clear hb7)
    | fail)
  go_ret
  exact ⟨rfl, hw7⟩
end Go.Proofs.YthgkaegkkkghhaaDoor
