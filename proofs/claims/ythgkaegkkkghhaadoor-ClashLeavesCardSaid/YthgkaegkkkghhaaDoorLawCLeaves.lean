/- The law ClashLeaves, walked: true, and nothing that was there has turned. Conditions: the list, the text and the path can be read; the package's tables read as they are laid. -/
import Derived.Test.YthgkaegkkkghhaaDoorLawCPaths
import Derived.Test.YthgkaegkkkghhaaDoorLawCLists
namespace Go.Proofs.YthgkaegkkkghhaaDoor
open Go.RowKit

theorem zip_turn {X Y : List (List UInt8)} (h : X.length = Y.length) {z : List UInt8 × List UInt8} (hz : z ∈ X.zip Y) : z ∈ X.reverse.zip Y.reverse := by
  obtain ⟨j, hj⟩ := List.mem_iff_getElem?.1 hz
  obtain ⟨u, v⟩ := z
  obtain ⟨h1, h2⟩ := List.getElem?_zip_eq_some.1 hj
  have hl := (List.getElem?_eq_some_iff.1 h1).1
  refine List.mem_iff_getElem?.2 ⟨X.length - 1 - j, List.getElem?_zip_eq_some.2 ⟨?_, ?_⟩⟩
  · rw [List.getElem?_reverse (by omega), show X.length - 1 - (X.length - 1 - j) = j by omega]
    exact h1
  · rw [List.getElem?_reverse (by omega), show Y.length - 1 - (X.length - 1 - j) = j by omega]
    exact h2
/-- No clash on the way, and one root: the leaves are the same. -/
theorem leaves_same {t s : List UInt8} {i n : Int} {P Q : List H} {c : H} (h0 : pathsB t s i n P Q = none) (h1 : comesR (lfH t) i n P = some c) (h2 : comesR (lfH s) i n Q = some c) : t = s := by
  unfold pathsB at h0
  rw [if_pos ⟨by rw [h1]; simp, by rw [h2]; simp, by rw [h1, h2]⟩] at h0
  obtain ⟨a, b, rfl, rfl, q1, q2, q3, hP⟩ := comesR_some h1
  obtain ⟨a', b', e1, e2, _, _, _, hQ⟩ := comesR_some h2
  have e1' : a = a' := by omega
  have e2' : b = b' := by omega
  subst e1' e2'
  have c1 : comesN ndH (lfH t) b a P = some c := by
    unfold comesR at h1
    rw [if_pos (by omega)] at h1
    exact h1
  have c2 : comesN ndH (lfH s) b a Q = some c := by
    unfold comesR at h2
    rw [if_pos (by omega)] at h2
    exact h2
  rw [comesN, if_pos hP] at c1
  rw [comesN, if_pos hQ] at c2
  have hn := firstB_none _ h0
  have hsame := texts_same (0 :: t) (0 :: s) (sidesN b a) P Q hP hQ ((Option.some.inj c1).trans (Option.some.inj c2).symm) (fun z hz => hn z (by
    unfold pairsB
    rw [show ((a : Int)).toNat = a from rfl, show ((b : Int)).toNat = b from rfl]
    exact zip_turn (by simp only [textsB_len, List.length_zip]; omega) hz))
  exact (List.cons.inj hsame).2
theorem own_path (a : List (List UInt8)) (k : Nat) (t : List UInt8) (h : a[k]? = some t) (hn : a.length ≤ 1048576) : comesR (lfH t) k a.length (pathN ndH e0H (a.map lfH) k) = some (rootB a) := by
  have hk := (List.getElem?_eq_some_iff.1 h).1
  have := comes_path ndH e0H (a.map lfH) k (lfH t) (by rw [List.getElem?_map, h]; rfl)
  rw [List.length_map] at this
  unfold comesR
  rw [if_pos (by omega)]
  exact this
set_option maxRecDepth 100000 in
set_option maxHeartbeats 16000000 in
theorem cleaves_any (va vx vq : Value) (a : List (List UInt8)) (xs : List Value) (i : Int) (s : List UInt8) (Q : List H) (w : World) (ha : Parts w va a xs) (hx : Bytes w vx s) (hq : Hs w vq Q) (hma : ∀ l ∈ a, l.length ≤ 4611686018427387904) (hna : a.length ≤ 4611686018427387904) (hg : Glob w) :
    Calls Tryd.prog 6 #[va, .int .i64 i, vx, vq] w fun e w' => e = .returned (.bool true) ∧ Below w.heap.size w w' := by
  obtain ⟨xa, ca, rfl, _⟩ := hx.form
  obtain ⟨xl, cl, rfl, _⟩ := ha.sl.form
  obtain ⟨xq, cq, rfl, _⟩ := hq.form
  have HA := Lib.hid ha
  have HX := Lib.hid hx
  have HQ := Lib.hid hq
  have HG := Lib.hid hg
  have HMA := Lib.hid hma
  clear ha hx hq hg hma
  cases hga : greatB a with
  | true =>
    have GA := Lib.hid hga
    clear hga
    go_enter Tryd.func6, Tryd.ntmps6
    go_wp2_with (first
      | (go_at_call 9; refine (alive7_any w HG.out).mono ?_; rintro e w1 ⟨rfl, hb1⟩; have hw1 := hb1;  have HA1 := Lib.hid (HA.out.below hb1); have HX1 := Lib.hid (HX.out.below hb1); have HQ1 := Lib.hid (HQ.out.below hb1); have HG1 := Lib.hid (HG.out.below hb1); clear hb1)
      | (go_at_call 10; have HY := HA1; clear HA1; refine (great7_any _ a xs w1 HY.out HMA.out hna).mono ?_; rintro e w2 ⟨rfl, hb2⟩; rw [GA.out]; have hw2 := hw1.trans (hb2.mono hw1.size); have HA2 := Lib.hid (HY.out.below hb2); have HX2 := Lib.hid (HX1.out.below hb2); have HQ2 := Lib.hid (HQ1.out.below hb2); have HG2 := Lib.hid (HG1.out.below hb2); clear hb2)
      | fail)
    go_ret
    exact ⟨rfl, hw2⟩
  | false =>
    have GA := Lib.hid hga
    clear hga
    by_cases hx3 : (300 : Int) < s.length
    · go_enter Tryd.func6, Tryd.ntmps6
      go_wp2_with (first
        | (go_at_call 9; refine (alive7_any w HG.out).mono ?_; rintro e w1 ⟨rfl, hb1⟩; have hw1 := hb1;  have HA1 := Lib.hid (HA.out.below hb1); have HX1 := Lib.hid (HX.out.below hb1); have HQ1 := Lib.hid (HQ.out.below hb1); have HG1 := Lib.hid (HG.out.below hb1); clear hb1)
        | (go_at_call 10; have HY := HA1; clear HA1; refine (great7_any _ a xs w1 HY.out HMA.out hna).mono ?_; rintro e w2 ⟨rfl, hb2⟩; rw [GA.out]; have hw2 := hw1.trans (hb2.mono hw1.size); have HA2 := Lib.hid (HY.out.below hb2); have HX2 := Lib.hid (HX1.out.below hb2); have HQ2 := Lib.hid (HQ1.out.below hb2); have HG2 := Lib.hid (HG1.out.below hb2); clear hb2)
        | fail)
      go_ret
      exact ⟨rfl, hw2⟩
    by_cases hq3 : (30 : Int) < Q.length
    · go_enter Tryd.func6, Tryd.ntmps6
      go_wp2_with (first
        | (go_at_call 9; refine (alive7_any w HG.out).mono ?_; rintro e w1 ⟨rfl, hb1⟩; have hw1 := hb1;  have HA1 := Lib.hid (HA.out.below hb1); have HX1 := Lib.hid (HX.out.below hb1); have HQ1 := Lib.hid (HQ.out.below hb1); have HG1 := Lib.hid (HG.out.below hb1); clear hb1)
        | (go_at_call 10; have HY := HA1; clear HA1; refine (great7_any _ a xs w1 HY.out HMA.out hna).mono ?_; rintro e w2 ⟨rfl, hb2⟩; rw [GA.out]; have hw2 := hw1.trans (hb2.mono hw1.size); have HA2 := Lib.hid (HY.out.below hb2); have HX2 := Lib.hid (HX1.out.below hb2); have HQ2 := Lib.hid (HQ1.out.below hb2); have HG2 := Lib.hid (HG1.out.below hb2); clear hb2)
        | fail)
      go_ret
      exact ⟨rfl, hw2⟩
    by_cases hi0 : i < 0
    · go_enter Tryd.func6, Tryd.ntmps6
      go_wp2_with (first
        | (go_at_call 9; refine (alive7_any w HG.out).mono ?_; rintro e w1 ⟨rfl, hb1⟩; have hw1 := hb1;  have HA1 := Lib.hid (HA.out.below hb1); have HX1 := Lib.hid (HX.out.below hb1); have HQ1 := Lib.hid (HQ.out.below hb1); have HG1 := Lib.hid (HG.out.below hb1); clear hb1)
        | (go_at_call 10; have HY := HA1; clear HA1; refine (great7_any _ a xs w1 HY.out HMA.out hna).mono ?_; rintro e w2 ⟨rfl, hb2⟩; rw [GA.out]; have hw2 := hw1.trans (hb2.mono hw1.size); have HA2 := Lib.hid (HY.out.below hb2); have HX2 := Lib.hid (HX1.out.below hb2); have HQ2 := Lib.hid (HQ1.out.below hb2); have HG2 := Lib.hid (HG1.out.below hb2); clear hb2)
        | fail)
      go_ret
      exact ⟨rfl, hw2⟩
    by_cases hi1 : (a.length : Int) ≤ i
    · go_enter Tryd.func6, Tryd.ntmps6
      go_wp2_with (first
        | (go_at_call 9; refine (alive7_any w HG.out).mono ?_; rintro e w1 ⟨rfl, hb1⟩; have hw1 := hb1;  have HA1 := Lib.hid (HA.out.below hb1); have HX1 := Lib.hid (HX.out.below hb1); have HQ1 := Lib.hid (HQ.out.below hb1); have HG1 := Lib.hid (HG.out.below hb1); clear hb1)
        | (go_at_call 10; have HY := HA1; clear HA1; refine (great7_any _ a xs w1 HY.out HMA.out hna).mono ?_; rintro e w2 ⟨rfl, hb2⟩; rw [GA.out]; have hw2 := hw1.trans (hb2.mono hw1.size); have HA2 := Lib.hid (HY.out.below hb2); have HX2 := Lib.hid (HX1.out.below hb2); have HQ2 := Lib.hid (HQ1.out.below hb2); have HG2 := Lib.hid (HG1.out.below hb2); clear hb2)
        | fail)
      go_ret
      exact ⟨rfl, hw2⟩
    obtain ⟨k, rfl⟩ : ∃ k : Nat, i = k := ⟨i.toNat, by omega⟩
    have hk : k < a.length := by omega
    have hk2 : ¬ a.length ≤ k := by omega
    have hk3 : ¬ (k : Int) < 0 := by omega
    obtain ⟨sa, ta⟩ := small_of GA.out
    have sl := (not_great GA.out).1
    obtain ⟨bq, oq, x0, t, exl, hbq, cq0, _, ht, hbt⟩ := HA.out.at hk
    subst exl
    obtain ⟨y1, y2, rfl, _⟩ := hbt.form
    have hlt := (not_great GA.out).2 t (List.mem_of_getElem? ht)
    have hPl : (pathN ndH e0H (a.map lfH) k).length ≤ 4000 := by have := path_len (a.map lfH) k (by simpa using hk) (by simp; omega); omega
    have hown := own_path a k t ht (by omega)
    have hix : (0 : Int) ≤ k ∧ (k : Int) < a.length := ⟨by omega, by omega⟩
    have HTA := Lib.hid ta
    have HTt := Lib.hid hbt
    have CQ := Lib.hid cq0
    obtain ⟨R, hR⟩ : ∃ R, R = rootB a := ⟨_, rfl⟩
    rw [← hR] at hown
    have HRr := Lib.hid hR
    have HOW := Lib.hid hown
    clear ta hbt cq0 ht hR hown
    go_enter Tryd.func6, Tryd.ntmps6
    go_wp2_with (first
      | (go_at_call 9; refine (alive7_any w HG.out).mono ?_; rintro e w1 ⟨rfl, hb1⟩; have hw1 := hb1;  have HA1 := Lib.hid (HA.out.below hb1); have HX1 := Lib.hid (HX.out.below hb1); have HQ1 := Lib.hid (HQ.out.below hb1); have HG1 := Lib.hid (HG.out.below hb1); clear hb1)
      | (go_at_call 10; have HY := HA1; clear HA1; refine (great7_any _ a xs w1 HY.out HMA.out hna).mono ?_; rintro e w2 ⟨rfl, hb2⟩; rw [GA.out]; have hw2 := hw1.trans (hb2.mono hw1.size); have HA2 := Lib.hid (HY.out.below hb2); have HX2 := Lib.hid (HX1.out.below hb2); have HQ2 := Lib.hid (HQ1.out.below hb2); have HG2 := Lib.hid (HG1.out.below hb2); clear hb2)
      | fail)
    have hs2 := hw2.size
    go_loopw [9, 10] (fun ov iv wr => ∃ j : Nat, iv = .int .i64 j ∧ j ≤ a.length ∧ Own wr w2.heap.size ov ((a.take j).map lfH) ∧ Below w2.heap.size w2 wr) (fun _ iv _ => a.length - (intOf iv).toNat)
    case atStart => exact ⟨0, rfl, Nat.zero_le _, Own.nil _ _, Below.refl _ _⟩
    case round =>
      obtain ⟨j, rfl, hj, hO, hb⟩ := hrel
      have hsz := hb.size
      by_cases hjl : j < a.length
      · have hjl' : (j : Int) < a.length := by omega
        obtain ⟨b2, o2, p2, u, e2, _, c2, _, hu, hbu⟩ := (HA2.out.below hb).at hjl
        have hjx : (0 : Int) ≤ j ∧ (j : Int) < a.length := ⟨by omega, hjl'⟩
        have hsn : (a.take (j + 1)).map lfH = (a.take j).map lfH ++ [lfH u] := by rw [List.take_add_one, hu, List.map_append]; rfl
        have hul := (not_great GA.out).2 u (List.mem_of_getElem? hu)
        cases e2
        obtain ⟨T, hT⟩ : ∃ T, T = (a.take j).map lfH := ⟨_, rfl⟩
        have hTl : T.length ≤ 4000 := by rw [hT, List.length_map, List.length_take]; omega
        rw [← hT] at hsn hO
        have HO := Lib.hid hO
        have HSN := Lib.hid hsn
        have HU := Lib.hid hbu
        have HGu := Lib.hid (HG2.out.below hb)
        clear hO hsn hT hu hbu
        go_wp2_with (first
          | (go_at_call 21; refine (leaf_any _ u wr HU.out (by omega) HGu.out).mono ?_; rintro e w4 ⟨rfl, hb4⟩; have hw4 := hb.trans (hb4.mono hsz); have hs4 := hw4.size; have HO4 := Lib.hid (HO.out.below hb4); clear hb4)
          | (refine wpList_hashes rfl [lfH u] 1 _ rfl rfl (by decide) (by decide) (by simp only [List.map_toArray, List.map_cons, List.map_nil]; rfl) ?_; have HO5 := Lib.hid (HO4.out.below ((Below.refl w4.heap.size w4).alloc (Nat.le_refl _) (.cells (bytesV (hflat [lfH u])).toArray 30))); have HX5 := Lib.hid (hs_new w4 [lfH u] 30 rfl rfl); have hw5 := hw4.alloc hs4 (.cells (bytesV (hflat [lfH u])).toArray 30); have hs5 : w2.heap.size ≤ (w4.alloc (.cells (bytesV (hflat [lfH u])).toArray 30)).heap.size := (by simp; omega))
          | (at_builtin; refine wpList_owned rfl (.tmp 48) (.tmp 54) rfl w2.heap.size _ _ T [lfH u] rfl (by exact HO5.out) rfl (by exact HX5.out) (by rw [List.length_singleton]; omega) hs5 hw5 ?_; intro v6 w6 hO6 hw6; rw [← HSN.out] at hO6; have HO6 := Lib.hid hO6; clear hO6 hw5 hs5)
          | fail)
        exact ⟨⟨j + 1, by go_num, by omega, HO6.out, hw6⟩, by simp [intOf]; omega⟩
      · have hjl' : ¬ (j : Int) < a.length := by omega
        rw [List.take_of_length_le (by omega)] at hO
        obtain ⟨oa, oc, hov⟩ := hO.form
        rw [List.length_map] at hov
        subst hov
        have HV2 := Lib.hid hO.hs
        have hwr := hw2.trans (hb.mono hs2)
        have HGr := Lib.hid (HG2.out.below hb)
        clear hO
        cases hZ : pathsB t s k a.length (pathN ndH e0H (a.map lfH) k) Q with
        | some p =>
          obtain ⟨X, Y⟩ := p
          obtain ⟨l1, l2⟩ := pathsB_le t s k a.length (pathN ndH e0H (a.map lfH) k) Q 4000 (by decide) (by omega) (by omega)
          rw [hZ] at l1 l2
          have l1' : X.length ≤ 4000 := l1
          have l2' : Y.length ≤ 4000 := l2
          have HZ := Lib.hid hZ
          have hcl : clashB X Y = true := by
            have := hZ
            unfold pathsB at this
            split at this
            · exact firstB_clash _ _ _ this
            · cases this
          have HCL := Lib.hid hcl
          clear hZ l1 l2 hcl
          go_wp2_with (first
            | (go_at_call 22; refine (path_any a.length _ (a.map lfH) k wr (by simp) (by omega) HV2.out HGr.out hk).mono ?_; rintro e w5 ⟨⟨v5, rfl, ho5⟩, hb5⟩; have hw5 := hwr.trans (hb5.mono hwr.size); have HP5 := Lib.hid ho5.hs; have HV5 := Lib.hid (HV2.out.below hb5); have HT5 := Lib.hid (HTt.out.below hw5); have HX5 := Lib.hid (HX.out.below hw5); have HQ5 := Lib.hid (HQ.out.below hw5); have HG5 := Lib.hid (HG.out.below hw5); have c5 : w5.cell? ⟨bq, oq + k, none⟩ = some (.slice y1 t.length y2) := (hw5.cell (p := ⟨bq, oq + k, none⟩) hbq).trans CQ.out; clear hb5 ho5)
            | (go_at_call 18; refine (paths_any _ _ t s k a.length _ _ (pathN ndH e0H (a.map lfH) k) Q w5 HT5.out HX5.out (by omega) (by omega) HP5.out HQ5.out hPl (by omega) HG5.out).mono ?_; rintro e w6 ⟨h6, hb6⟩; rw [HZ.out] at h6; obtain ⟨v1, v2, rfl, k1, k2⟩ := h6; rw [show (some (X, Y)).isSome = true from rfl]; have K1 := Lib.hid (show Bytes w6 v1 X from k1); have K2 := Lib.hid (show Bytes w6 v2 Y from k2); clear k1 k2; have hw6 := hw5.trans (hb6.mono hw5.size); have HV6 := Lib.hid (HV5.out.below hb6); have HT6 := Lib.hid (HT5.out.below hb6); have HX6 := Lib.hid (HX5.out.below hb6); have HQ6 := Lib.hid (HQ5.out.below hb6); have HG6 := Lib.hid (HG5.out.below hb6); clear hb6)
            | (go_at_call 16; refine (cis_any _ _ X Y w6 K1.out K2.out (by omega) (by omega) HG6.out).mono ?_; rintro e w7 ⟨rfl, hb7⟩; rw [HCL.out]; have hw7 := hw6.trans (hb7.mono hw6.size); clear hb7)
            | fail)
          go_ret
          exact ⟨rfl, hw7⟩
        | none =>
          have HZ := Lib.hid hZ
          clear hZ
          cases hC : comesR (lfH s) k a.length Q with
          | none =>
            obtain ⟨c, hc⟩ : ∃ c, c = z0H := ⟨_, rfl⟩
            have HcV := Lib.hid (show c = (comesR (lfH s) k a.length Q).getD z0H by rw [hC]; exact hc)
            have HcS := Lib.hid (show false = (comesR (lfH s) k a.length Q).isSome by rw [hC]; rfl)
            obtain ⟨bb, hbb⟩ : ∃ bb, bb = (t == s) := ⟨_, rfl⟩
            have HTS := Lib.hid hbb.symm
            clear hC hc hbb
            go_wp2_with (first
              | (go_at_call 22; refine (path_any a.length _ (a.map lfH) k wr (by simp) (by omega) HV2.out HGr.out hk).mono ?_; rintro e w5 ⟨⟨v5, rfl, ho5⟩, hb5⟩; have hw5 := hwr.trans (hb5.mono hwr.size); have HP5 := Lib.hid ho5.hs; have HV5 := Lib.hid (HV2.out.below hb5); have HT5 := Lib.hid (HTt.out.below hw5); have HX5 := Lib.hid (HX.out.below hw5); have HQ5 := Lib.hid (HQ.out.below hw5); have HG5 := Lib.hid (HG.out.below hw5); have c5 : w5.cell? ⟨bq, oq + k, none⟩ = some (.slice y1 t.length y2) := (hw5.cell (p := ⟨bq, oq + k, none⟩) hbq).trans CQ.out; clear hb5 ho5)
              | (go_at_call 18; refine (paths_any _ _ t s k a.length _ _ (pathN ndH e0H (a.map lfH) k) Q w5 HT5.out HX5.out (by omega) (by omega) HP5.out HQ5.out hPl (by omega) HG5.out).mono ?_; rintro e w6 ⟨h6, hb6⟩; rw [HZ.out] at h6; obtain ⟨f1, f2, f3, f4, rfl⟩ := extR_get h6; have hw6 := hw5.trans (hb6.mono hw5.size); have HV6 := Lib.hid (HV5.out.below hb6); have HT6 := Lib.hid (HT5.out.below hb6); have HX6 := Lib.hid (HX5.out.below hb6); have HQ6 := Lib.hid (HQ5.out.below hb6); have HG6 := Lib.hid (HG5.out.below hb6); clear hb6)
              | (go_at_call 21; refine (leaf_any _ s w6 HX6.out (by omega) HG6.out).mono ?_; rintro e w7 ⟨rfl, hb7⟩; have hw7 := hw6.trans (hb7.mono hw6.size); have HQ7 := Lib.hid (HQ6.out.below hb7); have HG7 := Lib.hid (HG6.out.below hb7); have HV7 := Lib.hid (HV6.out.below hb7); clear hb7)
              | (go_at_call 23; refine (comes_any w7 (lfH s) k a.length _ Q HQ7.out (by omega) HG7.out).mono ?_; rintro e w8 ⟨rfl, hb8⟩; rw [← HcV.out, ← HcS.out]; unfold hv; have hw8 := hw7.trans (hb8.mono hw7.size); have hs8 := hw8.size; have HV8 := Lib.hid (HV7.out.below hb8); clear hb8)
              | (refine wpList_store_row rfl 30 (.tmp 16) (.tmp 89) rfl w8.heap.size (bytesV c.b).toArray rfl rfl 30 z32.toArray (by exact Blk.newL w8 z32 _) (by exact hv_row _) (by exact z32_old _) (by exact hv_one _) ?_; obtain ⟨w9, hw9⟩ : ∃ w9, w9 = (w8.alloc (.cells #[.int .u8 0, .int .u8 0, .int .u8 0, .int .u8 0, .int .u8 0, .int .u8 0, .int .u8 0, .int .u8 0, .int .u8 0, .int .u8 0, .int .u8 0, .int .u8 0, .int .u8 0, .int .u8 0, .int .u8 0, .int .u8 0, .int .u8 0, .int .u8 0, .int .u8 0, .int .u8 0, .int .u8 0, .int .u8 0, .int .u8 0, .int .u8 0, .int .u8 0, .int .u8 0, .int .u8 0, .int .u8 0, .int .u8 0, .int .u8 0, .int .u8 0, .int .u8 0] 30)).setRow w8.heap.size (bytesV c.b).toArray := ⟨_, rfl⟩; rw [← hw9]; have hb9 : Below w8.heap.size w8 w9 := (by rw [hw9]; exact below_setRow ((Below.refl _ _).alloc (Nat.le_refl _) _) (Nat.le_refl _) _); have hc9 : Blk w9 w8.heap.size (bytesV c.b) 30 := (by rw [hw9]; exact (Blk.newL w8 z32 _).setRow _); have HC9 := Lib.hid hc9; have hlc := hc9.lt; have hw9b := hw8.trans (hb9.mono hs8); have hs9 := hw9b.size; have HV9 := Lib.hid (HV8.out.below hb9); have HT9 := Lib.hid (HTt.out.below hw9b); have HX9 := Lib.hid (HX.out.below hw9b); have HG9 := Lib.hid (HG.out.below hw9b); clear hb9 hc9 hw9)
              | fail)
            refine wp_region_mono 16 (w9.heap.size) [(fun v _ => v = .bool false), (fun v _ => v = .bool true), (fun v _ => v = .bool true), (fun v _ => v = undef), (fun v _ => v = undef), (fun v _ => v = undef), (fun v _ => v = undef), (fun v _ => v = .bool true), (fun v _ => v = .bool true), (fun v _ => v = undef), (fun v _ => v = undef), (fun v _ => v = undef), (fun v _ => v = undef), (fun v _ => v = undef), (fun v _ => v = undef), (fun v _ => v = .bool true)] (by kernel_rfl) (by kernel_rfl) (Nat.le_refl _) ?mkept _ rfl ?mops ?mfin
            case mkept =>
              repeat (refine List.forall_mem_cons.2 ⟨by first | exact fun _ _ _ _ h => h | exact fun _ _ _ hb h => Parts.below h hb | exact fun _ _ _ hb h => IsSl.below h hb, ?_⟩)
              exact fun _ h => by cases h
            case mops =>
              simp only [List.take_succ_cons, List.take_zero, monoAll, List.getD_cons_zero, List.getD_cons_succ]
              iterate 16
              
               (refine ⟨fun x wr hb hd Qg hK => ?_, ?_⟩
                · as_aux_lemma =>
                  simp only [fill, Act.put, List.setIfInBounds_toArray, List.set_cons_succ, List.set_cons_zero, needs, Region.binds, List.filter_cons, List.filter_nil, List.map_cons, List.map_nil, if_true, List.mem_cons, List.not_mem_nil, or_false, forall_eq_or_imp, forall_eq, List.getD_cons_zero, List.getD_cons_succ, false_implies, implies_true] at hd hK ⊢
                  (try simp only [hd] at hK ⊢)
                  first
                  | (have hBr := HC9.out.below hb (hlc); refine wpList_load_rowIf rfl 30 (.tmp 16) rfl _ rfl 30 (bytesV c.b).toArray (0, 0) _ (by exact hBr) Tryd.underlying30 rfl (hv_row c) ?_; exact hK _ _ rfl (Below.refl _ _))
                  | (show wpList _ _ _ [⟨some 96, .call _, _, _, _, _⟩] _ _; go_wp2_with (go_at_call 24; refine (root_any a.length _ (a.map lfH) wr (by simp) (by omega) (HV9.out.below hb) (HG9.out.below hb)).mono ?_; rintro e w5 ⟨rfl, hb5⟩); exact hK _ _ (by rw [HRr.out]; rfl) hb5)
                  | (show wpList _ _ _ [⟨some 103, .load _ _, _, _, _, _⟩] _ _; have c0 : wr.cell? ⟨bq, oq + k, none⟩ = some (.slice y1 t.length y2) := ((hw9b.trans (hb.mono hs9)).cell (p := ⟨bq, oq + k, none⟩) hbq).trans CQ.out; go_wp2_with fail; exact hK _ _ rfl (Below.refl _ _))
                  | (show wpList _ _ _ [⟨some 105, .call _, _, _, _, _⟩] _ _; go_wp2_with (go_at_call 13; refine (refbytes_any _ _ t s wr (HT9.out.below hb) (HX9.out.below hb) (by omega)).mono ?_; rintro e w5 ⟨rfl, hb5⟩); exact hK _ _ (by rw [HTS.out]) hb5)
                  | (go_wp2_with fail; exact hK _ _ rfl (Below.refl _ _)))
              trivial
            case mfin =>
              intro z w10 hb10 hR10
              have x15 := hR10 15 (by decide)
              simp only [List.getD_cons_zero, List.getD_cons_succ] at x15
              have hw10 := hw9b.trans (hb10.mono hs9)
              clear hR10 hb10
              simp only [List.drop_succ_cons, List.drop_zero]
              generalize List.toArray _ = L0
              simp only [List.take_succ_cons, List.take_zero, List.map_cons, List.map_nil, fill, Act.put, List.setIfInBounds_toArray, List.set_cons_succ, List.set_cons_zero, x15]
              clear x15
              go_wp2_with fail
              go_ret
              exact ⟨rfl, hw10⟩
          | some c =>
            have HcV := Lib.hid (show c = (comesR (lfH s) k a.length Q).getD z0H by rw [hC]; rfl)
            have HcS := Lib.hid (show true = (comesR (lfH s) k a.length Q).isSome by rw [hC]; rfl)
            by_cases hcR : c = R
            · have hts : t = s := leaves_same HZ.out (by rw [HOW.out]) (by rw [hC, hcR])
              have HTS := Lib.hid (show (t == s) = true by simp [hts])
              have heq : ∀ w, (Op.equalIn 10000 30 (.agg (bytesV c.b).toArray) (.agg (bytesV R.b).toArray)).run Tryd.prog w = .ok true w := fun w => by rw [hcR]; exact is_hash w R
              clear hC hcR hts
              go_wp2_with (first
                | (go_at_call 22; refine (path_any a.length _ (a.map lfH) k wr (by simp) (by omega) HV2.out HGr.out hk).mono ?_; rintro e w5 ⟨⟨v5, rfl, ho5⟩, hb5⟩; have hw5 := hwr.trans (hb5.mono hwr.size); have HP5 := Lib.hid ho5.hs; have HV5 := Lib.hid (HV2.out.below hb5); have HT5 := Lib.hid (HTt.out.below hw5); have HX5 := Lib.hid (HX.out.below hw5); have HQ5 := Lib.hid (HQ.out.below hw5); have HG5 := Lib.hid (HG.out.below hw5); have c5 : w5.cell? ⟨bq, oq + k, none⟩ = some (.slice y1 t.length y2) := (hw5.cell (p := ⟨bq, oq + k, none⟩) hbq).trans CQ.out; clear hb5 ho5)
                | (go_at_call 18; refine (paths_any _ _ t s k a.length _ _ (pathN ndH e0H (a.map lfH) k) Q w5 HT5.out HX5.out (by omega) (by omega) HP5.out HQ5.out hPl (by omega) HG5.out).mono ?_; rintro e w6 ⟨h6, hb6⟩; rw [HZ.out] at h6; obtain ⟨f1, f2, f3, f4, rfl⟩ := extR_get h6; have hw6 := hw5.trans (hb6.mono hw5.size); have HV6 := Lib.hid (HV5.out.below hb6); have HT6 := Lib.hid (HT5.out.below hb6); have HX6 := Lib.hid (HX5.out.below hb6); have HQ6 := Lib.hid (HQ5.out.below hb6); have HG6 := Lib.hid (HG5.out.below hb6); clear hb6)
                | (go_at_call 21; refine (leaf_any _ s w6 HX6.out (by omega) HG6.out).mono ?_; rintro e w7 ⟨rfl, hb7⟩; have hw7 := hw6.trans (hb7.mono hw6.size); have HQ7 := Lib.hid (HQ6.out.below hb7); have HG7 := Lib.hid (HG6.out.below hb7); have HV7 := Lib.hid (HV6.out.below hb7); clear hb7)
                | (go_at_call 23; refine (comes_any w7 (lfH s) k a.length _ Q HQ7.out (by omega) HG7.out).mono ?_; rintro e w8 ⟨rfl, hb8⟩; rw [← HcV.out, ← HcS.out]; unfold hv; have hw8 := hw7.trans (hb8.mono hw7.size); have hs8 := hw8.size; have HV8 := Lib.hid (HV7.out.below hb8); clear hb8)
                | (refine wpList_store_row rfl 30 (.tmp 16) (.tmp 89) rfl w8.heap.size (bytesV c.b).toArray rfl rfl 30 z32.toArray (by exact Blk.newL w8 z32 _) (by exact hv_row _) (by exact z32_old _) (by exact hv_one _) ?_; obtain ⟨w9, hw9⟩ : ∃ w9, w9 = (w8.alloc (.cells #[.int .u8 0, .int .u8 0, .int .u8 0, .int .u8 0, .int .u8 0, .int .u8 0, .int .u8 0, .int .u8 0, .int .u8 0, .int .u8 0, .int .u8 0, .int .u8 0, .int .u8 0, .int .u8 0, .int .u8 0, .int .u8 0, .int .u8 0, .int .u8 0, .int .u8 0, .int .u8 0, .int .u8 0, .int .u8 0, .int .u8 0, .int .u8 0, .int .u8 0, .int .u8 0, .int .u8 0, .int .u8 0, .int .u8 0, .int .u8 0, .int .u8 0, .int .u8 0] 30)).setRow w8.heap.size (bytesV c.b).toArray := ⟨_, rfl⟩; rw [← hw9]; have hb9 : Below w8.heap.size w8 w9 := (by rw [hw9]; exact below_setRow ((Below.refl _ _).alloc (Nat.le_refl _) _) (Nat.le_refl _) _); have hc9 : Blk w9 w8.heap.size (bytesV c.b) 30 := (by rw [hw9]; exact (Blk.newL w8 z32 _).setRow _); have HC9 := Lib.hid hc9; have hlc := hc9.lt; have hw9b := hw8.trans (hb9.mono hs8); have hs9 := hw9b.size; have HV9 := Lib.hid (HV8.out.below hb9); have HT9 := Lib.hid (HTt.out.below hw9b); have HX9 := Lib.hid (HX.out.below hw9b); have HG9 := Lib.hid (HG.out.below hw9b); clear hb9 hc9 hw9)
                | fail)
              refine wp_region_mono 16 (w9.heap.size) [(fun v _ => v = .bool true), (fun v _ => v = .bool false), (fun v _ => v = .bool false), (fun v _ => v = .agg (bytesV c.b).toArray), (fun v _ => v = .slice oa a.length oc), (fun v _ => v = .agg (bytesV R.b).toArray), (fun v _ => v = .bool false), (fun v _ => v = .bool false), (fun v _ => v = .bool false), (fun v _ => v = .slice (some ⟨bq, oq, none⟩) a.length cl), (fun v _ => v = .int .i64 k), (fun v _ => v = .pointer (some ⟨bq, oq + k, none⟩)), (fun v _ => v = .slice y1 t.length y2), (fun v _ => v = .slice xa s.length ca), (fun v _ => v = .bool true), (fun v _ => v = .bool true)] (by kernel_rfl) (by kernel_rfl) (Nat.le_refl _) ?mkept _ rfl ?mops ?mfin
              case mkept =>
                repeat (refine List.forall_mem_cons.2 ⟨by first | exact fun _ _ _ _ h => h | exact fun _ _ _ hb h => Parts.below h hb | exact fun _ _ _ hb h => IsSl.below h hb, ?_⟩)
                exact fun _ h => by cases h
              case mops =>
                simp only [List.take_succ_cons, List.take_zero, monoAll, List.getD_cons_zero, List.getD_cons_succ]
                iterate 16
                
                 (refine ⟨fun x wr hb hd Qg hK => ?_, ?_⟩
                  · as_aux_lemma =>
                    simp only [fill, Act.put, List.setIfInBounds_toArray, List.set_cons_succ, List.set_cons_zero, needs, Region.binds, List.filter_cons, List.filter_nil, List.map_cons, List.map_nil, if_true, List.mem_cons, List.not_mem_nil, or_false, forall_eq_or_imp, forall_eq, List.getD_cons_zero, List.getD_cons_succ, false_implies, implies_true] at hd hK ⊢
                    (try simp only [hd] at hK ⊢)
                    first
                    | (have hBr := HC9.out.below hb (hlc); refine wpList_load_rowIf rfl 30 (.tmp 16) rfl _ rfl 30 (bytesV c.b).toArray (0, 0) _ (by exact hBr) Tryd.underlying30 rfl (hv_row c) ?_; exact hK _ _ rfl (Below.refl _ _))
                    | (show wpList _ _ _ [⟨some 96, .call _, _, _, _, _⟩] _ _; go_wp2_with (go_at_call 24; refine (root_any a.length _ (a.map lfH) wr (by simp) (by omega) (HV9.out.below hb) (HG9.out.below hb)).mono ?_; rintro e w5 ⟨rfl, hb5⟩); exact hK _ _ (by rw [HRr.out]; rfl) hb5)
                    | (show wpList _ _ _ [⟨some 103, .load _ _, _, _, _, _⟩] _ _; have c0 : wr.cell? ⟨bq, oq + k, none⟩ = some (.slice y1 t.length y2) := ((hw9b.trans (hb.mono hs9)).cell (p := ⟨bq, oq + k, none⟩) hbq).trans CQ.out; go_wp2_with fail; exact hK _ _ rfl (Below.refl _ _))
                    | (show wpList _ _ _ [⟨some 105, .call _, _, _, _, _⟩] _ _; go_wp2_with (go_at_call 13; refine (refbytes_any _ _ t s wr (HT9.out.below hb) (HX9.out.below hb) (by omega)).mono ?_; rintro e w5 ⟨rfl, hb5⟩); exact hK _ _ (by rw [HTS.out]) hb5)
                    | (go_wp2_with fail; exact hK _ _ rfl (Below.refl _ _)))
                trivial
              case mfin =>
                intro z w10 hb10 hR10
                have x15 := hR10 15 (by decide)
                simp only [List.getD_cons_zero, List.getD_cons_succ] at x15
                have hw10 := hw9b.trans (hb10.mono hs9)
                clear hR10 hb10
                simp only [List.drop_succ_cons, List.drop_zero]
                generalize List.toArray _ = L0
                simp only [List.take_succ_cons, List.take_zero, List.map_cons, List.map_nil, fill, Act.put, List.setIfInBounds_toArray, List.set_cons_succ, List.set_cons_zero, x15]
                clear x15
                go_wp2_with fail
                go_ret
                exact ⟨rfl, hw10⟩
            · obtain ⟨bb, hbb⟩ : ∃ bb, bb = (t == s) := ⟨_, rfl⟩
              have HTS := Lib.hid hbb.symm
              have heq := fun w => ne_hash w c R hcR
              clear hC hcR hbb
              go_wp2_with (first
                | (go_at_call 22; refine (path_any a.length _ (a.map lfH) k wr (by simp) (by omega) HV2.out HGr.out hk).mono ?_; rintro e w5 ⟨⟨v5, rfl, ho5⟩, hb5⟩; have hw5 := hwr.trans (hb5.mono hwr.size); have HP5 := Lib.hid ho5.hs; have HV5 := Lib.hid (HV2.out.below hb5); have HT5 := Lib.hid (HTt.out.below hw5); have HX5 := Lib.hid (HX.out.below hw5); have HQ5 := Lib.hid (HQ.out.below hw5); have HG5 := Lib.hid (HG.out.below hw5); have c5 : w5.cell? ⟨bq, oq + k, none⟩ = some (.slice y1 t.length y2) := (hw5.cell (p := ⟨bq, oq + k, none⟩) hbq).trans CQ.out; clear hb5 ho5)
                | (go_at_call 18; refine (paths_any _ _ t s k a.length _ _ (pathN ndH e0H (a.map lfH) k) Q w5 HT5.out HX5.out (by omega) (by omega) HP5.out HQ5.out hPl (by omega) HG5.out).mono ?_; rintro e w6 ⟨h6, hb6⟩; rw [HZ.out] at h6; obtain ⟨f1, f2, f3, f4, rfl⟩ := extR_get h6; have hw6 := hw5.trans (hb6.mono hw5.size); have HV6 := Lib.hid (HV5.out.below hb6); have HT6 := Lib.hid (HT5.out.below hb6); have HX6 := Lib.hid (HX5.out.below hb6); have HQ6 := Lib.hid (HQ5.out.below hb6); have HG6 := Lib.hid (HG5.out.below hb6); clear hb6)
                | (go_at_call 21; refine (leaf_any _ s w6 HX6.out (by omega) HG6.out).mono ?_; rintro e w7 ⟨rfl, hb7⟩; have hw7 := hw6.trans (hb7.mono hw6.size); have HQ7 := Lib.hid (HQ6.out.below hb7); have HG7 := Lib.hid (HG6.out.below hb7); have HV7 := Lib.hid (HV6.out.below hb7); clear hb7)
                | (go_at_call 23; refine (comes_any w7 (lfH s) k a.length _ Q HQ7.out (by omega) HG7.out).mono ?_; rintro e w8 ⟨rfl, hb8⟩; rw [← HcV.out, ← HcS.out]; unfold hv; have hw8 := hw7.trans (hb8.mono hw7.size); have hs8 := hw8.size; have HV8 := Lib.hid (HV7.out.below hb8); clear hb8)
                | (refine wpList_store_row rfl 30 (.tmp 16) (.tmp 89) rfl w8.heap.size (bytesV c.b).toArray rfl rfl 30 z32.toArray (by exact Blk.newL w8 z32 _) (by exact hv_row _) (by exact z32_old _) (by exact hv_one _) ?_; obtain ⟨w9, hw9⟩ : ∃ w9, w9 = (w8.alloc (.cells #[.int .u8 0, .int .u8 0, .int .u8 0, .int .u8 0, .int .u8 0, .int .u8 0, .int .u8 0, .int .u8 0, .int .u8 0, .int .u8 0, .int .u8 0, .int .u8 0, .int .u8 0, .int .u8 0, .int .u8 0, .int .u8 0, .int .u8 0, .int .u8 0, .int .u8 0, .int .u8 0, .int .u8 0, .int .u8 0, .int .u8 0, .int .u8 0, .int .u8 0, .int .u8 0, .int .u8 0, .int .u8 0, .int .u8 0, .int .u8 0, .int .u8 0, .int .u8 0] 30)).setRow w8.heap.size (bytesV c.b).toArray := ⟨_, rfl⟩; rw [← hw9]; have hb9 : Below w8.heap.size w8 w9 := (by rw [hw9]; exact below_setRow ((Below.refl _ _).alloc (Nat.le_refl _) _) (Nat.le_refl _) _); have hc9 : Blk w9 w8.heap.size (bytesV c.b) 30 := (by rw [hw9]; exact (Blk.newL w8 z32 _).setRow _); have HC9 := Lib.hid hc9; have hlc := hc9.lt; have hw9b := hw8.trans (hb9.mono hs8); have hs9 := hw9b.size; have HV9 := Lib.hid (HV8.out.below hb9); have HT9 := Lib.hid (HTt.out.below hw9b); have HX9 := Lib.hid (HX.out.below hw9b); have HG9 := Lib.hid (HG.out.below hw9b); clear hb9 hc9 hw9)
                | fail)
              refine wp_region_mono 16 (w9.heap.size) [(fun v _ => v = .bool true), (fun v _ => v = .bool false), (fun v _ => v = .bool false), (fun v _ => v = .agg (bytesV c.b).toArray), (fun v _ => v = .slice oa a.length oc), (fun v _ => v = .agg (bytesV R.b).toArray), (fun v _ => v = .bool true), (fun v _ => v = .bool true), (fun v _ => v = .bool true), (fun v _ => v = undef), (fun v _ => v = undef), (fun v _ => v = undef), (fun v _ => v = undef), (fun v _ => v = undef), (fun v _ => v = undef), (fun v _ => v = .bool true)] (by kernel_rfl) (by kernel_rfl) (Nat.le_refl _) ?mkept _ rfl ?mops ?mfin
              case mkept =>
                repeat (refine List.forall_mem_cons.2 ⟨by first | exact fun _ _ _ _ h => h | exact fun _ _ _ hb h => Parts.below h hb | exact fun _ _ _ hb h => IsSl.below h hb, ?_⟩)
                exact fun _ h => by cases h
              case mops =>
                simp only [List.take_succ_cons, List.take_zero, monoAll, List.getD_cons_zero, List.getD_cons_succ]
                iterate 16
                
                 (refine ⟨fun x wr hb hd Qg hK => ?_, ?_⟩
                  · as_aux_lemma =>
                    simp only [fill, Act.put, List.setIfInBounds_toArray, List.set_cons_succ, List.set_cons_zero, needs, Region.binds, List.filter_cons, List.filter_nil, List.map_cons, List.map_nil, if_true, List.mem_cons, List.not_mem_nil, or_false, forall_eq_or_imp, forall_eq, List.getD_cons_zero, List.getD_cons_succ, false_implies, implies_true] at hd hK ⊢
                    (try simp only [hd] at hK ⊢)
                    first
                    | (have hBr := HC9.out.below hb (hlc); refine wpList_load_rowIf rfl 30 (.tmp 16) rfl _ rfl 30 (bytesV c.b).toArray (0, 0) _ (by exact hBr) Tryd.underlying30 rfl (hv_row c) ?_; exact hK _ _ rfl (Below.refl _ _))
                    | (show wpList _ _ _ [⟨some 96, .call _, _, _, _, _⟩] _ _; go_wp2_with (go_at_call 24; refine (root_any a.length _ (a.map lfH) wr (by simp) (by omega) (HV9.out.below hb) (HG9.out.below hb)).mono ?_; rintro e w5 ⟨rfl, hb5⟩); exact hK _ _ (by rw [HRr.out]; rfl) hb5)
                    | (show wpList _ _ _ [⟨some 103, .load _ _, _, _, _, _⟩] _ _; have c0 : wr.cell? ⟨bq, oq + k, none⟩ = some (.slice y1 t.length y2) := ((hw9b.trans (hb.mono hs9)).cell (p := ⟨bq, oq + k, none⟩) hbq).trans CQ.out; go_wp2_with fail; exact hK _ _ rfl (Below.refl _ _))
                    | (show wpList _ _ _ [⟨some 105, .call _, _, _, _, _⟩] _ _; go_wp2_with (go_at_call 13; refine (refbytes_any _ _ t s wr (HT9.out.below hb) (HX9.out.below hb) (by omega)).mono ?_; rintro e w5 ⟨rfl, hb5⟩); exact hK _ _ (by rw [HTS.out]) hb5)
                    | (go_wp2_with fail; exact hK _ _ rfl (Below.refl _ _)))
                trivial
              case mfin =>
                intro z w10 hb10 hR10
                have x15 := hR10 15 (by decide)
                simp only [List.getD_cons_zero, List.getD_cons_succ] at x15
                have hw10 := hw9b.trans (hb10.mono hs9)
                clear hR10 hb10
                simp only [List.drop_succ_cons, List.drop_zero]
                generalize List.toArray _ = L0
                simp only [List.take_succ_cons, List.take_zero, List.map_cons, List.map_nil, fill, Act.put, List.setIfInBounds_toArray, List.set_cons_succ, List.set_cons_zero, x15]
                clear x15
                go_wp2_with fail
                go_ret
                exact ⟨rfl, hw10⟩
end Go.Proofs.YthgkaegkkkghhaaDoor
