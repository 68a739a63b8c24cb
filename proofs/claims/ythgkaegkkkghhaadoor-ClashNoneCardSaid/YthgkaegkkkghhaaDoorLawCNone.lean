/- The law ClashNone, walked: true, and nothing that was there has turned. Conditions: the list and the texts can be read; the package's tables read as they are laid. -/
import Derived.Test.YthgkaegkkkghhaaDoorLawCLists
namespace Go.Proofs.YthgkaegkkkghhaaDoor
open Go.RowKit

theorem beq_swap (a b : List UInt8) : (a == b) = (b == a) := by rw [Bool.eq_iff_iff, beq_iff_eq, beq_iff_eq, eq_comm]
theorem clash_swap (x y : List UInt8) : clashB x y = clashB y x := by
  unfold clashB
  rw [beq_swap x y, beq_swap (sumN x) (sumN y)]
set_option maxRecDepth 100000 in
set_option maxHeartbeats 8000000 in
theorem cnone_any (va vx vy : Value) (a : List (List UInt8)) (xs : List Value) (s t : List UInt8) (w : World) (ha : Parts w va a xs) (hx : Bytes w vx s) (hy : Bytes w vy t) (hma : ∀ l ∈ a, l.length ≤ 4611686018427387904) (hna : a.length ≤ 4611686018427387904) (hg : Glob w) :
    Calls Tryd.prog 7 #[va, vx, vy] w fun e w' => e = .returned (.bool true) ∧ Below w.heap.size w w' := by
  obtain ⟨xa, ca, rfl, _⟩ := hx.form
  obtain ⟨xb, cb, rfl, _⟩ := hy.form
  obtain ⟨xl, cl, rfl, _⟩ := ha.sl.form
  have HA := Lib.hid ha
  have HX := Lib.hid hx
  have HY := Lib.hid hy
  have HG := Lib.hid hg
  have HMA := Lib.hid hma
  clear ha hx hy hg hma
  cases hga : greatB a with
  | true =>
    have GA := Lib.hid hga
    clear hga
    go_enter Tryd.func7, Tryd.ntmps7
    go_wp2_with (first
      | (go_at_call 9; refine (alive7_any w HG.out).mono ?_; rintro e w1 ⟨rfl, hb1⟩; have hw1 := hb1;  have HA1 := Lib.hid (HA.out.below hb1); have HX1 := Lib.hid (HX.out.below hb1); have HY1 := Lib.hid (HY.out.below hb1); have HG1 := Lib.hid (HG.out.below hb1); clear hb1)
      | (go_at_call 10; have HQ := HA1; clear HA1; refine (great7_any _ a xs w1 HQ.out HMA.out hna).mono ?_; rintro e w2 ⟨rfl, hb2⟩; rw [GA.out]; have hw2 := hw1.trans (hb2.mono hw1.size); have HA2 := Lib.hid (HQ.out.below hb2); have HX2 := Lib.hid (HX1.out.below hb2); have HY2 := Lib.hid (HY1.out.below hb2); have HG2 := Lib.hid (HG1.out.below hb2); clear hb2)
      | fail)
    go_ret
    exact ⟨rfl, hw2⟩
  | false =>
    have GA := Lib.hid hga
    clear hga
    by_cases hx3 : (300 : Int) < s.length
    · go_enter Tryd.func7, Tryd.ntmps7
      go_wp2_with (first
        | (go_at_call 9; refine (alive7_any w HG.out).mono ?_; rintro e w1 ⟨rfl, hb1⟩; have hw1 := hb1;  have HA1 := Lib.hid (HA.out.below hb1); have HX1 := Lib.hid (HX.out.below hb1); have HY1 := Lib.hid (HY.out.below hb1); have HG1 := Lib.hid (HG.out.below hb1); clear hb1)
        | (go_at_call 10; have HQ := HA1; clear HA1; refine (great7_any _ a xs w1 HQ.out HMA.out hna).mono ?_; rintro e w2 ⟨rfl, hb2⟩; rw [GA.out]; have hw2 := hw1.trans (hb2.mono hw1.size); have HA2 := Lib.hid (HQ.out.below hb2); have HX2 := Lib.hid (HX1.out.below hb2); have HY2 := Lib.hid (HY1.out.below hb2); have HG2 := Lib.hid (HG1.out.below hb2); clear hb2)
        | fail)
      go_ret
      exact ⟨rfl, hw2⟩
    by_cases hy3 : (300 : Int) < t.length
    · go_enter Tryd.func7, Tryd.ntmps7
      go_wp2_with (first
        | (go_at_call 9; refine (alive7_any w HG.out).mono ?_; rintro e w1 ⟨rfl, hb1⟩; have hw1 := hb1;  have HA1 := Lib.hid (HA.out.below hb1); have HX1 := Lib.hid (HX.out.below hb1); have HY1 := Lib.hid (HY.out.below hb1); have HG1 := Lib.hid (HG.out.below hb1); clear hb1)
        | (go_at_call 10; have HQ := HA1; clear HA1; refine (great7_any _ a xs w1 HQ.out HMA.out hna).mono ?_; rintro e w2 ⟨rfl, hb2⟩; rw [GA.out]; have hw2 := hw1.trans (hb2.mono hw1.size); have HA2 := Lib.hid (HQ.out.below hb2); have HX2 := Lib.hid (HX1.out.below hb2); have HY2 := Lib.hid (HY1.out.below hb2); have HG2 := Lib.hid (HG1.out.below hb2); clear hb2)
        | fail)
      go_ret
      exact ⟨rfl, hw2⟩
    obtain ⟨sa, ta⟩ := small_of GA.out
    obtain ⟨k, hk⟩ : ∃ k, k = a.length / 2 := ⟨_, rfl⟩
    have hq : Int.tdiv (a.length : Int) 2 = (k : Int) := by rw [hk]; rfl
    have hka : k ≤ a.length := by omega
    obtain ⟨a1, d1, hs1, hp1⟩ := parts_head HA.out k hka
    obtain ⟨R, hR⟩ : ∃ R, R = rootB (a.take k) := ⟨_, rfl⟩
    obtain ⟨c, hc⟩ : ∃ c, c = clashB s t := ⟨_, rfl⟩
    have hc2 : c = clashB t s := by rw [hc, clash_swap]
    have heq := fun w => is_hash w R
    have HTA := Lib.hid ta
    have HP1 := Lib.hid hp1
    have HR := Lib.hid hR
    have HC := Lib.hid hc
    have HC2 := Lib.hid hc2
    clear ta hp1 hR hc hc2 hk
    go_enter Tryd.func7, Tryd.ntmps7
    go_wp2_with (first
      | (go_at_call 9; refine (alive7_any w HG.out).mono ?_; rintro e w1 ⟨rfl, hb1⟩; have hw1 := hb1;  have HA1 := Lib.hid (HA.out.below hb1); have HX1 := Lib.hid (HX.out.below hb1); have HY1 := Lib.hid (HY.out.below hb1); have HG1 := Lib.hid (HG.out.below hb1); clear hb1)
      | (go_at_call 10; have HQ := HA1; clear HA1; refine (great7_any _ a xs w1 HQ.out HMA.out hna).mono ?_; rintro e w2 ⟨rfl, hb2⟩; rw [GA.out]; have hw2 := hw1.trans (hb2.mono hw1.size); have HA2 := Lib.hid (HQ.out.below hb2); have HX2 := Lib.hid (HX1.out.below hb2); have HY2 := Lib.hid (HY1.out.below hb2); have HG2 := Lib.hid (HG1.out.below hb2); clear hb2)
      | (go_at_call 11; refine (extract_any _ _ a a xs xs w2 HA2.out HA2.out sa sa HTA.out HTA.out HG2.out).mono ?_; rintro e w3 ⟨h4, hb3⟩; rw [extractB_self] at h4; obtain ⟨e1, e2, e3, e4, rfl⟩ := extR_get h4; have hw3 := hw2.trans (hb3.mono hw2.size); have HX3 := Lib.hid (HX2.out.below hb3); have HY3 := Lib.hid (HY2.out.below hb3); have HG3 := Lib.hid (HG2.out.below hb3); have HP3 := Lib.hid (HP1.out.below hw3); clear hb3)
      | fail)
    refine wp_region_mono 32 (w3.heap.size) [(fun v _ => v = .bool false), (fun v _ => v = .bool true), (fun v _ => v = .bool true), (fun v _ => v = .slice xa s.length ca), (fun v _ => v = .slice xa s.length ca), (fun v _ => v = .bool false), (fun v _ => v = .bool true), (fun v _ => v = .bool true), (fun v _ => v = .bool true), (fun v _ => v = .slice xa s.length ca), (fun v _ => v = .slice xb t.length cb), (fun v _ => v = .bool c), (fun v _ => v = .slice xb t.length cb), (fun v _ => v = .slice xa s.length ca), (fun v _ => v = .bool c), (fun v _ => v = .bool true), (fun v _ => v = .bool true), (fun v _ => v = .bool true), (fun v _ => v = .slice xl a.length cl), (fun v _ => v = .slice xl a.length cl), (fun v _ => v = .int .i64 a.length), (fun v _ => v = .int .i64 k), (fun v _ => v = .slice a1 k d1), (fun v _ => v = .agg (bytesV R.b).toArray), (fun v _ => v = .slice xl a.length cl), (fun v _ => v = .slice xl a.length cl), (fun v _ => v = .int .i64 a.length), (fun v _ => v = .int .i64 k), (fun v _ => v = .slice a1 k d1), (fun v _ => v = .agg (bytesV R.b).toArray), (fun v _ => v = .bool true), (fun v _ => v = .bool true)] (by kernel_rfl) (by kernel_rfl) (Nat.le_refl _) ?mkept _ rfl ?mops ?mfin
    case mkept =>
      repeat (refine List.forall_mem_cons.2 ⟨by first | exact fun _ _ _ _ h => h | exact fun _ _ _ hb h => Parts.below h hb | exact fun _ _ _ hb h => IsSl.below h hb, ?_⟩)
      exact fun _ h => by cases h
    case mops =>
      simp only [List.take_succ_cons, List.take_zero, monoAll, List.getD_cons_zero, List.getD_cons_succ]
      iterate 32
      
       (refine ⟨fun x wr hb hd Qg hK => ?_, ?_⟩
        · as_aux_lemma =>
          simp only [fill, Act.put, List.setIfInBounds_toArray, List.set_cons_succ, List.set_cons_zero, needs, Region.binds, List.filter_cons, List.filter_nil, List.map_cons, List.map_nil, if_true, List.mem_cons, List.not_mem_nil, or_false, forall_eq_or_imp, forall_eq, List.getD_cons_zero, List.getD_cons_succ, false_implies, implies_true] at hd hK ⊢
          (try simp only [hd] at hK ⊢)
          first
          | (show wpList _ _ _ [⟨some 36, .call _, _, _, _, _⟩] _ _; go_wp2_with (go_at_call 16; refine (cis_any _ _ s s wr (HX3.out.below hb) (HX3.out.below hb) (by omega) (by omega) (HG3.out.below hb)).mono ?_; rintro e w5 ⟨rfl, hb5⟩); exact hK _ _ (by rw [clash_self]) hb5)
          | (show wpList _ _ _ [⟨some 42, .call _, _, _, _, _⟩] _ _; go_wp2_with (go_at_call 16; refine (cis_any _ _ s t wr (HX3.out.below hb) (HY3.out.below hb) (by omega) (by omega) (HG3.out.below hb)).mono ?_; rintro e w5 ⟨rfl, hb5⟩); exact hK _ _ (by rw [HC.out]) hb5)
          | (show wpList _ _ _ [⟨some 45, .call _, _, _, _, _⟩] _ _; go_wp2_with (go_at_call 16; refine (cis_any _ _ t s wr (HY3.out.below hb) (HX3.out.below hb) (by omega) (by omega) (HG3.out.below hb)).mono ?_; rintro e w5 ⟨rfl, hb5⟩); exact hK _ _ (by rw [HC2.out]) hb5)
          | (show wpList _ _ _ [⟨some 54, .call _, _, _, _, _⟩] _ _; go_wp2_with (go_at_call 14; refine (roots_any _ (a.take k) _ wr (HP3.out.below hb) (by rw [List.length_take]; omega) (fun l h => HTA.out l (List.mem_of_mem_take h)) (HG3.out.below hb)).mono ?_; rintro e w5 ⟨rfl, hb5⟩); exact hK _ _ (by rw [HR.out]; rfl) hb5)
          | (show wpList _ _ _ [⟨some 60, .call _, _, _, _, _⟩] _ _; go_wp2_with (go_at_call 15; refine (refroots_any _ (a.take k) _ wr (HP3.out.below hb) (by rw [List.length_take]; omega) (fun l h => HTA.out l (List.mem_of_mem_take h)) (HG3.out.below hb)).mono ?_; rintro e w5 ⟨rfl, hb5⟩); exact hK _ _ (by rw [HR.out]; rfl) hb5)
          | (go_wp2_with fail; exact hK _ _ rfl (Below.refl _ _)))
      trivial
    case mfin =>
      intro z w4 hb4 hR4
      have x31 := hR4 31 (by decide)
      simp only [List.getD_cons_zero, List.getD_cons_succ] at x31
      have hw4 := hw3.trans (hb4.mono hw3.size)
      clear hR4 hb4
      simp only [List.drop_succ_cons, List.drop_zero]
      generalize List.toArray _ = L0
      simp only [List.take_succ_cons, List.take_zero, List.map_cons, List.map_nil, fill, Act.put, List.setIfInBounds_toArray, List.set_cons_succ, List.set_cons_zero, x31]
      clear x31
      go_wp2_with fail
      go_ret
      exact ⟨rfl, hw4⟩
end Go.Proofs.YthgkaegkkkghhaaDoor
