/- The walk of the reference's Extract. The walk of the reference's Extract where the lists' texts differ. Conditions: what each part says. -/
import Derived.Test.YtnbnjoejmepkjaaDoorClashY
import Derived.Test.YtnbnjoejmepkjaaDoorGround
/-! ClashK: The walk of the reference's Extract. Conditions: both lists can be read, at most 4000 texts of at most 2^40 bytes; the package's tables read as they are laid. -/
namespace Go.Proofs.YtnbnjoejmepkjaaDoor
open Go.RowKit

set_option maxRecDepth 100000 in
set_option maxHeartbeats 2000000 in
theorem refextract_none (va vb : Value) (a b : List (List UInt8)) (xs ys : List Value) (w : World) (ha : Parts w va a xs) (hb : Parts w vb b ys) (hn : a.length ≤ 4000) (hm : b.length ≤ 4000) (hwa : ∀ t ∈ a, t.length ≤ 35184372088832) (hwb : ∀ t ∈ b, t.length ≤ 35184372088832) (hg : Glob w)
    (hc : a.length ≠ b.length ∨ (a.length = b.length ∧ a = b) ∨ (a.length = b.length ∧ a ≠ b ∧ rootB a ≠ rootB b)) :
    Calls Tryd.prog 28 #[va, vb] w fun e w' => ExtR none e w' ∧ Below w.heap.size w w' := by
  obtain ⟨xa, ca, rfl, _⟩ := ha.sl.form
  obtain ⟨xb, cb, rfl, _⟩ := hb.sl.form
  have HA := Lib.hid ha
  have HB := Lib.hid hb
  have HG := Lib.hid hg
  have HWA := Lib.hid hwa
  have HWB := Lib.hid hwb
  clear ha hb hg hwa hwb
  rcases hc with hl | ⟨hl, hs⟩ | ⟨hl, hs, hr⟩
  · have hle : ((a.length : Int) != (b.length : Int)) = true := by simp; omega
    clear hl
    go_enter Tryd.func28, Tryd.ntmps28
    go_wp2_with fail
    go_ret3
    exact ⟨extR_none _, Below.refl _ _⟩
  · have hle : ((a.length : Int) != (b.length : Int)) = false := by rw [hl]; simp
    have HE := Lib.hid (show (a == b) = true by simp [hs])
    clear hs hl
    go_enter Tryd.func28, Tryd.ntmps28
    go_wp2_with (first
      | (go_at_call 33; refine (refsames_any _ _ a b xs ys w HA.out HB.out (by omega) HWA.out).mono ?_; rintro e w2 ⟨rfl, hb2⟩; rw [HE.out]; have HA2 := Lib.hid (HA.out.below hb2); have HB2 := Lib.hid (HB.out.below hb2); have HG2 := Lib.hid (HG.out.below hb2); have HW2 := Lib.hid hb2; clear hb2)
      | fail)
    go_ret3
    exact ⟨extR_none _, HW2.out⟩
  · have hle : ((a.length : Int) != (b.length : Int)) = false := by rw [hl]; simp
    have HE := Lib.hid (show (a == b) = false by simpa using hs)
    obtain ⟨R1, hR1⟩ : ∃ R1, R1 = rootB a := ⟨_, rfl⟩
    obtain ⟨R2, hR2⟩ : ∃ R2, R2 = rootB b := ⟨_, rfl⟩
    rw [← hR1, ← hR2] at hr
    have HR1 := Lib.hid hR1
    have HR2 := Lib.hid hR2
    have heq := fun w => ne_hash w R1 R2 hr
    clear hs hl hr hR1 hR2
    go_enter Tryd.func28, Tryd.ntmps28
    go_wp2_with (first
      | (go_at_call 33; refine (refsames_any _ _ a b xs ys w HA.out HB.out (by omega) HWA.out).mono ?_; rintro e w2 ⟨rfl, hb2⟩; rw [HE.out]; have HA2 := Lib.hid (HA.out.below hb2); have HB2 := Lib.hid (HB.out.below hb2); have HG2 := Lib.hid (HG.out.below hb2); have HW2 := Lib.hid hb2; clear hb2)
      | (go_at_call 25; have HX := HA2; clear HA2; refine (refroots_any _ a xs w2 HX.out hn HWA.out HG2.out).mono ?_; rintro e w3 ⟨rfl, hb3⟩; rw [← HR1.out]; unfold hv; have HW3 := Lib.hid (HW2.out.trans (hb3.mono HW2.out.size)); have HG3 := Lib.hid (HG2.out.below hb3); have HB3 := Lib.hid (HB2.out.below hb3); clear hb3)
      | (go_at_call 25; refine (refroots_any _ b ys w3 HB3.out hm HWB.out HG3.out).mono ?_; rintro e w4 ⟨rfl, hb4⟩; rw [← HR2.out]; unfold hv; have HW4 := Lib.hid (HW3.out.trans (hb4.mono HW3.out.size)); have HG4 := Lib.hid (HG3.out.below hb4); clear hb4)
      | fail)
    go_ret3
    exact ⟨extR_none _, HW4.out⟩
theorem lit1_kept (c : UInt8) : Kept fun v w => ∃ g, v = .slice (some ⟨g, 0, none⟩) 1 1 ∧ Bytes w (.slice (some ⟨g, 0, none⟩) 1 1) [c] := fun _ _ _ hb ⟨g, e, h⟩ => ⟨g, e, h.below hb⟩
set_option maxRecDepth 100000 in
set_option maxHeartbeats 4000000 in
theorem refextract_one (va vb : Value) (s t : List UInt8) (xs ys : List Value) (w : World) (ha : Parts w va [s] xs) (hb : Parts w vb [t] ys) (hwa : ∀ u ∈ [s], u.length ≤ 35184372088832) (hwb : ∀ u ∈ [t], u.length ≤ 35184372088832) (hg : Glob w)
    (hs : s ≠ t) (hr : rootB [s] = rootB [t]) :
    Calls Tryd.prog 28 #[va, vb] w fun e w' => ExtR (some (0 :: s, 0 :: t)) e w' ∧ Below w.heap.size w w' := by
  obtain ⟨xa, ca, hva, _⟩ := ha.sl.form
  obtain ⟨xb, cb, hvb, _⟩ := hb.sl.form
  rw [show [s].length = 1 from rfl] at hva
  rw [show [t].length = 1 from rfl] at hvb
  subst hva hvb
  obtain ⟨a, hae⟩ : ∃ a, a = [s] := ⟨_, rfl⟩
  obtain ⟨b, hbe⟩ : ∃ b, b = [t] := ⟨_, rfl⟩
  obtain ⟨b1, o1, p1, s', rfl, hb1, c1, _, hs1, hX1⟩ := ha.at (k := 0) (by simp)
  obtain ⟨b2, o2, p2, t', rfl, hb2, c2, _, hs2, hX2⟩ := hb.at (k := 0) (by simp)
  cases hs1
  cases hs2
  have ls := hwa s (by simp)
  have lt := hwb t (by simp)
  rw [← hae] at ha hwa hr
  rw [← hbe] at hb hwb hr
  have hn : a.length ≤ 4000 := by rw [hae]; simp
  have hm : b.length ≤ 4000 := by rw [hbe]; simp
  have HA := Lib.hid ha
  have HB := Lib.hid hb
  have HG := Lib.hid hg
  have HWA := Lib.hid hwa
  have HWB := Lib.hid hwb
  have HE := Lib.hid (show (a == b) = false by rw [hae, hbe]; simpa using hs)
  obtain ⟨R1, hR1⟩ : ∃ R1, R1 = rootB a := ⟨_, rfl⟩
  obtain ⟨R2, hR2⟩ : ∃ R2, R2 = rootB b := ⟨_, rfl⟩
  rw [← hR1, ← hR2] at hr
  have HR1 := Lib.hid hR1
  have HR2 := Lib.hid hR2
  have HR := Lib.hid hr
  have heq := fun w => is_hash w R1
  have C1 := Lib.hid c1
  have C2 := Lib.hid c2
  have HX1 := Lib.hid hX1
  have HX2 := Lib.hid hX2
  clear ha hb hg hwa hwb hs hr hR1 hR2 c1 c2 hX1 hX2 hae hbe
  go_enter Tryd.func28, Tryd.ntmps28
  go_wp2_with (first
      | (go_at_call 33; refine (refsames_any _ _ a b xs ys w HA.out HB.out (by omega) HWA.out).mono ?_; rintro e w2 ⟨rfl, hb2⟩; rw [HE.out]; have HA2 := Lib.hid (HA.out.below hb2); have HB2 := Lib.hid (HB.out.below hb2); have HG2 := Lib.hid (HG.out.below hb2); have HW2 := Lib.hid hb2; clear hb2)
      | (go_at_call 25; have HX := HA2; clear HA2; refine (refroots_any _ a xs w2 HX.out hn HWA.out HG2.out).mono ?_; rintro e w3 ⟨rfl, hb3⟩; rw [← HR1.out]; unfold hv; have HW3 := Lib.hid (HW2.out.trans (hb3.mono HW2.out.size)); have HG3 := Lib.hid (HG2.out.below hb3); have HB3 := Lib.hid (HB2.out.below hb3); clear hb3)
      | (go_at_call 25; refine (refroots_any _ b ys w3 HB3.out hm HWB.out HG3.out).mono ?_; rintro e w4 ⟨rfl, hb4⟩; rw [← HR2.out]; rw [← HR.out]; unfold hv; have HW4 := Lib.hid (HW3.out.trans (hb4.mono HW3.out.size)); have HG4 := Lib.hid (HG3.out.below hb4); clear hb4)
      | fail)
  have hw4 := HW4.out
  have hs4 := hw4.size
  refine wp_region_mono 13 (w4.heap.size) [(fun v w => ∃ g, v = .slice (some ⟨g, 0, none⟩) 1 1 ∧ Bytes w (.slice (some ⟨g, 0, none⟩) 1 1) [0]), (fun v _ => v = .slice (some ⟨b1, o1, none⟩) 1 ca), (fun v _ => v = .pointer (some ⟨b1, o1, none⟩)), (fun v _ => v = p1), (fun v w => Bytes w v (0 :: s)), (fun v w => ∃ g, v = .slice (some ⟨g, 0, none⟩) 1 1 ∧ Bytes w (.slice (some ⟨g, 0, none⟩) 1 1) [0]), (fun v _ => v = .slice (some ⟨b2, o2, none⟩) 1 cb), (fun v _ => v = .pointer (some ⟨b2, o2, none⟩)), (fun v _ => v = p2), (fun v w => Bytes w v (0 :: t)), (fun v w => Bytes w v (0 :: s)), (fun v w => Bytes w v (0 :: t)), (fun v _ => v = .bool true)] (by kernel_rfl) (by kernel_rfl) (Nat.le_refl _) ?mkept _ rfl ?mops ?mfin
  case mkept =>
    repeat (refine List.forall_mem_cons.2 ⟨by first | exact fun _ _ _ _ h => h | exact lit1_kept 0 | exact fun _ _ _ hb h => Parts.below h hb | exact fun _ _ _ hb h => IsSl.below h hb, ?_⟩)
    exact fun _ h => by cases h
  case mops =>
    simp only [List.take_succ_cons, List.take_zero, monoAll, List.getD_cons_zero, List.getD_cons_succ]
    iterate 13
    
     (refine ⟨fun x wr hb hd Qg hK => ?_, ?_⟩
      · as_aux_lemma =>
        simp only [fill, Act.put, List.setIfInBounds_toArray, List.set_cons_succ, List.set_cons_zero, needs, Region.binds, List.filter_cons, List.filter_nil, List.map_cons, List.map_nil, if_true, List.mem_cons, List.not_mem_nil, or_false, forall_eq_or_imp, forall_eq, List.getD_cons_zero, List.getD_cons_succ, false_implies, implies_true] at hd hK ⊢
        (try simp only [hd] at hK ⊢)
        first
        | (show wpList _ _ _ [⟨some 32, .buildSlice _ _ _, _, _, _, _⟩] _ _; go_wp2_with fail; exact hK _ _ ⟨_, rfl, bytes_alloc wr [0] _ _ rfl⟩ ((Below.refl _ _).alloc (Nat.le_refl _) _))
        | (show wpList _ _ _ [⟨some 37, .buildSlice _ _ _, _, _, _, _⟩] _ _; go_wp2_with fail; exact hK _ _ ⟨_, rfl, bytes_alloc wr [0] _ _ rfl⟩ ((Below.refl _ _).alloc (Nat.le_refl _) _))
        | (show wpList _ _ _ [⟨some 35, .load _ _, _, _, _, _⟩] _ _; have c0 : wr.cell? ⟨b1, o1, none⟩ = some p1 := ((hw4.trans (hb.mono hs4)).cell (p := ⟨b1, o1, none⟩) hb1).trans C1.out; go_wp2_with fail; exact hK _ _ rfl (Below.refl _ _))
        | (show wpList _ _ _ [⟨some 40, .load _ _, _, _, _, _⟩] _ _; have c0 : wr.cell? ⟨b2, o2, none⟩ = some p2 := ((hw4.trans (hb.mono hs4)).cell (p := ⟨b2, o2, none⟩) hb2).trans C2.out; go_wp2_with fail; exact hK _ _ rfl (Below.refl _ _))
        | (show wpList _ _ _ [⟨some 36, .call _, _, _, _, _⟩] _ _; obtain ⟨⟨g, e0, hown⟩, e1⟩ := hd; refine wpList_full1 rfl (.tmp 32) (.tmp 35) rfl g 0 p1 s (by exact e0) hown (by first | rfl | exact e1) ((HX1.out.below hw4).below hb) (by omega) ?_; intro v6 w6 hv6 hb6; exact hK _ _ hv6 hb6)
        | (show wpList _ _ _ [⟨some 41, .call _, _, _, _, _⟩] _ _; obtain ⟨⟨g, e0, hown⟩, e1⟩ := hd; refine wpList_full1 rfl (.tmp 37) (.tmp 40) rfl g 0 p2 t (by exact e0) hown (by first | rfl | exact e1) ((HX2.out.below hw4).below hb) (by omega) ?_; intro v6 w6 hv6 hb6; exact hK _ _ hv6 hb6)
        | (show wpList _ _ _ [⟨some 4, .assign _, _, _, _, _⟩] _ _; go_wp2_with fail; exact hK _ _ (by simp only [hd]) (Below.refl _ _))
        | (show wpList _ _ _ [⟨some 5, .assign _, _, _, _, _⟩] _ _; go_wp2_with fail; exact hK _ _ (by simp only [hd]) (Below.refl _ _))
        | (go_wp2_with fail; exact hK _ _ rfl (Below.refl _ _)))
    trivial
  case mfin =>
    intro z w9 hb9 hR9
    have x10 := hR9 10 (by decide)
    have x11 := hR9 11 (by decide)
    have x12 := hR9 12 (by decide)
    simp only [List.getD_cons_zero, List.getD_cons_succ] at x10 x11 x12
    have HX8 := Lib.hid x10
    have HX9 := Lib.hid x11
    have hw9 := hw4.trans (hb9.mono hs4)
    clear hR9 hb9 x10 x11
    simp only [List.drop_succ_cons, List.drop_zero]
    generalize List.toArray _ = L0
    simp only [List.take_succ_cons, List.take_zero, List.map_cons, List.map_nil, fill, Act.put, List.setIfInBounds_toArray, List.set_cons_succ, List.set_cons_zero, x12]
    clear x12
    go_wp2_with fail
    go_ret3
    exact ⟨⟨_, _, rfl, HX8.out, HX9.out⟩, hw9⟩
end Go.Proofs.YtnbnjoejmepkjaaDoor

/-! ClashL: The walk of the reference's Extract where the lists' texts differ. Conditions: both lists can be read, as many texts, 2 to 4000, each at most 2^40 bytes; the package's tables read as they are laid. -/
namespace Go.Proofs.YtnbnjoejmepkjaaDoor
open Go.RowKit

set_option maxRecDepth 100000 in
set_option maxHeartbeats 8000000 in
theorem refextract_pair (va vb : Value) (a b : List (List UInt8)) (xs ys : List Value) (w : World) (ha : Parts w va a xs) (hb : Parts w vb b ys) (h2 : 2 ≤ a.length) (hl : a.length = b.length) (hn : a.length ≤ 4000) (hwa : ∀ t ∈ a, t.length ≤ 35184372088832) (hwb : ∀ t ∈ b, t.length ≤ 35184372088832) (hg : Glob w)
    (hs : a ≠ b) (hr : rootB a = rootB b) (hd : textB a ≠ textB b) :
    Calls Tryd.prog 28 #[va, vb] w fun e w' => ExtR (some (textB a, textB b)) e w' ∧ Below w.heap.size w w' := by
  obtain ⟨xa, ca, rfl, _⟩ := ha.sl.form
  obtain ⟨xb, cb, rfl, _⟩ := hb.sl.form
  obtain ⟨n, hn0⟩ : ∃ n, n = a.length := ⟨_, rfl⟩
  have hm : b.length ≤ 4000 := by omega
  rw [← hl, ← hn0]
  rw [← hl, ← hn0] at hb
  rw [← hn0] at ha
  have HA := Lib.hid ha
  have HB := Lib.hid hb
  have HG := Lib.hid hg
  have HWA := Lib.hid hwa
  have HWB := Lib.hid hwb
  have HL := Lib.hid hl
  have HN := Lib.hid hn0
  have hne : ((n : Int) == 1) = false := by rw [beq_eq_false_iff_ne]; omega
  have hn2 : 2 ≤ n := by omega
  have hn4 : n ≤ 4000 := by omega
  have HE := Lib.hid (show (a == b) = false by simpa using hs)
  obtain ⟨RA, hRA⟩ : ∃ R, R = rootB a := ⟨_, rfl⟩
  obtain ⟨RB, hRB⟩ : ∃ R, R = rootB b := ⟨_, rfl⟩
  rw [← hRA, ← hRB] at hr
  have HR1 := Lib.hid hRA
  have HR2 := Lib.hid hRB
  have HR := Lib.hid hr
  have heq := fun w => is_hash w RA
  obtain ⟨k, hk⟩ : ∃ k, k = splitN n := ⟨_, rfl⟩
  have hlt := splitN_lt n hn2
  have hpos := splitN_pos n hn2
  rw [← hk] at hlt hpos
  have HK := Lib.hid hk
  obtain ⟨a1, d1, hs1, hp1⟩ := parts_head ha k (by omega)
  obtain ⟨a2, d2, hs2, hp2⟩ := parts_head hb k (by omega)
  obtain ⟨a3, d3, hs3, hp3⟩ := parts_tail ha k (by omega)
  obtain ⟨a4, d4, hs4, hp4⟩ := parts_tail hb k (by omega)
  rw [← hn0] at hs3 hp3
  rw [← hl, ← hn0] at hs4 hp4
  obtain ⟨R1, hR1⟩ : ∃ R, R = rootB (a.take k) := ⟨_, rfl⟩
  obtain ⟨R2, hR2⟩ : ∃ R, R = rootB (a.drop k) := ⟨_, rfl⟩
  obtain ⟨S1, hS1⟩ : ∃ R, R = rootB (b.take k) := ⟨_, rfl⟩
  obtain ⟨S2, hS2⟩ : ∃ R, R = rootB (b.drop k) := ⟨_, rfl⟩
  have hd' : ¬ (R1 = S1 ∧ R2 = S2) := by
    rintro ⟨e1, e2⟩
    apply hd
    rw [textB_two a (by omega), textB_two b (by omega), ← hl, ← hn0, ← hk, ← hR1, ← hR2, ← hS1, ← hS2, e1, e2]
  rw [textB_two a (by omega), textB_two b (by omega), ← hl, ← hn0, ← hk, ← hR1, ← hR2, ← hS1, ← hS2]
  have HQ1 := Lib.hid hR1
  have HQ2 := Lib.hid hR2
  have HT1 := Lib.hid hS1
  have HT2 := Lib.hid hS2
  have HP1 := Lib.hid hp1
  have HP2 := Lib.hid hp2
  have HP3 := Lib.hid hp3
  have HP4 := Lib.hid hp4
  clear ha hb hg hwa hwb hl hn0 h2 hs hr hRA hRB hk hp1 hp2 hp3 hp4 hR1 hR2 hS1 hS2 hd
  go_enter Tryd.func28, Tryd.ntmps28
  go_wp2_with (first
      | (go_at_call 33; refine (refsames_any _ _ a b xs ys w HA.out HB.out (by omega) HWA.out).mono ?_; rintro e w2 ⟨rfl, hb2⟩; rw [HE.out]; have HA2 := Lib.hid (HA.out.below hb2); have HB2 := Lib.hid (HB.out.below hb2); have HG2 := Lib.hid (HG.out.below hb2); have HW2 := Lib.hid hb2; clear hb2)
      | (go_at_call 25; have HX := HA2; clear HA2; refine (refroots_any _ a xs w2 HX.out hn HWA.out HG2.out).mono ?_; rintro e w3 ⟨rfl, hb3⟩; rw [← HR1.out]; unfold hv; have HW3 := Lib.hid (HW2.out.trans (hb3.mono HW2.out.size)); have HG3 := Lib.hid (HG2.out.below hb3); have HB3 := Lib.hid (HB2.out.below hb3); clear hb3)
      | (go_at_call 25; refine (refroots_any _ b ys w3 HB3.out hm HWB.out HG3.out).mono ?_; rintro e w4 ⟨rfl, hb4⟩; rw [← HR2.out]; rw [← HR.out]; unfold hv; have HW4 := Lib.hid (HW3.out.trans (hb4.mono HW3.out.size)); have HG4 := Lib.hid (HG3.out.below hb4); clear hb4)
      | (go_at_call 23; refine (refsplit_any n _ (by omega)).mono ?_; rintro e w2 ⟨rfl, h2⟩; rw [h2, ← HK.out]; clear h2 w2)
      | fail)
  clear HA HB HB2 HG2 HB3 HG3 HW2 HW3 heq
  have hw4 := HW4.out
  have hs4 := hw4.size
  refine wp_region_rows 12 [(fun v => v = .slice xa n ca), (fun v => v = .int .i64 k), (fun v => v = .slice a1 k d1), (fun v => v = hv R1), (fun v => v = .slice xa n ca), (fun v => v = .int .i64 k), (fun v => v = .slice a3 (n - k) d3), (fun v => v = hv R2), (fun _ => True), (fun _ => True), (fun _ => True), (fun _ => True)] [⟨8, 10, z32, bytesV R1.b, 32⟩, ⟨9, 11, z32, bytesV R2.b, 32⟩] (by kernel_rfl) (by kernel_rfl) (by rfl) (by rfl) _ rfl ?rops ?rfin
  case rops =>
    simp only [List.take_succ_cons, List.take_zero, rowsAll]
    iterate 12
    
     (refine ⟨fun L x wr hL0 hL hd hJ Qg hK => ?_, ?_⟩
      · simp only [fill, Act.put, List.setIfInBounds_toArray, List.set_cons_succ, List.set_cons_zero, needs, Region.binds, List.filter_cons, List.filter_nil, List.map_cons, List.map_nil, if_true, List.mem_cons, List.not_mem_nil, or_false, forall_eq_or_imp, forall_eq, List.getD_cons_zero, List.getD_cons_succ, false_implies, implies_true] at hd hL hK ⊢
        (try simp only [hd] at hK ⊢)
        first
        | (show wpList _ _ _ [⟨some 48, .call _, _, _, _, _⟩] _ _; have hb := hJ.old; go_wp2_with (go_at_call 25; refine (refroots_any _ (a.take k) _ wr ((HP1.out.below hw4).below hb) (by rw [List.length_take]; omega) (fun b hb' => HWA.out b (List.mem_of_mem_take hb')) (HG4.out.below hb)).mono ?_; rintro e w5 ⟨rfl, hb5⟩); exact hK _ _ (hJ.const rfl (by rw [HQ1.out]; rfl) hb5) trivial)
        | (show wpList _ _ _ [⟨some 52, .call _, _, _, _, _⟩] _ _; have hb := hJ.old; go_wp2_with (go_at_call 25; refine (refroots_any _ (a.drop k) _ wr ((HP3.out.below hw4).below hb) (by rw [List.length_drop, ← HN.out]; omega) (fun b hb' => HWA.out b (List.mem_of_mem_drop hb')) (HG4.out.below hb)).mono ?_; rintro e w5 ⟨rfl, hb5⟩); exact hK _ _ (hJ.const rfl (by rw [HQ2.out]; rfl) hb5) trivial)
        | (show wpList _ _ _ [⟨some 8, .alloc _, _, _, _, _⟩] _ _; go_wp2_with fail; exact hK _ _ (hJ.alloc (List.mem_cons_self) rfl rfl hL0 rfl rfl) trivial)
        | (show wpList _ _ _ [⟨some 9, .alloc _, _, _, _, _⟩] _ _; go_wp2_with fail; exact hK _ _ (hJ.alloc (List.mem_cons_of_mem _ List.mem_cons_self) rfl rfl hL0 rfl rfl) trivial)
        | (show wpList _ _ _ [⟨none, .store _ (.tmp 8) _, _, _, _, _⟩] _ _; obtain ⟨p, e1, e2, e3⟩ := hJ.fresh (List.mem_cons_self) (by simp only [hL]) hL0; refine wpList_store_row rfl 32 (.tmp 8) (.tmp 48) rfl p (bytesV R1.b).toArray (by exact e1) (by first | rfl | simp only [hd]) 32 (z32).toArray (by exact e3) (by exact hv_row _) (by exact z32_old _) (by exact hv_one _) ?_; exact hK undef _ (hJ.store (List.mem_cons_self) rfl rfl (by simp only [hL]) e1 rfl rfl) trivial)
        | (show wpList _ _ _ [⟨none, .store _ (.tmp 9) _, _, _, _, _⟩] _ _; obtain ⟨p, e1, e2, e3⟩ := hJ.fresh (List.mem_cons_of_mem _ List.mem_cons_self) (by simp only [hL]) hL0; refine wpList_store_row rfl 32 (.tmp 9) (.tmp 52) rfl p (bytesV R2.b).toArray (by exact e1) (by first | rfl | simp only [hd]) 32 (z32).toArray (by exact e3) (by exact hv_row _) (by exact z32_old _) (by exact hv_one _) ?_; exact hK undef _ (hJ.store (List.mem_cons_of_mem _ List.mem_cons_self) rfl rfl (by simp only [hL]) e1 rfl rfl) trivial)
        | (go_wp2_with fail; exact hK _ _ (hJ.const rfl rfl (Below.refl _ _)) trivial))
    trivial
  case rfin =>
    intro x w5 hb5 hC5 hr5 _
    obtain ⟨p8, e8, l8, B8⟩ := hr5 _ List.mem_cons_self
    obtain ⟨p9, e9, l9, B9⟩ := hr5 _ (List.mem_cons_of_mem _ List.mem_cons_self)
    have e8' : x 8 = .pointer (some ⟨p8, 0, none⟩) := e8
    have e9' : x 9 = .pointer (some ⟨p9, 0, none⟩) := e9
    have HB8 := Lib.hid (show Blk w5 p8 (bytesV R1.b) 32 from B8)
    have HB9 := Lib.hid (show Blk w5 p9 (bytesV R2.b) 32 from B9)
    have hw5 := hw4.trans (hb5.mono hs4)
    have hs5 := hw5.size
    have HG5 := Lib.hid (HG.out.below hw5)
    clear hC5 hr5 e8 e9 B8 B9 hb5 HG4
    simp only [List.drop_succ_cons, List.drop_zero]
    generalize List.toArray _ = L0
    simp only [List.take_succ_cons, List.take_zero, List.map_cons, List.map_nil, fill, Act.put, List.setIfInBounds_toArray, List.set_cons_succ, List.set_cons_zero, e8', e9']
    clear e8' e9' l8 l9
    go_wp2_with fail
    refine wp_region_rows 12 [(fun v => v = .slice xb n cb), (fun v => v = .int .i64 k), (fun v => v = .slice a2 k d2), (fun v => v = hv S1), (fun v => v = .slice xb n cb), (fun v => v = .int .i64 k), (fun v => v = .slice a4 (n - k) d4), (fun v => v = hv S2), (fun _ => True), (fun _ => True), (fun _ => True), (fun _ => True)] [⟨8, 10, z32, bytesV S1.b, 32⟩, ⟨9, 11, z32, bytesV S2.b, 32⟩] (by kernel_rfl) (by kernel_rfl) (by rfl) (by rfl) _ rfl ?rops ?rfin
    case rops =>
      simp only [List.take_succ_cons, List.take_zero, rowsAll]
      iterate 12
      
       (refine ⟨fun L x wr hL0 hL hd hJ Qg hK => ?_, ?_⟩
        · simp only [fill, Act.put, List.setIfInBounds_toArray, List.set_cons_succ, List.set_cons_zero, needs, Region.binds, List.filter_cons, List.filter_nil, List.map_cons, List.map_nil, if_true, List.mem_cons, List.not_mem_nil, or_false, forall_eq_or_imp, forall_eq, List.getD_cons_zero, List.getD_cons_succ, false_implies, implies_true] at hd hL hK ⊢
          (try simp only [hd] at hK ⊢)
          first
          | (show wpList _ _ _ [⟨some 56, .call _, _, _, _, _⟩] _ _; have hb := hJ.old; go_wp2_with (go_at_call 25; refine (refroots_any _ (b.take k) _ wr ((HP2.out.below hw5).below hb) (by rw [List.length_take]; omega) (fun b hb' => HWB.out b (List.mem_of_mem_take hb')) (HG5.out.below hb)).mono ?_; rintro e w5 ⟨rfl, hb5⟩); exact hK _ _ (hJ.const rfl (by rw [HT1.out]; rfl) hb5) trivial)
          | (show wpList _ _ _ [⟨some 60, .call _, _, _, _, _⟩] _ _; have hb := hJ.old; go_wp2_with (go_at_call 25; refine (refroots_any _ (b.drop k) _ wr ((HP4.out.below hw5).below hb) (by rw [List.length_drop, ← HL.out, ← HN.out]; omega) (fun b hb' => HWB.out b (List.mem_of_mem_drop hb')) (HG5.out.below hb)).mono ?_; rintro e w5 ⟨rfl, hb5⟩); exact hK _ _ (hJ.const rfl (by rw [HT2.out]; rfl) hb5) trivial)
          | (show wpList _ _ _ [⟨some 10, .alloc _, _, _, _, _⟩] _ _; go_wp2_with fail; exact hK _ _ (hJ.alloc (List.mem_cons_self) rfl rfl hL0 rfl rfl) trivial)
          | (show wpList _ _ _ [⟨some 11, .alloc _, _, _, _, _⟩] _ _; go_wp2_with fail; exact hK _ _ (hJ.alloc (List.mem_cons_of_mem _ List.mem_cons_self) rfl rfl hL0 rfl rfl) trivial)
          | (show wpList _ _ _ [⟨none, .store _ (.tmp 10) _, _, _, _, _⟩] _ _; obtain ⟨p, e1, e2, e3⟩ := hJ.fresh (List.mem_cons_self) (by simp only [hL]) hL0; refine wpList_store_row rfl 32 (.tmp 10) (.tmp 56) rfl p (bytesV S1.b).toArray (by exact e1) (by first | rfl | simp only [hd]) 32 (z32).toArray (by exact e3) (by exact hv_row _) (by exact z32_old _) (by exact hv_one _) ?_; exact hK undef _ (hJ.store (List.mem_cons_self) rfl rfl (by simp only [hL]) e1 rfl rfl) trivial)
          | (show wpList _ _ _ [⟨none, .store _ (.tmp 11) _, _, _, _, _⟩] _ _; obtain ⟨p, e1, e2, e3⟩ := hJ.fresh (List.mem_cons_of_mem _ List.mem_cons_self) (by simp only [hL]) hL0; refine wpList_store_row rfl 32 (.tmp 11) (.tmp 60) rfl p (bytesV S2.b).toArray (by exact e1) (by first | rfl | simp only [hd]) 32 (z32).toArray (by exact e3) (by exact hv_row _) (by exact z32_old _) (by exact hv_one _) ?_; exact hK undef _ (hJ.store (List.mem_cons_of_mem _ List.mem_cons_self) rfl rfl (by simp only [hL]) e1 rfl rfl) trivial)
          | (go_wp2_with fail; exact hK _ _ (hJ.const rfl rfl (Below.refl _ _)) trivial))
      trivial
    case rfin =>
      intro x w6 hb6 hC6 hr6 _
      obtain ⟨p10, e10, l10, B10⟩ := hr6 _ List.mem_cons_self
      obtain ⟨p11, e11, l11, B11⟩ := hr6 _ (List.mem_cons_of_mem _ List.mem_cons_self)
      have e10' : x 8 = .pointer (some ⟨p10, 0, none⟩) := e10
      have e11' : x 9 = .pointer (some ⟨p11, 0, none⟩) := e11
      have HC8 := Lib.hid (HB8.out.below hb6 HB8.out.lt)
      have HC9 := Lib.hid (HB9.out.below hb6 HB9.out.lt)
      have HC10 := Lib.hid (show Blk w6 p10 (bytesV S1.b) 32 from B10)
      have HC11 := Lib.hid (show Blk w6 p11 (bytesV S2.b) 32 from B11)
      have hw6 := hw5.trans (hb6.mono hs5)
      have hs6 := hw6.size
      have HG6 := Lib.hid (HG.out.below hw6)
      clear hC6 hr6 e10 e11 B10 B11 hb6 HG5 HB8 HB9
      simp only [List.drop_succ_cons, List.drop_zero]
      generalize List.toArray _ = L0
      simp only [List.take_succ_cons, List.take_zero, List.map_cons, List.map_nil, fill, Act.put, List.setIfInBounds_toArray, List.set_cons_succ, List.set_cons_zero, e10', e11']
      clear e10' e11' l10 l11
      have t8 := HC8.out.lt
      have t9 := HC9.out.lt
      have t10 := HC10.out.lt
      have t11 := HC11.out.lt
      by_cases h1 : R1 = S1
      · have h2 : R2 ≠ S2 := fun h => hd' ⟨h1, h⟩
        have heq1 : ∀ w, (Op.equalIn 10000 32 (.agg (bytesV R1.b).toArray) (.agg (bytesV S1.b).toArray)).run Tryd.prog w = .ok true w := fun w => by rw [← h1]; exact is_hash w R1
        have heq2 := fun w => ne_hash w R2 S2 h2
        clear h1 h2 hd'
        go_wp2_with (first
          | (refine wpList_load_row rfl 32 (.tmp 8) rfl p8 rfl 32 (bytesV R1.b).toArray (0, 0) _ (by exact HC8.out) Tryd.underlying32 rfl (by exact hv_row _) ?_)
          | (refine wpList_load_row rfl 32 (.tmp 10) rfl p10 rfl 32 (bytesV S1.b).toArray (0, 0) _ (by exact HC10.out) Tryd.underlying32 rfl (by exact hv_row _) ?_)
          | (refine wpList_load_rowIf rfl 32 (.tmp 9) rfl p9 rfl 32 (bytesV R2.b).toArray (0, 0) _ (by exact HC9.out) Tryd.underlying32 rfl (by exact hv_row _) ?_)
          | (refine wpList_load_rowIf rfl 32 (.tmp 11) rfl p11 rfl 32 (bytesV S2.b).toArray (0, 0) _ (by exact HC11.out) Tryd.underlying32 rfl (by exact hv_row _) ?_)
          | fail)
        clear heq1 heq2
        refine wp_region_mono 9 (w6.heap.size) [(fun v _ => v = hv R1), (fun v _ => v = hv R2), (fun v w => Bytes w v (1 :: (R1.b ++ R2.b))), (fun v _ => v = hv S1), (fun v _ => v = hv S2), (fun v w => Bytes w v (1 :: (S1.b ++ S2.b))), (fun v w => Bytes w v (1 :: (R1.b ++ R2.b))), (fun v w => Bytes w v (1 :: (S1.b ++ S2.b))), (fun v _ => v = .bool true)] (by kernel_rfl) (by kernel_rfl) (Nat.le_refl _) ?mkept _ rfl ?mops ?mfin
        case mkept =>
          repeat (refine List.forall_mem_cons.2 ⟨by first | exact fun _ _ _ _ h => h | exact fun _ _ _ hb h => Parts.below h hb | exact fun _ _ _ hb h => IsSl.below h hb, ?_⟩)
          exact fun _ h => by cases h
        case mops =>
          simp only [List.take_succ_cons, List.take_zero, monoAll, List.getD_cons_zero, List.getD_cons_succ]
          iterate 9
          
           (refine ⟨fun x wr hb hd Qg hK => ?_, ?_⟩
            · as_aux_lemma =>
              simp only [fill, Act.put, List.setIfInBounds_toArray, List.set_cons_succ, List.set_cons_zero, needs, Region.binds, List.filter_cons, List.filter_nil, List.map_cons, List.map_nil, if_true, List.mem_cons, List.not_mem_nil, or_false, forall_eq_or_imp, forall_eq, List.getD_cons_zero, List.getD_cons_succ, false_implies, implies_true] at hd hK ⊢
              (try simp only [hd] at hK ⊢)
              first
              | (have hBr := HC8.out.below hb (t8); refine wpList_load_rowIf rfl 32 (.tmp 8) rfl _ rfl 32 (bytesV R1.b).toArray (0, 0) _ (by exact hBr) Tryd.underlying32 rfl (hv_row R1) ?_; exact hK _ _ rfl (Below.refl _ _))
              | (have hBr := HC9.out.below hb (t9); refine wpList_load_rowIf rfl 32 (.tmp 9) rfl _ rfl 32 (bytesV R2.b).toArray (0, 0) _ (by exact hBr) Tryd.underlying32 rfl (hv_row R2) ?_; exact hK _ _ rfl (Below.refl _ _))
              | (have hBr := HC10.out.below hb (t10); refine wpList_load_rowIf rfl 32 (.tmp 10) rfl _ rfl 32 (bytesV S1.b).toArray (0, 0) _ (by exact hBr) Tryd.underlying32 rfl (hv_row S1) ?_; exact hK _ _ rfl (Below.refl _ _))
              | (have hBr := HC11.out.below hb (t11); refine wpList_load_rowIf rfl 32 (.tmp 11) rfl _ rfl 32 (bytesV S2.b).toArray (0, 0) _ (by exact hBr) Tryd.underlying32 rfl (hv_row S2) ?_; exact hK _ _ rfl (Below.refl _ _))
              | (show wpList _ _ _ [⟨some 71, .call _, _, _, _, _⟩] _ _; go_wp2_with (go_at_call 26; refine (pair_any R1 R2 wr).mono ?_; rintro e w7 ⟨⟨v7, rfl, hv7⟩, hb7⟩); exact hK _ _ hv7 hb7)
              | (show wpList _ _ _ [⟨some 74, .call _, _, _, _, _⟩] _ _; go_wp2_with (go_at_call 26; refine (pair_any S1 S2 wr).mono ?_; rintro e w7 ⟨⟨v7, rfl, hv7⟩, hb7⟩); exact hK _ _ hv7 hb7)
              | (show wpList _ _ _ [⟨some 4, .assign _, _, _, _, _⟩] _ _; go_wp2_with fail; exact hK _ _ (by simp only [hd]) (Below.refl _ _))
              | (show wpList _ _ _ [⟨some 5, .assign _, _, _, _, _⟩] _ _; go_wp2_with fail; exact hK _ _ (by simp only [hd]) (Below.refl _ _))
              | (go_wp2_with fail; exact hK _ _ rfl (Below.refl _ _)))
          trivial
        case mfin =>
          intro z w9 hb9 hR9
          have x6 := hR9 6 (by decide)
          have x7 := hR9 7 (by decide)
          have x8 := hR9 8 (by decide)
          simp only [List.getD_cons_zero, List.getD_cons_succ] at x6 x7 x8
          have HX6 := Lib.hid x6
          have HX7 := Lib.hid x7
          have hw9 := hw6.trans (hb9.mono hs6)
          clear hR9 hb9 x6 x7
          simp only [List.drop_succ_cons, List.drop_zero]
          generalize List.toArray _ = L0
          simp only [List.take_succ_cons, List.take_zero, List.map_cons, List.map_nil, fill, Act.put, List.setIfInBounds_toArray, List.set_cons_succ, List.set_cons_zero, x8]
          clear x8
          go_wp2_with fail
          go_ret3
          exact ⟨⟨_, _, rfl, HX6.out, HX7.out⟩, hw9⟩
      · have heq1 := fun w => ne_hash w R1 S1 h1
        clear h1 hd'
        go_wp2_with (first
          | (refine wpList_load_row rfl 32 (.tmp 8) rfl p8 rfl 32 (bytesV R1.b).toArray (0, 0) _ (by exact HC8.out) Tryd.underlying32 rfl (by exact hv_row _) ?_)
          | (refine wpList_load_row rfl 32 (.tmp 10) rfl p10 rfl 32 (bytesV S1.b).toArray (0, 0) _ (by exact HC10.out) Tryd.underlying32 rfl (by exact hv_row _) ?_)
          | (refine wpList_load_rowIf rfl 32 (.tmp 9) rfl p9 rfl 32 (bytesV R2.b).toArray (0, 0) _ (by exact HC9.out) Tryd.underlying32 rfl (by exact hv_row _) ?_)
          | (refine wpList_load_rowIf rfl 32 (.tmp 11) rfl p11 rfl 32 (bytesV S2.b).toArray (0, 0) _ (by exact HC11.out) Tryd.underlying32 rfl (by exact hv_row _) ?_)
          | fail)
        clear heq1
        refine wp_region_mono 9 (w6.heap.size) [(fun v _ => v = hv R1), (fun v _ => v = hv R2), (fun v w => Bytes w v (1 :: (R1.b ++ R2.b))), (fun v _ => v = hv S1), (fun v _ => v = hv S2), (fun v w => Bytes w v (1 :: (S1.b ++ S2.b))), (fun v w => Bytes w v (1 :: (R1.b ++ R2.b))), (fun v w => Bytes w v (1 :: (S1.b ++ S2.b))), (fun v _ => v = .bool true)] (by kernel_rfl) (by kernel_rfl) (Nat.le_refl _) ?mkept _ rfl ?mops ?mfin
        case mkept =>
          repeat (refine List.forall_mem_cons.2 ⟨by first | exact fun _ _ _ _ h => h | exact fun _ _ _ hb h => Parts.below h hb | exact fun _ _ _ hb h => IsSl.below h hb, ?_⟩)
          exact fun _ h => by cases h
        case mops =>
          simp only [List.take_succ_cons, List.take_zero, monoAll, List.getD_cons_zero, List.getD_cons_succ]
          iterate 9
          
           (refine ⟨fun x wr hb hd Qg hK => ?_, ?_⟩
            · as_aux_lemma =>
              simp only [fill, Act.put, List.setIfInBounds_toArray, List.set_cons_succ, List.set_cons_zero, needs, Region.binds, List.filter_cons, List.filter_nil, List.map_cons, List.map_nil, if_true, List.mem_cons, List.not_mem_nil, or_false, forall_eq_or_imp, forall_eq, List.getD_cons_zero, List.getD_cons_succ, false_implies, implies_true] at hd hK ⊢
              (try simp only [hd] at hK ⊢)
              first
              | (have hBr := HC8.out.below hb (t8); refine wpList_load_rowIf rfl 32 (.tmp 8) rfl _ rfl 32 (bytesV R1.b).toArray (0, 0) _ (by exact hBr) Tryd.underlying32 rfl (hv_row R1) ?_; exact hK _ _ rfl (Below.refl _ _))
              | (have hBr := HC9.out.below hb (t9); refine wpList_load_rowIf rfl 32 (.tmp 9) rfl _ rfl 32 (bytesV R2.b).toArray (0, 0) _ (by exact hBr) Tryd.underlying32 rfl (hv_row R2) ?_; exact hK _ _ rfl (Below.refl _ _))
              | (have hBr := HC10.out.below hb (t10); refine wpList_load_rowIf rfl 32 (.tmp 10) rfl _ rfl 32 (bytesV S1.b).toArray (0, 0) _ (by exact hBr) Tryd.underlying32 rfl (hv_row S1) ?_; exact hK _ _ rfl (Below.refl _ _))
              | (have hBr := HC11.out.below hb (t11); refine wpList_load_rowIf rfl 32 (.tmp 11) rfl _ rfl 32 (bytesV S2.b).toArray (0, 0) _ (by exact hBr) Tryd.underlying32 rfl (hv_row S2) ?_; exact hK _ _ rfl (Below.refl _ _))
              | (show wpList _ _ _ [⟨some 71, .call _, _, _, _, _⟩] _ _; go_wp2_with (go_at_call 26; refine (pair_any R1 R2 wr).mono ?_; rintro e w7 ⟨⟨v7, rfl, hv7⟩, hb7⟩); exact hK _ _ hv7 hb7)
              | (show wpList _ _ _ [⟨some 74, .call _, _, _, _, _⟩] _ _; go_wp2_with (go_at_call 26; refine (pair_any S1 S2 wr).mono ?_; rintro e w7 ⟨⟨v7, rfl, hv7⟩, hb7⟩); exact hK _ _ hv7 hb7)
              | (show wpList _ _ _ [⟨some 4, .assign _, _, _, _, _⟩] _ _; go_wp2_with fail; exact hK _ _ (by simp only [hd]) (Below.refl _ _))
              | (show wpList _ _ _ [⟨some 5, .assign _, _, _, _, _⟩] _ _; go_wp2_with fail; exact hK _ _ (by simp only [hd]) (Below.refl _ _))
              | (go_wp2_with fail; exact hK _ _ rfl (Below.refl _ _)))
          trivial
        case mfin =>
          intro z w9 hb9 hR9
          have x6 := hR9 6 (by decide)
          have x7 := hR9 7 (by decide)
          have x8 := hR9 8 (by decide)
          simp only [List.getD_cons_zero, List.getD_cons_succ] at x6 x7 x8
          have HX6 := Lib.hid x6
          have HX7 := Lib.hid x7
          have hw9 := hw6.trans (hb9.mono hs6)
          clear hR9 hb9 x6 x7
          simp only [List.drop_succ_cons, List.drop_zero]
          generalize List.toArray _ = L0
          simp only [List.take_succ_cons, List.take_zero, List.map_cons, List.map_nil, fill, Act.put, List.setIfInBounds_toArray, List.set_cons_succ, List.set_cons_zero, x8]
          clear x8
          go_wp2_with fail
          go_ret3
          exact ⟨⟨_, _, rfl, HX6.out, HX7.out⟩, hw9⟩
end Go.Proofs.YtnbnjoejmepkjaaDoor
