/- The law ProofComes, walked: true, and nothing that was there has turned. Conditions: the path can be read; the package's tables read as they are laid. -/
import Derived.Test.YtkfplliipogagaaDoorAlive6
namespace Go.Proofs.YtkfplliipogagaaDoor
open Go.RowKit

set_option maxRecDepth 100000 in
set_option maxHeartbeats 8000000 in
theorem pcomes_any (x0 y0 : H) (i m n : Int) (pv : Value) (P : List H) (w : World) (hs : Hs w pv P) (hg : Glob w) :
    Calls Tryd.prog 10 #[hv x0, hv y0, .int .i64 i, .int .i64 m, .int .i64 n, pv] w fun e w' => e = .returned (.bool true) ∧ Below w.heap.size w w' := by
  obtain ⟨xa, ca, rfl, _⟩ := hs.form
  obtain ⟨w0, hw0⟩ : ∃ w0, w0 = (w.alloc (.cells (bytesV x0.b).toArray 24)).alloc (.cells (bytesV y0.b).toArray 24) := ⟨_, rfl⟩
  have hbw : Below w.heap.size w w0 := by rw [hw0]; (repeat (first | with_reducible assumption | with_reducible exact Below.refl _ _ | ((with_reducible refine Below.setCell ?_ ?_ _); rotate_left; focus (first | omega | (simp; done) | (simp; omega))) | ((with_reducible refine Below.alloc ?_ ?_ _); rotate_left; focus (first | omega | (simp; done) | (simp; omega))) | ((with_reducible refine below_setRow ?_ ?_ _); rotate_left; focus (first | omega | (simp; done) | (simp; omega))) | (with_reducible refine below_drewN ?_ _) | (with_reducible refine Below.drew ?_)))
  have hs0 : w0.heap.size = w.heap.size + 1 + 1 := by rw [hw0]; simp
  have hX : Blk w0 w.heap.size (bytesV x0.b) 24 := by rw [hw0]; exact (Blk.newL w _ _).alloc _
  have hY : Blk w0 (w.heap.size + 1) (bytesV y0.b) 24 := by rw [hw0]; exact Blk.newL1 w _ _ _
  have HX0 := Lib.hid hX
  have HY0 := Lib.hid hY
  have HS0 := Lib.hid (hs.below hbw)
  have HG0 := Lib.hid (hg.below hbw)
  have HW := Lib.hid hw0
  clear hX hY hs hg hw0
  by_cases h60 : P.length ≤ 60
  · have h1 : ¬ ((60 : Int) < P.length) := by omega
    have hl : P.length ≤ 4096 := by omega
    obtain ⟨A, hA⟩ : ∃ A, (comesR x0 i n P).getD z0H = A := ⟨_, rfl⟩
    obtain ⟨b1, hb1⟩ : ∃ b, (comesR x0 i n P).isSome = b := ⟨_, rfl⟩
    obtain ⟨B1, hB1⟩ : ∃ A, ((bothR x0 m n P).getD (z0H, z0H)).1 = A := ⟨_, rfl⟩
    obtain ⟨B2, hB2⟩ : ∃ A, ((bothR x0 m n P).getD (z0H, z0H)).2 = A := ⟨_, rfl⟩
    obtain ⟨b2, hb2⟩ : ∃ b, (bothR x0 m n P).isSome = b := ⟨_, rfl⟩
    obtain ⟨c1, hc1⟩ : ∃ b, inR x0 y0 i n P = b := ⟨_, rfl⟩
    obtain ⟨c2, hc2⟩ : ∃ b, begR m n x0 y0 P = b := ⟨_, rfl⟩
    have EA := Lib.hid hA
    have Eb1 := Lib.hid hb1
    have EB1 := Lib.hid hB1
    have EB2 := Lib.hid hB2
    have Eb2 := Lib.hid hb2
    have Ec1 := Lib.hid hc1
    have Ec2 := Lib.hid hc2
    have HL := Lib.hid hl
    have HQA := fun w => is_hash w A
    have HQ1 := fun w => is_hash w B1
    have HQ2 := fun w => is_hash w B2
    clear hA hb1 hB1 hB2 hb2 hc1 hc2 hl
    unfold hv
    go_enter Tryd.func10, Tryd.ntmps10
    go_wp2_with (first
      | (go_at_call 33; refine calls_eq HW.out ((alive6_any w0 HG0.out).mono ?_); rintro e w1 ⟨rfl, hb1⟩; have hw1 := hbw.trans (hb1.mono hbw.size); have HX1 := Lib.hid (HX0.out.below hb1 HX0.out.lt); have HY1 := Lib.hid (HY0.out.below hb1 HY0.out.lt); have HS1 := Lib.hid (HS0.out.below hb1); have HG1 := Lib.hid (HG0.out.below hb1); clear hb1)
      | (refine wpList_load_row rfl 24 (.tmp 6) rfl w.heap.size rfl 24 (bytesV x0.b).toArray (0, 0) _ (by exact HX1.out) Tryd.underlying24 rfl (by exact hv_row _) ?_)
      | (go_at_call 38; refine (comes_any w1 x0 i n _ P HS1.out HL.out HG1.out).mono ?_; rintro e w2 ⟨rfl, hb2⟩; rw [EA.out, Eb1.out]; unfold hv; obtain ⟨o1, o2, o3, o4⟩ := one_parts w2 A; have hq := hb2.trans (o1.mono hb2.size); have hw2 := hw1.trans (hq.mono hw1.size); have HX2 := Lib.hid (HX1.out.below hq HX1.out.lt); have HY2 := Lib.hid (HY1.out.below hq HY1.out.lt); have HS2 := Lib.hid (HS1.out.below hq); have HG2 := Lib.hid (HG1.out.below hq); have H13 := Lib.hid o3; have N13 := Lib.hid o4; clear hb2 o1 o2 o3 o4 hq HX1 HY1)
      | (refine wpList_store_row rfl 24 (.tmp 13) (.tmp 34) rfl (w2.heap.size) (bytesV A.b).toArray rfl rfl 24 z32.toArray (by exact N13.out) (by exact hv_row _) (by exact z32_old _) (by exact hv_one _) ?_)
      | (refine wpList_load_row rfl 24 (.tmp 6) rfl w.heap.size rfl 24 (bytesV x0.b).toArray (0, 0) _ (by exact HX2.out) Tryd.underlying24 rfl (by exact hv_row _) ?_)
      | (go_at_call 39; refine (refcomes_any (oneW w2 A) x0 i n _ P HS2.out HL.out HG2.out).mono ?_; rintro e w3 ⟨rfl, hb3⟩; rw [EA.out, Eb1.out]; unfold hv; obtain ⟨o1, o2, o3, o4⟩ := one_parts w3 A; have hq := hb3.trans (o1.mono hb3.size); have hw3 := hw2.trans (hq.mono hw2.size); have HX3 := Lib.hid (HX2.out.below hq HX2.out.lt); have HY3 := Lib.hid (HY2.out.below hq HY2.out.lt); have HS3 := Lib.hid (HS2.out.below hq); have HG3 := Lib.hid (HG2.out.below hq); have H133 := Lib.hid (H13.out.below hq H13.out.lt); have H15 := Lib.hid o3; have N15 := Lib.hid o4; clear hb3 o1 o2 o3 o4 hq HX2 HY2 H13)
      | (refine wpList_store_row rfl 24 (.tmp 15) (.tmp 42) rfl (w3.heap.size) (bytesV A.b).toArray rfl rfl 24 z32.toArray (by exact N15.out) (by exact hv_row _) (by exact z32_old _) (by exact hv_one _) ?_)
      | (refine wpList_load_row rfl 24 (.tmp 6) rfl w.heap.size rfl 24 (bytesV x0.b).toArray (0, 0) _ (by exact HX3.out) Tryd.underlying24 rfl (by exact hv_row _) ?_)
      | (go_at_call 40; refine (both_any (oneW w3 A) x0 m n _ P HS3.out HL.out HG3.out).mono ?_; rintro e w4 ⟨rfl, hb4⟩; rw [EB1.out, EB2.out, Eb2.out]; unfold hv; obtain ⟨o1, o2, o3, o4, o5, o6⟩ := two_parts w4 B1 B2; have hq := hb4.trans (o1.mono hb4.size); have hw4 := hw3.trans (hq.mono hw3.size); have HX4 := Lib.hid (HX3.out.below hq HX3.out.lt); have HY4 := Lib.hid (HY3.out.below hq HY3.out.lt); have HS4 := Lib.hid (HS3.out.below hq); have HG4 := Lib.hid (HG3.out.below hq); have H134 := Lib.hid (H133.out.below hq H133.out.lt); have H154 := Lib.hid (H15.out.below hq H15.out.lt); have H17 := Lib.hid o3; have H18 := Lib.hid o4; have N17 := Lib.hid o5; have N18 := Lib.hid o6; clear hb4 o1 o2 o3 o4 o5 o6 hq HX3 HY3 H133 H15)
      | (refine wpList_store_row rfl 24 (.tmp 17) (.tmp 50) rfl (w4.heap.size) (bytesV B1.b).toArray rfl rfl 24 z32.toArray (by exact N17.out) (by exact hv_row _) (by exact z32_old _) (by exact hv_one _) ?_)
      | (refine wpList_store_row rfl 24 (.tmp 18) (.tmp 51) rfl (w4.heap.size + 1) (bytesV B2.b).toArray rfl rfl 24 z32.toArray (by exact N18.out) (by exact hv_row _) (by exact z32_old _) (by exact hv_one _) ?_)
      | (refine wpList_load_row rfl 24 (.tmp 6) rfl w.heap.size rfl 24 (bytesV x0.b).toArray (0, 0) _ (by exact HX4.out) Tryd.underlying24 rfl (by exact hv_row _) ?_)
      | (go_at_call 41; refine (refboth_any (twoW w4 B1 B2) x0 m n _ P HS4.out HL.out HG4.out).mono ?_; rintro e w5 ⟨rfl, hb5⟩; rw [EB1.out, EB2.out, Eb2.out]; unfold hv; obtain ⟨o1, o2, o3, o4, o5, o6⟩ := two_parts w5 B1 B2; have hq := hb5.trans (o1.mono hb5.size); have hw5 := hw4.trans (hq.mono hw4.size); have HX5 := Lib.hid (HX4.out.below hq HX4.out.lt); have HY5 := Lib.hid (HY4.out.below hq HY4.out.lt); have HS5 := Lib.hid (HS4.out.below hq); have HG5 := Lib.hid (HG4.out.below hq); have H135 := Lib.hid (H134.out.below hq H134.out.lt); have H155 := Lib.hid (H154.out.below hq H154.out.lt); have H175 := Lib.hid (H17.out.below hq H17.out.lt); have H185 := Lib.hid (H18.out.below hq H18.out.lt); have H20 := Lib.hid o3; have H21 := Lib.hid o4; have N20 := Lib.hid o5; have N21 := Lib.hid o6; clear hb5 o1 o2 o3 o4 o5 o6 hq HX4 HY4 H134 H154 H17 H18)
      | (refine wpList_store_row rfl 24 (.tmp 20) (.tmp 59) rfl (w5.heap.size) (bytesV B1.b).toArray rfl rfl 24 z32.toArray (by exact N20.out) (by exact hv_row _) (by exact z32_old _) (by exact hv_one _) ?_)
      | (refine wpList_store_row rfl 24 (.tmp 21) (.tmp 60) rfl (w5.heap.size + 1) (bytesV B2.b).toArray rfl rfl 24 z32.toArray (by exact N21.out) (by exact hv_row _) (by exact z32_old _) (by exact hv_one _) ?_)
      | fail)
    have l13 := H135.out.lt
    have l15 := H155.out.lt
    have l17 := H175.out.lt
    have l18 := H185.out.lt
    have l20 := H20.out.lt
    have l21 := H21.out.lt
    have lX := HX5.out.lt
    have lY := HY5.out.lt
    refine wp_region_mono 53 ((twoW w5 B1 B2).heap.size) [(fun v _ => v = .agg (bytesV A.b).toArray), (fun v _ => v = .agg (bytesV A.b).toArray), (fun v _ => v = .bool true), (fun v _ => v = .bool true), (fun v _ => v = .bool b1), (fun v _ => v = .bool b1), (fun v _ => v = .bool true), (fun v _ => v = .bool true), (fun v _ => v = .bool true), (fun v _ => v = .agg (bytesV B1.b).toArray), (fun v _ => v = .agg (bytesV B1.b).toArray), (fun v _ => v = .bool true), (fun v _ => v = .bool true), (fun v _ => v = .bool true), (fun v _ => v = .agg (bytesV B2.b).toArray), (fun v _ => v = .agg (bytesV B2.b).toArray), (fun v _ => v = .bool true), (fun v _ => v = .bool true), (fun v _ => v = .bool true), (fun v _ => v = .bool b2), (fun v _ => v = .bool b2), (fun v _ => v = .bool true), (fun v _ => v = .bool true), (fun v _ => v = .bool true), (fun v _ => v = .agg (bytesV x0.b).toArray), (fun v _ => v = .int .i64 i), (fun v _ => v = .int .i64 n), (fun v _ => v = .slice xa P.length ca), (fun v _ => v = .agg (bytesV y0.b).toArray), (fun v _ => v = .bool c1), (fun v _ => v = .agg (bytesV x0.b).toArray), (fun v _ => v = .int .i64 i), (fun v _ => v = .int .i64 n), (fun v _ => v = .slice xa P.length ca), (fun v _ => v = .agg (bytesV y0.b).toArray), (fun v _ => v = .bool c1), (fun v _ => v = .bool true), (fun v _ => v = .bool true), (fun v _ => v = .bool true), (fun v _ => v = .int .i64 m), (fun v _ => v = .int .i64 n), (fun v _ => v = .agg (bytesV x0.b).toArray), (fun v _ => v = .agg (bytesV y0.b).toArray), (fun v _ => v = .slice xa P.length ca), (fun v _ => v = .bool c2), (fun v _ => v = .int .i64 m), (fun v _ => v = .int .i64 n), (fun v _ => v = .agg (bytesV x0.b).toArray), (fun v _ => v = .agg (bytesV y0.b).toArray), (fun v _ => v = .slice xa P.length ca), (fun v _ => v = .bool c2), (fun v _ => v = .bool true), (fun v _ => v = .bool true)] (by kernel_rfl) (by kernel_rfl) (Nat.le_refl _) ?mkept _ rfl ?mops ?mfin
    case mkept =>
      repeat (refine List.forall_mem_cons.2 ⟨by first | exact fun _ _ _ _ h => h | exact fun _ _ _ hb h => Parts.below h hb | exact fun _ _ _ hb h => IsSl.below h hb, ?_⟩)
      exact fun _ h => by cases h
    case mops =>
      simp only [List.take_succ_cons, List.take_zero, monoAll, List.getD_cons_zero, List.getD_cons_succ]
      iterate 53
      
       (refine ⟨fun x wr hb hd Qg hK => ?_, ?_⟩
        · as_aux_lemma =>
          simp only [fill, Act.put, List.setIfInBounds_toArray, List.set_cons_succ, List.set_cons_zero, needs, Region.binds, List.filter_cons, List.filter_nil, List.map_cons, List.map_nil, if_true, List.mem_cons, List.not_mem_nil, or_false, forall_eq_or_imp, forall_eq, List.getD_cons_zero, List.getD_cons_succ, false_implies, implies_true] at hd hK ⊢
          (try simp only [hd] at hK ⊢)
          first
          | (have hBr := H135.out.below hb (l13); refine wpList_load_rowIf rfl 24 (.tmp 13) rfl _ rfl 24 (bytesV A.b).toArray (0, 0) _ (by exact hBr) Tryd.underlying24 rfl (hv_row A) ?_; exact hK _ _ rfl (Below.refl _ _))
          | (have hBr := H155.out.below hb (l15); refine wpList_load_rowIf rfl 24 (.tmp 15) rfl _ rfl 24 (bytesV A.b).toArray (0, 0) _ (by exact hBr) Tryd.underlying24 rfl (hv_row A) ?_; exact hK _ _ rfl (Below.refl _ _))
          | (have hBr := H175.out.below hb (l17); refine wpList_load_rowIf rfl 24 (.tmp 17) rfl _ rfl 24 (bytesV B1.b).toArray (0, 0) _ (by exact hBr) Tryd.underlying24 rfl (hv_row B1) ?_; exact hK _ _ rfl (Below.refl _ _))
          | (have hBr := H185.out.below hb (l18); refine wpList_load_rowIf rfl 24 (.tmp 18) rfl _ rfl 24 (bytesV B2.b).toArray (0, 0) _ (by exact hBr) Tryd.underlying24 rfl (hv_row B2) ?_; exact hK _ _ rfl (Below.refl _ _))
          | (have hBr := H20.out.below hb (l20); refine wpList_load_rowIf rfl 24 (.tmp 20) rfl _ rfl 24 (bytesV B1.b).toArray (0, 0) _ (by exact hBr) Tryd.underlying24 rfl (hv_row B1) ?_; exact hK _ _ rfl (Below.refl _ _))
          | (have hBr := H21.out.below hb (l21); refine wpList_load_rowIf rfl 24 (.tmp 21) rfl _ rfl 24 (bytesV B2.b).toArray (0, 0) _ (by exact hBr) Tryd.underlying24 rfl (hv_row B2) ?_; exact hK _ _ rfl (Below.refl _ _))
          | (have hBr := HX5.out.below hb (lX); refine wpList_load_rowIf rfl 24 (.tmp 6) rfl _ rfl 24 (bytesV x0.b).toArray (0, 0) _ (by exact hBr) Tryd.underlying24 rfl (hv_row x0) ?_; exact hK _ _ rfl (Below.refl _ _))
          | (have hBr := HY5.out.below hb (lY); refine wpList_load_rowIf rfl 24 (.tmp 7) rfl _ rfl 24 (bytesV y0.b).toArray (0, 0) _ (by exact hBr) Tryd.underlying24 rfl (hv_row y0) ?_; exact hK _ _ rfl (Below.refl _ _))
          | (show wpList _ _ _ [⟨some 91, .call _, _, _, _, _⟩] _ _; go_wp2_with (go_at_call 42; refine (in_any wr x0 y0 i n _ P (HS5.out.below hb) HL.out (HG5.out.below hb)).mono ?_; rintro e w5 ⟨rfl, hb5⟩); exact hK _ _ (by rw [Ec1.out]) hb5)
          | (show wpList _ _ _ [⟨some 97, .call _, _, _, _, _⟩] _ _; go_wp2_with (go_at_call 43; refine (refin_any wr x0 y0 i n _ P (HS5.out.below hb) HL.out (HG5.out.below hb)).mono ?_; rintro e w5 ⟨rfl, hb5⟩); exact hK _ _ (by rw [Ec1.out]) hb5)
          | (show wpList _ _ _ [⟨some 106, .call _, _, _, _, _⟩] _ _; go_wp2_with (go_at_call 44; refine (begins_any wr x0 y0 m n _ P (HS5.out.below hb) HL.out (HG5.out.below hb)).mono ?_; rintro e w5 ⟨rfl, hb5⟩); exact hK _ _ (by rw [Ec2.out]) hb5)
          | (show wpList _ _ _ [⟨some 112, .call _, _, _, _, _⟩] _ _; go_wp2_with (go_at_call 45; refine (refbegins_any wr x0 y0 m n _ P (HS5.out.below hb) HL.out (HG5.out.below hb)).mono ?_; rintro e w5 ⟨rfl, hb5⟩); exact hK _ _ (by rw [Ec2.out]) hb5)
          | (go_wp2_with fail; exact hK _ _ rfl (Below.refl _ _)))
      trivial
    case mfin =>
      intro x wr hb hR
      have x52 := hR 52 (by decide)
      simp only [List.getD_cons_zero, List.getD_cons_succ] at x52
      have hw6 := hw5.trans (hb.mono hw5.size)
      clear hR hb HQA HQ1 HQ2
      simp only [List.drop_succ_cons, List.drop_zero]
      generalize List.toArray _ = L0
      simp only [List.take_succ_cons, List.take_zero, List.map_cons, List.map_nil, fill, Act.put, List.setIfInBounds_toArray, List.set_cons_succ, List.set_cons_zero, x52]
      clear x52
      go_wp2_with fail
      go_ret
      exact ⟨rfl, hw6⟩
  · have h1 : (60 : Int) < P.length := by omega
    unfold hv
    go_enter Tryd.func10, Tryd.ntmps10
    go_wp2_with (first
      | (go_at_call 33; refine calls_eq HW.out ((alive6_any w0 HG0.out).mono ?_); rintro e w1 ⟨rfl, hb1⟩; have hw1 := hbw.trans (hb1.mono hbw.size); clear hb1)
      | fail)
    go_ret
    exact ⟨rfl, hw1⟩
end Go.Proofs.YtkfplliipogagaaDoor
