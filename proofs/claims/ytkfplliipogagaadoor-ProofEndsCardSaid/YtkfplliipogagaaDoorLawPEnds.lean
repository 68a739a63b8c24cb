/- The law ProofEnds, walked: true, and nothing that was there has turned. Conditions: the list can be read; the package's tables read as they are laid. -/
import Derived.Test.YtkfplliipogagaaDoorAlive6
import Derived.Test.YtkfplliipogagaaDoorHoldP
namespace Go.Proofs.YtkfplliipogagaaDoor
open Go.RowKit

set_option maxRecDepth 100000 in
set_option maxHeartbeats 8000000 in
theorem pends_any (v : Value) (l : List H) (y0 : H) (w : World) (hs : Hs w v l) (hg : Glob w) :
    Calls Tryd.prog 15 #[v, hv y0] w fun e w' => e = .returned (.bool true) ∧ Below w.heap.size w w' := by
  obtain ⟨xa, ca, rfl, _⟩ := hs.form
  obtain ⟨w0, hw0⟩ : ∃ w0, w0 = w.alloc (.cells (bytesV y0.b).toArray 24) := ⟨_, rfl⟩
  have hbw : Below w.heap.size w w0 := by rw [hw0]; (repeat (first | with_reducible assumption | with_reducible exact Below.refl _ _ | ((with_reducible refine Below.setCell ?_ ?_ _); rotate_left; focus (first | omega | (simp; done) | (simp; omega))) | ((with_reducible refine Below.alloc ?_ ?_ _); rotate_left; focus (first | omega | (simp; done) | (simp; omega))) | ((with_reducible refine below_setRow ?_ ?_ _); rotate_left; focus (first | omega | (simp; done) | (simp; omega))) | (with_reducible refine below_drewN ?_ _) | (with_reducible refine Below.drew ?_)))
  have hY : Blk w0 w.heap.size (bytesV y0.b) 24 := by rw [hw0]; exact Blk.newL w _ _
  have HY0 := Lib.hid hY
  have HS0 := Lib.hid (hs.below hbw)
  have HG0 := Lib.hid (hg.below hbw)
  have HW := Lib.hid hw0
  clear hY hs hg hw0
  by_cases h60 : l.length ≤ 60
  · have h1 : ¬ ((60 : Int) < l.length) := by omega
    obtain ⟨R, hR⟩ : ∃ R, R = rootN ndH e0H l := ⟨_, rfl⟩
    obtain ⟨c, hc⟩ : ∃ c, c = (R.b == y0.b) := ⟨_, rfl⟩
    have e1 : begR 0 l.length e0H y0 [] = true := by rw [beg_none y0 l.length [] (by omega)]; rfl
    have e2 : begR 0 l.length e0H y0 [y0] = false := by rw [beg_none y0 l.length [y0] (by omega)]; rfl
    have heq : ∀ w, (Op.equalIn 10000 24 (.agg (bytesV y0.b).toArray) (.agg (bytesV R.b).toArray)).run Tryd.prog w = .ok c w := fun w => by rw [eq_hash w y0.b R.b y0.len R.len, hc, Bool.beq_comm]
    have HR := Lib.hid hR
    have HC := Lib.hid hc
    have E1 := Lib.hid e1
    have E2 := Lib.hid e2
    have H60 := Lib.hid h60
    clear hR hc e1 e2
    unfold hv
    go_enter Tryd.func15, Tryd.ntmps15
    go_wp2_with (first
      | (go_at_call 33; refine calls_eq HW.out ((alive6_any w0 HG0.out).mono ?_); rintro e w1 ⟨rfl, hb1⟩; have hw1 := hbw.trans (hb1.mono hbw.size); have HY1 := Lib.hid (HY0.out.below hb1 HY0.out.lt); have HS1 := Lib.hid (HS0.out.below hb1); have HG1 := Lib.hid (HG0.out.below hb1); clear hb1)
      | (go_at_call 32; refine (root_any l.length _ l w1 rfl (by have := H60.out; omega) HS1.out HG1.out).mono ?_; rintro e w2 ⟨rfl, hb2⟩; rw [← HR.out]; unfold hv; obtain ⟨o1, o2, o3, o4⟩ := one_parts w2 R; have hq := hb2.trans (o1.mono hb2.size); have hw2 := hw1.trans (hq.mono hw1.size); have HY2 := Lib.hid (HY1.out.below hq HY1.out.lt); have HS2 := Lib.hid (HS1.out.below hq); have HG2 := Lib.hid (HG1.out.below hq); have H5 := Lib.hid o3; have N5 := Lib.hid o4; clear hb2 o1 o2 o3 o4 hq HY1)
      | (refine wpList_store_row rfl 24 (.tmp 5) (.tmp 12) rfl w2.heap.size (bytesV R.b).toArray rfl rfl 24 z32.toArray (by exact N5.out) (by exact hv_row _) (by exact z32_old _) (by exact hv_one _) ?_)
      | fail)
    have lY := HY2.out.lt
    have l5 := H5.out.lt
    refine wp_region_mono 15 ((oneW w2 R).heap.size) [(fun v _ => v = .slice xa l.length ca), (fun v _ => v = .int .i64 l.length), (fun v _ => v = .agg (bytesV e0H.b).toArray), (fun v _ => v = .agg (bytesV y0.b).toArray), (fun v _ => v = .bool true), (fun v _ => v = .bool false), (fun v _ => v = .bool false), (fun v _ => v = .slice xa l.length ca), (fun v _ => v = .int .i64 l.length), (fun v _ => v = .agg (bytesV e0H.b).toArray), (fun v _ => v = .agg (bytesV y0.b).toArray), (fun v _ => v = .agg (bytesV y0.b).toArray), (fun v w => Hs w v [y0]), (fun v _ => v = .bool false), (fun v _ => v = .bool false)] (by kernel_rfl) (by kernel_rfl) (Nat.le_refl _) ?mkept _ rfl ?mops ?mfin
    case mkept =>
      repeat (refine List.forall_mem_cons.2 ⟨by first | exact fun _ _ _ _ h => h | exact fun _ _ _ hb h => Parts.below h hb | exact fun _ _ _ hb h => IsSl.below h hb, ?_⟩)
      exact fun _ h => by cases h
    case mops =>
      simp only [List.take_succ_cons, List.take_zero, monoAll, List.getD_cons_zero, List.getD_cons_succ]
      iterate 15
      
       (refine ⟨fun x wr hb hd Qg hK => ?_, ?_⟩
        · as_aux_lemma =>
          simp only [fill, Act.put, List.setIfInBounds_toArray, List.set_cons_succ, List.set_cons_zero, needs, Region.binds, List.filter_cons, List.filter_nil, List.map_cons, List.map_nil, if_true, List.mem_cons, List.not_mem_nil, or_false, forall_eq_or_imp, forall_eq, List.getD_cons_zero, List.getD_cons_succ, false_implies, implies_true] at hd hK ⊢
          (try simp only [hd] at hK ⊢)
          first
          | (have hBr := HY2.out.below hb (lY); refine wpList_load_rowIf rfl 24 (.tmp 3) rfl _ rfl 24 (bytesV y0.b).toArray (0, 0) _ (by exact hBr) Tryd.underlying24 rfl (hv_row y0) ?_; exact hK _ _ rfl (Below.refl _ _))
          | (show wpList _ _ _ [⟨some 15, .call _, _, _, _, _⟩] _ _; go_wp2_with (go_at_call 32; refine (root_empty none 0 wr (HG2.out.below hb)).mono ?_; rintro e w5 ⟨rfl, hb5⟩); exact hK _ _ (rfl) hb5)
          | (show wpList _ _ _ [⟨some 22, .call _, _, _, _, _⟩] _ _; go_wp2_with (go_at_call 32; refine (root_empty none 0 wr (HG2.out.below hb)).mono ?_; rintro e w5 ⟨rfl, hb5⟩); exact hK _ _ (rfl) hb5)
          | (show wpList _ _ _ [⟨some 17, .call _, _, _, _, _⟩] _ _; go_wp2_with (go_at_call 44; refine (begins_any wr e0H y0 0 l.length _ [] (Hs.nil wr) (by simp) (HG2.out.below hb)).mono ?_; rintro e w5 ⟨rfl, hb5⟩); exact hK _ _ (by rw [E1.out]) hb5)
          | (refine wpList_hashesIf rfl [y0] 1 _ rfl rfl (by decide) (by decide) (by simp only [List.map_toArray, List.map_cons, List.map_nil]; rfl) ?_; exact hK _ _ (hs_new wr [y0] _ rfl rfl) ((Below.refl _ _).alloc (Nat.le_refl _) _))
          | (show wpList _ _ _ [⟨some 26, .call _, _, _, _, _⟩] _ _; go_wp2_with (go_at_call 44; refine (begins_any wr e0H y0 0 l.length (x 12) [y0] (by simp only [hd]) (by simp) (HG2.out.below hb)).mono ?_; rintro e w5 ⟨rfl, hb5⟩); exact hK _ _ (by rw [E2.out]) hb5)
          | (go_wp2_with fail; exact hK _ _ rfl (Below.refl _ _)))
      trivial
    case mfin =>
      intro x w3 hb3 hR3
      have xl := hR3 14 (by decide)
      simp only [List.getD_cons_zero, List.getD_cons_succ] at xl
      have hw3 := hw2.trans (hb3.mono hw2.size)
      clear hR3
      simp only [List.drop_succ_cons, List.drop_zero]
      generalize List.toArray _ = L0
      simp only [List.take_succ_cons, List.take_zero, List.map_cons, List.map_nil, fill, Act.put, List.setIfInBounds_toArray, List.set_cons_succ, List.set_cons_zero, xl]
      clear xl
      have HY3 := Lib.hid (HY2.out.below hb3 lY)
      have H53 := Lib.hid (H5.out.below hb3 l5)
      have HG3 := Lib.hid (HG2.out.below hb3)
      have lY3 := HY3.out.lt
      have l53 := H53.out.lt
      clear hb3
      by_cases h0 : l.length = 0
      · have g0 : ((l.length : Int) == 0) = true := by rw [beq_iff_eq]; omega
        clear h0 h60
        go_wp2_with fail
        refine wp_region_mono 25 (w3.heap.size) [(fun v _ => v = .slice xa l.length ca), (fun v _ => v = .int .i64 l.length), (fun v _ => v = .bool true), (fun v _ => v = .bool true), (fun v _ => v = undef), (fun v _ => v = undef), (fun v _ => v = undef), (fun v _ => v = undef), (fun v _ => v = undef), (fun v _ => v = undef), (fun v _ => v = undef), (fun v _ => v = undef), (fun v _ => v = undef), (fun v _ => v = undef), (fun v _ => v = undef), (fun v _ => v = undef), (fun v _ => v = undef), (fun v _ => v = undef), (fun v _ => v = undef), (fun v _ => v = undef), (fun v _ => v = undef), (fun v _ => v = undef), (fun v _ => v = undef), (fun v _ => v = undef), (fun v _ => v = .bool true)] (by kernel_rfl) (by kernel_rfl) (Nat.le_refl _) ?mkept _ rfl ?mops ?mfin
        case mkept =>
          repeat (refine List.forall_mem_cons.2 ⟨by first | exact fun _ _ _ _ h => h | exact fun _ _ _ hb h => Parts.below h hb | exact fun _ _ _ hb h => IsSl.below h hb, ?_⟩)
          exact fun _ h => by cases h
        case mops =>
          simp only [List.take_succ_cons, List.take_zero, monoAll, List.getD_cons_zero, List.getD_cons_succ]
          iterate 25
           (refine ⟨fun x wr hb hd Qg hK => ?_, ?_⟩
            · as_aux_lemma =>
              simp only [fill, Act.put, List.setIfInBounds_toArray, List.set_cons_succ, List.set_cons_zero, needs, Region.binds, List.filter_cons, List.filter_nil, List.map_cons, List.map_nil, if_true, List.mem_cons, List.not_mem_nil, or_false, forall_eq_or_imp, forall_eq, List.getD_cons_zero, List.getD_cons_succ, false_implies, implies_true] at hd hK ⊢
              (try simp only [hd] at hK ⊢)
              first
              | (fail)
              | (go_wp2_with fail; exact hK _ _ rfl (Below.refl _ _)))
          trivial
        case mfin =>
          intro x w4 hb4 hR4
          have xl := hR4 24 (by decide)
          simp only [List.getD_cons_zero, List.getD_cons_succ] at xl
          have hw4 := hw3.trans (hb4.mono hw3.size)
          clear hR4 hb4
          simp only [List.drop_succ_cons, List.drop_zero]
          generalize List.toArray _ = L0
          simp only [List.take_succ_cons, List.take_zero, List.map_cons, List.map_nil, fill, Act.put, List.setIfInBounds_toArray, List.set_cons_succ, List.set_cons_zero, xl]
          clear xl
          go_wp2_with fail
          go_ret
          exact ⟨rfl, hw4⟩
      · have g0 : ((l.length : Int) == 0) = false := by rw [beq_eq_false_iff_ne]; omega
        have e3 : begR l.length l.length R R [] = true := by rw [beg_self R R l.length (by omega) (by omega)]; simp
        have e4 : begR l.length l.length R y0 [] = c := by rw [beg_self R y0 l.length (by omega) (by omega), HC.out]
        have E3 := Lib.hid e3
        have E4 := Lib.hid e4
        clear h0 h60 e3 e4
        go_wp2_with fail
        refine wp_region_mono 25 (w3.heap.size) [(fun v _ => v = .slice xa l.length ca), (fun v _ => v = .int .i64 l.length), (fun v _ => v = .bool false), (fun v _ => v = .bool false), (fun v _ => v = .slice xa l.length ca), (fun v _ => v = .int .i64 l.length), (fun v _ => v = .slice xa l.length ca), (fun v _ => v = .int .i64 l.length), (fun v _ => v = .agg (bytesV R.b).toArray), (fun v _ => v = .agg (bytesV R.b).toArray), (fun v _ => v = .bool true), (fun v _ => v = .bool true), (fun v _ => v = .slice xa l.length ca), (fun v _ => v = .int .i64 l.length), (fun v _ => v = .slice xa l.length ca), (fun v _ => v = .int .i64 l.length), (fun v _ => v = .agg (bytesV R.b).toArray), (fun v _ => v = .agg (bytesV y0.b).toArray), (fun v _ => v = .bool c), (fun v _ => v = .agg (bytesV y0.b).toArray), (fun v _ => v = .agg (bytesV R.b).toArray), (fun v _ => v = .bool c), (fun v _ => v = .bool true), (fun v _ => v = .bool true), (fun v _ => v = .bool true)] (by kernel_rfl) (by kernel_rfl) (Nat.le_refl _) ?mkept _ rfl ?mops ?mfin
        case mkept =>
          repeat (refine List.forall_mem_cons.2 ⟨by first | exact fun _ _ _ _ h => h | exact fun _ _ _ hb h => Parts.below h hb | exact fun _ _ _ hb h => IsSl.below h hb, ?_⟩)
          exact fun _ h => by cases h
        case mops =>
          simp only [List.take_succ_cons, List.take_zero, monoAll, List.getD_cons_zero, List.getD_cons_succ]
          iterate 25
          
           (refine ⟨fun x wr hb hd Qg hK => ?_, ?_⟩
            · as_aux_lemma =>
              simp only [fill, Act.put, List.setIfInBounds_toArray, List.set_cons_succ, List.set_cons_zero, needs, Region.binds, List.filter_cons, List.filter_nil, List.map_cons, List.map_nil, if_true, List.mem_cons, List.not_mem_nil, or_false, forall_eq_or_imp, forall_eq, List.getD_cons_zero, List.getD_cons_succ, false_implies, implies_true] at hd hK ⊢
              (try simp only [hd] at hK ⊢)
              first
              | (have hBr := HY3.out.below hb (lY3); refine wpList_load_rowIf rfl 24 (.tmp 3) rfl _ rfl 24 (bytesV y0.b).toArray (0, 0) _ (by exact hBr) Tryd.underlying24 rfl (hv_row y0) ?_; exact hK _ _ rfl (Below.refl _ _))
              | (have hBr := H53.out.below hb (l53); refine wpList_load_rowIf rfl 24 (.tmp 5) rfl _ rfl 24 (bytesV R.b).toArray (0, 0) _ (by exact hBr) Tryd.underlying24 rfl (hv_row R) ?_; exact hK _ _ rfl (Below.refl _ _))
              | (show wpList _ _ _ [⟨some 38, .call _, _, _, _, _⟩] _ _; go_wp2_with (go_at_call 44; refine (begins_any wr R R l.length l.length _ [] (Hs.nil wr) (by simp) (HG3.out.below hb)).mono ?_; rintro e w5 ⟨rfl, hb5⟩); exact hK _ _ (by rw [E3.out]) hb5)
              | (show wpList _ _ _ [⟨some 46, .call _, _, _, _, _⟩] _ _; go_wp2_with (go_at_call 44; refine (begins_any wr R y0 l.length l.length _ [] (Hs.nil wr) (by simp) (HG3.out.below hb)).mono ?_; rintro e w5 ⟨rfl, hb5⟩); exact hK _ _ (by rw [E4.out]) hb5)
              | (go_wp2_with fail; exact hK _ _ rfl (Below.refl _ _)))
          trivial
        case mfin =>
          intro x w4 hb4 hR4
          have xl := hR4 24 (by decide)
          simp only [List.getD_cons_zero, List.getD_cons_succ] at xl
          have hw4 := hw3.trans (hb4.mono hw3.size)
          clear hR4 hb4
          simp only [List.drop_succ_cons, List.drop_zero]
          generalize List.toArray _ = L0
          simp only [List.take_succ_cons, List.take_zero, List.map_cons, List.map_nil, fill, Act.put, List.setIfInBounds_toArray, List.set_cons_succ, List.set_cons_zero, xl]
          clear xl
          go_wp2_with fail
          go_ret
          exact ⟨rfl, hw4⟩
  · have h1 : (60 : Int) < l.length := by omega
    unfold hv
    go_enter Tryd.func15, Tryd.ntmps15
    go_wp2_with (first
      | (go_at_call 33; refine calls_eq HW.out ((alive6_any w0 HG0.out).mono ?_); rintro e w1 ⟨rfl, hb1⟩; have hw1 := hbw.trans (hb1.mono hbw.size); clear hb1)
      | fail)
    go_ret
    exact ⟨rfl, hw1⟩
end Go.Proofs.YtkfplliipogagaaDoor
