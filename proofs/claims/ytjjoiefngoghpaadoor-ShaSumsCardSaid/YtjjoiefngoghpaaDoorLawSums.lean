/- The law ShaSums, walked: true, and nothing that was there has turned. Conditions: the text can be read; the digest has 32 bytes; the package's tables read as they are laid. -/
import Derived.Test.YtjjoiefngoghpaaDoorAlive1
import Derived.Test.YtjjoiefngoghpaaDoorEq
import Derived.Test.YtjjoiefngoghpaaDoorRefD
import Derived.Test.YtjjoiefngoghpaaDoorRefE
namespace Go.Proofs.YtjjoiefngoghpaaDoor
open Go.RowKit

theorem box_hash (w : World) (h : List UInt8) : Blk (w.alloc (.cells (bytesV h).toArray 31)) w.heap.size (bytesV h) 31 := Blk.newL w _ _

set_option maxRecDepth 100000 in
set_option maxHeartbeats 2000000 in
theorem sums_any (vt : Value) (t h : List UInt8) (w : World) (ht : Bytes w vt t) (hh : h.length = 32) (hg : Glob w) :
    Calls Tryd.prog 4 #[vt, .agg (bytesV h).toArray] w fun e w' => e = .returned (.bool true) ∧ Below w.heap.size w w' := by
  obtain ⟨xt, ct, rfl, _⟩ := ht.form
  have HG := Lib.hid hg
  have HT := Lib.hid ht
  have HH := Lib.hid hh
  clear hg ht hh
  go_enter Tryd.func4, Tryd.ntmps4
  go_wp2_with (first
    | (go_at_call 15; refine (alive1_any _ (HG.out.below (by (repeat (first | with_reducible assumption | with_reducible exact Below.refl _ _ | ((with_reducible refine Below.setCell ?_ ?_ _); rotate_left; focus (first | omega | (simp; done) | (simp; omega))) | ((with_reducible refine Below.alloc ?_ ?_ _); rotate_left; focus (first | omega | (simp; done) | (simp; omega))) | ((with_reducible refine below_setRow ?_ ?_ _); rotate_left; focus (first | omega | (simp; done) | (simp; omega))) | (with_reducible refine below_drewN ?_ _) | (with_reducible refine Below.drew ?_)))))).mono ?_; rintro e w1 ⟨rfl, hb1⟩; have hs1 := hb1.size)
    | fail)
  have hb1' : Below (w.heap.size + 1) (w.alloc (.cells (bytesV h).toArray 31)) w1 := by
    have := hb1
    rw [World.size_alloc] at this
    exact this
  have hB1 := (box_hash w h).below hb1' (Nat.lt_succ_self _)
  have hw1 : Below w.heap.size w w1 := ((Below.refl w.heap.size w).alloc (Nat.le_refl _) _).trans (hb1'.mono (Nat.le_succ _))
  have HB1 := Lib.hid hB1
  have HG1 := Lib.hid (HG.out.below hw1)
  have HT1 := Lib.hid (HT.out.below hw1)
  have hlt1 := HB1.out.lt
  clear hb1 hs1 hb1' hB1
  by_cases hl : t.length ≤ 1000
  · obtain ⟨D, hD⟩ : ∃ D, D = sumN t := ⟨_, rfl⟩
    have HD := Lib.hid hD
    have HDL := Lib.hid (show D.length = 32 by rw [hD, sumN_len])
    have hee := fun w => eq_hash_same w D HDL.out
    have HC := Lib.hid (show cat [t] = t by simp [cat])
    clear hD
    have hdec : decide (1000 < (t.length : Int)) = false := by rw [decide_eq_false_iff_not]; omega
    refine wp_region_mono 18 (w1.heap.size) [(fun v _ => v = .slice xt t.length ct), (fun v _ => v = .int .i64 t.length), (fun v _ => v = .bool false), (fun v _ => v = .bool false), (fun v _ => v = .slice xt t.length ct), (fun v w => Parts w v [t] [.slice xt t.length ct]), (fun v _ => v = .agg (bytesV D).toArray), (fun v _ => v = .slice xt t.length ct), (fun v _ => v = .agg (bytesV D).toArray), (fun v _ => v = .bool true), (fun v _ => v = .bool true),
      (fun v _ => v = .agg (bytesV h).toArray), (fun v _ => v = .string ⟨(hexP h).toArray⟩), (fun v _ => v = .agg (bytesV h).toArray), (fun v _ => v = .string ⟨(hexP h).toArray⟩), (fun v _ => v = .bool true), (fun v _ => v = .bool true), (fun v _ => v = .bool true)] (by kernel_rfl) (by kernel_rfl) (Nat.le_refl _) ?mkept _ rfl ?mops ?mfin
    case mkept =>
      repeat (refine List.forall_mem_cons.2 ⟨by first | exact fun _ _ _ _ h => h | exact fun _ _ _ hb h => Parts.below h hb | exact fun _ _ _ hb h => IsSl.below h hb, ?_⟩)
      exact fun _ h => by cases h
    case mops =>
      simp only [List.take_succ_cons, List.take_zero, monoAll, List.getD_cons_zero, List.getD_cons_succ]
      iterate 18
      
       (refine ⟨fun x wr hb hd Qg hK => ?_, ?_⟩
        · as_aux_lemma =>
          simp only [fill, Act.put, List.setIfInBounds_toArray, List.set_cons_succ, List.set_cons_zero, needs, Region.binds, List.filter_cons, List.filter_nil, List.map_cons, List.map_nil, if_true, List.mem_cons, List.not_mem_nil, or_false, forall_eq_or_imp, forall_eq, List.getD_cons_zero, List.getD_cons_succ, false_implies, implies_true] at hd hK ⊢
          (try simp only [hd] at hK ⊢)
          first
          | (have hBr := HB1.out.below hb (hlt1); refine wpList_load_rowIf rfl 31 (.tmp 3) rfl _ rfl 31 (bytesV h).toArray (0, 0) _ (by exact hBr) Tryd.underlying31 rfl (hash_info h HH.out) ?_; exact hK _ _ rfl (Below.refl _ _))
          | (show wpList _ _ _ [⟨some 12, .buildSlice _ _ _, _, _, _, _⟩] _ _; go_wp2_with fail; exact hK _ _ ((Texts.cons (HT1.out.below hb) .nil).parts 24 rfl) ((Below.refl _ _).alloc (Nat.le_refl _) _))
          | (show wpList _ _ _ [⟨some 13, .call _, _, _, _, _⟩] _ _; go_wp2_with (go_at_call 21; refine (sum_any (x 5) [t] [.slice xt t.length ct] wr (by simp only [hd]) (by rw [HC.out]; omega) (by show 1 ≤ _; decide) (HG1.out.below hb)).mono ?_; rintro e w5 ⟨rfl, hb5⟩); exact hK _ _ (by rw [HC.out, sum_nat, HD.out]) hb5)
          | (show wpList _ _ _ [⟨some 15, .call _, _, _, _, _⟩] _ _; go_wp2_with (go_at_call 22; refine (refsum_any _ t wr (HT1.out.below hb) (by omega) (HG1.out.below hb)).mono ?_; rintro e w5 ⟨rfl, hb5⟩); exact hK _ _ (by rw [HD.out]) hb5)
          | (show wpList _ _ _ [⟨some 19, .call _, _, _, _, _⟩] _ _; go_wp2_with (go_at_call 23; refine (hex_any h HH.out wr (HG1.out.below hb)).mono ?_; rintro e w5 ⟨rfl, hb5⟩); exact hK _ _ (rfl) hb5)
          | (show wpList _ _ _ [⟨some 21, .call _, _, _, _, _⟩] _ _; go_wp2_with (go_at_call 24; refine (refhex_any h HH.out wr).mono ?_; rintro e w5 ⟨rfl, hb5⟩); exact hK _ _ (rfl) hb5)
          | (go_wp2_with fail; exact hK _ _ rfl (Below.refl _ _)))
      trivial
    case mfin =>
      intro x w4 hb4 hR
      have x17 := hR 17 (by decide)
      simp only [List.getD_cons_zero, List.getD_cons_succ] at x17
      have hw4 := hw1.trans (hb4.mono hw1.size)
      clear hR hb4 hee
      simp only [List.drop_succ_cons, List.drop_zero]
      generalize List.toArray _ = L0
      simp only [List.take_succ_cons, List.take_zero, List.map_cons, List.map_nil, fill, Act.put, List.setIfInBounds_toArray, List.set_cons_succ, List.set_cons_zero, x17]
      clear x17
      go_wp2_with fail
      go_ret
      exact ⟨rfl, hw4⟩
  · have hdec : decide (1000 < (t.length : Int)) = true := by rw [decide_eq_true_iff]; omega
    refine wp_region_mono 18 (w1.heap.size) [(fun v _ => v = .slice xt t.length ct), (fun v _ => v = .int .i64 t.length), (fun v _ => v = .bool true), (fun v _ => v = .bool true), (fun v _ => v = undef), (fun v _ => v = undef), (fun v _ => v = undef), (fun v _ => v = undef), (fun v _ => v = undef), (fun v _ => v = undef), (fun v _ => v = undef),
      (fun v _ => v = undef), (fun v _ => v = undef), (fun v _ => v = undef), (fun v _ => v = undef), (fun v _ => v = undef), (fun v _ => v = undef), (fun v _ => v = .bool true)] (by kernel_rfl) (by kernel_rfl) (Nat.le_refl _) ?mkept _ rfl ?mops ?mfin
    case mkept =>
      repeat (refine List.forall_mem_cons.2 ⟨by first | exact fun _ _ _ _ h => h | exact fun _ _ _ hb h => Parts.below h hb | exact fun _ _ _ hb h => IsSl.below h hb, ?_⟩)
      exact fun _ h => by cases h
    case mops =>
      simp only [List.take_succ_cons, List.take_zero, monoAll, List.getD_cons_zero, List.getD_cons_succ]
      iterate 18
       (refine ⟨fun x wr hb hd Qg hK => ?_, ?_⟩
        · as_aux_lemma =>
          simp only [fill, Act.put, List.setIfInBounds_toArray, List.set_cons_succ, List.set_cons_zero, needs, Region.binds, List.filter_cons, List.filter_nil, List.map_cons, List.map_nil, if_true, List.mem_cons, List.not_mem_nil, or_false, forall_eq_or_imp, forall_eq, List.getD_cons_zero, List.getD_cons_succ, false_implies, implies_true] at hd hK ⊢
          (try simp only [hd] at hK ⊢)
          first
          | (go_wp2_with fail; exact hK _ _ rfl (Below.refl _ _)))
      trivial
    case mfin =>
      intro x w4 hb4 hR
      have x17 := hR 17 (by decide)
      simp only [List.getD_cons_zero, List.getD_cons_succ] at x17
      have hw4 := hw1.trans (hb4.mono hw1.size)
      clear hR hb4
      simp only [List.drop_succ_cons, List.drop_zero]
      generalize List.toArray _ = L0
      simp only [List.take_succ_cons, List.take_zero, List.map_cons, List.map_nil, fill, Act.put, List.setIfInBounds_toArray, List.set_cons_succ, List.set_cons_zero, x17]
      clear x17
      go_wp2_with fail
      go_ret
      exact ⟨rfl, hw4⟩
end Go.Proofs.YtjjoiefngoghpaaDoor
