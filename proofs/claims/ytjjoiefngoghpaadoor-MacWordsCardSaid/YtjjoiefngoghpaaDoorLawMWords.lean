/- The law MacWords, walked: true, and nothing that was there has turned. Conditions: the key has 32 bytes; the package's tables read as they are laid. -/
import Derived.Test.YtjjoiefngoghpaaDoorAlive2
import Derived.Test.YtjjoiefngoghpaaDoorTagAt
import Derived.Test.YtjjoiefngoghpaaDoorRefN
import Derived.Test.YtjjoiefngoghpaaDoorMonoF
import Derived.Test.YtjjoiefngoghpaaDoorLawMFill
namespace Go.Proofs.YtjjoiefngoghpaaDoor
open Go.RowKit

set_option maxRecDepth 100000 in
set_option maxHeartbeats 2000000 in
theorem mwords_any (k : List UInt8) (a b : Int) (w : World) (hk : k.length = 32) (hg : Glob w) :
    Calls Tryd.prog 13 #[.agg (bytesV k).toArray, .int .i64 a, .int .i64 b] w fun e w' => e = .returned (.bool true) ∧ Below w.heap.size w w' := by
  have HG := Lib.hid hg
  have HKL := Lib.hid hk
  clear hg hk
  go_enter Tryd.func13, Tryd.ntmps13
  go_wp2_with (first
    | (go_at_call 25; refine (alive2_any _ (HG.out.below (by (repeat (first | with_reducible assumption | with_reducible exact Below.refl _ _ | ((with_reducible refine Below.setCell ?_ ?_ _); rotate_left; focus (first | omega | (simp; done) | (simp; omega))) | ((with_reducible refine Below.alloc ?_ ?_ _); rotate_left; focus (first | omega | (simp; done) | (simp; omega))) | ((with_reducible refine below_setRow ?_ ?_ _); rotate_left; focus (first | omega | (simp; done) | (simp; omega))) | (with_reducible refine below_drewN ?_ _) | (with_reducible refine Below.drew ?_)))))).mono ?_; rintro e w1 ⟨rfl, hb1⟩; have hs1 := hb1.size)
    | fail)
  have hB0 : Blk (w.alloc (.cells (bytesV k).toArray 31)) w.heap.size (bytesV k) 31 := Blk.newL w _ _
  have hb1' : Below (w.heap.size + 1) (w.alloc (.cells (bytesV k).toArray 31)) w1 := by
    have := hb1
    rw [World.size_alloc] at this
    exact this
  have hB1 := hB0.below hb1' (Nat.lt_succ_self _)
  have hw1 : Below w.heap.size w w1 := ((Below.refl w.heap.size w).alloc (Nat.le_refl _) _).trans (hb1'.mono (Nat.le_succ _))
  have HB1 := Lib.hid hB1
  have HG1 := Lib.hid (HG.out.below hw1)
  have hlt1 := HB1.out.lt
  clear hb1 hs1 hB0 hb1' hB1
  obtain ⟨D2, hD2⟩ : ∃ D, D = tagN k (wordsN [a, b]) := ⟨_, rfl⟩
  obtain ⟨D1, hD1⟩ : ∃ D, D = tagN k (wordsN [a]) := ⟨_, rfl⟩
  obtain ⟨D0, hD0⟩ : ∃ D, D = tagN k (wordsN []) := ⟨_, rfl⟩
  have HD2 := Lib.hid hD2
  have HD1 := Lib.hid hD1
  have HD0 := Lib.hid hD0
  have HL2 := Lib.hid (show D2.length = 32 by rw [hD2, tagN_len])
  have HL1 := Lib.hid (show D1.length = 32 by rw [hD1, tagN_len])
  have HL0 := Lib.hid (show D0.length = 32 by rw [hD0, tagN_len])
  clear hD2 hD1 hD0
  refine wp_region_monoF 11 (w1.heap.size) [9, 10] [(fun v _ => v = .agg (bytesV k).toArray), (fun v _ => v = .int .i64 a), (fun v _ => v = .int .i64 b), (fun v w => Ints w v [a, b]), (fun v _ => v = .agg (bytesV D2).toArray), (fun v _ => v = .agg (bytesV k).toArray), (fun v _ => v = .int .i64 a), (fun v w => Ints w v [a]), (fun v _ => v = .agg (bytesV D1).toArray), (fun v w => RowAt z32 31 w1.heap.size v w), (fun v w => RowAt z32 31 w1.heap.size v w)] (by kernel_rfl) (by kernel_rfl) (by decide) (Nat.le_refl _) ?mkept _ rfl ?mops ?mfin
  case mkept =>
    repeat (refine List.forall_mem_cons.2 ⟨by first | exact fun _ _ _ _ h => h | exact fun _ _ _ hb h => Parts.below h hb | exact fun _ _ _ hb h => IsSl.below h hb | exact fun _ _ _ hb h => RowAt.below h hb | exact fun _ _ _ hb ⟨vs, h⟩ => ⟨vs, Parts.below h hb⟩, ?_⟩)
    exact fun _ h => by cases h
  case mops =>
    simp only [List.take_succ_cons, List.take_zero, monoAllF, List.getD_cons_zero, List.getD_cons_succ]
    iterate 11
    
     (refine ⟨fun x wr hb hd Qg hK => ?_, ?_⟩
      · as_aux_lemma =>
        simp only [fill, Act.put, List.setIfInBounds_toArray, List.set_cons_succ, List.set_cons_zero, needs, Region.binds, List.filter_cons, List.filter_nil, List.map_cons, List.map_nil, if_true, List.mem_cons, List.not_mem_nil, or_false, forall_eq_or_imp, forall_eq, List.getD_cons_zero, List.getD_cons_succ, false_implies, implies_true] at hd hK ⊢
        (try simp only [hd] at hK ⊢)
        first
        | (have hBr := HB1.out.below hb (hlt1); refine wpList_load_rowIf rfl 31 (.tmp 3) rfl _ rfl 31 (bytesV k).toArray (0, 0) _ (by exact hBr) Tryd.underlying31 rfl (hash_info k HKL.out) ?_; exact hK _ _ rfl (by first | exact trivial | exact fun h => absurd h (by decide) | exact fun _ => new_alloc _ _) (Below.refl _ _))
        | (show wpList _ _ _ [⟨some _, .alloc _, _, _, _, _⟩] _ _; go_wp2_with fail; exact hK _ _ ⟨_, rfl, hb.size, Blk.newL wr z32 _⟩ (by first | exact trivial | exact fun h => absurd h (by decide) | exact fun _ => new_alloc _ _) ((Below.refl _ _).alloc (Nat.le_refl _) _))
        | (show wpList _ _ _ [⟨some 14, .buildSlice _ _ _, _, _, _, _⟩] _ _; go_wp2_with fail; exact hK _ _ (IsSl.of_range (n := 2) (cap := 2) (size := 1) (cs := intsV [a, b]) rfl (by simp [intsV, Value.oneCell']) (Nat.le_refl _) (range_alloc wr _ _ _)) (by first | exact trivial | exact fun h => absurd h (by decide) | exact fun _ => new_alloc _ _) ((Below.refl _ _).alloc (Nat.le_refl _) _))
        | (show wpList _ _ _ [⟨some 18, .buildSlice _ _ _, _, _, _, _⟩] _ _; go_wp2_with fail; exact hK _ _ (IsSl.of_range (n := 1) (cap := 1) (size := 1) (cs := intsV [a]) rfl (by simp [intsV, Value.oneCell']) (Nat.le_refl _) (range_alloc wr _ _ _)) (by first | exact trivial | exact fun h => absurd h (by decide) | exact fun _ => new_alloc _ _) ((Below.refl _ _).alloc (Nat.le_refl _) _))
        | (show wpList _ _ _ [⟨some 15, .call _, _, _, _, _⟩] _ _; go_wp2_with (go_at_call 32; refine (key_any k (x 3) [a, b] wr HKL.out (by simp only [hd]) (by show 2 ≤ _; decide) (HG1.out.below hb)).mono ?_; rintro e w5 ⟨rfl, hb5⟩); exact hK _ _ (by rw [HD2.out]) (by first | exact trivial | exact fun h => absurd h (by decide) | exact fun _ => new_alloc _ _) hb5)
        | (show wpList _ _ _ [⟨some 19, .call _, _, _, _, _⟩] _ _; go_wp2_with (go_at_call 32; refine (key_any k (x 7) [a] wr HKL.out (by simp only [hd]) (by show 1 ≤ _; decide) (HG1.out.below hb)).mono ?_; rintro e w5 ⟨rfl, hb5⟩); exact hK _ _ (by rw [HD1.out]) (by first | exact trivial | exact fun h => absurd h (by decide) | exact fun _ => new_alloc _ _) hb5)
        | (go_wp2_with fail; exact hK _ _ rfl (by first | exact trivial | exact fun h => absurd h (by decide) | exact fun _ => new_alloc _ _) (Below.refl _ _)))
    trivial
  case mfin =>
    intro x w2 hb2 hR hne
    have x4 := hR 4 (by decide)
    have x8 := hR 8 (by decide)
    have x9 := hR 9 (by decide)
    have x10 := hR 10 (by decide)
    have hne' := hne 9 (by decide) 10 (by decide) (by decide)
    simp only [List.getD_cons_zero, List.getD_cons_succ] at x4 x8 x9 x10
    obtain ⟨g1, x9, hg1, hA1⟩ := x9
    obtain ⟨g2, x10, hg2, hA2⟩ := x10
    rw [x9, x10] at hne'
    have hgg : g1 ≠ g2 := fun h => hne' (by rw [h])
    have HA1 := Lib.hid hA1
    have HA2 := Lib.hid hA2
    clear hR hne hne' hA1 hA2
    simp only [List.drop_succ_cons, List.drop_zero]
    generalize List.toArray _ = L0
    simp only [List.take_succ_cons, List.take_zero, List.map_cons, List.map_nil, fill, Act.put, List.setIfInBounds_toArray, List.set_cons_succ, List.set_cons_zero, x4, x8, x9, x10]
    clear x4 x8 x9 x10
    go_wp2_with (first
      | (refine wpList_store_row rfl 31 (.tmp 7) (.tmp 15) rfl g1 (bytesV D2).toArray rfl rfl 31 z32.toArray (by exact HA1.out) (by exact hash_info D2 HL2.out) (by simp [z32, bytesV, HL2.out]) (hash_one _) ?_)
      | (refine wpList_store_row rfl 31 (.tmp 8) (.tmp 19) rfl g2 (bytesV D1).toArray rfl rfl 31 z32.toArray (by exact HA2.out.setRow_other hgg.symm _) (by exact hash_info D1 HL1.out) (by simp [z32, bytesV, HL1.out]) (hash_one _) ?_)
      | fail)
    have hs2 := hb2.size
    have hw2 := hw1.trans (hb2.mono hw1.size)
    obtain ⟨w3, e3⟩ : ∃ w3, w3 = (w2.setRow g1 (bytesV D2).toArray).setRow g2 (bytesV D1).toArray := ⟨_, rfl⟩
    refine wp_world e3 ?_
    have hw3 : Below w.heap.size w w3 := by rw [e3]; exact below_setRow (below_setRow hw2 (by omega) _) (by omega) _
    have HK3 : Hid (Blk w3 w.heap.size (bytesV k) 31) := Lib.hid (by rw [e3]; exact ((HB1.out.below hb2 hlt1).setRow_other (by omega) _).setRow_other (by omega) _)
    have HA3 : Hid (Blk w3 g1 (bytesV D2) 31) := Lib.hid (by rw [e3]; exact (HA1.out.setRow _).setRow_other hgg _)
    have HC3 : Hid (Blk w3 g2 (bytesV D1) 31) := Lib.hid (by rw [e3]; exact (HA2.out.setRow_other hgg.symm _).setRow _)
    clear e3 HA1 HA2 HB1 hb2 hw1 hw2 hs2
    have HG3 := Lib.hid (HG.out.below hw3)
    have hl1 := HA3.out.lt
    have hl2 := HC3.out.lt
    have hl3 := HK3.out.lt
    have e0 := fun w => eq_hash_same w D0 HL0.out
    have e1 := fun w => eq_hash_same w D1 HL1.out
    have e2 := fun w => eq_hash_same w D2 HL2.out
    have HKB : Hid (∀ wr, Below w3.heap.size w3 wr → Bytes wr (.slice (some ⟨w.heap.size, 0, none⟩) 32 32) k) := Lib.hid (fun wr hb => by
      have := row_bytes (HK3.out.below hb hl3) 32 (by have := HKL.out; omega) ⟨[], (List.append_nil k).symm⟩
      rw [HKL.out] at this
      exact this)
    obtain ⟨A, hA⟩ : ∃ A, A = rowN (u64N a) 8 := ⟨_, rfl⟩
    obtain ⟨C, hC⟩ : ∃ C, C = rowN (u64N b) 8 := ⟨_, rfl⟩
    have HA := Lib.hid hA
    have HC := Lib.hid hC
    have HT2 := Lib.hid (show tagN k (cat [A, C]) = D2 by rw [HD2.out, hA, hC]; simp [cat, wordsN])
    have HT1 := Lib.hid (show tagN k (cat [A]) = D1 by rw [HD1.out, hA]; simp [cat, wordsN])
    have HT0 := Lib.hid (show tagN k (cat []) = D0 by rw [HD0.out]; simp [cat, wordsN])
    have HAL := Lib.hid (show A.length = 8 by rw [hA, rowN_len])
    have HCL := Lib.hid (show C.length = 8 by rw [hC, rowN_len])
    have HS2 := Lib.hid (show (cat [A, C]).length ≤ 35184372088832 by rw [hA, hC]; simp [cat, rowN_len])
    have HS1 := Lib.hid (show (cat [A]).length ≤ 35184372088832 by rw [hA]; simp [cat, rowN_len])
    clear hA hC
    refine wp_region_monoF 25 (w3.heap.size) [] [(fun v _ => v = .agg (bytesV D2).toArray), (fun v _ => v = .slice (some ⟨w.heap.size, 0, none⟩) 32 32), (fun v _ => v = .int .i64 a), (fun v w => Bytes w v A), (fun v _ => v = .int .i64 b), (fun v w => Bytes w v C), (fun v w => ∃ vs, Parts w v [A, C] vs), (fun v _ => v = .agg (bytesV D2).toArray), (fun v _ => v = .bool true), (fun v _ => v = .bool true),
      (fun v _ => v = .agg (bytesV D1).toArray), (fun v _ => v = .slice (some ⟨w.heap.size, 0, none⟩) 32 32), (fun v _ => v = .int .i64 a), (fun v w => Bytes w v A), (fun v w => ∃ vs, Parts w v [A] vs), (fun v _ => v = .agg (bytesV D1).toArray), (fun v _ => v = .bool true), (fun v _ => v = .bool true), (fun v _ => v = .bool true),
      (fun v _ => v = .agg (bytesV k).toArray), (fun v _ => v = .agg (bytesV D0).toArray), (fun v _ => v = .slice (some ⟨w.heap.size, 0, none⟩) 32 32), (fun v _ => v = .agg (bytesV D0).toArray), (fun v _ => v = .bool true), (fun v _ => v = .bool true)] (by kernel_rfl) (by kernel_rfl) (by decide) (Nat.le_refl _) ?mkept _ rfl ?mops ?mfin
    case mkept =>
      repeat (refine List.forall_mem_cons.2 ⟨by first | exact fun _ _ _ _ h => h | exact fun _ _ _ hb h => Parts.below h hb | exact fun _ _ _ hb h => IsSl.below h hb | exact fun _ _ _ hb h => RowAt.below h hb | exact fun _ _ _ hb ⟨vs, h⟩ => ⟨vs, Parts.below h hb⟩, ?_⟩)
      exact fun _ h => by cases h
    case mops =>
      simp only [List.take_succ_cons, List.take_zero, monoAllF, List.getD_cons_zero, List.getD_cons_succ]
      iterate 25
      
       (refine ⟨fun x wr hb hd Qg hK => ?_, ?_⟩
        · as_aux_lemma =>
          simp only [fill, Act.put, List.setIfInBounds_toArray, List.set_cons_succ, List.set_cons_zero, needs, Region.binds, List.filter_cons, List.filter_nil, List.map_cons, List.map_nil, if_true, List.mem_cons, List.not_mem_nil, or_false, forall_eq_or_imp, forall_eq, List.getD_cons_zero, List.getD_cons_succ, false_implies, implies_true] at hd hK ⊢
          (try simp only [hd] at hK ⊢)
          first
          | (have hBr := HA3.out.below hb (hl1); refine wpList_load_rowIf rfl 31 (.tmp 7) rfl _ rfl 31 (bytesV D2).toArray (0, 0) _ (by exact hBr) Tryd.underlying31 rfl (hash_info D2 HL2.out) ?_; exact hK _ _ rfl (by first | exact trivial | exact fun h => absurd h (by decide) | exact fun _ => new_alloc _ _) (Below.refl _ _))
          | (have hBr := HC3.out.below hb (hl2); refine wpList_load_rowIf rfl 31 (.tmp 8) rfl _ rfl 31 (bytesV D1).toArray (0, 0) _ (by exact hBr) Tryd.underlying31 rfl (hash_info D1 HL1.out) ?_; exact hK _ _ rfl (by first | exact trivial | exact fun h => absurd h (by decide) | exact fun _ => new_alloc _ _) (Below.refl _ _))
          | (have hBr := HK3.out.below hb (hl3); refine wpList_load_rowIf rfl 31 (.tmp 3) rfl _ rfl 31 (bytesV k).toArray (0, 0) _ (by exact hBr) Tryd.underlying31 rfl (hash_info k HKL.out) ?_; exact hK _ _ rfl (by first | exact trivial | exact fun h => absurd h (by decide) | exact fun _ => new_alloc _ _) (Below.refl _ _))
          | (show wpList _ _ _ [⟨some 26, .buildSlice _ _ _, _, _, _, _⟩] _ _; obtain ⟨hd1, hd2⟩ := hd; obtain ⟨a1, c1, e1, _⟩ := hd1.form; obtain ⟨a2, c2, e2, _⟩ := hd2.form; rw [e1] at hd1; rw [e2] at hd2; simp only [e1, e2] at hK ⊢; have HD1 := Lib.hid hd1; have HD2 := Lib.hid hd2; clear hd1 hd2 e1 e2; go_wp2_with fail; exact hK _ _ ⟨_, (Texts.cons HD1.out (.cons HD2.out .nil)).parts 24 rfl⟩ (by first | exact trivial | exact fun h => absurd h (by decide) | exact fun _ => new_alloc _ _) ((Below.refl _ _).alloc (Nat.le_refl _) _))
          | (show wpList _ _ _ [⟨some 34, .buildSlice _ _ _, _, _, _, _⟩] _ _; obtain ⟨hd1, hd2⟩ := hd; obtain ⟨a1, c1, e1, _⟩ := hd1.form; rw [e1] at hd1; simp only [e1] at hK ⊢; have HD1 := Lib.hid hd1; clear hd1 e1; go_wp2_with fail; exact hK _ _ ⟨_, (Texts.cons HD1.out .nil).parts 24 rfl⟩ (by first | exact trivial | exact fun h => absurd h (by decide) | exact fun _ => new_alloc _ _) ((Below.refl _ _).alloc (Nat.le_refl _) _))
          | (show wpList _ _ _ [⟨some 23, .call _, _, _, _, _⟩] _ _; go_wp2_with (go_at_call 35; refine (number_any a 8 wr (by decide)).mono ?_; rintro e w5 ⟨⟨v5, rfl, hv5⟩, hb5⟩); exact hK _ _ (by rw [HA.out]; exact hv5) (by first | exact trivial | exact fun h => absurd h (by decide) | exact fun _ => new_alloc _ _) hb5)
          | (show wpList _ _ _ [⟨some 25, .call _, _, _, _, _⟩] _ _; go_wp2_with (go_at_call 35; refine (number_any b 8 wr (by decide)).mono ?_; rintro e w5 ⟨⟨v5, rfl, hv5⟩, hb5⟩); exact hK _ _ (by rw [HC.out]; exact hv5) (by first | exact trivial | exact fun h => absurd h (by decide) | exact fun _ => new_alloc _ _) hb5)
          | (show wpList _ _ _ [⟨some 33, .call _, _, _, _, _⟩] _ _; go_wp2_with (go_at_call 35; refine (number_any a 8 wr (by decide)).mono ?_; rintro e w5 ⟨⟨v5, rfl, hv5⟩, hb5⟩); exact hK _ _ (by rw [HA.out]; exact hv5) (by first | exact trivial | exact fun h => absurd h (by decide) | exact fun _ => new_alloc _ _) hb5)
          | (show wpList _ _ _ [⟨some 27, .call _, _, _, _, _⟩] _ _; obtain ⟨_, ⟨vs, hd2⟩, _⟩ := hd; go_wp2_with (go_at_call 27; refine (tag_any _ (x 6) k [A, C] vs wr (HKB.out wr hb) hd2 (by rw [HKL.out]; decide) HS2.out (by show 2 ≤ _; decide) (HG3.out.below hb)).mono ?_; rintro e w5 ⟨rfl, hb5⟩); exact hK _ _ (by rw [HT2.out]) (by first | exact trivial | exact fun h => absurd h (by decide) | exact fun _ => new_alloc _ _) hb5)
          | (show wpList _ _ _ [⟨some 35, .call _, _, _, _, _⟩] _ _; obtain ⟨_, ⟨vs, hd2⟩, _⟩ := hd; go_wp2_with (go_at_call 27; refine (tag_any _ (x 14) k [A] vs wr (HKB.out wr hb) hd2 (by rw [HKL.out]; decide) HS1.out (by show 1 ≤ _; decide) (HG3.out.below hb)).mono ?_; rintro e w5 ⟨rfl, hb5⟩); exact hK _ _ (by rw [HT1.out]) (by first | exact trivial | exact fun h => absurd h (by decide) | exact fun _ => new_alloc _ _) hb5)
          | (show wpList _ _ _ [⟨some 40, .call _, _, _, _, _⟩] _ _; go_wp2_with (go_at_call 32; refine (key_any k _ [] wr HKL.out (IsSl.nil wr 1) (by decide) (HG3.out.below hb)).mono ?_; rintro e w5 ⟨rfl, hb5⟩); exact hK _ _ (by rw [HD0.out]) (by first | exact trivial | exact fun h => absurd h (by decide) | exact fun _ => new_alloc _ _) hb5)
          | (show wpList _ _ _ [⟨some 42, .call _, _, _, _, _⟩] _ _; go_wp2_with (go_at_call 27; refine (tag_any _ _ k [] [] wr (HKB.out wr hb) ⟨rfl, IsSl.nil wr 1, fun _ _ _ h => by cases h⟩ (by rw [HKL.out]; decide) (by decide) (by decide) (HG3.out.below hb)).mono ?_; rintro e w5 ⟨rfl, hb5⟩); exact hK _ _ (by rw [HT0.out]) (by first | exact trivial | exact fun h => absurd h (by decide) | exact fun _ => new_alloc _ _) hb5)
          | (go_wp2_with fail; exact hK _ _ rfl (by first | exact trivial | exact fun h => absurd h (by decide) | exact fun _ => new_alloc _ _) (Below.refl _ _)))
      trivial
    case mfin =>
      intro x w4 hb4 hR _
      have x24 := hR 24 (by decide)
      simp only [List.getD_cons_zero, List.getD_cons_succ] at x24
      have hw4 := hw3.trans (hb4.mono hw3.size)
      clear hR hb4 hw3 e0 e1 e2
      simp only [List.drop_succ_cons, List.drop_zero]
      generalize List.toArray _ = L0
      simp only [List.take_succ_cons, List.take_zero, List.map_cons, List.map_nil, fill, Act.put, List.setIfInBounds_toArray, List.set_cons_succ, List.set_cons_zero, x24]
      clear x24
      go_wp2_with fail
      go_ret
      exact ⟨rfl, hw4⟩
end Go.Proofs.YtjjoiefngoghpaaDoor
