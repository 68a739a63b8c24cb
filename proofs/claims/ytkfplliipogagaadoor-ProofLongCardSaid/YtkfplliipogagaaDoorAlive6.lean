/- The walk of layer 6's alive: true. Condition: the package's tables read as they are laid. -/
import Derived.Test.YtkfplliipogagaaDoorFour
import Derived.Test.YtkfplliipogagaaDoorTreeW
import Derived.Test.YtkfplliipogagaaDoorRef5
namespace Go.Proofs.YtkfplliipogagaaDoor
open Go.RowKit

def oneH (n : UInt8) : H := ⟨n :: List.replicate 31 0, by simp⟩
def exD : H := ndH (oneH 1) (oneH 2)
def exR : H := ndH exD (oneH 3)
theorem ex_other : ((ndH exD (oneH 2)).b == exR.b) = false := by decide +kernel
theorem split3 : splitN 3 = 2 := splitN_unique 3 1 (by decide) (by decide)
theorem root_three (A B C : H) : rootN ndH e0H [A, B, C] = ndH (ndH A B) C := by
  rw [rootN_two _ _ _ (by simp), show splitN [A, B, C].length = 2 from split3]
  simp [rootN_one, root_pair]
theorem path_three (A B C : H) : pathN ndH e0H [A, B, C] 2 = [ndH A B] := by
  rw [pathN_right _ _ (by simp) (by rw [show splitN [A, B, C].length = 2 from split3]; decide), show splitN [A, B, C].length = 2 from split3]
  rw [show [A, B, C].drop 2 = [C] from rfl, show [A, B, C].take 2 = [A, B] from rfl, root_pair, pathN_low [C] _ (by simp)]
  rfl
theorem sub_three (A B C : H) : subN ndH e0H [A, B, C] 2 true = [C] := by
  rw [subN_left _ _ _ (by simp) (by simp) (by rw [show splitN [A, B, C].length = 2 from split3]; decide), show splitN [A, B, C].length = 2 from split3]
  rw [show [A, B, C].drop 2 = [C] from rfl, show [A, B, C].take 2 = [A, B] from rfl, rootN_one, subN_end [A, B] 2 true rfl]
  rfl
theorem in_three (A B C : H) : inR C (ndH (ndH A B) C) 2 3 [ndH A B] = true := by
  have h := comes_path ndH e0H [A, B, C] 2 C rfl
  rw [path_three, root_three] at h
  unfold inR comesR
  rw [if_pos (by decide)]
  show (match comesN ndH C 3 2 [ndH A B] with | some h => h.b == (ndH (ndH A B) C).b | none => false) = true
  rw [show comesN ndH C 3 2 [ndH A B] = some (ndH (ndH A B) C) from h]
  simp
theorem in_other (A B C : H) : inR B (ndH (ndH A B) C) 2 3 [ndH A B] = ((ndH (ndH A B) B).b == (ndH (ndH A B) C).b) := by
  have h := comes_path ndH e0H [A, B, B] 2 B rfl
  rw [path_three, root_three] at h
  unfold inR comesR
  rw [if_pos (by decide)]
  show (match comesN ndH B 3 2 [ndH A B] with | some h => h.b == (ndH (ndH A B) C).b | none => false) = _
  rw [show comesN ndH B 3 2 [ndH A B] = some (ndH (ndH A B) B) from h]
theorem begins_three (A B C : H) : begR 2 3 (ndH A B) (ndH (ndH A B) C) [C] = true := by
  have h := both_sub ndH e0H [A, B, C] 2 (by decide) (by simp)
  rw [sub_three, root_three, show [A, B, C].take 2 = [A, B] from rfl, root_pair] at h
  have hb : bothR (ndH A B) 2 3 [C] = some (ndH A B, ndH (ndH A B) C) := by
    unfold bothR
    rw [if_pos (by decide)]
    exact h
  unfold begR
  rw [if_neg (by decide), hb]
  simp
set_option maxRecDepth 100000 in
set_option maxHeartbeats 4000000 in
theorem alive6_any (w : World) (hg : Glob w) :
    Calls Tryd.prog 33 #[] w fun e w' => e = .returned (.bool true) ∧ Below w.heap.size w w' := by
  have HG := Lib.hid hg
  clear hg
  go_enter Tryd.func33, Tryd.ntmps33
  go_wp2_with fail
  refine calls_at (w' := w.alloc (.cells (bytesV (hflat [oneH 1, oneH 2, oneH 3])).toArray 24)) rfl ?_
  obtain ⟨A, hA⟩ : ∃ A, A = oneH 1 := ⟨_, rfl⟩
  obtain ⟨B, hB⟩ : ∃ B, B = oneH 2 := ⟨_, rfl⟩
  obtain ⟨C, hC⟩ : ∃ C, C = oneH 3 := ⟨_, rfl⟩
  obtain ⟨D, hD⟩ : ∃ D, D = ndH A B := ⟨_, rfl⟩
  obtain ⟨R, hR⟩ : ∃ R, R = ndH D C := ⟨_, rfl⟩
  have i1 : inR C R 2 3 [D] = true := by rw [hR, hD]; exact in_three A B C
  have i2 : inR B R 2 3 [D] = false := by rw [hR, hD, in_other, hA, hB, hC]; exact ex_other
  have i3 : begR 2 3 D R [C] = true := by rw [hR, hD]; exact begins_three A B C
  have i4 : pathN ndH e0H [A, B, C] 2 = [D] := by rw [hD]; exact path_three A B C
  have i5 : subN ndH e0H [A, B, C] 2 true = [C] := sub_three A B C
  have i6 : rootN ndH e0H [A, B, C] = R := by rw [hR, hD]; exact root_three A B C
  have i7 : rootN ndH e0H [A, B] = D := by rw [hD]; exact root_pair A B
  have I1 := Lib.hid i1
  have I2 := Lib.hid i2
  have I3 := Lib.hid i3
  have I4 := Lib.hid i4
  have I5 := Lib.hid i5
  have I6 := Lib.hid i6
  have I7 := Lib.hid i7
  rw [← hA, ← hB, ← hC]
  clear hA hB hC hD hR i1 i2 i3 i4 i5 i6 i7
  have hs0 := hs_new w [A, B, C] 24 (B := w.heap.size) (n := 3) rfl rfl
  have hb0 : Below w.heap.size w (w.alloc (.cells (bytesV (hflat [A, B, C])).toArray 24)) := by (repeat (first | with_reducible assumption | with_reducible exact Below.refl _ _ | ((with_reducible refine Below.setCell ?_ ?_ _); rotate_left; focus (first | omega | (simp; done) | (simp; omega))) | ((with_reducible refine Below.alloc ?_ ?_ _); rotate_left; focus (first | omega | (simp; done) | (simp; omega))) | ((with_reducible refine below_setRow ?_ ?_ _); rotate_left; focus (first | omega | (simp; done) | (simp; omega))) | (with_reducible refine below_drewN ?_ _) | (with_reducible refine Below.drew ?_)))
  generalize w.alloc (.cells (bytesV (hflat [A, B, C])).toArray 24) = w1 at hs0 hb0 ⊢
  refine (path_any 3 _ [A, B, C] 2 w1 rfl (by decide) hs0 (HG.out.below hb0) (by decide)).mono ?_
  rintro e w2 ⟨⟨v2, rfl, ho2⟩, hb2⟩
  rw [I4.out] at ho2
  have hv2 := ho2.hs
  obtain ⟨pb, po, pc, rfl, _, hpr, hpb⟩ := hv2.pos (by simp)
  have hw2 := hb0.trans (hb2.mono hb0.size)
  have HS2 := Lib.hid (hs0.below hb2)
  have HV2 := Lib.hid hv2
  clear ho2 hv2 hs0 hb0 hb2 hpr hpb
  go_wp2_with fail
  refine (prove_any _ [A, B, C] 2 w2 (by simp) HS2.out (HG.out.below hw2) (by decide) (by simp)).mono ?_
  rintro e w3 ⟨⟨v3, rfl, ho3⟩, hb3⟩
  rw [I5.out] at ho3
  have hv3 := ho3.hs
  obtain ⟨qb, qo, qc, rfl, _, hqr, hqb⟩ := hv3.pos (by simp)
  have hw3 := hw2.trans (hb3.mono hw2.size)
  have hs3 := HS2.out.below hb3
  have hv3p := HV2.out.below hb3
  obtain ⟨sb, so, es, _, hsr, hsb⟩ := hs_block hs3 (by simp)
  cases es
  obtain ⟨pb', po', ep, _, hpr, hpb⟩ := hs_block hv3p (by simp)
  cases ep
  obtain ⟨a1, c1, hs1, hh1⟩ := hs_head hs3 2 (by simp)
  have hs1' : ∀ w' : World, (Instr.slice 31 (.slice (some ⟨w.heap.size, 0, none⟩) 3 3) none (some (.int .i64 2)) none).run Tryd.prog w' = .ok (.slice a1 2 c1) w' := hs1
  have HEP := Lib.hid (show w3.rangeAt pb po (bytesV D.b) by have h := Hs.elem hpr (i := 0) (x := D) rfl; rw [Nat.zero_mul, Nat.add_zero] at h; exact h)
  have HEQ := Lib.hid (show w3.rangeAt qb qo (bytesV C.b) by have h := Hs.elem hqr (i := 0) (x := C) rfl; rw [Nat.zero_mul, Nat.add_zero] at h; exact h)
  have HEC := Lib.hid (show w3.rangeAt w.heap.size 64 (bytesV C.b) from Hs.elem hsr (i := 2) (x := C) rfl)
  have HEB := Lib.hid (show w3.rangeAt w.heap.size 32 (bytesV B.b) from Hs.elem hsr (i := 1) (x := B) rfl)
  have HH1 := Lib.hid hh1
  have HS3 := Lib.hid hs3
  have HV3 := Lib.hid hv3p
  have HQ3 := Lib.hid hv3
  have HG3 := Lib.hid (HG.out.below hw3)
  have HQ1 := fun w => is_hash w D
  have HQ2 := fun w => is_hash w C
  clear ho3 hv3 hqr hs3 hv3p hsr hpr hh1 hb3 hs1 HV2 HS2 hw2
  go_wp2_with fail
  refine wp_region_mono 50 (w3.heap.size) [(fun v _ => v = .bool true), (fun v _ => v = .bool true), (fun v _ => v = .bool true), (fun v _ => v = .bool true), (fun v _ => v = .bool true), (fun v _ => v = .slice (some ⟨pb, po, none⟩) 1 pc), (fun v _ => v = .pointer (some ⟨pb, po, none⟩)), (fun v _ => v = .agg (bytesV D.b).toArray), (fun v _ => v = .slice (some ⟨w.heap.size, 0, none⟩) 3 3), (fun v _ => v = .slice a1 2 c1), (fun v _ => v = .agg (bytesV D.b).toArray), (fun v _ => v = .bool true), (fun v _ => v = .bool true), (fun v _ => v = .bool true), (fun v _ => v = .slice (some ⟨qb, qo, none⟩) 1 qc), (fun v _ => v = .pointer (some ⟨qb, qo, none⟩)), (fun v _ => v = .agg (bytesV C.b).toArray), (fun v _ => v = .slice (some ⟨w.heap.size, 0, none⟩) 3 3), (fun v _ => v = .pointer (some ⟨w.heap.size, 64, none⟩)), (fun v _ => v = .agg (bytesV C.b).toArray), (fun v _ => v = .bool true), (fun v _ => v = .bool true), (fun v _ => v = .bool true), (fun v _ => v = .slice (some ⟨w.heap.size, 0, none⟩) 3 3), (fun v _ => v = .pointer (some ⟨w.heap.size, 64, none⟩)), (fun v _ => v = .agg (bytesV C.b).toArray), (fun v _ => v = .slice (some ⟨pb, po, none⟩) 1 pc), (fun v _ => v = .slice (some ⟨w.heap.size, 0, none⟩) 3 3), (fun v _ => v = .agg (bytesV R.b).toArray), (fun v _ => v = .bool true), (fun v _ => v = .bool true), (fun v _ => v = .bool true), (fun v _ => v = .slice (some ⟨w.heap.size, 0, none⟩) 3 3), (fun v _ => v = .pointer (some ⟨w.heap.size, 32, none⟩)), (fun v _ => v = .agg (bytesV B.b).toArray), (fun v _ => v = .slice (some ⟨pb, po, none⟩) 1 pc), (fun v _ => v = .slice (some ⟨w.heap.size, 0, none⟩) 3 3), (fun v _ => v = .agg (bytesV R.b).toArray), (fun v _ => v = .bool false), (fun v _ => v = .bool true), (fun v _ => v = .bool true), (fun v _ => v = .bool true), (fun v _ => v = .slice (some ⟨w.heap.size, 0, none⟩) 3 3), (fun v _ => v = .slice a1 2 c1), (fun v _ => v = .agg (bytesV D.b).toArray), (fun v _ => v = .slice (some ⟨w.heap.size, 0, none⟩) 3 3), (fun v _ => v = .agg (bytesV R.b).toArray), (fun v _ => v = .slice (some ⟨qb, qo, none⟩) 1 qc), (fun v _ => v = .bool true), (fun v _ => v = .bool true)] (by kernel_rfl) (by kernel_rfl) (Nat.le_refl _) ?mkept _ rfl ?mops ?mfin
  case mkept =>
    repeat (refine List.forall_mem_cons.2 ⟨by first | exact fun _ _ _ _ h => h | exact fun _ _ _ hb h => Parts.below h hb | exact fun _ _ _ hb h => IsSl.below h hb, ?_⟩)
    exact fun _ h => by cases h
  case mops =>
    simp only [List.take_succ_cons, List.take_zero, monoAll, List.getD_cons_zero, List.getD_cons_succ]
    iterate 50
    
     (refine ⟨fun x wr hb hd Qg hK => ?_, ?_⟩
      · as_aux_lemma =>
        simp only [fill, Act.put, List.setIfInBounds_toArray, List.set_cons_succ, List.set_cons_zero, needs, Region.binds, List.filter_cons, List.filter_nil, List.map_cons, List.map_nil, if_true, List.mem_cons, List.not_mem_nil, or_false, forall_eq_or_imp, forall_eq, List.getD_cons_zero, List.getD_cons_succ, false_implies, implies_true] at hd hK ⊢
        (try simp only [hd] at hK ⊢)
        first
        | ((refine wpList_load_midIf rfl 24 (.tmp 34) rfl pb (po) rfl (bytesV D.b) _ (range_below HEP.out hb) Tryd.underlying24 rfl (hv_info D) ?_; exact hK _ _ rfl (Below.refl _ _)))
        | ((refine wpList_load_midIf rfl 24 (.tmp 43) rfl qb (qo) rfl (bytesV C.b) _ (range_below HEQ.out hb) Tryd.underlying24 rfl (hv_info C) ?_; exact hK _ _ rfl (Below.refl _ _)))
        | ((refine wpList_load_midIf rfl 24 (.tmp 46) rfl w.heap.size (64) rfl (bytesV C.b) _ (range_below HEC.out hb) Tryd.underlying24 rfl (hv_info C) ?_; exact hK _ _ rfl (Below.refl _ _)))
        | ((refine wpList_load_midIf rfl 24 (.tmp 52) rfl w.heap.size (64) rfl (bytesV C.b) _ (range_below HEC.out hb) Tryd.underlying24 rfl (hv_info C) ?_; exact hK _ _ rfl (Below.refl _ _)))
        | ((refine wpList_load_midIf rfl 24 (.tmp 61) rfl w.heap.size (32) rfl (bytesV B.b) _ (range_below HEB.out hb) Tryd.underlying24 rfl (hv_info B) ?_; exact hK _ _ rfl (Below.refl _ _)))
        | (show wpList _ _ _ [⟨some 38, .call _, _, _, _, _⟩] _ _; go_wp2_with (go_at_call 32; refine (root_any 2 _ [A, B] wr rfl (by decide) (HH1.out.below hb) (HG3.out.below hb)).mono ?_; rintro e w5 ⟨rfl, hb5⟩); exact hK _ _ (by rw [I7.out]; rfl) hb5)
        | (show wpList _ _ _ [⟨some 56, .call _, _, _, _, _⟩] _ _; go_wp2_with (go_at_call 32; refine (root_any 3 _ [A, B, C] wr rfl (by decide) (HS3.out.below hb) (HG3.out.below hb)).mono ?_; rintro e w5 ⟨rfl, hb5⟩); exact hK _ _ (by rw [I6.out]; rfl) hb5)
        | (show wpList _ _ _ [⟨some 65, .call _, _, _, _, _⟩] _ _; go_wp2_with (go_at_call 32; refine (root_any 3 _ [A, B, C] wr rfl (by decide) (HS3.out.below hb) (HG3.out.below hb)).mono ?_; rintro e w5 ⟨rfl, hb5⟩); exact hK _ _ (by rw [I6.out]; rfl) hb5)
        | (show wpList _ _ _ [⟨some 72, .call _, _, _, _, _⟩] _ _; go_wp2_with (go_at_call 32; refine (root_any 2 _ [A, B] wr rfl (by decide) (HH1.out.below hb) (HG3.out.below hb)).mono ?_; rintro e w5 ⟨rfl, hb5⟩); exact hK _ _ (by rw [I7.out]; rfl) hb5)
        | (show wpList _ _ _ [⟨some 74, .call _, _, _, _, _⟩] _ _; go_wp2_with (go_at_call 32; refine (root_any 3 _ [A, B, C] wr rfl (by decide) (HS3.out.below hb) (HG3.out.below hb)).mono ?_; rintro e w5 ⟨rfl, hb5⟩); exact hK _ _ (by rw [I6.out]; rfl) hb5)
        | (show wpList _ _ _ [⟨some 57, .call _, _, _, _, _⟩] _ _; go_wp2_with (go_at_call 42; refine (in_any wr C R 2 3 _ [D] (HV3.out.below hb) (by simp) (HG3.out.below hb)).mono ?_; rintro e w5 ⟨rfl, hb5⟩); exact hK _ _ (by rw [I1.out]) hb5)
        | (show wpList _ _ _ [⟨some 66, .call _, _, _, _, _⟩] _ _; go_wp2_with (go_at_call 42; refine (in_any wr B R 2 3 _ [D] (HV3.out.below hb) (by simp) (HG3.out.below hb)).mono ?_; rintro e w5 ⟨rfl, hb5⟩); exact hK _ _ (by rw [I2.out]) hb5)
        | (show wpList _ _ _ [⟨some 76, .call _, _, _, _, _⟩] _ _; go_wp2_with (go_at_call 44; refine (begins_any wr D R 2 3 _ [C] (HQ3.out.below hb) (by simp) (HG3.out.below hb)).mono ?_; rintro e w5 ⟨rfl, hb5⟩); exact hK _ _ (by rw [I3.out]) hb5)
        | (go_wp2_with fail; exact hK _ _ rfl (Below.refl _ _)))
    trivial
  case mfin =>
    intro x wr hb hR
    have x49 := hR 49 (by decide)
    simp only [List.getD_cons_zero, List.getD_cons_succ] at x49
    have hw6 := hw3.trans (hb.mono hw3.size)
    clear hR hb HQ1 HQ2
    simp only [List.drop_succ_cons, List.drop_zero]
    generalize List.toArray _ = L0
    simp only [List.take_succ_cons, List.take_zero, List.map_cons, List.map_nil, fill, Act.put, List.setIfInBounds_toArray, List.set_cons_succ, List.set_cons_zero, x49]
    clear x49
    go_wp2_with fail
    go_ret
    exact ⟨rfl, hw6⟩
end Go.Proofs.YtkfplliipogagaaDoor
