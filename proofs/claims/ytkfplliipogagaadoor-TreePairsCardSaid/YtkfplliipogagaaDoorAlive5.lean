/- The walk of layer 5's alive: true. Condition: the package's tables read as they are laid. -/
import Derived.Test.YtkfplliipogagaaDoorFrontE
import Derived.Test.YtkfplliipogagaaDoorRef5C
namespace Go.Proofs.YtkfplliipogagaaDoor
open Go.RowKit

def exAH : H := lfH [97]
def exBH : H := lfH [98]
theorem ex_ab : (exAH.b == exBH.b) = false := by decide +kernel
theorem calls_same {P : Program} {f : FuncId} {args : Array Value} {w : World} {v : Value} (h : Calls P f args w fun e w' => e = .returned v ∧ w' = w) : Calls P f args w fun e w' => e = .returned v ∧ Below w.heap.size w w' :=
  h.mono fun _ _ ⟨h1, h2⟩ => ⟨h1, h2 ▸ Below.refl _ _⟩
theorem ex_ne (w : World) : (Op.equalIn 10000 24 (.agg (bytesV exAH.b).toArray) (.agg (bytesV exBH.b).toArray)).run Tryd.prog w = .ok false w := by
  rw [eq_hash w _ _ exAH.len exBH.len, ex_ab]
/-- A new frontier. -/
theorem fr_new {w : World} {b : Nat} (h : Blk w b [.slice none 0 0, .int .i64 0] 35) : Fr w b w.heap.size [] := by
  refine ⟨h.lt, Nat.le_refl _, .slice none 0 0, h, ?_⟩
  rw [stackN_nil]
  exact World.ownsRow_nil _ _ _ _
def frontV : List Value := [.slice none 0 0, .int .i64 0]
def emptyHex : List UInt8 := [101, 51, 98, 48, 99, 52, 52, 50, 57, 56, 102, 99, 49, 99, 49, 52, 57, 97, 102, 98, 102, 52, 99, 56, 57, 57, 54, 102, 98, 57, 50, 52, 50, 55, 97, 101, 52, 49, 101, 52, 54, 52, 57, 98, 57, 51, 52, 99, 97, 52, 57, 53, 57, 57, 49, 98, 55, 56, 53, 50, 98, 56, 53, 53]
theorem hex_e0 : hexP e0H.b = emptyHex := hex_empty
theorem root_pair (A B : H) : rootN ndH e0H [A, B] = ndH A B := by
  rw [rootN_two _ _ _ (by simp), show splitN [A, B].length = 1 from splitN_unique 2 0 (by decide) (by decide)]
  simp [rootN_one]
theorem trees_pair (A B : H) : treesN ndH e0H [A, B] = [ndH A B] := by
  rw [← stackN_trees ndH e0H _ [A, B] rfl, stackN_whole ndH e0H [A, B] 1 rfl, root_pair]
  rfl
set_option maxRecDepth 100000 in
set_option maxHeartbeats 2000000 in
theorem alive5_any (w : World) (hg : Glob w) :
    Calls Tryd.prog 16 #[] w fun e w' => e = .returned (.bool true) ∧ Below w.heap.size w w' := by
  have HG := Lib.hid hg
  clear hg
  have kc := fun (w : World) (C : Array Value) (n c : Nat) => Lib.run_convert_bytes_const (P := Tryd.prog) w 22 5 C n c Tryd.underlying22 Tryd.underlying5
  have kd := fun (w : World) (A : Obj) (C : Array Value) (n c : Nat) => convert_const1 (P := Tryd.prog) w A 22 5 C n c Tryd.underlying22 Tryd.underlying5
  go_enter Tryd.func16, Tryd.ntmps16
  go_wp2_with fail
  refine (leaf_any _ [97] _ (bytes_alloc (w.alloc (.cells #[.slice none 0 0, .int .i64 0] 35)) [97] _ (1, 2) (by simp)) (by decide) (HG.out.below (by (repeat (first | with_reducible assumption | with_reducible exact Below.refl _ _ | ((with_reducible refine Below.setCell ?_ ?_ _); rotate_left; focus (first | omega | (simp; done) | (simp; omega))) | ((with_reducible refine Below.alloc ?_ ?_ _); rotate_left; focus (first | omega | (simp; done) | (simp; omega))) | ((with_reducible refine below_setRow ?_ ?_ _); rotate_left; focus (first | omega | (simp; done) | (simp; omega))) | (with_reducible refine below_drewN ?_ _) | (with_reducible refine Below.drew ?_)))))).mono ?_
  rintro e w1 ⟨rfl, hb1⟩
  have hF1 : Blk w1 w.heap.size frontV 35 := ((Blk.newL w frontV _).alloc _).below hb1 (by simp <;> omega)
  have hw1 : Below w.heap.size w w1 := Below.trans (by (repeat (first | with_reducible assumption | with_reducible exact Below.refl _ _ | ((with_reducible refine Below.setCell ?_ ?_ _); rotate_left; focus (first | omega | (simp; done) | (simp; omega))) | ((with_reducible refine Below.alloc ?_ ?_ _); rotate_left; focus (first | omega | (simp; done) | (simp; omega))) | ((with_reducible refine below_setRow ?_ ?_ _); rotate_left; focus (first | omega | (simp; done) | (simp; omega))) | (with_reducible refine below_drewN ?_ _) | (with_reducible refine Below.drew ?_)))) (hb1.mono (by simp <;> omega))
  have HF1 := Lib.hid hF1
  clear hF1 hb1
  go_wp2_with fail
  refine (leaf_any _ [98] _ (bytes_alloc w1 [98] _ (1, 2) rfl) (by decide) (HG.out.below (hw1.alloc hw1.size _))).mono ?_
  rintro e w2 ⟨rfl, hb2⟩
  have hb2' : Below w1.heap.size w1 w2 := Below.trans ((Below.refl _ _).alloc (Nat.le_refl _) _) (hb2.mono (by simp))
  have hF2 : Blk w2 w.heap.size frontV 35 := HF1.out.below hb2' HF1.out.lt
  have hw2 := hw1.trans (hb2'.mono hw1.size)
  have hs2 : w.heap.size < w2.heap.size := hF2.lt
  clear hb2 hb2' HF1 hw1 kc kd
  obtain ⟨A, hA⟩ : ∃ A, A = exAH := ⟨_, rfl⟩
  obtain ⟨B, hB⟩ : ∃ B, B = exBH := ⟨_, rfl⟩
  rw [show lfH [97] = A from hA.symm, show lfH [98] = B from hB.symm]
  obtain ⟨w3, hw3⟩ : ∃ w3, w3 = ((((w2.alloc (.cells z32.toArray 24)).alloc (.cells z32.toArray 24)).setRow w2.heap.size (bytesV A.b).toArray).setRow (w2.heap.size + 1) (bytesV B.b).toArray) := ⟨_, rfl⟩
  have h3A : Blk w3 w2.heap.size (bytesV A.b) 24 := by rw [hw3]; exact (((Blk.newL w2 z32 _).alloc _).setRow _).setRow_other (by omega) _
  have h3B : Blk w3 (w2.heap.size + 1) (bytesV B.b) 24 := by rw [hw3]; exact ((Blk.newL1 w2 _ z32 _).setRow_other (by omega) _).setRow _
  have h3F : Blk w3 w.heap.size frontV 35 := by rw [hw3]; exact (((hF2.alloc _).alloc _).setRow_other (by omega) _).setRow_other (by omega) _
  have hb3 : Below w.heap.size w w3 := by
    rw [hw3]
    exact below_setRow (below_setRow ((hw2.alloc hw2.size _).alloc (by simp; omega) _) (by omega) _) (by omega) _
  have hs3 : w3.heap.size = w2.heap.size + 1 + 1 := by rw [hw3]; simp
  have HW3 := Lib.hid hw3
  have H3A := Lib.hid h3A
  have H3B := Lib.hid h3B
  have H3F := Lib.hid (fr_new h3F)
  have HA := Lib.hid hA
  have HB := Lib.hid hB
  clear hF2 hw2 hw3 h3A h3B h3F hA hB
  go_wp2_with (first
    | (refine wpList_store_row rfl 24 (.tmp 2) (.tmp 6) rfl w2.heap.size (bytesV A.b).toArray rfl rfl 24 z32.toArray (by exact (Blk.newL w2 z32 _).alloc _) (by exact hv_row _) (by exact z32_old _) (by exact hv_one _) ?_)
    | (refine wpList_store_row rfl 24 (.tmp 3) (.tmp 9) rfl (w2.heap.size + 1) (bytesV B.b).toArray rfl rfl 24 z32.toArray (by exact (Blk.newL1 w2 _ z32 _).setRow_other (by omega) _) (by exact hv_row _) (by exact z32_old _) (by exact hv_one _) ?_)
    | (refine wpList_load_row rfl 24 (.tmp 2) rfl w2.heap.size rfl 24 (bytesV A.b).toArray (0, 0) _ (by have h := H3A.out; rw [HW3.out] at h; exact h) Tryd.underlying24 rfl (by exact hv_row _) ?_)
    | (go_at_call 24; refine calls_world HW3.out ?_; refine (add_any w w3 w.heap.size w3.heap.size [] A HG.out hb3 (Nat.le_refl _) H3F.out (by simp)).mono ?_; rintro e w4 ⟨rfl, hF4, hB4⟩;
       have h4A := hB4.blk H3A.out (by omega) (by omega); have h4B := hB4.blk H3B.out (by omega) (by omega); have hw4 := hb3.trans hB4.old; have H4A := Lib.hid h4A; have H4B := Lib.hid h4B; have H4F := Lib.hid hF4; clear h4A h4B hF4 hB4)
    | (refine wpList_load_row rfl 24 (.tmp 3) rfl (w2.heap.size + 1) rfl 24 (bytesV B.b).toArray (0, 0) _ (by exact H4B.out) Tryd.underlying24 rfl (by exact hv_row _) ?_)
    | (go_at_call 24; refine (add_any w w4 w.heap.size w3.heap.size ([] ++ [A]) B HG.out hw4 (Nat.le_refl _) H4F.out (by simp)).mono ?_; rintro e w5 ⟨rfl, hF5, hB5⟩;
       have h5A := hB5.blk H4A.out (by omega) (by omega); have h5B := hB5.blk H4B.out (by omega) (by omega); have hw5 := hw4.trans hB5.old; have H5A := Lib.hid h5A; have H5B := Lib.hid h5B; have H5F := Lib.hid (show Fr w5 w.heap.size w3.heap.size [A, B] from hF5); clear h5A h5B hF5 hB5)
    | fail)
  have hG5 := HG.out.below hw5
  have hne : ∀ w, (Op.equalIn 10000 24 (.agg (bytesV A.b).toArray) (.agg (bytesV B.b).toArray)).run Tryd.prog w = .ok false w := fun w => by rw [HA.out, HB.out]; exact ex_ne w
  obtain ⟨D, hD⟩ : ∃ D, D = ndH A B := ⟨_, rfl⟩
  have hss := fun w => is_hash w D
  have hl5 := H5A.out.lt
  have hl6 := H5B.out.lt
  have HD := Lib.hid hD
  have HG5 := Lib.hid hG5
  clear hD hG5 HA HB H3A H3B H3F H4A H4B H4F HW3 hb3 hw4
  have isT : Kept fun v _ => v = .bool true := fun _ _ _ _ h => h
  refine wp_region_mono 38 (w5.heap.size) [(fun v _ => v = .agg (bytesV e0H.b).toArray), (fun v _ => v = .string ⟨emptyHex.toArray⟩), (fun v _ => v = .bool true), (fun v _ => v = .bool true),
    (fun v _ => v = .int .i64 4), (fun v _ => v = .bool true), (fun v _ => v = .bool true), (fun v _ => v = .bool true),
    (fun v _ => v = .agg (bytesV A.b).toArray), (fun v _ => v = .agg (bytesV B.b).toArray), (fun v _ => v = .bool true), (fun v _ => v = .bool true), (fun v _ => v = .bool true),
    (fun v _ => v = .int .i64 2), (fun v _ => v = .bool true), (fun v _ => v = .bool true), (fun v _ => v = .bool true),
    (fun v _ => v = .agg (bytesV D.b).toArray), (fun v _ => v = .agg (bytesV A.b).toArray), (fun v _ => v = .agg (bytesV B.b).toArray), (fun v _ => v = .agg (bytesV D.b).toArray), (fun v _ => v = .bool true), (fun v _ => v = .bool true), (fun v _ => v = .bool true),
    (fun v _ => v = .agg (bytesV A.b).toArray), (fun v _ => v = .agg (bytesV B.b).toArray), (fun v w => Hs w v [A, B]), (fun v _ => v = .agg (bytesV D.b).toArray), (fun v _ => v = .agg (bytesV A.b).toArray), (fun v _ => v = .agg (bytesV B.b).toArray), (fun v _ => v = .agg (bytesV D.b).toArray), (fun v _ => v = .bool true), (fun v _ => v = .bool true), (fun v _ => v = .bool true),
    (fun v w => Hs w v [D]), (fun v _ => v = .int .i64 1), (fun v _ => v = .bool true), (fun v _ => v = .bool true)] (by kernel_rfl) (by kernel_rfl) (Nat.le_refl _) ?mkept _ rfl ?mops ?mfin
  case mkept =>
    repeat (refine List.forall_mem_cons.2 ⟨by first | exact fun _ _ _ _ h => h | exact fun _ _ _ hb h => Parts.below h hb | exact fun _ _ _ hb h => IsSl.below h hb, ?_⟩)
    exact fun _ h => by cases h
  case mops =>
    simp only [List.take_succ_cons, List.take_zero, monoAll, List.getD_cons_zero, List.getD_cons_succ]
    iterate 38
    
     (refine ⟨fun x wr hb hd Qg hK => ?_, ?_⟩
      · as_aux_lemma =>
        simp only [fill, Act.put, List.setIfInBounds_toArray, List.set_cons_succ, List.set_cons_zero, needs, Region.binds, List.filter_cons, List.filter_nil, List.map_cons, List.map_nil, if_true, List.mem_cons, List.not_mem_nil, or_false, forall_eq_or_imp, forall_eq, List.getD_cons_zero, List.getD_cons_succ, false_implies, implies_true] at hd hK ⊢
        (try simp only [hd] at hK ⊢)
        first
        | (have hBr := H5A.out.below hb (hl5); refine wpList_load_rowIf rfl 24 (.tmp 2) rfl _ rfl 24 (bytesV A.b).toArray (0, 0) _ (by exact hBr) Tryd.underlying24 rfl (hv_row A) ?_; exact hK _ _ rfl (Below.refl _ _))
        | (have hBr := H5B.out.below hb (hl6); refine wpList_load_rowIf rfl 24 (.tmp 3) rfl _ rfl 24 (bytesV B.b).toArray (0, 0) _ (by exact hBr) Tryd.underlying24 rfl (hv_row B) ?_; exact hK _ _ rfl (Below.refl _ _))
        | (show wpList _ _ _ [⟨some 14, .call _, _, _, _, _⟩] _ _; go_wp2_with (go_at_call 32; refine (root_empty none 0 wr (HG5.out.below hb)).mono ?_; rintro e w5 ⟨rfl, hb5⟩); exact hK _ _ (rfl) hb5)
        | (show wpList _ _ _ [⟨some 15, .call _, _, _, _, _⟩] _ _; go_wp2_with (go_at_call 46; refine (hex_any e0H.b e0H.len wr (HG5.out.below hb)).mono ?_; rintro e w5 ⟨rfl, hb5⟩); exact hK _ _ (by rw [hex_e0]) hb5)
        | (show wpList _ _ _ [⟨some 18, .call _, _, _, _, _⟩] _ _; go_wp2_with (go_at_call 22; refine (calls_same (split_any 5 wr (by decide))).mono ?_; rintro e w5 ⟨rfl, hb5⟩); exact hK _ _ (by rw [show splitN 5 = 4 from splitN_unique 5 2 (by decide) (by decide)]; rfl) hb5)
        | (show wpList _ _ _ [⟨some 27, .call _, _, _, _, _⟩] _ _; go_wp2_with (go_at_call 25; refine (calls_same (size_any wr _ _ [A, B] (St.keep H5F.out hb))).mono ?_; rintro e w5 ⟨rfl, hb5⟩); exact hK _ _ (rfl) hb5)
        | (show wpList _ _ _ [⟨some 31, .call _, _, _, _, _⟩] _ _; go_wp2_with (go_at_call 26; refine (froot_any wr _ _ [A, B] (St.keep H5F.out hb) (by simp) (HG5.out.below hb)).mono ?_; rintro e w5 ⟨rfl, hb5⟩); exact hK _ _ (by rw [root_pair, HD.out]; rfl) hb5)
        | (show wpList _ _ _ [⟨some 34, .call _, _, _, _, _⟩] _ _; go_wp2_with (go_at_call 19; refine (node_any A B wr (HG5.out.below hb)).mono ?_; rintro e w5 ⟨rfl, hb5⟩); exact hK _ _ (by rw [HD.out]; rfl) hb5)
        | (refine wpList_hashesIf rfl [A, B] 2 _ rfl rfl (by decide) (by decide) (by simp only [List.map_toArray, List.map_cons, List.map_nil]; rfl) ?_; exact hK _ _ (hs_new wr [A, B] _ rfl rfl) ((Below.refl _ _).alloc (Nat.le_refl _) _))
        | (show wpList _ _ _ [⟨some 41, .call _, _, _, _, _⟩] _ _; go_wp2_with (go_at_call 32; refine (root_any 2 (x 26) [A, B] wr rfl (by decide) (by simp only [hd]) (HG5.out.below hb)).mono ?_; rintro e w5 ⟨rfl, hb5⟩); exact hK _ _ (by rw [root_pair, HD.out]; rfl) hb5)
        | (show wpList _ _ _ [⟨some 44, .call _, _, _, _, _⟩] _ _; go_wp2_with (go_at_call 19; refine (node_any A B wr (HG5.out.below hb)).mono ?_; rintro e w5 ⟨rfl, hb5⟩); exact hK _ _ (by rw [HD.out]; rfl) hb5)
        | (show wpList _ _ _ [⟨some 48, .call _, _, _, _, _⟩] _ _; go_wp2_with (go_at_call 28; refine (trees_any wr _ _ [A, B] (St.keep H5F.out hb) (by simp)).mono ?_; rintro e w6 ⟨⟨v6, rfl, hv6⟩, hb6⟩); exact hK _ _ (by rw [trees_pair, ← HD.out] at hv6; exact hv6) hb6)
        | (show wpList _ _ _ [⟨some 49, .call _, _, _, _, _⟩] _ _; obtain ⟨a9, c9, e9, _⟩ := Hs.form (show Hs wr (x 34) [D] by simp only [hd]); simp only [e9] at hK ⊢; go_wp2_with fail; exact hK _ _ rfl (Below.refl _ _))
        | (go_wp2_with fail; exact hK _ _ rfl (Below.refl _ _)))
    trivial
  case mfin =>
    intro x wr hb hR
    have x37 := hR 37 (by decide)
    simp only [List.getD_cons_zero, List.getD_cons_succ] at x37
    have hw6 := hw5.trans (hb.mono hw5.size)
    clear hR hb hne hss
    simp only [List.drop_succ_cons, List.drop_zero]
    generalize List.toArray _ = L0
    simp only [List.take_succ_cons, List.take_zero, List.map_cons, List.map_nil, fill, Act.put, List.setIfInBounds_toArray, List.set_cons_succ, List.set_cons_zero, x37]
    clear x37
    go_wp2_with fail
    go_ret
    exact ⟨rfl, hw6⟩
end Go.Proofs.YtkfplliipogagaaDoor
