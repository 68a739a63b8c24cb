/- The walk of layer 7's alive: true. Condition: the package's tables read as they are laid. -/
import Derived.Test.YthgkaegkkkghhaaDoorPathsW
import Derived.Test.YthgkaegkkkghhaaDoorShaW
import Derived.Test.YthgkaegkkkghhaaDoorPathW
import Derived.Test.YthgkaegkkkghhaaDoorClashW
namespace Go.Proofs.YthgkaegkkkghhaaDoor
open Go.RowKit

def exHex : List UInt8 := [98, 49, 51, 55, 57, 56, 53, 102, 102, 52, 56, 52, 102, 98, 54, 48, 48, 100, 98, 57, 51, 49, 48, 55, 99, 55, 55, 98, 48, 51, 54, 53, 99, 56, 48, 100, 55, 56, 102, 53, 98, 52, 50, 57, 100, 101, 100, 48, 102, 100, 57, 55, 51, 54, 49, 100, 48, 55, 55, 57, 57, 57, 101, 98]
theorem ex_hex : hexP (ndH (lfH [97]) (lfH [98])).b = exHex := by decide +kernel
theorem ex_leaves : clashB [97] [98] = false := by decide +kernel
theorem clash_self (t : List UInt8) : clashB t t = false := by simp [clashB]
theorem firstB_none_of {l : List (List UInt8 × List UInt8)} (h : ∀ p ∈ l, clashB p.1 p.2 = false) : firstB l = none := by
  induction l with
  | nil => rfl
  | cons p l ih =>
    obtain ⟨x, y⟩ := p
    rw [firstB, h (x, y) (by simp)]
    exact ih fun p hp => h p (by simp [hp])
theorem zip_self_mem {α : Type} {l : List α} {p : α × α} (h : p ∈ l.zip l) : p.1 = p.2 := by
  obtain ⟨i, hi⟩ := List.mem_iff_getElem?.1 h
  obtain ⟨x, y⟩ := p
  obtain ⟨h1, h2⟩ := List.getElem?_zip_eq_some.1 hi
  exact Option.some.inj (h1.symm.trans h2)
theorem pathsB_self (leaf : List UInt8) (i n : Int) (P : List H) : pathsB leaf leaf i n P P = none := by
  unfold pathsB
  split
  · refine firstB_none_of fun p hp => ?_
    unfold pairsB at hp
    rw [zip_self_mem hp]
    exact clash_self _
  · rfl
theorem extR_get {e : Ending} {w : World} (h : ExtR none e w) : ∃ e1 e2 e3 e4, e = .returned (.tuple #[.slice e1 0 e2, .slice e3 0 e4, .bool false]) := by
  obtain ⟨v1, v2, rfl, h1, h2⟩ := h
  obtain ⟨e1, e2, rfl, _⟩ := h1.form
  obtain ⟨e3, e4, rfl, _⟩ := h2.form
  exact ⟨e1, e2, e3, e4, rfl⟩
theorem extractB_self (a : List (List UInt8)) : extractB a a = none := if_pos (.inr (.inl rfl))
theorem path_pair (A B : H) : pathN ndH e0H [A, B] 0 = [B] := by
  have hs : splitN [A, B].length = 1 := splitN_unique 2 0 (by decide) (by decide)
  rw [pathN_left _ _ (by simp) (by rw [hs]; decide), hs]
  rw [show [A, B].take 1 = [A] from rfl, show [A, B].drop 1 = [B] from rfl, pathN_low [A] 0 (by simp), rootN_one]
  rfl
theorem root_ab (x y : List UInt8) : rootB [x, y] = ndH (lfH x) (lfH y) := by
  unfold rootB
  exact root_pair _ _
set_option maxRecDepth 100000 in
set_option maxHeartbeats 8000000 in
theorem alive7_any (w : World) (hg : Glob w) :
    Calls Tryd.prog 9 #[] w fun e w' => e = .returned (.bool true) ∧ Below w.heap.size w w' := by
  have HG := Lib.hid hg
  clear hg
  have kc := fun (w : World) (C : Array Value) (n c : Nat) => Lib.run_convert_bytes_const (P := Tryd.prog) w 23 5 C n c Tryd.underlying23 Tryd.underlying5
  have kd := fun (w : World) (A : Obj) (C : Array Value) (n c : Nat) => convert_const1 (P := Tryd.prog) w A 23 5 C n c Tryd.underlying23 Tryd.underlying5
  go_enter Tryd.func9, Tryd.ntmps9
  go_wp2_with fail
  obtain ⟨W, hW⟩ : ∃ W, W = ((w.alloc (.cells (bytesV [97]).toArray 5 (1, 2))).alloc (.cells (bytesV [98]).toArray 5 (1, 2))).alloc (.cells [Value.slice (some ⟨w.heap.size, 0, none⟩) 1 1, Value.slice (some ⟨w.heap.size + 1, 0, none⟩) 1 1].toArray 23) := ⟨_, rfl⟩
  have hbW : Below w.heap.size w W := by rw [hW]; (repeat (first | with_reducible assumption | with_reducible exact Below.refl _ _ | ((with_reducible refine Below.setCell ?_ ?_ _); rotate_left; focus (first | omega | (simp; done) | (simp; omega))) | ((with_reducible refine Below.alloc ?_ ?_ _); rotate_left; focus (first | omega | (simp; done) | (simp; omega))) | ((with_reducible refine below_setRow ?_ ?_ _); rotate_left; focus (first | omega | (simp; done) | (simp; omega))) | (with_reducible refine below_drewN ?_ _) | (with_reducible refine Below.drew ?_)))
  have hT : Texts ((w.alloc (.cells (bytesV [97]).toArray 5 (1, 2))).alloc (.cells (bytesV [98]).toArray 5 (1, 2))) [.slice (some ⟨w.heap.size, 0, none⟩) 1 1, .slice (some ⟨w.heap.size + 1, 0, none⟩) 1 1] [[97], [98]] :=
    .cons ((bytes_alloc w [97] _ _ rfl).below ((Below.refl _ _).alloc (Nat.le_refl _) _)) (.cons (bytes_alloc (w.alloc (.cells (bytesV [97]).toArray 5 (1, 2))) [98] _ _ (by simp)) .nil)
  have hP : Parts W (.slice (some ⟨w.heap.size + 1 + 1, 0, none⟩) 2 2) [[97], [98]] [.slice (some ⟨w.heap.size, 0, none⟩) 1 1, .slice (some ⟨w.heap.size + 1, 0, none⟩) 1 1] := by
    have := hT.parts 23 (n := 2) rfl
    rw [hW]
    simpa using this
  have hL : Blk W (w.heap.size + 1 + 1) [.slice (some ⟨w.heap.size, 0, none⟩) 1 1, .slice (some ⟨w.heap.size + 1, 0, none⟩) 1 1] 23 := by rw [hW]; exact Blk.newL2 w _ _ _ _
  refine calls_at hW ?_
  obtain ⟨b0, hb0⟩ : ∃ b0, b0 = w.heap.size := ⟨_, rfl⟩
  obtain ⟨b1, hb1⟩ : ∃ b1, b1 = w.heap.size + 1 := ⟨_, rfl⟩
  obtain ⟨ab, hab⟩ : ∃ ab, ab = w.heap.size + 1 + 1 := ⟨_, rfl⟩
  rw [← hab, ← hb1] at hP hL ⊢
  rw [← hb0] at hP hL
  rw [← hb0]
  have HX0 := Lib.hid (hP.each 0 _ _ rfl rfl)
  have HX1 := Lib.hid (hP.each 1 _ _ rfl rfl)
  have HP := Lib.hid hP
  have HL := Lib.hid hL
  have HGW := Lib.hid (HG.out.below hbW)
  clear hW hT hP hL hb0 hb1 hab kc kd HG
  refine (extract_any _ _ [[97], [98]] [[97], [98]] _ _ W HP.out HP.out (by simp) (by simp) (by simp) (by simp) HGW.out).mono ?_
  rintro e w2 ⟨h2, hb2⟩
  rw [extractB_self] at h2
  obtain ⟨e1, e2, e3, e4, rfl⟩ := extR_get h2
  have hw2 := hbW.trans (hb2.mono hbW.size)
  have hs2 := hb2.size
  have HY0 := Lib.hid (HX0.out.below hb2)
  have HY1 := Lib.hid (HX1.out.below hb2)
  have HP2 := Lib.hid (HP.out.below hb2)
  have HL2 := Lib.hid (HL.out.below hb2 HL.out.lt)
  have HG2 := Lib.hid (HGW.out.below hb2)
  have lL2 := HL2.out.lt
  clear h2 hb2 HX0 HX1 HP HL HGW
  obtain ⟨A, hA⟩ : ∃ A, A = lfH [97] := ⟨_, rfl⟩
  obtain ⟨B, hB⟩ : ∃ B, B = lfH [98] := ⟨_, rfl⟩
  obtain ⟨R, hR⟩ : ∃ R, R = ndH A B := ⟨_, rfl⟩
  have hrt : rootB [[97], [98]] = R := by rw [root_ab, ← hA, ← hB, hR]
  have hhx : hexP R.b = exHex := by rw [hR, hA, hB]; exact ex_hex
  have HA := Lib.hid hA
  have HB := Lib.hid hB
  have HR := Lib.hid hR
  have HRT := Lib.hid hrt
  have HHX := Lib.hid hhx
  have heq := fun w => is_hash w R
  clear hA hB hR hrt hhx
  go_wp2_with fail
  refine wp_region_mono 15 (w2.heap.size) [(fun v _ => v = .slice (some ⟨ab, 0, none⟩) 2 2), (fun v _ => v = .pointer (some ⟨ab, 0, none⟩)), (fun v _ => v = .slice (some ⟨b0, 0, none⟩) 1 1), (fun v _ => v = .agg (bytesV A.b).toArray), (fun v _ => v = .slice (some ⟨ab, 0, none⟩) 2 2), (fun v _ => v = .pointer (some ⟨ab, 1, none⟩)), (fun v _ => v = .slice (some ⟨b1, 0, none⟩) 1 1), (fun v _ => v = .agg (bytesV B.b).toArray), (fun v w => Hs w v [A, B]), (fun v w => ∃ v', v = .tuple #[v', .bool true] ∧ Hs w v' [B]), (fun v w => ∃ v', v = .tuple #[v', .bool true] ∧ Hs w v' [B]), (fun v w => Hs w v [B]), (fun v _ => v = .bool true), (fun v w => Hs w v [B]), (fun v _ => v = .bool true)] (by kernel_rfl) (by kernel_rfl) (Nat.le_refl _) ?mkept _ rfl ?mops ?mfin
  case mkept =>
    repeat (refine List.forall_mem_cons.2 ⟨by first | exact fun _ _ _ _ h => h | exact fun _ _ _ hb ⟨v', e, h⟩ => ⟨v', e, Hs.below h hb⟩ | exact fun _ _ _ hb h => Parts.below h hb | exact fun _ _ _ hb h => IsSl.below h hb, ?_⟩)
    exact fun _ h => by cases h
  case mops =>
    simp only [List.take_succ_cons, List.take_zero, monoAll, List.getD_cons_zero, List.getD_cons_succ]
    iterate 15
    
     (refine ⟨fun x wr hb hd Qg hK => ?_, ?_⟩
      · as_aux_lemma =>
        simp only [fill, Act.put, List.setIfInBounds_toArray, List.set_cons_succ, List.set_cons_zero, needs, Region.binds, List.filter_cons, List.filter_nil, List.map_cons, List.map_nil, if_true, List.mem_cons, List.not_mem_nil, or_false, forall_eq_or_imp, forall_eq, List.getD_cons_zero, List.getD_cons_succ, false_implies, implies_true] at hd hK ⊢
        (try simp only [hd] at hK ⊢)
        first
        | (show wpList _ _ _ [⟨some 25, .load _ _, _, _, _, _⟩] _ _; have c0 := (HL2.out.below hb lL2).cell (i := 0) rfl; go_wp2_with fail; exact hK _ _ rfl (Below.refl _ _))
        | (show wpList _ _ _ [⟨some 29, .load _ _, _, _, _, _⟩] _ _; have c0 := (HL2.out.below hb lL2).cell (i := 1) rfl; go_wp2_with fail; exact hK _ _ rfl (Below.refl _ _))
        | (show wpList _ _ _ [⟨some 26, .call _, _, _, _, _⟩] _ _; go_wp2_with (go_at_call 21; refine (leaf_any _ [97] wr (HY0.out.below hb) (by decide) (HG2.out.below hb)).mono ?_; rintro e w5 ⟨rfl, hb5⟩); exact hK _ _ (by rw [HA.out]; rfl) hb5)
        | (show wpList _ _ _ [⟨some 30, .call _, _, _, _, _⟩] _ _; go_wp2_with (go_at_call 21; refine (leaf_any _ [98] wr (HY1.out.below hb) (by decide) (HG2.out.below hb)).mono ?_; rintro e w5 ⟨rfl, hb5⟩); exact hK _ _ (by rw [HB.out]; rfl) hb5)
        | (refine wpList_hashesIf rfl [A, B] 2 _ rfl rfl (by decide) (by decide) (by simp only [List.map_toArray, List.map_cons, List.map_nil]; rfl) ?_; exact hK _ _ (hs_new wr [A, B] _ rfl rfl) ((Below.refl _ _).alloc (Nat.le_refl _) _))
        | (show wpList _ _ _ [⟨some 32, .call _, _, _, _, _⟩] _ _; go_wp2_with (go_at_call 22; refine (path_any 2 (x 8) [A, B] 0 wr rfl (by decide) (by simp only [hd]) (HG2.out.below hb) (by decide)).mono ?_; rintro e w5 ⟨⟨v5, rfl, hv5⟩, hb5⟩); exact hK _ _ ⟨_, rfl, by rw [path_pair] at hv5; exact hv5.hs⟩ hb5)
        | (show wpList _ _ _ [⟨some 22, .move _, _, _, _, _⟩] _ _; go_wp2_with fail; exact hK _ _ (by simp only [hd]) (Below.refl _ _))
        | (show wpList _ _ _ [⟨some 33, .extract _ _, _, _, _, _⟩] _ _; have hd' : ∃ v', x 10 = .tuple #[v', .bool true] ∧ Hs wr v' [B] := (by first | exact hd | exact hd.1); obtain ⟨v', e1, h1⟩ := hd'; simp only [e1] at hK ⊢; go_wp2_with fail; exact hK _ _ h1 (Below.refl _ _))
        | (show wpList _ _ _ [⟨some 34, .extract _ _, _, _, _, _⟩] _ _; have hd' : ∃ v', x 10 = .tuple #[v', .bool true] ∧ Hs wr v' [B] := (by first | exact hd | exact hd.1); obtain ⟨v', e1, h1⟩ := hd'; simp only [e1] at hK ⊢; go_wp2_with fail; exact hK _ _ rfl (Below.refl _ _))
        | (show wpList _ _ _ [⟨some 5, .assign _, _, _, _, _⟩] _ _; go_wp2_with fail; exact hK _ _ (by simp only [hd]) (Below.refl _ _))
        | (go_wp2_with fail; exact hK _ _ rfl (Below.refl _ _)))
    trivial
  case mfin =>
    intro z w3 hb3 hR3
    have y13 := hR3 13 (by decide)
    have y14 := hR3 14 (by decide)
    simp only [List.getD_cons_zero, List.getD_cons_succ] at y13 y14
    obtain ⟨pa, pc, ep, _⟩ := Hs.form (show Hs w3 (z 13) [B] from y13)
    rw [show [B].length = 1 from rfl] at ep
    rw [ep] at y13
    have hw3 := hw2.trans (hb3.mono hw2.size)
    have hs3 := hb3.size
    have HZ0 := Lib.hid (HY0.out.below hb3)
    have HZ1 := Lib.hid (HY1.out.below hb3)
    have HP3 := Lib.hid (HP2.out.below hb3)
    have HL3 := Lib.hid (HL2.out.below hb3 lL2)
    have HG3 := Lib.hid (HG2.out.below hb3)
    have lL3 := HL3.out.lt
    have HPP := Lib.hid (show Hs w3 (.slice pa 1 pc) [B] from y13)
    clear hR3 hb3 y13 HY0 HY1 HP2 HL2 HG2
    simp only [List.drop_succ_cons, List.drop_zero]
    generalize List.toArray _ = L0
    simp only [List.take_succ_cons, List.take_zero, List.map_cons, List.map_nil, fill, Act.put, List.setIfInBounds_toArray, List.set_cons_succ, List.set_cons_zero, ep, y14]
    clear ep y14
    go_wp2_with fail
    refine wp_region_mono 16 (w3.heap.size) [(fun v _ => v = .slice (some ⟨ab, 0, none⟩) 2 2), (fun v _ => v = .pointer (some ⟨ab, 0, none⟩)), (fun v _ => v = .slice (some ⟨b0, 0, none⟩) 1 1), (fun v _ => v = .slice (some ⟨ab, 0, none⟩) 2 2), (fun v _ => v = .pointer (some ⟨ab, 0, none⟩)), (fun v _ => v = .slice (some ⟨b0, 0, none⟩) 1 1), (fun v _ => v = .slice pa 1 pc), (fun v _ => v = .slice pa 1 pc), (fun v _ => ∃ v1 v2, v = .tuple #[v1, v2, .bool false]), (fun v _ => ∃ v1 v2, v = .tuple #[v1, v2, .bool false]), (fun _ _ => True), (fun _ _ => True), (fun v _ => v = .bool false), (fun _ _ => True), (fun _ _ => True), (fun v _ => v = .bool false)] (by kernel_rfl) (by kernel_rfl) (Nat.le_refl _) ?mkept _ rfl ?mops ?mfin
    case mkept =>
      repeat (refine List.forall_mem_cons.2 ⟨by first | exact fun _ _ _ _ h => h | exact fun _ _ _ _ _ => trivial | exact fun _ _ _ hb h => Parts.below h hb | exact fun _ _ _ hb h => IsSl.below h hb, ?_⟩)
      exact fun _ h => by cases h
    case mops =>
      simp only [List.take_succ_cons, List.take_zero, monoAll, List.getD_cons_zero, List.getD_cons_succ]
      iterate 16
      
       (refine ⟨fun x wr hb hd Qg hK => ?_, ?_⟩
        · as_aux_lemma =>
          simp only [fill, Act.put, List.setIfInBounds_toArray, List.set_cons_succ, List.set_cons_zero, needs, Region.binds, List.filter_cons, List.filter_nil, List.map_cons, List.map_nil, if_true, List.mem_cons, List.not_mem_nil, or_false, forall_eq_or_imp, forall_eq, List.getD_cons_zero, List.getD_cons_succ, false_implies, implies_true] at hd hK ⊢
          (try simp only [hd] at hK ⊢)
          first
          | (show wpList _ _ _ [⟨some 38, .load _ _, _, _, _, _⟩] _ _; have c0 := (HL3.out.below hb lL3).cell (i := 0) rfl; go_wp2_with fail; exact hK _ _ rfl (Below.refl _ _))
          | (show wpList _ _ _ [⟨some 41, .load _ _, _, _, _, _⟩] _ _; have c0 := (HL3.out.below hb lL3).cell (i := 0) rfl; go_wp2_with fail; exact hK _ _ rfl (Below.refl _ _))
          | (show wpList _ _ _ [⟨some 44, .call _, _, _, _, _⟩] _ _; go_wp2_with (go_at_call 18; refine (paths_any _ _ [97] [97] 0 2 _ _ [B] [B] wr (HZ0.out.below hb) (HZ0.out.below hb) (by decide) (by decide) (HPP.out.below hb) (HPP.out.below hb) (by simp) (by simp) (HG3.out.below hb)).mono ?_; rintro e w5 ⟨h5, hb5⟩; rw [pathsB_self] at h5; obtain ⟨f1, f2, f3, f4, rfl⟩ := extR_get h5); exact hK _ _ ⟨_, _, rfl⟩ hb5)
          | (show wpList _ _ _ [⟨some 35, .move _, _, _, _, _⟩] _ _; go_wp2_with fail; exact hK _ _ (by simp only [hd]) (Below.refl _ _))
          | (show wpList _ _ _ [⟨some 45, .extract _ _, _, _, _, _⟩] _ _; have hd' : ∃ v1 v2, x 9 = .tuple #[v1, v2, .bool false] := (by first | exact hd | exact hd.1); obtain ⟨v1, v2, e1⟩ := hd'; simp only [e1] at hK ⊢; go_wp2_with fail; exact hK _ _ trivial (Below.refl _ _))
          | (show wpList _ _ _ [⟨some 46, .extract _ _, _, _, _, _⟩] _ _; have hd' : ∃ v1 v2, x 9 = .tuple #[v1, v2, .bool false] := (by first | exact hd | exact hd.1); obtain ⟨v1, v2, e1⟩ := hd'; simp only [e1] at hK ⊢; go_wp2_with fail; exact hK _ _ trivial (Below.refl _ _))
          | (show wpList _ _ _ [⟨some 47, .extract _ _, _, _, _, _⟩] _ _; have hd' : ∃ v1 v2, x 9 = .tuple #[v1, v2, .bool false] := (by first | exact hd | exact hd.1); obtain ⟨v1, v2, e1⟩ := hd'; simp only [e1] at hK ⊢; go_wp2_with fail; exact hK _ _ rfl (Below.refl _ _))
          | (show wpList _ _ _ [⟨some 7, .assign _, _, _, _, _⟩] _ _; go_wp2_with fail; exact hK _ _ trivial (Below.refl _ _))
          | (show wpList _ _ _ [⟨some 8, .assign _, _, _, _, _⟩] _ _; go_wp2_with fail; exact hK _ _ trivial (Below.refl _ _))
          | (go_wp2_with fail; exact hK _ _ rfl (Below.refl _ _)))
      trivial
    case mfin =>
      intro z w4 hb4 hR4
      have y15 := hR4 15 (by decide)
      simp only [List.getD_cons_zero, List.getD_cons_succ] at y15
      have hw4 := hw3.trans (hb4.mono hw3.size)
      have hs4 := hb4.size
      have HU0 := Lib.hid (HZ0.out.below hb4)
      have HU1 := Lib.hid (HZ1.out.below hb4)
      have HP4 := Lib.hid (HP3.out.below hb4)
      have HL4 := Lib.hid (HL3.out.below hb4 lL3)
      have HG4 := Lib.hid (HG3.out.below hb4)
      have lL4 := HL4.out.lt
      clear hR4 hb4 HZ0 HZ1 HP3 HL3 HG3 HPP
      simp only [List.drop_succ_cons, List.drop_zero]
      generalize List.toArray _ = L0
      simp only [List.take_succ_cons, List.take_zero, List.map_cons, List.map_nil, fill, Act.put, List.setIfInBounds_toArray, List.set_cons_succ, List.set_cons_zero, y15]
      clear y15
      go_wp2_with fail
      refine wp_region_mono 54 (w4.heap.size) [(fun v _ => v = .slice (some ⟨ab, 0, none⟩) 2 2), (fun v _ => v = .agg (bytesV R.b).toArray), (fun v _ => v = .string ⟨exHex.toArray⟩), (fun v _ => v = .bool true), (fun v _ => v = .bool true), (fun v _ => v = .bool false), (fun v _ => v = .bool true), (fun v _ => v = .bool true), (fun v _ => v = .bool true), (fun v _ => v = .bool false), (fun v _ => v = .bool true), (fun v _ => v = .bool true), (fun v _ => v = .bool true), (fun v _ => v = .slice e1 0 e2), (fun v _ => v = .int .i64 0), (fun v _ => v = .slice e3 0 e4), (fun v _ => v = .int .i64 0), (fun v _ => v = .int .i64 0), (fun v _ => v = .bool true), (fun v _ => v = .bool true), (fun v _ => v = .bool true), (fun v _ => v = .slice (some ⟨ab, 0, none⟩) 2 2), (fun v _ => v = .agg (bytesV R.b).toArray), (fun v _ => v = .slice (some ⟨ab, 0, none⟩) 2 2), (fun v _ => v = .pointer (some ⟨ab, 0, none⟩)), (fun v _ => v = .slice (some ⟨b0, 0, none⟩) 1 1), (fun v _ => v = .agg (bytesV A.b).toArray), (fun v _ => v = .slice (some ⟨ab, 0, none⟩) 2 2), (fun v _ => v = .pointer (some ⟨ab, 1, none⟩)), (fun v _ => v = .slice (some ⟨b1, 0, none⟩) 1 1), (fun v _ => v = .agg (bytesV B.b).toArray), (fun v _ => v = .agg (bytesV R.b).toArray), (fun v _ => v = .bool true), (fun v _ => v = .bool true), (fun v _ => v = .bool true), (fun v _ => v = .slice (some ⟨ab, 0, none⟩) 2 2), (fun v _ => v = .pointer (some ⟨ab, 0, none⟩)), (fun v _ => v = .slice (some ⟨b0, 0, none⟩) 1 1), (fun v _ => v = .slice (some ⟨ab, 0, none⟩) 2 2), (fun v _ => v = .pointer (some ⟨ab, 1, none⟩)), (fun v _ => v = .slice (some ⟨b1, 0, none⟩) 1 1), (fun v _ => v = .bool false), (fun v _ => v = .bool true), (fun v _ => v = .bool true), (fun v _ => v = .bool true), (fun v _ => v = .slice (some ⟨ab, 0, none⟩) 2 2), (fun v _ => v = .pointer (some ⟨ab, 0, none⟩)), (fun v _ => v = .slice (some ⟨b0, 0, none⟩) 1 1), (fun v _ => v = .slice (some ⟨ab, 0, none⟩) 2 2), (fun v _ => v = .pointer (some ⟨ab, 0, none⟩)), (fun v _ => v = .slice (some ⟨b0, 0, none⟩) 1 1), (fun v _ => v = .bool false), (fun v _ => v = .bool true), (fun v _ => v = .bool true)] (by kernel_rfl) (by kernel_rfl) (Nat.le_refl _) ?mkept _ rfl ?mops ?mfin
      case mkept =>
        repeat (refine List.forall_mem_cons.2 ⟨by first | exact fun _ _ _ _ h => h | exact fun _ _ _ hb h => Parts.below h hb | exact fun _ _ _ hb h => IsSl.below h hb, ?_⟩)
        exact fun _ h => by cases h
      case mops =>
        simp only [List.take_succ_cons, List.take_zero, monoAll, List.getD_cons_zero, List.getD_cons_succ]
        iterate 54
        
         (refine ⟨fun x wr hb hd Qg hK => ?_, ?_⟩
          · as_aux_lemma =>
            simp only [fill, Act.put, List.setIfInBounds_toArray, List.set_cons_succ, List.set_cons_zero, needs, Region.binds, List.filter_cons, List.filter_nil, List.map_cons, List.map_nil, if_true, List.mem_cons, List.not_mem_nil, or_false, forall_eq_or_imp, forall_eq, List.getD_cons_zero, List.getD_cons_succ, false_implies, implies_true] at hd hK ⊢
            (try simp only [hd] at hK ⊢)
            first
            | (show wpList _ _ _ [⟨some 73, .load _ _, _, _, _, _⟩] _ _; have c0 := (HL4.out.below hb lL4).cell (i := 0) rfl; go_wp2_with fail; exact hK _ _ rfl (Below.refl _ _))
            | (show wpList _ _ _ [⟨some 77, .load _ _, _, _, _, _⟩] _ _; have c0 := (HL4.out.below hb lL4).cell (i := 1) rfl; go_wp2_with fail; exact hK _ _ rfl (Below.refl _ _))
            | (show wpList _ _ _ [⟨some 85, .load _ _, _, _, _, _⟩] _ _; have c0 := (HL4.out.below hb lL4).cell (i := 0) rfl; go_wp2_with fail; exact hK _ _ rfl (Below.refl _ _))
            | (show wpList _ _ _ [⟨some 88, .load _ _, _, _, _, _⟩] _ _; have c0 := (HL4.out.below hb lL4).cell (i := 1) rfl; go_wp2_with fail; exact hK _ _ rfl (Below.refl _ _))
            | (show wpList _ _ _ [⟨some 95, .load _ _, _, _, _, _⟩] _ _; have c0 := (HL4.out.below hb lL4).cell (i := 0) rfl; go_wp2_with fail; exact hK _ _ rfl (Below.refl _ _))
            | (show wpList _ _ _ [⟨some 98, .load _ _, _, _, _, _⟩] _ _; have c0 := (HL4.out.below hb lL4).cell (i := 0) rfl; go_wp2_with fail; exact hK _ _ rfl (Below.refl _ _))
            | (show wpList _ _ _ [⟨some 49, .call _, _, _, _, _⟩] _ _; go_wp2_with (go_at_call 14; refine (roots_any _ [[97], [98]] _ wr (HP4.out.below hb) (by simp) (by simp) (HG4.out.below hb)).mono ?_; rintro e w5 ⟨rfl, hb5⟩); exact hK _ _ (by rw [HRT.out]; rfl) hb5)
            | (show wpList _ _ _ [⟨some 70, .call _, _, _, _, _⟩] _ _; go_wp2_with (go_at_call 14; refine (roots_any _ [[97], [98]] _ wr (HP4.out.below hb) (by simp) (by simp) (HG4.out.below hb)).mono ?_; rintro e w5 ⟨rfl, hb5⟩); exact hK _ _ (by rw [HRT.out]; rfl) hb5)
            | (show wpList _ _ _ [⟨some 50, .call _, _, _, _, _⟩] _ _; go_wp2_with (go_at_call 25; refine (hex_any R.b R.len wr (HG4.out.below hb)).mono ?_; rintro e w5 ⟨rfl, hb5⟩); exact hK _ _ (by rw [HHX.out]) hb5)
            | (show wpList _ _ _ [⟨some 74, .call _, _, _, _, _⟩] _ _; go_wp2_with (go_at_call 21; refine (leaf_any _ [97] wr (HU0.out.below hb) (by decide) (HG4.out.below hb)).mono ?_; rintro e w5 ⟨rfl, hb5⟩); exact hK _ _ (by rw [HA.out]; rfl) hb5)
            | (show wpList _ _ _ [⟨some 78, .call _, _, _, _, _⟩] _ _; go_wp2_with (go_at_call 21; refine (leaf_any _ [98] wr (HU1.out.below hb) (by decide) (HG4.out.below hb)).mono ?_; rintro e w5 ⟨rfl, hb5⟩); exact hK _ _ (by rw [HB.out]; rfl) hb5)
            | (show wpList _ _ _ [⟨some 79, .call _, _, _, _, _⟩] _ _; go_wp2_with (go_at_call 26; refine (node_any A B wr (HG4.out.below hb)).mono ?_; rintro e w5 ⟨rfl, hb5⟩); exact hK _ _ (by rw [HR.out]; rfl) hb5)
            | (show wpList _ _ _ [⟨some 89, .call _, _, _, _, _⟩] _ _; go_wp2_with (go_at_call 16; refine (cis_any _ _ [97] [98] wr (HU0.out.below hb) (HU1.out.below hb) (by decide) (by decide) (HG4.out.below hb)).mono ?_; rintro e w5 ⟨rfl, hb5⟩); exact hK _ _ (by rw [ex_leaves]) hb5)
            | (show wpList _ _ _ [⟨some 99, .call _, _, _, _, _⟩] _ _; go_wp2_with (go_at_call 16; refine (cis_any _ _ [97] [97] wr (HU0.out.below hb) (HU0.out.below hb) (by decide) (by decide) (HG4.out.below hb)).mono ?_; rintro e w5 ⟨rfl, hb5⟩); exact hK _ _ (by rw [clash_self]) hb5)
            | (go_wp2_with fail; exact hK _ _ rfl (Below.refl _ _)))
        trivial
      case mfin =>
        intro z w5 hb5 hR5
        have y53 := hR5 53 (by decide)
        simp only [List.getD_cons_zero, List.getD_cons_succ] at y53
        have hw5 := hw4.trans (hb5.mono hw4.size)
        clear hR5 hb5
        simp only [List.drop_succ_cons, List.drop_zero]
        generalize List.toArray _ = L0
        simp only [List.take_succ_cons, List.take_zero, List.map_cons, List.map_nil, fill, Act.put, List.setIfInBounds_toArray, List.set_cons_succ, List.set_cons_zero, y53]
        clear y53
        go_wp2_with fail
        go_ret
        exact ⟨rfl, hw5⟩
end Go.Proofs.YthgkaegkkkghhaaDoor
