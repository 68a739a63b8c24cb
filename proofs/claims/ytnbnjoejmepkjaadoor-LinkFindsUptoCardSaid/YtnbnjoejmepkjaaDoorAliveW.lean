/- The walk of layer 20's alive: true. Conditions: what each part says. -/
import Derived.Test.YtnbnjoejmepkjaaDoorLinkW
import Derived.Test.YtnbnjoejmepkjaaDoorClashW
/-! Alive20: The walk of layer 20's alive: true. Condition: the package's tables read as they are laid. -/
namespace Go.Proofs.YtnbnjoejmepkjaaDoor
open Go.RowKit

set_option maxRecDepth 100000 in
set_option maxHeartbeats 8000000 in
theorem alive20_any (w : World) (hg : Glob w) :
    Calls Tryd.prog 8 #[] w fun e w' => e = .returned (.bool true) ∧ Below w.heap.size w w' := by
  have HG := Lib.hid hg
  clear hg
  have kc := fun (w : World) (C : Array Value) (n c : Nat) => Lib.run_convert_bytes_const (P := Tryd.prog) w 26 5 C n c Tryd.underlying26 Tryd.underlying5
  have kd := fun (w : World) (A : Obj) (C : Array Value) (n c : Nat) => convert_const1 (P := Tryd.prog) w A 26 5 C n c Tryd.underlying26 Tryd.underlying5
  have ke := fun (w : World) (A B : Obj) (C : Array Value) (n c : Nat) => convert_const2 (P := Tryd.prog) w A B 26 5 C n c Tryd.underlying26 Tryd.underlying5
  go_enter Tryd.func8, Tryd.ntmps8
  go_wp2_with fail
  obtain ⟨W, hW⟩ : ∃ W, W = (((w.alloc (.cells #[.int .u8 97] 5 (1, 2))).alloc (.cells #[.int .u8 98] 5 (1, 2))).alloc (.cells #[.int .u8 99] 5 (1, 2))).alloc (.cells #[Value.slice (some ⟨w.heap.size, 0, none⟩) 1 1, Value.slice (some ⟨w.heap.size + 1, 0, none⟩) 1 1, Value.slice (some ⟨w.heap.size + 1 + 1, 0, none⟩) 1 1] 26) := ⟨_, rfl⟩
  have hbW : Below w.heap.size w W := by rw [hW]; (repeat (first | with_reducible assumption | with_reducible exact Below.refl _ _ | ((with_reducible refine Below.setCell ?_ ?_ _); rotate_left; focus (first | omega | (simp; done) | (simp; omega))) | ((with_reducible refine Below.alloc ?_ ?_ _); rotate_left; focus (first | omega | (simp; done) | (simp; omega))) | ((with_reducible refine below_setRow ?_ ?_ _); rotate_left; focus (first | omega | (simp; done) | (simp; omega))) | (with_reducible refine below_drewN ?_ _) | (with_reducible refine Below.drew ?_)))
  have hT : Texts (((w.alloc (.cells (bytesV [97]).toArray 5 (1, 2))).alloc (.cells (bytesV [98]).toArray 5 (1, 2))).alloc (.cells (bytesV [99]).toArray 5 (1, 2))) [.slice (some ⟨w.heap.size, 0, none⟩) 1 1, .slice (some ⟨w.heap.size + 1, 0, none⟩) 1 1, .slice (some ⟨w.heap.size + 1 + 1, 0, none⟩) 1 1] [[97], [98], [99]] :=
    .cons ((bytes_alloc w [97] _ _ rfl).below (((Below.refl _ _).alloc (Nat.le_refl _) _).alloc (by simp) _)) (.cons ((bytes_alloc (w.alloc (.cells (bytesV [97]).toArray 5 (1, 2))) [98] _ _ (by simp)).below ((Below.refl _ _).alloc (Nat.le_refl _) _)) (.cons (bytes_alloc ((w.alloc (.cells (bytesV [97]).toArray 5 (1, 2))).alloc (.cells (bytesV [98]).toArray 5 (1, 2))) [99] _ _ (by simp)) .nil))
  have hP : Parts W (.slice (some ⟨w.heap.size + 1 + 1 + 1, 0, none⟩) 3 3) [[97], [98], [99]] [.slice (some ⟨w.heap.size, 0, none⟩) 1 1, .slice (some ⟨w.heap.size + 1, 0, none⟩) 1 1, .slice (some ⟨w.heap.size + 1 + 1, 0, none⟩) 1 1] := by
    have h3 := hT.parts 26 (n := 3) rfl
    rw [hW]
    simpa [bytesV] using h3
  have hL : Blk W (w.heap.size + 1 + 1 + 1) [.slice (some ⟨w.heap.size, 0, none⟩) 1 1, .slice (some ⟨w.heap.size + 1, 0, none⟩) 1 1, .slice (some ⟨w.heap.size + 1 + 1, 0, none⟩) 1 1] 26 := by
    rw [hW]
    have := Blk.newL (((w.alloc (.cells #[.int .u8 97] 5 (1, 2))).alloc (.cells #[.int .u8 98] 5 (1, 2))).alloc (.cells #[.int .u8 99] 5 (1, 2))) [.slice (some ⟨w.heap.size, 0, none⟩) 1 1, .slice (some ⟨w.heap.size + 1, 0, none⟩) 1 1, .slice (some ⟨w.heap.size + 1 + 1, 0, none⟩) 1 1] 26
    simpa using this
  rw [← hW]
  obtain ⟨b0, hb0⟩ : ∃ b0, b0 = w.heap.size := ⟨_, rfl⟩
  obtain ⟨b1, hb1⟩ : ∃ b1, b1 = w.heap.size + 1 := ⟨_, rfl⟩
  obtain ⟨b2, hb2⟩ : ∃ b2, b2 = w.heap.size + 1 + 1 := ⟨_, rfl⟩
  obtain ⟨ab, hab⟩ : ∃ ab, ab = w.heap.size + 1 + 1 + 1 := ⟨_, rfl⟩
  rw [← hab, ← hb2, ← hb1] at hP hL ⊢
  rw [← hb0] at hP hL
  have HX0 := Lib.hid (hP.each 0 _ _ rfl rfl)
  have HX1 := Lib.hid (hP.each 1 _ _ rfl rfl)
  have HX2 := Lib.hid (hP.each 2 _ _ rfl rfl)
  have HP := Lib.hid hP
  have HL := Lib.hid hL
  have lL := hL.lt
  have HGW := Lib.hid (HG.out.below hbW)
  obtain ⟨A, hA⟩ : ∃ A, A = lfH [97] := ⟨_, rfl⟩
  obtain ⟨B, hB⟩ : ∃ B, B = lfH [98] := ⟨_, rfl⟩
  obtain ⟨C, hC⟩ : ∃ C, C = lfH [99] := ⟨_, rfl⟩
  have HA := Lib.hid hA
  have HB := Lib.hid hB
  have HC := Lib.hid hC
  have HL1 := Lib.hid (show linkB [[97], [98]] [[97], [98], [99]] [C] = true by rw [hC]; exact ex_link)
  have HL2 := Lib.hid (show linkB [[98], [99]] [[97], [98], [99]] [C] = false by rw [hC]; exact ex_no)
  clear hW hT hP hL hb0 hb1 hb2 hab kc kd ke HG hA hB hC
  go_wp2_with fail
  refine wp_region_mono 19 (W.heap.size) [(fun v _ => v = .slice (some ⟨ab, 0, none⟩) 3 3), (fun v _ => v = .pointer (some ⟨ab, 0, none⟩)), (fun v _ => v = .slice (some ⟨b0, 0, none⟩) 1 1), (fun v _ => v = .agg (bytesV A.b).toArray), (fun v _ => v = .slice (some ⟨ab, 0, none⟩) 3 3), (fun v _ => v = .pointer (some ⟨ab, 1, none⟩)), (fun v _ => v = .slice (some ⟨b1, 0, none⟩) 1 1), (fun v _ => v = .agg (bytesV B.b).toArray), (fun v _ => v = .slice (some ⟨ab, 0, none⟩) 3 3), (fun v _ => v = .pointer (some ⟨ab, 2, none⟩)), (fun v _ => v = .slice (some ⟨b2, 0, none⟩) 1 1), (fun v _ => v = .agg (bytesV C.b).toArray), (fun v w => Hs w v [A, B, C]), (fun v w => ∃ v', v = .tuple #[v', .bool true] ∧ Hs w v' [C]), (fun v w => ∃ v', v = .tuple #[v', .bool true] ∧ Hs w v' [C]), (fun v w => Hs w v [C]), (fun v _ => v = .bool true), (fun v w => Hs w v [C]), (fun v _ => v = .bool true)] (by kernel_rfl) (by kernel_rfl) (Nat.le_refl _) ?mkept _ rfl ?mops ?mfin
  case mkept =>
    repeat (refine List.forall_mem_cons.2 ⟨by first | exact fun _ _ _ _ h => h | exact fun _ _ _ hb ⟨v', e, h⟩ => ⟨v', e, Hs.below h hb⟩ | exact fun _ _ _ hb h => Parts.below h hb | exact fun _ _ _ hb h => IsSl.below h hb, ?_⟩)
    exact fun _ h => by cases h
  case mops =>
    simp only [List.take_succ_cons, List.take_zero, monoAll, List.getD_cons_zero, List.getD_cons_succ]
    iterate 19
    
     (refine ⟨fun x wr hb hd Qg hK => ?_, ?_⟩
      · as_aux_lemma =>
        simp only [fill, Act.put, List.setIfInBounds_toArray, List.set_cons_succ, List.set_cons_zero, needs, Region.binds, List.filter_cons, List.filter_nil, List.map_cons, List.map_nil, if_true, List.mem_cons, List.not_mem_nil, or_false, forall_eq_or_imp, forall_eq, List.getD_cons_zero, List.getD_cons_succ, false_implies, implies_true] at hd hK ⊢
        (try simp only [hd] at hK ⊢)
        first
        | (show wpList _ _ _ [⟨some 17, .load _ _, _, _, _, _⟩] _ _; have c0 := (HL.out.below hb lL).cell (i := 0) rfl; go_wp2_with fail; exact hK _ _ rfl (Below.refl _ _))
        | (show wpList _ _ _ [⟨some 21, .load _ _, _, _, _, _⟩] _ _; have c0 := (HL.out.below hb lL).cell (i := 1) rfl; go_wp2_with fail; exact hK _ _ rfl (Below.refl _ _))
        | (show wpList _ _ _ [⟨some 25, .load _ _, _, _, _, _⟩] _ _; have c0 := (HL.out.below hb lL).cell (i := 2) rfl; go_wp2_with fail; exact hK _ _ rfl (Below.refl _ _))
        | (show wpList _ _ _ [⟨some 18, .call _, _, _, _, _⟩] _ _; go_wp2_with (go_at_call 18; refine (leaf_any _ [97] wr (HX0.out.below hb) (by decide) (HGW.out.below hb)).mono ?_; rintro e w5 ⟨rfl, hb5⟩); exact hK _ _ (by rw [HA.out]; rfl) hb5)
        | (show wpList _ _ _ [⟨some 22, .call _, _, _, _, _⟩] _ _; go_wp2_with (go_at_call 18; refine (leaf_any _ [98] wr (HX1.out.below hb) (by decide) (HGW.out.below hb)).mono ?_; rintro e w5 ⟨rfl, hb5⟩); exact hK _ _ (by rw [HB.out]; rfl) hb5)
        | (show wpList _ _ _ [⟨some 26, .call _, _, _, _, _⟩] _ _; go_wp2_with (go_at_call 18; refine (leaf_any _ [99] wr (HX2.out.below hb) (by decide) (HGW.out.below hb)).mono ?_; rintro e w5 ⟨rfl, hb5⟩); exact hK _ _ (by rw [HC.out]; rfl) hb5)
        | (refine wpList_hashesIf rfl [A, B, C] 3 _ rfl rfl (by decide) (by decide) (by simp only [List.map_toArray, List.map_cons, List.map_nil]; rfl) ?_; exact hK _ _ (hs_new wr [A, B, C] _ rfl rfl) ((Below.refl _ _).alloc (Nat.le_refl _) _))
        | (show wpList _ _ _ [⟨some 28, .call _, _, _, _, _⟩] _ _; go_wp2_with (go_at_call 19; refine (prove_any (x 12) [A, B, C] 2 wr (by simp) (by simp only [hd]) (HGW.out.below hb) (by decide) (by simp)).mono ?_; rintro e w5 ⟨⟨v5, rfl, hv5⟩, hb5⟩); exact hK _ _ ⟨_, rfl, by rw [sub_three] at hv5; exact hv5.hs⟩ hb5)
        | (show wpList _ _ _ [⟨some 14, .move _, _, _, _, _⟩] _ _; go_wp2_with fail; exact hK _ _ (by simp only [hd]) (Below.refl _ _))
        | (show wpList _ _ _ [⟨some 29, .extract _ _, _, _, _, _⟩] _ _; have hd' : ∃ v', x 14 = .tuple #[v', .bool true] ∧ Hs wr v' [C] := (by first | exact hd | exact hd.1); obtain ⟨v', e1, h1⟩ := hd'; simp only [e1] at hK ⊢; go_wp2_with fail; exact hK _ _ h1 (Below.refl _ _))
        | (show wpList _ _ _ [⟨some 30, .extract _ _, _, _, _, _⟩] _ _; have hd' : ∃ v', x 14 = .tuple #[v', .bool true] ∧ Hs wr v' [C] := (by first | exact hd | exact hd.1); obtain ⟨v', e1, h1⟩ := hd'; simp only [e1] at hK ⊢; go_wp2_with fail; exact hK _ _ rfl (Below.refl _ _))
        | (show wpList _ _ _ [⟨some 2, .assign _, _, _, _, _⟩] _ _; go_wp2_with fail; exact hK _ _ (by simp only [hd]) (Below.refl _ _))
        | (go_wp2_with fail; exact hK _ _ rfl (Below.refl _ _)))
    trivial
  case mfin =>
    intro z w3 hb3 hR3
    have y17 := hR3 17 (by decide)
    have y18 := hR3 18 (by decide)
    simp only [List.getD_cons_zero, List.getD_cons_succ] at y17 y18
    obtain ⟨pa, pc, ep, _⟩ := Hs.form (show Hs w3 (z 17) [C] from y17)
    rw [show [C].length = 1 from rfl] at ep
    rw [ep] at y17
    have hw3 := hbW.trans (hb3.mono hbW.size)
    have HP3 := Lib.hid (HP.out.below hb3)
    have HG3 := Lib.hid (HGW.out.below hb3)
    have HPP := Lib.hid (show Hs w3 (.slice pa 1 pc) [C] from y17)
    obtain ⟨a1, d1, hs1, hp1⟩ := parts_head HP3.out 2 (by decide)
    obtain ⟨a2, d2, hs2, hp2⟩ := parts_tail HP3.out 1 (by decide)
    have g1 : ∀ w' : World, (Instr.slice 22 (.slice (some ⟨ab, 0, none⟩) 3 3) none (some (.int .i64 2)) none).run Tryd.prog w' = .ok (.slice a1 2 d1) w' := hs1
    have g2 : ∀ w' : World, (Instr.slice 22 (.slice (some ⟨ab, 0, none⟩) 3 3) (some (.int .i64 1)) none none).run Tryd.prog w' = .ok (.slice a2 2 d2) w' := hs2
    have HH := Lib.hid (show Parts w3 (.slice a1 2 d1) [[97], [98]] _ from hp1)
    have HT := Lib.hid (show Parts w3 (.slice a2 2 d2) [[98], [99]] _ from hp2)
    clear hR3 hb3 y17 hs1 hs2 hp1 hp2 HP HL HGW
    simp only [List.drop_succ_cons, List.drop_zero]
    generalize List.toArray _ = L0
    simp only [List.take_succ_cons, List.take_zero, List.map_cons, List.map_nil, fill, Act.put, List.setIfInBounds_toArray, List.set_cons_succ, List.set_cons_zero, ep, y18]
    clear ep y18
    go_wp2_with (first
      | (go_at_call 10; refine (lfind_none _ _ _ [[97], [98]] [[97], [98], [99]] _ _ [C] w3 HH.out HP3.out HPP.out (by decide) (by decide) (by simp) (by simp) (by simp) HG3.out (.inr ex_begins)).mono ?_; rintro e w4 ⟨rfl, hb4⟩; have hw4 := hw3.trans (hb4.mono hw3.size); have HH4 := Lib.hid (HH.out.below hb4); have HT4 := Lib.hid (HT.out.below hb4); have HP4 := Lib.hid (HP3.out.below hb4); have HPP4 := Lib.hid (HPP.out.below hb4); have HG4 := Lib.hid (HG3.out.below hb4); clear hb4)
      | (go_at_call 13; have HX := HH4; clear HH4; refine (lis_any _ _ _ [[97], [98]] [[97], [98], [99]] _ _ [C] w4 HX.out HP4.out HPP4.out (by decide) (by decide) (by simp) (by simp) (by simp) HG4.out).mono ?_; rintro e w5 ⟨rfl, hb5⟩; rw [HL1.out]; have hw5 := hw4.trans (hb5.mono hw4.size); have HH5 := Lib.hid (HX.out.below hb5); have HT5 := Lib.hid (HT4.out.below hb5); have HP5 := Lib.hid (HP4.out.below hb5); have HPP5 := Lib.hid (HPP4.out.below hb5); have HG5 := Lib.hid (HG4.out.below hb5); clear hb5)
      | (go_at_call 15; have HX := HH5; clear HH5; refine (lbegins_any _ _ [[97], [98]] [[97], [98], [99]] _ _ w5 HX.out HP5.out (by decide)).mono ?_; rintro e w6 ⟨rfl, h6⟩; rw [h6, ex_begins]; clear h6 w6)
      | (go_at_call 13; refine (lis_any _ _ _ [[98], [99]] [[97], [98], [99]] _ _ [C] w5 HT5.out HP5.out HPP5.out (by decide) (by decide) (by simp) (by simp) (by simp) HG5.out).mono ?_; rintro e w7 ⟨rfl, hb7⟩; rw [HL2.out]; have hw7 := hw5.trans (hb7.mono hw5.size); have HH7 := Lib.hid (HX.out.below hb7); have HT7 := Lib.hid (HT5.out.below hb7); have HP7 := Lib.hid (HP5.out.below hb7); clear hb7)
      | (go_at_call 15; have HY := HT7; clear HT7; refine (lbegins_any _ _ [[98], [99]] [[97], [98], [99]] _ _ w7 HY.out HP7.out (by decide)).mono ?_; rintro e w8 ⟨rfl, h8⟩; rw [h8, ex_begins1]; clear h8 w8)
      | (go_at_call 15; refine (lbegins_any _ _ [[97], [98], [99]] [[97], [98]] _ _ w7 HP7.out HH7.out (by decide)).mono ?_; rintro e w9 ⟨rfl, h9⟩; rw [h9, ex_begins2]; clear h9 w9)
      | fail)
    go_ret
    exact ⟨rfl, hw7⟩
end Go.Proofs.YtnbnjoejmepkjaaDoor
