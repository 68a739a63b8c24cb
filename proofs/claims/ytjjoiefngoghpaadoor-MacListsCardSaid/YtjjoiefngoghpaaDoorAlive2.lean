/- The walk of law 2's alive: the document's example. Condition: the package's tables read as they are laid. -/
import Derived.Test.YtjjoiefngoghpaaDoorAliveX
import Derived.Test.YtjjoiefngoghpaaDoorMono
namespace Go.Proofs.YtjjoiefngoghpaaDoor
open Go.RowKit

set_option maxRecDepth 100000 in
set_option maxHeartbeats 2000000 in
theorem alive2_any (w : World) (hg : Glob w) :
    Calls Tryd.prog 25 #[] w fun e w' => e = .returned (.bool true) ∧ Below w.heap.size w w' := by
  have HG := Lib.hid hg
  clear hg
  have kc := fun (w : World) (C : Array Value) (n c : Nat) => Lib.run_convert_bytes_const (P := Tryd.prog) w 24 5 C n c Tryd.underlying24 Tryd.underlying5
  have kd := fun (w : World) (A : Obj) (C : Array Value) (n c : Nat) => convert_const1 (P := Tryd.prog) w A 24 5 C n c Tryd.underlying24 Tryd.underlying5
  have ke := fun (w : World) (A B : Obj) (C : Array Value) (n c : Nat) => convert_const2 (P := Tryd.prog) w A B 24 5 C n c Tryd.underlying24 Tryd.underlying5
  go_enter Tryd.func25, Tryd.ntmps25
  go_wp2_with fail
  refine (tag_any _ _ exKey [exA, exB] (exVs w) (exW4 w) (ex_laid w).1 (ex_laid w).2.1 (by decide) (by decide) (by decide) (HG.out.below (ex_laid w).2.2)).mono ?_
  rintro e w2 ⟨rfl, hb2⟩
  rw [show cat [exA, exB] = exA ++ exB from rfl, ex_tag]
  have hw2 := (ex_laid w).2.2.trans (hb2.mono (ex_laid w).2.2.size)
  have HG2 := Lib.hid (HG.out.below hw2)
  clear hb2 kc kd ke HG
  obtain ⟨T, hT⟩ : ∃ T, T = exTag := ⟨_, rfl⟩
  rw [← hT]
  have HT := Lib.hid hT
  have HTL := Lib.hid (show T.length = 32 by rw [hT]; rfl)
  clear hT
  go_wp2_with (first
    | (refine wpList_store_row rfl 31 (.tmp 1) (.tmp 9) rfl w2.heap.size (bytesV T).toArray rfl rfl 31 z32.toArray (by exact Blk.newL w2 z32 _) (by exact hash_info T HTL.out) (by simp [z32, bytesV, HTL.out]) (hash_one _) ?_)
    | fail)
  have hB3 : Blk ((w2.alloc (.cells z32.toArray 31)).setRow w2.heap.size (bytesV T).toArray) w2.heap.size (bytesV T) 31 := (Blk.newL w2 z32 _).setRow _
  have hW3 : Below w.heap.size w ((w2.alloc (.cells z32.toArray 31)).setRow w2.heap.size (bytesV T).toArray) := below_setRow (hw2.alloc hw2.size _) hw2.size _
  have HB3 := Lib.hid hB3
  have HW3 := Lib.hid hW3
  clear hB3 hW3
  have HG4 : ∀ wr : World, Below (w2.heap.size + 1) ((w2.alloc (.cells z32.toArray 31)).setRow w2.heap.size (bytesV T).toArray) wr → Glob wr := fun wr hb =>
    HG2.out.below ((below_setRow ((Below.refl _ _).alloc (Nat.le_refl _) _) (Nat.le_refl _) _).trans (hb.mono (Nat.le_succ _)))
  obtain ⟨D1, hD1⟩ : ∃ D1, D1 = tagN T (wordsN [1]) := ⟨_, rfl⟩
  obtain ⟨D2, hD2⟩ : ∃ D2, D2 = tagN T (wordsN [2]) := ⟨_, rfl⟩
  obtain ⟨E1, hE1⟩ : ∃ E1, E1 = ofN 1 [[]] := ⟨_, rfl⟩
  obtain ⟨E2, hE2⟩ : ∃ E2, E2 = ofN 2 [[]] := ⟨_, rfl⟩
  have hnd : ∀ w, (Op.equalIn 10000 31 (.agg (bytesV D1).toArray) (.agg (bytesV D2).toArray)).run Tryd.prog w = .ok false w := fun w => by
    rw [hD1, hD2]
    exact ne_key w T HT.out
  have hne : ∀ w, (Op.equalIn 10000 31 (.agg (bytesV E1).toArray) (.agg (bytesV E2).toArray)).run Tryd.prog w = .ok false w := fun w => by
    rw [hE1, hE2]
    exact ne_of w
  have HD1 := Lib.hid hD1
  have HD2 := Lib.hid hD2
  have HE1 := Lib.hid hE1
  have HE2 := Lib.hid hE2
  clear hD1 hD2 hE1 hE2
  have isT : Kept fun v _ => v = .bool true := fun _ _ _ _ h => h
  have isH : Kept fun v _ => v = .agg (bytesV T).toArray := fun _ _ _ _ h => h
  refine wp_region_mono 30 (w2.heap.size + 1) [(fun v _ => v = .agg (bytesV T).toArray), (fun v _ => v = .string ⟨exHex.toArray⟩), (fun v _ => v = .bool true), (fun v _ => v = .bool true),
    (fun v _ => v = .agg (bytesV T).toArray), (fun v _ => v = .agg (bytesV T).toArray), (fun v _ => v = .bool true), (fun v _ => v = .bool true), (fun v _ => v = .bool true),
    (fun v _ => v = .agg (bytesV T).toArray), (fun v _ => v = .agg z32.toArray), (fun v _ => v = .bool false), (fun v _ => v = .bool true), (fun v _ => v = .bool true), (fun v _ => v = .bool true),
    (fun v w => Parts w v [[]] [.slice none 0 0]), (fun v _ => v = .agg (bytesV E1).toArray), (fun v w => Parts w v [[]] [.slice none 0 0]), (fun v _ => v = .agg (bytesV E2).toArray), (fun v _ => v = .bool true), (fun v _ => v = .bool true), (fun v _ => v = .bool true),
    (fun v _ => v = .agg (bytesV T).toArray), (fun v w => Ints w v [1]), (fun v _ => v = .agg (bytesV D1).toArray), (fun v _ => v = .agg (bytesV T).toArray), (fun v w => Ints w v [2]), (fun v _ => v = .agg (bytesV D2).toArray), (fun v _ => v = .bool true), (fun v _ => v = .bool true)] (by kernel_rfl) (by kernel_rfl) (by simp) ?mkept _ rfl ?mops ?mfin
  case mkept =>
    repeat (refine List.forall_mem_cons.2 ⟨by first | exact fun _ _ _ _ h => h | exact fun _ _ _ hb h => Parts.below h hb | exact fun _ _ _ hb h => IsSl.below h hb, ?_⟩)
    exact fun _ h => by cases h
  case mops =>
    simp only [List.take_succ_cons, List.take_zero, monoAll, List.getD_cons_zero, List.getD_cons_succ]
    iterate 30
    
     (refine ⟨fun x wr hb hd Qg hK => ?_, ?_⟩
      · as_aux_lemma =>
        simp only [fill, Act.put, List.setIfInBounds_toArray, List.set_cons_succ, List.set_cons_zero, needs, Region.binds, List.filter_cons, List.filter_nil, List.map_cons, List.map_nil, if_true, List.mem_cons, List.not_mem_nil, or_false, forall_eq_or_imp, forall_eq, List.getD_cons_zero, List.getD_cons_succ, false_implies, implies_true] at hd hK ⊢
        (try simp only [hd] at hK ⊢)
        first
        | (have hBr := HB3.out.below hb (Nat.lt_succ_self _); refine wpList_load_rowIf rfl 31 (.tmp 1) rfl _ rfl 31 (bytesV T).toArray (0, 0) _ (by exact hBr) Tryd.underlying31 rfl (hash_info T HTL.out) ?_; exact hK _ _ rfl (Below.refl _ _))
        | (show wpList _ _ _ [⟨some 11, .call _, _, _, _, _⟩] _ _; go_wp2_with (go_at_call 23; refine (hex_any T HTL.out wr (HG4 wr hb)).mono ?_; rintro e w5 ⟨rfl, hb5⟩); exact hK _ _ (by rw [HT.out, ex_hex]) hb5)
        | (show wpList _ _ _ [⟨some 16, .call _, _, _, _, _⟩] _ _; go_wp2_with (go_at_call 29; refine (equal_any T T wr HTL.out HTL.out).mono ?_; rintro e w5 ⟨rfl, hb5⟩); exact hK _ _ (by simp) hb5)
        | (show wpList _ _ _ [⟨some 21, .call _, _, _, _, _⟩] _ _; go_wp2_with (go_at_call 29; refine (equal_any T (List.replicate 32 0) wr HTL.out rfl).mono ?_; rintro e w5 ⟨rfl, hb5⟩); exact hK _ _ (by rw [HT.out]; rfl) hb5)
        | (show wpList _ _ _ [⟨some _, .buildSlice _ _ _, _, _, _, _⟩] _ _; go_wp2_with fail; exact hK _ _ ((Texts.cons (bytes_nil wr) .nil).parts 24 rfl) ((Below.refl _ _).alloc (Nat.le_refl _) _))
        | (show wpList _ _ _ [⟨some 26, .call _, _, _, _, _⟩] _ _; go_wp2_with (go_at_call 30; refine (of_any 1 (x 15) [[]] [.slice none 0 0] wr (by simp only [hd]) (by decide) (by decide) (HG4 wr hb)).mono ?_; rintro e w5 ⟨rfl, hb5⟩); exact hK _ _ (by rw [HE1.out]) hb5)
        | (show wpList _ _ _ [⟨some 28, .call _, _, _, _, _⟩] _ _; go_wp2_with (go_at_call 30; refine (of_any 2 (x 17) [[]] [.slice none 0 0] wr (by simp only [hd]) (by decide) (by decide) (HG4 wr hb)).mono ?_; rintro e w5 ⟨rfl, hb5⟩); exact hK _ _ (by rw [HE2.out]) hb5)
        | (show wpList _ _ _ [⟨some 33, .buildSlice _ _ _, _, _, _, _⟩] _ _; go_wp2_with fail; exact hK _ _ (IsSl.of_range (n := 1) (cap := 1) (size := 1) (cs := intsV [1]) rfl (by simp [intsV, Value.oneCell']) (Nat.le_refl _) (range_alloc wr _ _ _)) ((Below.refl _ _).alloc (Nat.le_refl _) _))
        | (show wpList _ _ _ [⟨some 34, .call _, _, _, _, _⟩] _ _; go_wp2_with (go_at_call 32; refine (key_any T (x 23) [1] wr HTL.out (by simp only [hd]) (by decide) (HG4 wr hb)).mono ?_; rintro e w5 ⟨rfl, hb5⟩); exact hK _ _ (by rw [HD1.out]) hb5)
        | (show wpList _ _ _ [⟨some 36, .buildSlice _ _ _, _, _, _, _⟩] _ _; go_wp2_with fail; exact hK _ _ (IsSl.of_range (n := 1) (cap := 1) (size := 1) (cs := intsV [2]) rfl (by simp [intsV, Value.oneCell']) (Nat.le_refl _) (range_alloc wr _ _ _)) ((Below.refl _ _).alloc (Nat.le_refl _) _))
        | (show wpList _ _ _ [⟨some 37, .call _, _, _, _, _⟩] _ _; go_wp2_with (go_at_call 32; refine (key_any T (x 26) [2] wr HTL.out (by simp only [hd]) (by decide) (HG4 wr hb)).mono ?_; rintro e w5 ⟨rfl, hb5⟩); exact hK _ _ (by rw [HD2.out]) hb5)
        | (go_wp2_with fail; exact hK _ _ rfl (Below.refl _ _)))
    trivial
  case mfin =>
    intro x wr hb hR
    clear hnd hne
    have h29 : x 29 = .bool true := hR 29 (by omega)
    have hW := HW3.out.trans (hb.mono (Nat.le_succ_of_le hw2.size))
    clear hR HB3 HW3 HG4 hb
    simp only [List.drop_succ_cons, List.drop_zero]
    generalize List.toArray _ = L0
    simp only [List.take_succ_cons, List.take_zero, List.map_cons, List.map_nil, fill, Act.put, List.setIfInBounds_toArray, List.set_cons_succ, List.set_cons_zero, h29]
    go_wp2_with fail
    go_ret
    exact ⟨rfl, hW⟩
end Go.Proofs.YtjjoiefngoghpaaDoor
