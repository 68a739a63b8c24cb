/- The law MacOf, walked: true, and nothing that was there has turned. Conditions: the parts and the words can be read; the key has 32 bytes; the package's tables read as they are laid. -/
import Derived.Test.YtjjoiefngoghpaaDoorAlive2
import Derived.Test.YtjjoiefngoghpaaDoorGreat
import Derived.Test.YtjjoiefngoghpaaDoorRefJ
namespace Go.Proofs.YtjjoiefngoghpaaDoor
open Go.RowKit

set_option maxRecDepth 100000 in
set_option maxHeartbeats 2000000 in
theorem lawof_any (d : Int) (vl vn : Value) (ls : List (List UInt8)) (vs : List Value) (k : List UInt8) (ns : List Int) (w : World) (hp : Parts w vl ls vs) (hk : k.length = 32) (hn : Ints w vn ns) (hm : ∀ l ∈ ls, l.length ≤ 4611686018427387904) (hln : ls.length ≤ 4611686018427387904) (hg : Glob w) :
    Calls Tryd.prog 10 #[.int .i64 d, vl, .agg (bytesV k).toArray, vn] w fun e w' => e = .returned (.bool true) ∧ Below w.heap.size w w' := by
  obtain ⟨xp, cp, rfl, _⟩ := hp.sl.form
  obtain ⟨xn, cn, rfl, _⟩ := IsSl.form hn
  have HG := Lib.hid hg
  have HP := Lib.hid hp
  have HK := Lib.hid hk
  have HN := Lib.hid hn
  have HM := Lib.hid hm
  clear hg hp hk hn hm
  by_cases h2 : ls.length + (cat ls).length ≤ 1000
  · have hdec : decide (1000 < ls.length + (cat ls).length) = false := by rw [decide_eq_false_iff_not]; omega
    have HDEC := Lib.hid hdec
    clear hdec
    by_cases h3 : ns.length ≤ 50
    · go_enter Tryd.func10, Tryd.ntmps10
      go_wp2_with (first
        | (go_at_call 25; refine (alive2_any _ (HG.out.below (by (repeat (first | with_reducible assumption | with_reducible exact Below.refl _ _ | ((with_reducible refine Below.setCell ?_ ?_ _); rotate_left; focus (first | omega | (simp; done) | (simp; omega))) | ((with_reducible refine Below.alloc ?_ ?_ _); rotate_left; focus (first | omega | (simp; done) | (simp; omega))) | ((with_reducible refine below_setRow ?_ ?_ _); rotate_left; focus (first | omega | (simp; done) | (simp; omega))) | (with_reducible refine below_drewN ?_ _) | (with_reducible refine Below.drew ?_)))))).mono ?_; rintro e w1 ⟨rfl, hb1⟩; have hw1 : Below w.heap.size w w1 := Below.trans (by (repeat (first | with_reducible assumption | with_reducible exact Below.refl _ _ | ((with_reducible refine Below.setCell ?_ ?_ _); rotate_left; focus (first | omega | (simp; done) | (simp; omega))) | ((with_reducible refine Below.alloc ?_ ?_ _); rotate_left; focus (first | omega | (simp; done) | (simp; omega))) | ((with_reducible refine below_setRow ?_ ?_ _); rotate_left; focus (first | omega | (simp; done) | (simp; omega))) | (with_reducible refine below_drewN ?_ _) | (with_reducible refine Below.drew ?_)))) (hb1.mono (by simp <;> omega)); have hs1 := hb1.size)
        | (go_at_call 26; refine (great_any _ ls vs _ (HP.out.below hw1) HM.out hln).mono ?_; rintro e w2 ⟨rfl, hb2⟩; rw [HDEC.out]; have hw2 := hw1.trans (hb2.mono hw1.size))
        | fail)
      have hb1' : Below (w.heap.size + 1) (w.alloc (.cells (bytesV k).toArray 31)) w1 := by
        have := hb1
        rw [World.size_alloc] at this
        exact this
      have hsz1 : w.heap.size + 1 ≤ w1.heap.size := by have := hb1'.size; rw [World.size_alloc] at this; exact this
      have HK2 := Lib.hid (((Blk.newL w (bytesV k) 31).below hb1' (by omega)).below hb2 (by omega))
      have HP2 := Lib.hid (HP.out.below hw2)
      have HN2 := Lib.hid (show Ints w2 (.slice xn ns.length cn) ns from IsSl.below HN.out hw2)
      have HG2 := Lib.hid (HG.out.below hw2)
      have hlk := HK2.out.lt
      clear hb1 hs1 hb1' hb2 hw1
      obtain ⟨O, hO⟩ : ∃ O, O = ofN d ls := ⟨_, rfl⟩
      obtain ⟨D, hD⟩ : ∃ D, D = tagN k (wordsN ns) := ⟨_, rfl⟩
      have HO := Lib.hid hO
      have HD := Lib.hid hD
      have heo := fun w => eq_hash_same w O (by rw [hO]; exact sumN_len _)
      have hed := fun w => eq_hash_same w D (by rw [hD, tagN_len])
      clear hO hD
      refine wp_region_mono 16 (w2.heap.size) [(fun v _ => v = .int .i64 d), (fun v _ => v = .slice xp ls.length cp), (fun v _ => v = .agg (bytesV O).toArray), (fun v _ => v = .int .i64 d), (fun v _ => v = .slice xp ls.length cp), (fun v _ => v = .agg (bytesV O).toArray), (fun v _ => v = .bool true), (fun v _ => v = .bool true),
        (fun v _ => v = .agg (bytesV k).toArray), (fun v _ => v = .slice xn ns.length cn), (fun v _ => v = .agg (bytesV D).toArray), (fun v _ => v = .agg (bytesV k).toArray), (fun v _ => v = .slice xn ns.length cn), (fun v _ => v = .agg (bytesV D).toArray), (fun v _ => v = .bool true), (fun v _ => v = .bool true)] (by kernel_rfl) (by kernel_rfl) (Nat.le_refl _) ?mkept _ rfl ?mops ?mfin
      case mkept =>
        repeat (refine List.forall_mem_cons.2 ⟨by first | exact fun _ _ _ _ h => h | exact fun _ _ _ hb h => Parts.below h hb | exact fun _ _ _ hb h => IsSl.below h hb, ?_⟩)
        exact fun _ h => by cases h
      case mops =>
        simp only [List.take_succ_cons, List.take_zero, monoAll, List.getD_cons_zero, List.getD_cons_succ]
        iterate 16
        
         (refine ⟨fun x wr hb hd Qg hK => ?_, ?_⟩
          · as_aux_lemma =>
            simp only [fill, Act.put, List.setIfInBounds_toArray, List.set_cons_succ, List.set_cons_zero, needs, Region.binds, List.filter_cons, List.filter_nil, List.map_cons, List.map_nil, if_true, List.mem_cons, List.not_mem_nil, or_false, forall_eq_or_imp, forall_eq, List.getD_cons_zero, List.getD_cons_succ, false_implies, implies_true] at hd hK ⊢
            (try simp only [hd] at hK ⊢)
            first
            | (have hBr := HK2.out.below hb (hlk); refine wpList_load_rowIf rfl 31 (.tmp 6) rfl _ rfl 31 (bytesV k).toArray (0, 0) _ (by exact hBr) Tryd.underlying31 rfl (hash_info k HK.out) ?_; exact hK _ _ rfl (Below.refl _ _))
            | (show wpList _ _ _ [⟨some 20, .call _, _, _, _, _⟩] _ _; go_wp2_with (go_at_call 30; refine (of_any d _ ls vs wr (HP2.out.below hb) (by omega) (by omega) (HG2.out.below hb)).mono ?_; rintro e w5 ⟨rfl, hb5⟩); exact hK _ _ (by rw [HO.out]) hb5)
            | (show wpList _ _ _ [⟨some 23, .call _, _, _, _, _⟩] _ _; go_wp2_with (go_at_call 31; refine (refof_any d _ ls vs wr (HP2.out.below hb) (by omega) (by omega) (HG2.out.below hb)).mono ?_; rintro e w5 ⟨rfl, hb5⟩); exact hK _ _ (by rw [HO.out]) hb5)
            | (show wpList _ _ _ [⟨some 28, .call _, _, _, _, _⟩] _ _; go_wp2_with (go_at_call 32; refine (key_any k _ ns wr HK.out (IsSl.below HN2.out hb) (by omega) (HG2.out.below hb)).mono ?_; rintro e w5 ⟨rfl, hb5⟩); exact hK _ _ (by rw [HD.out]) hb5)
            | (show wpList _ _ _ [⟨some 31, .call _, _, _, _, _⟩] _ _; go_wp2_with (go_at_call 33; refine (refkey_any k _ ns wr HK.out (IsSl.below HN2.out hb) (by omega) (HG2.out.below hb)).mono ?_; rintro e w5 ⟨rfl, hb5⟩); exact hK _ _ (by rw [HD.out]) hb5)
            | (go_wp2_with fail; exact hK _ _ rfl (Below.refl _ _)))
        trivial
      case mfin =>
        intro y w4 hb4 hR
        have x15 := hR 15 (by decide)
        simp only [List.getD_cons_zero, List.getD_cons_succ] at x15
        have hw4 := hw2.trans (hb4.mono hw2.size)
        clear hR hb4 heo hed
        simp only [List.drop_succ_cons, List.drop_zero]
        generalize List.toArray _ = L0
        simp only [List.take_succ_cons, List.take_zero, List.map_cons, List.map_nil, fill, Act.put, List.setIfInBounds_toArray, List.set_cons_succ, List.set_cons_zero, x15]
        clear x15
        go_wp2_with fail
        go_ret
        exact ⟨rfl, hw4⟩
    · go_enter Tryd.func10, Tryd.ntmps10
      go_wp2_with (first
        | (go_at_call 25; refine (alive2_any _ (HG.out.below (by (repeat (first | with_reducible assumption | with_reducible exact Below.refl _ _ | ((with_reducible refine Below.setCell ?_ ?_ _); rotate_left; focus (first | omega | (simp; done) | (simp; omega))) | ((with_reducible refine Below.alloc ?_ ?_ _); rotate_left; focus (first | omega | (simp; done) | (simp; omega))) | ((with_reducible refine below_setRow ?_ ?_ _); rotate_left; focus (first | omega | (simp; done) | (simp; omega))) | (with_reducible refine below_drewN ?_ _) | (with_reducible refine Below.drew ?_)))))).mono ?_; rintro e w1 ⟨rfl, hb1⟩; have hw1 : Below w.heap.size w w1 := Below.trans (by (repeat (first | with_reducible assumption | with_reducible exact Below.refl _ _ | ((with_reducible refine Below.setCell ?_ ?_ _); rotate_left; focus (first | omega | (simp; done) | (simp; omega))) | ((with_reducible refine Below.alloc ?_ ?_ _); rotate_left; focus (first | omega | (simp; done) | (simp; omega))) | ((with_reducible refine below_setRow ?_ ?_ _); rotate_left; focus (first | omega | (simp; done) | (simp; omega))) | (with_reducible refine below_drewN ?_ _) | (with_reducible refine Below.drew ?_)))) (hb1.mono (by simp <;> omega)); have hs1 := hb1.size)
        | (go_at_call 26; refine (great_any _ ls vs _ (HP.out.below hw1) HM.out hln).mono ?_; rintro e w2 ⟨rfl, hb2⟩; rw [HDEC.out]; have hw2 := hw1.trans (hb2.mono hw1.size))
        | fail)
      go_ret
      exact ⟨rfl, hw2⟩
  · have hdec : decide (1000 < ls.length + (cat ls).length) = true := by rw [decide_eq_true_iff]; omega
    have HDEC := Lib.hid hdec
    clear hdec
    go_enter Tryd.func10, Tryd.ntmps10
    go_wp2_with (first
      | (go_at_call 25; refine (alive2_any _ (HG.out.below (by (repeat (first | with_reducible assumption | with_reducible exact Below.refl _ _ | ((with_reducible refine Below.setCell ?_ ?_ _); rotate_left; focus (first | omega | (simp; done) | (simp; omega))) | ((with_reducible refine Below.alloc ?_ ?_ _); rotate_left; focus (first | omega | (simp; done) | (simp; omega))) | ((with_reducible refine below_setRow ?_ ?_ _); rotate_left; focus (first | omega | (simp; done) | (simp; omega))) | (with_reducible refine below_drewN ?_ _) | (with_reducible refine Below.drew ?_)))))).mono ?_; rintro e w1 ⟨rfl, hb1⟩; have hw1 : Below w.heap.size w w1 := Below.trans (by (repeat (first | with_reducible assumption | with_reducible exact Below.refl _ _ | ((with_reducible refine Below.setCell ?_ ?_ _); rotate_left; focus (first | omega | (simp; done) | (simp; omega))) | ((with_reducible refine Below.alloc ?_ ?_ _); rotate_left; focus (first | omega | (simp; done) | (simp; omega))) | ((with_reducible refine below_setRow ?_ ?_ _); rotate_left; focus (first | omega | (simp; done) | (simp; omega))) | (with_reducible refine below_drewN ?_ _) | (with_reducible refine Below.drew ?_)))) (hb1.mono (by simp <;> omega)); have hs1 := hb1.size)
      | (go_at_call 26; refine (great_any _ ls vs _ (HP.out.below hw1) HM.out hln).mono ?_; rintro e w2 ⟨rfl, hb2⟩; rw [HDEC.out]; have hw2 := hw1.trans (hb2.mono hw1.size))
      | fail)
    go_ret
    exact ⟨rfl, hw2⟩
end Go.Proofs.YtjjoiefngoghpaaDoor
