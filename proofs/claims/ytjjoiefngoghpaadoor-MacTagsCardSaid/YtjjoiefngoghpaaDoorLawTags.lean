/- The law MacTags, walked: true, and nothing that was there has turned. Conditions: key and parts can be read; the digests have 32 bytes; the package's tables read as they are laid. -/
import Derived.Test.YtjjoiefngoghpaaDoorAlive2
import Derived.Test.YtjjoiefngoghpaaDoorGreat
import Derived.Test.YtjjoiefngoghpaaDoorRefI
namespace Go.Proofs.YtjjoiefngoghpaaDoor
open Go.RowKit

theorem cat_take (ls : List (List UInt8)) (k : Nat) (l : List UInt8) (h : ls[k]? = some l) : cat (ls.take (k + 1)) = cat (ls.take k) ++ l := by
  unfold cat
  rw [List.take_add_one, h]
  simp
theorem cat_take_le (ls : List (List UInt8)) (k : Nat) : (cat (ls.take k)).length ≤ (cat ls).length := by
  have h : cat ls = cat (ls.take k) ++ cat (ls.drop k) := by
    unfold cat
    rw [← List.flatten_append, List.take_append_drop]
  rw [h, List.length_append]
  omega
theorem two_boxes (w : World) (a b : List UInt8) : Blk ((w.alloc (.cells (bytesV a).toArray 31)).alloc (.cells (bytesV b).toArray 31)) w.heap.size (bytesV a) 31 ∧ Blk ((w.alloc (.cells (bytesV a).toArray 31)).alloc (.cells (bytesV b).toArray 31)) (w.heap.size + 1) (bytesV b) 31 :=
  ⟨(Blk.newL w _ _).alloc _, Blk.newL1 w _ _ _⟩

set_option maxRecDepth 100000 in
set_option maxHeartbeats 2000000 in
theorem mtags_any (vk vl : Value) (k : List UInt8) (ls : List (List UInt8)) (vs : List Value) (a b : List UInt8) (w : World) (hk : Bytes w vk k) (hp : Parts w vl ls vs) (ha : a.length = 32) (hb : b.length = 32) (hm : ∀ l ∈ ls, l.length ≤ 4611686018427387904) (hln : ls.length ≤ 4611686018427387904) (hg : Glob w) :
    Calls Tryd.prog 9 #[vk, vl, .agg (bytesV a).toArray, .agg (bytesV b).toArray] w fun e w' => e = .returned (.bool true) ∧ Below w.heap.size w w' := by
  obtain ⟨i0, hi, hz0, hz1, hz2⟩ := info_parts info_u8
  obtain ⟨xk, ck, rfl, _⟩ := hk.form
  obtain ⟨xp, cp, rfl, _⟩ := hp.sl.form
  have HG := Lib.hid hg
  have HK := Lib.hid hk
  have HP := Lib.hid hp
  have HA := Lib.hid ha
  have HB := Lib.hid hb
  have HM := Lib.hid hm
  clear hg hk hp ha hb hm
  by_cases h1 : k.length ≤ 300
  · by_cases h2 : ls.length + (cat ls).length ≤ 1000
    · have hdec : decide (1000 < ls.length + (cat ls).length) = false := by rw [decide_eq_false_iff_not]; omega
      have HDEC := Lib.hid hdec
      clear hdec
      go_enter Tryd.func9, Tryd.ntmps9
      go_wp2_with (first
        | (go_at_call 25; refine (alive2_any _ (HG.out.below (by (repeat (first | with_reducible assumption | with_reducible exact Below.refl _ _ | ((with_reducible refine Below.setCell ?_ ?_ _); rotate_left; focus (first | omega | (simp; done) | (simp; omega))) | ((with_reducible refine Below.alloc ?_ ?_ _); rotate_left; focus (first | omega | (simp; done) | (simp; omega))) | ((with_reducible refine below_setRow ?_ ?_ _); rotate_left; focus (first | omega | (simp; done) | (simp; omega))) | (with_reducible refine below_drewN ?_ _) | (with_reducible refine Below.drew ?_)))))).mono ?_; rintro e w1 ⟨rfl, hb1⟩; have hw1 : Below w.heap.size w w1 := Below.trans (by (repeat (first | with_reducible assumption | with_reducible exact Below.refl _ _ | ((with_reducible refine Below.setCell ?_ ?_ _); rotate_left; focus (first | omega | (simp; done) | (simp; omega))) | ((with_reducible refine Below.alloc ?_ ?_ _); rotate_left; focus (first | omega | (simp; done) | (simp; omega))) | ((with_reducible refine below_setRow ?_ ?_ _); rotate_left; focus (first | omega | (simp; done) | (simp; omega))) | (with_reducible refine below_drewN ?_ _) | (with_reducible refine Below.drew ?_)))) (hb1.mono (by simp <;> omega)); have hs1 := hb1.size)
        | (go_at_call 26; refine (great_any _ ls vs _ (HP.out.below hw1) HM.out hln).mono ?_; rintro e w2 ⟨rfl, hb2⟩; rw [HDEC.out]; have hw2 := hw1.trans (hb2.mono hw1.size))
        | fail)
      have hb1' : Below (w.heap.size + 1 + 1) ((w.alloc (.cells (bytesV a).toArray 31)).alloc (.cells (bytesV b).toArray 31)) w1 := by
        have := hb1
        rw [World.size_alloc, World.size_alloc] at this
        exact this
      have hsz1 : w.heap.size + 1 + 1 ≤ w1.heap.size := by have := hb1'.size; rw [World.size_alloc, World.size_alloc] at this; exact this
      have hA2 := ((two_boxes w a b).1.below hb1' (by omega)).below hb2 (by omega)
      have hB2 := ((two_boxes w a b).2.below hb1' (by omega)).below hb2 (by omega)
      have HA2 := Lib.hid hA2
      have HB2 := Lib.hid hB2
      have HP2 := Lib.hid (HP.out.below hw2)
      have hsz2 := hb2.size
      clear hb1 hs1 hb1' hb2 hA2 hB2 hw1
      have hcl : (cat ls).length ≤ 1000 := by omega
      have hlsl : ls.length ≤ 1000 := by omega
      go_loopw [9, 10] (fun v i wr => ∃ (j : Nat) (x : Option Addr) (cap : Nat), j ≤ ls.length ∧ i = .int .i64 j ∧ v = .slice x (cat (ls.take j)).length cap ∧
        wr.ownsRow w2.heap.size 5 1 (.slice x (cat (ls.take j)).length cap) (cat (ls.take j)).length (bytesV (cat (ls.take j))) ∧ Below w2.heap.size w2 wr) (fun _ i _ => ls.length - (intOf i).toNat)
      case atStart => exact ⟨0, none, 0, by omega, rfl, rfl, World.ownsRow_nil _ _ _ _, Below.refl _ _⟩
      case round =>
        obtain ⟨j, x, cap, hj, rfl, rfl, hown, hb⟩ := hrel
        have HO := Lib.hid hown
        clear hown
        by_cases hjn : j < ls.length
        · obtain ⟨b', off, cc, e, _, hr, hbW⟩ := HP2.out.sl.pos (by omega) (by decide)
          cases e
          have hvl : j < vs.length := by rw [HP2.out.len]; exact hjn
          have hlk := List.getElem?_eq_getElem hjn
          have hvk := List.getElem?_eq_getElem hvl
          have hby := HP2.out.each j _ _ hvk hlk
          have hcell := hr j _ hvk
          obtain ⟨l, hle⟩ : ∃ l, l = ls[j] := ⟨_, rfl⟩
          obtain ⟨vv, hve⟩ : ∃ vv, vv = vs[j] := ⟨_, rfl⟩
          rw [← hle] at hby hlk
          rw [← hve] at hby hcell
          have hS := cat_take ls j l hlk
          have hL1 := cat_take_le ls (j + 1)
          have hL2 : (cat (ls.take (j + 1))).length = (cat (ls.take j)).length + l.length := by rw [hS, List.length_append]
          have HS := Lib.hid hS
          have HBY := Lib.hid hby
          have hcw : wr.cell? ⟨b', off + j, none⟩ = some vv := (hb.cell (p := ⟨b', _, none⟩) hbW).trans hcell
          obtain ⟨L, hL⟩ : ∃ L, L = (cat (ls.take j)).length := ⟨_, rfl⟩
          rw [← hL] at HO hL2 ⊢
          have HL2 := Lib.hid hL2
          have hLm : L + l.length ≤ 1000 := by omega
          have hs := hb.size
          clear hS hby hcell hlk hvk hle hve hr hL2 hL hL1
          obtain ⟨xl, cl, rfl, _⟩ := HBY.out.form
          go_wp2_with (first
            | (at_builtin; refine wpList_app rfl (.tmp 26) (.tmp 30) 24 rfl w2.heap.size 5 i0 (.int .u8 0) 1 1 Tryd.underlying24 hi hz0 hz1 hz2 rfl (by decide) (.slice x L cap) _ _ rfl (by exact HO.out) _ l.length (bytesV l) rfl (by exact HBY.out.below hb) (by unfold maxLen; omega) (by omega) (by omega) ?_; intro a3 cap3 w3 hown3 hgrow3 _;
               have hb3 := hb.grown hgrow3 hs (fun k hk => (HO.out.lt k hk).1); have HO3 := Lib.hid hown3; clear hown3 hgrow3)
            | fail)
          have hO3 := HO3.out
          rw [← bytesV_app, ← HS.out, ← HL2.out] at hO3
          refine ⟨⟨j + 1, a3, cap3, by omega, by go_num, by rw [HL2.out], hO3, hb3⟩, by simp [intOf]; omega⟩
        · obtain rfl : j = ls.length := by omega
          have hO := HO.out
          rw [List.take_length] at hO ⊢
          have hT := ownsRow_isSl hO (bytesV_one _)
          have HT := Lib.hid (show Bytes wr (.slice x (cat ls).length cap) (cat ls) from hT)
          have HA3 := Lib.hid (HA2.out.below hb (by omega))
          have HB3 := Lib.hid (HB2.out.below hb (by omega))
          have hw3 := hw2.trans (hb.mono hw2.size)
          have HK3 := Lib.hid (HK.out.below hw3)
          have HP3 := Lib.hid (HP.out.below hw3)
          have HG3 := Lib.hid (HG.out.below hw3)
          have hlA := HA3.out.lt
          have hlB := HB3.out.lt
          clear hO hT hb HO HA2 HB2 HP2
          obtain ⟨D, hD⟩ : ∃ D, D = tagN k (cat ls) := ⟨_, rfl⟩
          have HD := Lib.hid hD
          have hee := fun w => eq_hash_same w D (by rw [hD, tagN_len])
          have hab := fun w => eq_hash w a b HA.out HB.out
          clear hD
          go_wp2_with fail
          refine wp_region_mono 21 (wr.heap.size) [(fun v _ => v = .slice xk k.length ck), (fun v _ => v = .slice xp ls.length cp), (fun v _ => v = .agg (bytesV D).toArray), (fun v _ => v = .slice xk k.length ck), (fun v _ => v = .slice x (cat ls).length cap), (fun v _ => v = .agg (bytesV D).toArray), (fun v _ => v = .bool true), (fun v _ => v = .bool true),
            (fun v _ => v = .agg (bytesV a).toArray), (fun v _ => v = .agg (bytesV b).toArray), (fun v _ => v = .bool (a == b)), (fun v _ => v = .agg (bytesV a).toArray), (fun v _ => v = .agg (bytesV b).toArray), (fun v _ => v = .bool (a == b)), (fun v _ => v = .bool true), (fun v _ => v = .bool true), (fun v _ => v = .bool true),
            (fun v _ => v = .agg (bytesV a).toArray), (fun v _ => v = .agg (bytesV a).toArray), (fun v _ => v = .bool true), (fun v _ => v = .bool true)] (by kernel_rfl) (by kernel_rfl) (Nat.le_refl _) ?mkept _ rfl ?mops ?mfin
          case mkept =>
            repeat (refine List.forall_mem_cons.2 ⟨by first | exact fun _ _ _ _ h => h | exact fun _ _ _ hb h => Parts.below h hb | exact fun _ _ _ hb h => IsSl.below h hb, ?_⟩)
            exact fun _ h => by cases h
          case mops =>
            simp only [List.take_succ_cons, List.take_zero, monoAll, List.getD_cons_zero, List.getD_cons_succ]
            iterate 21
            
             (refine ⟨fun x wr hb hd Qg hK => ?_, ?_⟩
              · as_aux_lemma =>
                simp only [fill, Act.put, List.setIfInBounds_toArray, List.set_cons_succ, List.set_cons_zero, needs, Region.binds, List.filter_cons, List.filter_nil, List.map_cons, List.map_nil, if_true, List.mem_cons, List.not_mem_nil, or_false, forall_eq_or_imp, forall_eq, List.getD_cons_zero, List.getD_cons_succ, false_implies, implies_true] at hd hK ⊢
                (try simp only [hd] at hK ⊢)
                first
                | (have hBr := HA3.out.below hb (hlA); refine wpList_load_rowIf rfl 31 (.tmp 6) rfl _ rfl 31 (bytesV a).toArray (0, 0) _ (by exact hBr) Tryd.underlying31 rfl (hash_info a HA.out) ?_; exact hK _ _ rfl (Below.refl _ _))
                | (have hBr := HB3.out.below hb (hlB); refine wpList_load_rowIf rfl 31 (.tmp 7) rfl _ rfl 31 (bytesV b).toArray (0, 0) _ (by exact hBr) Tryd.underlying31 rfl (hash_info b HB.out) ?_; exact hK _ _ rfl (Below.refl _ _))
                | (show wpList _ _ _ [⟨some 34, .call _, _, _, _, _⟩] _ _; go_wp2_with (go_at_call 27; refine (tag_any _ _ k ls vs wr (HK3.out.below hb) (HP3.out.below hb) (by omega) (by omega) (by omega) (HG3.out.below hb)).mono ?_; rintro e w5 ⟨rfl, hb5⟩); exact hK _ _ (by rw [HD.out]) hb5)
                | (show wpList _ _ _ [⟨some 37, .call _, _, _, _, _⟩] _ _; go_wp2_with (go_at_call 28; refine (reftag_any _ _ k (cat ls) wr (HK3.out.below hb) (HT.out.below hb) (by omega) (by omega) (HG3.out.below hb)).mono ?_; rintro e w5 ⟨rfl, hb5⟩); exact hK _ _ (by rw [HD.out]) hb5)
                | (show wpList _ _ _ [⟨some 42, .call _, _, _, _, _⟩] _ _; go_wp2_with (go_at_call 29; refine (equal_any a b wr HA.out HB.out).mono ?_; rintro e w5 ⟨rfl, hb5⟩); exact hK _ _ (rfl) hb5)
                | (show wpList _ _ _ [⟨some 51, .call _, _, _, _, _⟩] _ _; go_wp2_with (go_at_call 29; refine (equal_any a a wr HA.out HA.out).mono ?_; rintro e w5 ⟨rfl, hb5⟩); exact hK _ _ (by simp) hb5)
                | (go_wp2_with fail; exact hK _ _ rfl (Below.refl _ _)))
            trivial
          case mfin =>
            intro y w4 hb4 hR
            have x20 := hR 20 (by decide)
            simp only [List.getD_cons_zero, List.getD_cons_succ] at x20
            have hw4 := hw3.trans (hb4.mono hw3.size)
            clear hR hb4 hee hab
            simp only [List.drop_succ_cons, List.drop_zero]
            generalize List.toArray _ = L0
            simp only [List.take_succ_cons, List.take_zero, List.map_cons, List.map_nil, fill, Act.put, List.setIfInBounds_toArray, List.set_cons_succ, List.set_cons_zero, x20]
            clear x20
            go_wp2_with fail
            go_ret
            exact ⟨rfl, hw4⟩
    · have hdec : decide (1000 < ls.length + (cat ls).length) = true := by rw [decide_eq_true_iff]; omega
      have HDEC := Lib.hid hdec
      clear hdec
      go_enter Tryd.func9, Tryd.ntmps9
      go_wp2_with (first
        | (go_at_call 25; refine (alive2_any _ (HG.out.below (by (repeat (first | with_reducible assumption | with_reducible exact Below.refl _ _ | ((with_reducible refine Below.setCell ?_ ?_ _); rotate_left; focus (first | omega | (simp; done) | (simp; omega))) | ((with_reducible refine Below.alloc ?_ ?_ _); rotate_left; focus (first | omega | (simp; done) | (simp; omega))) | ((with_reducible refine below_setRow ?_ ?_ _); rotate_left; focus (first | omega | (simp; done) | (simp; omega))) | (with_reducible refine below_drewN ?_ _) | (with_reducible refine Below.drew ?_)))))).mono ?_; rintro e w1 ⟨rfl, hb1⟩; have hw1 : Below w.heap.size w w1 := Below.trans (by (repeat (first | with_reducible assumption | with_reducible exact Below.refl _ _ | ((with_reducible refine Below.setCell ?_ ?_ _); rotate_left; focus (first | omega | (simp; done) | (simp; omega))) | ((with_reducible refine Below.alloc ?_ ?_ _); rotate_left; focus (first | omega | (simp; done) | (simp; omega))) | ((with_reducible refine below_setRow ?_ ?_ _); rotate_left; focus (first | omega | (simp; done) | (simp; omega))) | (with_reducible refine below_drewN ?_ _) | (with_reducible refine Below.drew ?_)))) (hb1.mono (by simp <;> omega)); have hs1 := hb1.size)
        | (go_at_call 26; refine (great_any _ ls vs _ (HP.out.below hw1) HM.out hln).mono ?_; rintro e w2 ⟨rfl, hb2⟩; rw [HDEC.out]; have hw2 := hw1.trans (hb2.mono hw1.size))
        | fail)
      go_ret
      exact ⟨rfl, hw2⟩
  · go_enter Tryd.func9, Tryd.ntmps9
    go_wp2_with (first
      | (go_at_call 25; refine (alive2_any _ (HG.out.below (by (repeat (first | with_reducible assumption | with_reducible exact Below.refl _ _ | ((with_reducible refine Below.setCell ?_ ?_ _); rotate_left; focus (first | omega | (simp; done) | (simp; omega))) | ((with_reducible refine Below.alloc ?_ ?_ _); rotate_left; focus (first | omega | (simp; done) | (simp; omega))) | ((with_reducible refine below_setRow ?_ ?_ _); rotate_left; focus (first | omega | (simp; done) | (simp; omega))) | (with_reducible refine below_drewN ?_ _) | (with_reducible refine Below.drew ?_)))))).mono ?_; rintro e w1 ⟨rfl, hb1⟩; have hw1 : Below w.heap.size w w1 := Below.trans (by (repeat (first | with_reducible assumption | with_reducible exact Below.refl _ _ | ((with_reducible refine Below.setCell ?_ ?_ _); rotate_left; focus (first | omega | (simp; done) | (simp; omega))) | ((with_reducible refine Below.alloc ?_ ?_ _); rotate_left; focus (first | omega | (simp; done) | (simp; omega))) | ((with_reducible refine below_setRow ?_ ?_ _); rotate_left; focus (first | omega | (simp; done) | (simp; omega))) | (with_reducible refine below_drewN ?_ _) | (with_reducible refine Below.drew ?_)))) (hb1.mono (by simp <;> omega)); have hs1 := hb1.size)
      | fail)
    go_ret
    exact ⟨rfl, hw1⟩
end Go.Proofs.YtjjoiefngoghpaaDoor
