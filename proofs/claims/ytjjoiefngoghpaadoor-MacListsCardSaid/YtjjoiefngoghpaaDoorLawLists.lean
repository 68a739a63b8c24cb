/- The law MacLists, walked: true, and nothing that was there has turned. Conditions: the parts can be read; the package's tables read as they are laid. -/
import Derived.Test.YtjjoiefngoghpaaDoorAlive2
import Derived.Test.YtjjoiefngoghpaaDoorGreat
import Derived.Test.YtjjoiefngoghpaaDoorListsP
namespace Go.Proofs.YtjjoiefngoghpaaDoor
open Go.RowKit

theorem lists_end (d e : UInt8) (a b : List (List UInt8)) (j : Nat) (hj : j ≤ a.length ∧ j ≤ b.length) (h : j = a.length ∨ j = b.length) : ((d == e && (a.length : Int) == b.length) && (a.take j == b.take j)) = (d == e && a == b) := by
  by_cases hl : a.length = b.length
  · have h1 : j = a.length := by omega
    have h2 : ((a.length : Int) == b.length) = true := by rw [hl]; simp
    rw [h2, h1, List.take_length, List.take_of_length_le (by omega), Bool.and_true]
  · have h2 : ((a.length : Int) == b.length) = false := by rw [beq_eq_false_iff_ne]; omega
    have h3 : (a == b) = false := by rw [beq_eq_false_iff_ne]; exact fun h => hl (by rw [h])
    rw [h2, h3]
    simp

set_option maxRecDepth 100000 in
set_option maxHeartbeats 4000000 in
theorem lists_tt (d e : UInt8) (vp vq : Value) (a b : List (List UInt8)) (va vb : List Value) (w : World) (hpa : Parts w vp a va) (hpb : Parts w vq b vb) (hma : ∀ l ∈ a, l.length ≤ 4611686018427387904) (hmb : ∀ l ∈ b, l.length ≤ 4611686018427387904) (g1 : a.length + (cat a).length ≤ 1000) (g2 : b.length + (cat b).length ≤ 1000) (hg : Glob w)
    (f1 : ((d.toNat : Int) == (e.toNat : Int)) = true) (f2 : ((a.length : Int) == (b.length : Int)) = true) (hde : (d == e) = true) :
    Calls Tryd.prog 12 #[.int .u8 (d.toNat : Int), .int .u8 (e.toNat : Int), vp, vq] w fun e w' => e = .returned (.bool true) ∧ Below w.heap.size w w' := by
  obtain ⟨xp, cp, rfl, _⟩ := hpa.sl.form
  obtain ⟨xq, cq, rfl, _⟩ := hpb.sl.form
  have HG := Lib.hid hg
  have HA := Lib.hid hpa
  have HB := Lib.hid hpb
  have HMA := Lib.hid hma
  have HMB := Lib.hid hmb
  have HD1 := Lib.hid (show decide (1000 < a.length + (cat a).length) = false by rw [decide_eq_false_iff_not]; omega)
  have HD2 := Lib.hid (show decide (1000 < b.length + (cat b).length) = false by rw [decide_eq_false_iff_not]; omega)
  have hdl := d.toNat_lt
  have hel := e.toNat_lt
  have hlA := textN_len (d.toNat : Int) a
  have HXL := Lib.hid (show (textN (d.toNat : Int) a).length ≤ 4611686018427387904 by omega)
  have HXS := Lib.hid (show (textN (d.toNat : Int) a).length ≤ 100000 by omega)
  have HMA2 := Lib.hid (show ∀ l ∈ a, l.length < 4294967296 from fun l hl => by
    obtain ⟨i, hi⟩ := List.getElem?_of_mem hl
    have := part_le a i l hi
    omega)
  have HMB2 := Lib.hid (show ∀ l ∈ b, l.length < 4294967296 from fun l hl => by
    obtain ⟨i, hi⟩ := List.getElem?_of_mem hl
    have := part_le b i l hi
    omega)
  have HS0 := Lib.hid (show true = (d == e && (a.length : Int) == b.length) from by rw [f2, hde]; rfl)
  clear hlA hg hpa hpb hma hmb hde
  go_enter Tryd.func12, Tryd.ntmps12
  go_wp2_with (first
    | (go_at_call 25; refine (alive2_any _ HG.out).mono ?_; rintro e1 w1 ⟨rfl, hb1⟩)
    | fail)
  have HA1 := Lib.hid (HA.out.below hb1)
  refine (great_any _ a va w1 HA1.out HMA.out (by omega)).mono ?_
  rintro e2 w2 ⟨rfl, hb2⟩
  rw [HD1.out]
  have hw2 := hb1.trans (hb2.mono hb1.size)
  clear hb1 hb2 HA1
  go_wp2_with fail
  refine (great_any _ b vb w2 (HB.out.below hw2) HMB.out (by omega)).mono ?_
  rintro e3 w3 ⟨rfl, hb3⟩
  rw [HD2.out]
  have hw3 := hw2.trans (hb3.mono hw2.size)
  clear hw2 hb3
  go_wp2_with fail
  refine (reftext_any (d.toNat : Int) _ a va w3 (HA.out.below hw3) (by omega) (by omega)).mono ?_
  rintro e4 wx ⟨⟨v4, rfl, hv4⟩, hbx⟩
  have hwx := hw3.trans (hbx.mono hw3.size)
  obtain ⟨x4, c4, rfl, _⟩ := hv4.form
  have HVX := Lib.hid hv4
  clear hbx hw3 hv4
  go_wp2_with fail
  refine (reftext_any (e.toNat : Int) _ b vb wx (HB.out.below hwx) (by omega) (by omega)).mono ?_
  rintro e5 w4 ⟨⟨v5, rfl, hv5⟩, hb4⟩
  have hw4 := hwx.trans (hb4.mono hwx.size)
  obtain ⟨y4, cy4, rfl, _⟩ := hv5.form
  have HX4 := Lib.hid (HVX.out.below hb4)
  have HY4 := Lib.hid hv5
  have HA4 := Lib.hid (HA.out.below hw4)
  have HB4 := Lib.hid (HB.out.below hw4)
  have HG4 := Lib.hid (HG.out.below hw4)
  clear hb4 hwx hv5 HVX
  go_wp2_with fail
  go_loopw [11, 12] (fun sv i wr => ∃ j : Nat, j ≤ a.length ∧ j ≤ b.length ∧ i = .int .i64 j ∧ sv = .bool (true && (a.take j == b.take j)) ∧ Below w4.heap.size w4 wr) (fun _ i _ => a.length - (intOf i).toNat)
  case atStart => exact ⟨0, by omega, by omega, rfl, by simp, Below.refl _ _⟩
  case round =>
    obtain ⟨j, hja, hjb, rfl, rfl, hb⟩ := hrel
    by_cases h1 : j < a.length
    · by_cases h2 : j < b.length
      · obtain ⟨ba, oa, cca, e1, _, hra, hba⟩ := HA4.out.sl.pos (by omega) (by decide)
        cases e1
        obtain ⟨bb, ob, ccb, e2, _, hrb, hbb⟩ := HB4.out.sl.pos (by omega) (by decide)
        cases e2
        have hla := List.getElem?_eq_getElem h1
        have hlb := List.getElem?_eq_getElem h2
        have hjva : j < va.length := by rw [HA4.out.len]; exact h1
        have hjvb : j < vb.length := by rw [HB4.out.len]; exact h2
        have hva := List.getElem?_eq_getElem hjva
        have hvb := List.getElem?_eq_getElem hjvb
        have hya := HA4.out.each j _ _ hva hla
        have hyb := HB4.out.each j _ _ hvb hlb
        have hca := hra j _ hva
        have hcb := hrb j _ hvb
        have hll := HMA.out a[j] (List.getElem_mem h1)
        obtain ⟨l, hl⟩ : ∃ l, l = a[j] := ⟨_, rfl⟩
        obtain ⟨m, hm⟩ : ∃ m, m = b[j] := ⟨_, rfl⟩
        obtain ⟨x1, hx1⟩ : ∃ x1, x1 = va[j] := ⟨_, rfl⟩
        obtain ⟨x2, hx2⟩ : ∃ x2, x2 = vb[j] := ⟨_, rfl⟩
        rw [← hl] at hla hya hll
        rw [← hm] at hlb hyb
        rw [← hx1] at hya hca
        rw [← hx2] at hyb hcb
        have hst : (a.take (j + 1) == b.take (j + 1)) = ((a.take j == b.take j) && (l == m)) := by
          rw [List.take_add_one, List.take_add_one, hla, hlb]
          have hlen : (a.take j).length = (b.take j).length := by rw [List.length_take, List.length_take]; omega
          by_cases hq : a.take j = b.take j ∧ l = m
          · obtain ⟨q1, q2⟩ := hq
            rw [q1, q2]
            simp
          · have r1 : ((a.take j == b.take j) && (l == m)) = false := by
              rw [Bool.and_eq_false_iff, beq_eq_false_iff_ne, beq_eq_false_iff_ne]
              by_cases q : a.take j = b.take j
              · exact .inr fun q2 => hq ⟨q, q2⟩
              · exact .inl q
            rw [r1, beq_eq_false_iff_ne]
            intro hc
            obtain ⟨q1, q2⟩ := List.append_inj hc hlen
            exact hq ⟨q1, by simpa using q2⟩
        have HST := Lib.hid hst
        have HYA := Lib.hid (hya.below hb)
        have HYB := Lib.hid (hyb.below hb)
        have HCA := Lib.hid ((hb.cell (p := ⟨ba, _, none⟩) hba).trans hca)
        have HCB := Lib.hid ((hb.cell (p := ⟨bb, _, none⟩) hbb).trans hcb)
        have hlta : ba < wr.heap.size := Nat.lt_of_lt_of_le hba hb.size
        have hltb : bb < wr.heap.size := Nat.lt_of_lt_of_le hbb hb.size
        clear hst hla hlb hva hvb hya hyb hca hcb hl hm hx1 hx2 hra hrb
        obtain ⟨y1, c1, rfl, _⟩ := HYA.out.form
        obtain ⟨y2, c2, rfl, _⟩ := HYB.out.form
        have d1 : decide ((j : Int) < (a.length : Int)) = true := by rw [decide_eq_true_iff]; omega
        have d2 : decide ((j : Int) < (b.length : Int)) = true := by rw [decide_eq_true_iff]; omega
        obtain ⟨S, hS⟩ : ∃ S, S = (true && (a.take j == b.take j)) := ⟨_, rfl⟩
        have HSS : Hid ((true && (a.take (j + 1) == b.take (j + 1))) = (S && (l == m))) := Lib.hid (by rw [HST.out, hS, Bool.and_assoc])
        rw [← hS]
        clear hS
        cases S
        · go_wp2_with fail
          refine wp_region_mono 12 (wr.heap.size) [(fun v _ => v = .bool false), (fun v _ => v = .bool false), (fun v _ => v = undef), (fun v _ => v = undef), (fun v _ => v = undef), (fun v _ => v = undef), (fun v _ => v = undef), (fun v _ => v = undef), (fun v _ => v = undef), (fun v _ => v = undef), (fun v _ => v = undef), (fun v _ => v = .bool false)] (by kernel_rfl) (by kernel_rfl) (Nat.le_refl _) ?mkept _ rfl ?mops ?mfin
          case mkept =>
            repeat (refine List.forall_mem_cons.2 ⟨by first | exact fun _ _ _ _ h => h | exact fun _ _ _ hb h => Parts.below h hb | exact fun _ _ _ hb h => IsSl.below h hb, ?_⟩)
            exact fun _ h => by cases h
          case mops =>
            simp only [List.take_succ_cons, List.take_zero, monoAll, List.getD_cons_zero, List.getD_cons_succ]
            iterate 12
             (refine ⟨fun x wr hb hd Qg hK => ?_, ?_⟩
              · as_aux_lemma =>
                simp only [fill, Act.put, List.setIfInBounds_toArray, List.set_cons_succ, List.set_cons_zero, needs, Region.binds, List.filter_cons, List.filter_nil, List.map_cons, List.map_nil, if_true, List.mem_cons, List.not_mem_nil, or_false, forall_eq_or_imp, forall_eq, List.getD_cons_zero, List.getD_cons_succ, false_implies, implies_true] at hd hK ⊢
                (try simp only [hd] at hK ⊢)
                first
                | (go_wp2_with fail; exact hK _ _ rfl (Below.refl _ _)))
            trivial
          case mfin =>
            intro y w6 hb6 hR
            have x11 := hR 11 (by decide)
            simp only [List.getD_cons_zero, List.getD_cons_succ] at x11
            clear hR
            simp only [List.drop_succ_cons, List.drop_zero]
            generalize List.toArray _ = L0
            simp only [List.take_succ_cons, List.take_zero, List.map_cons, List.map_nil, fill, Act.put, List.setIfInBounds_toArray, List.set_cons_succ, List.set_cons_zero, x11]
            clear x11
            go_wp2_with fail
            refine ⟨⟨j + 1, by omega, by omega, by go_num, by rw [HSS.out]; rfl, hb.trans (hb6.mono hb.size)⟩, by simp [intOf]; omega⟩
        · go_wp2_with fail
          refine wp_region_mono 12 (wr.heap.size) [(fun v _ => v = .bool true), (fun v _ => v = .bool true), (fun v _ => v = .slice (some ⟨ba, oa, none⟩) a.length cp), (fun v _ => v = .int .i64 j), (fun v _ => v = .pointer (some ⟨ba, oa + j, none⟩)), (fun v _ => v = .slice y1 l.length c1), (fun v _ => v = .slice (some ⟨bb, ob, none⟩) b.length cq), (fun v _ => v = .int .i64 j), (fun v _ => v = .pointer (some ⟨bb, ob + j, none⟩)), (fun v _ => v = .slice y2 m.length c2), (fun v _ => v = .bool (l == m)), (fun v _ => v = .bool (l == m))] (by kernel_rfl) (by kernel_rfl) (Nat.le_refl _) ?mkept _ rfl ?mops ?mfin
          case mkept =>
            repeat (refine List.forall_mem_cons.2 ⟨by first | exact fun _ _ _ _ h => h | exact fun _ _ _ hb h => Parts.below h hb | exact fun _ _ _ hb h => IsSl.below h hb, ?_⟩)
            exact fun _ h => by cases h
          case mops =>
            simp only [List.take_succ_cons, List.take_zero, monoAll, List.getD_cons_zero, List.getD_cons_succ]
            iterate 12
            
             (refine ⟨fun x wr hb hd Qg hK => ?_, ?_⟩
              · as_aux_lemma =>
                simp only [fill, Act.put, List.setIfInBounds_toArray, List.set_cons_succ, List.set_cons_zero, needs, Region.binds, List.filter_cons, List.filter_nil, List.map_cons, List.map_nil, if_true, List.mem_cons, List.not_mem_nil, or_false, forall_eq_or_imp, forall_eq, List.getD_cons_zero, List.getD_cons_succ, false_implies, implies_true] at hd hK ⊢
                (try simp only [hd] at hK ⊢)
                first
                | (show wpList _ _ _ [⟨some 56, .load _ _, _, _, _, _⟩] _ _; have hcell := (hb.cell (p := ⟨ba, oa + j, none⟩) hlta).trans HCA.out; go_wp2_with fail; exact hK _ _ rfl (Below.refl _ _))
                | (show wpList _ _ _ [⟨some 60, .load _ _, _, _, _, _⟩] _ _; have hcell := (hb.cell (p := ⟨bb, ob + j, none⟩) hltb).trans HCB.out; go_wp2_with fail; exact hK _ _ rfl (Below.refl _ _))
                | (show wpList _ _ _ [⟨some 61, .call _, _, _, _, _⟩] _ _; go_wp2_with (go_at_call 18; refine (refbytes_any _ _ l m wr (HYA.out.below hb) (HYB.out.below hb) hll).mono ?_; rintro e w5 ⟨rfl, hb5⟩); exact hK _ _ (rfl) hb5)
                | (go_wp2_with fail; exact hK _ _ rfl (Below.refl _ _)))
            trivial
          case mfin =>
            intro y w6 hb6 hR
            have x11 := hR 11 (by decide)
            simp only [List.getD_cons_zero, List.getD_cons_succ] at x11
            clear hR
            simp only [List.drop_succ_cons, List.drop_zero]
            generalize List.toArray _ = L0
            simp only [List.take_succ_cons, List.take_zero, List.map_cons, List.map_nil, fill, Act.put, List.setIfInBounds_toArray, List.set_cons_succ, List.set_cons_zero, x11]
            clear x11
            go_wp2_with fail
            refine ⟨⟨j + 1, by omega, by omega, by go_num, by rw [HSS.out]; rfl, hb.trans (hb6.mono hb.size)⟩, by simp [intOf]; omega⟩
      · have hend : (true && (a.take j == b.take j)) = (d == e && a == b) := by rw [HS0.out]; exact lists_end d e a b j (by omega) (by omega)
        have d1 : decide ((j : Int) < (a.length : Int)) = true := by rw [decide_eq_true_iff]; omega
        have d2 : decide ((j : Int) < (b.length : Int)) = false := by rw [decide_eq_false_iff_not]; omega
        rw [hend]
        clear hend
        go_wp2_with fail
        refine (refbytes_any _ _ (textN (d.toNat : Int) a) (textN (e.toNat : Int) b) wr (HX4.out.below hb) (HY4.out.below hb) HXL.out).mono ?_
        rintro e5 w5 ⟨rfl, hb5⟩
        rw [textN_same d e a b HMA2.out HMB2.out]
        have hb45 := hb.trans (hb5.mono hb.size)
        clear hb hb5
        obtain ⟨R, hR⟩ : ∃ R, R = (d == e && a == b) := ⟨_, rfl⟩
        have HR := Lib.hid hR
        rw [← hR]
        clear hR
        have hw5 := hw4.trans (hb45.mono hw4.size)
        have HX5 := Lib.hid (HX4.out.below hb45)
        have HA5 := Lib.hid (HA4.out.below hb45)
        have HB5 := Lib.hid (HB4.out.below hb45)
        have HG5 := Lib.hid (HG4.out.below hb45)
        obtain ⟨O, hO⟩ : ∃ O, O = ofN (d.toNat : Int) a := ⟨_, rfl⟩
        have HO := Lib.hid hO
        have HO2 := Lib.hid (show sumN (textN (d.toNat : Int) a) = O by rw [hO]; rfl)
        have heo := fun w => eq_hash_same w O (by rw [hO]; exact sumN_len _)
        clear hO hb45
        cases R
        · go_wp2_with fail
          refine (of_any (d.toNat : Int) _ a va w5 HA5.out (by omega) (by omega) HG5.out).mono ?_
          rintro e6 w6 ⟨rfl, hb6⟩
          rw [← HO.out]
          have hw6 := hw5.trans (hb6.mono hw5.size)
          have HA6 := Lib.hid (HA5.out.below hb6)
          have HB6 := Lib.hid (HB5.out.below hb6)
          have HX6 := Lib.hid (HX5.out.below hb6)
          have HG6 := Lib.hid (HG5.out.below hb6)
          clear hb6 hw5
          go_wp2_with fail
          refine (refsum_any _ (textN (d.toNat : Int) a) w6 HX6.out (by have := HXS.out; omega) HG6.out).mono ?_
          rintro e7 w7 ⟨rfl, hb7⟩
          rw [HO2.out]
          have hw7 := hw6.trans (hb7.mono hw6.size)
          have HA7 := Lib.hid (HA6.out.below hb7)
          have HB7 := Lib.hid (HB6.out.below hb7)
          have HG7 := Lib.hid (HG6.out.below hb7)
          clear hb7 hw6
          go_wp2_with fail
          go_ret
          exact ⟨rfl, hw7⟩
        · have hre : ofN (e.toNat : Int) b = O := by
            have h := HR.out
            simp only [Bool.true_eq, Bool.and_eq_true, beq_iff_eq] at h
            rw [HO.out, h.1, h.2]
          have HRE := Lib.hid hre
          clear hre
          go_wp2_with fail
          refine (of_any (d.toNat : Int) _ a va w5 HA5.out (by omega) (by omega) HG5.out).mono ?_
          rintro e6 w6 ⟨rfl, hb6⟩
          rw [← HO.out]
          have hw6 := hw5.trans (hb6.mono hw5.size)
          have HA6 := Lib.hid (HA5.out.below hb6)
          have HB6 := Lib.hid (HB5.out.below hb6)
          have HX6 := Lib.hid (HX5.out.below hb6)
          have HG6 := Lib.hid (HG5.out.below hb6)
          clear hb6 hw5
          go_wp2_with fail
          refine (refsum_any _ (textN (d.toNat : Int) a) w6 HX6.out (by have := HXS.out; omega) HG6.out).mono ?_
          rintro e7 w7 ⟨rfl, hb7⟩
          rw [HO2.out]
          have hw7 := hw6.trans (hb7.mono hw6.size)
          have HA7 := Lib.hid (HA6.out.below hb7)
          have HB7 := Lib.hid (HB6.out.below hb7)
          have HG7 := Lib.hid (HG6.out.below hb7)
          clear hb7 hw6
          go_wp2_with fail
          refine (of_any (d.toNat : Int) _ a va w7 HA7.out (by omega) (by omega) HG7.out).mono ?_
          rintro e8 w8 ⟨rfl, hb8⟩
          rw [← HO.out]
          have hw8 := hw7.trans (hb8.mono hw7.size)
          have HB8 := Lib.hid (HB7.out.below hb8)
          have HG8 := Lib.hid (HG7.out.below hb8)
          clear hb8 hw7
          go_wp2_with fail
          refine (of_any (e.toNat : Int) _ b vb w8 HB8.out (by omega) (by omega) HG8.out).mono ?_
          rintro e9 w9 ⟨rfl, hb9⟩
          rw [HRE.out]
          have hw9 := hw8.trans (hb9.mono hw8.size)
          clear hb9 hw8
          go_wp2_with fail
          go_ret
          exact ⟨rfl, hw9⟩
    · have hend : (true && (a.take j == b.take j)) = (d == e && a == b) := by rw [HS0.out]; exact lists_end d e a b j (by omega) (by omega)
      have d1 : decide ((j : Int) < (a.length : Int)) = false := by rw [decide_eq_false_iff_not]; omega
      rw [hend]
      clear hend
      go_wp2_with fail
      refine (refbytes_any _ _ (textN (d.toNat : Int) a) (textN (e.toNat : Int) b) wr (HX4.out.below hb) (HY4.out.below hb) HXL.out).mono ?_
      rintro e5 w5 ⟨rfl, hb5⟩
      rw [textN_same d e a b HMA2.out HMB2.out]
      have hb45 := hb.trans (hb5.mono hb.size)
      clear hb hb5
      obtain ⟨R, hR⟩ : ∃ R, R = (d == e && a == b) := ⟨_, rfl⟩
      have HR := Lib.hid hR
      rw [← hR]
      clear hR
      have hw5 := hw4.trans (hb45.mono hw4.size)
      have HX5 := Lib.hid (HX4.out.below hb45)
      have HA5 := Lib.hid (HA4.out.below hb45)
      have HB5 := Lib.hid (HB4.out.below hb45)
      have HG5 := Lib.hid (HG4.out.below hb45)
      obtain ⟨O, hO⟩ : ∃ O, O = ofN (d.toNat : Int) a := ⟨_, rfl⟩
      have HO := Lib.hid hO
      have HO2 := Lib.hid (show sumN (textN (d.toNat : Int) a) = O by rw [hO]; rfl)
      have heo := fun w => eq_hash_same w O (by rw [hO]; exact sumN_len _)
      clear hO hb45
      cases R
      · go_wp2_with fail
        refine (of_any (d.toNat : Int) _ a va w5 HA5.out (by omega) (by omega) HG5.out).mono ?_
        rintro e6 w6 ⟨rfl, hb6⟩
        rw [← HO.out]
        have hw6 := hw5.trans (hb6.mono hw5.size)
        have HA6 := Lib.hid (HA5.out.below hb6)
        have HB6 := Lib.hid (HB5.out.below hb6)
        have HX6 := Lib.hid (HX5.out.below hb6)
        have HG6 := Lib.hid (HG5.out.below hb6)
        clear hb6 hw5
        go_wp2_with fail
        refine (refsum_any _ (textN (d.toNat : Int) a) w6 HX6.out (by have := HXS.out; omega) HG6.out).mono ?_
        rintro e7 w7 ⟨rfl, hb7⟩
        rw [HO2.out]
        have hw7 := hw6.trans (hb7.mono hw6.size)
        have HA7 := Lib.hid (HA6.out.below hb7)
        have HB7 := Lib.hid (HB6.out.below hb7)
        have HG7 := Lib.hid (HG6.out.below hb7)
        clear hb7 hw6
        go_wp2_with fail
        go_ret
        exact ⟨rfl, hw7⟩
      · have hre : ofN (e.toNat : Int) b = O := by
          have h := HR.out
          simp only [Bool.true_eq, Bool.and_eq_true, beq_iff_eq] at h
          rw [HO.out, h.1, h.2]
        have HRE := Lib.hid hre
        clear hre
        go_wp2_with fail
        refine (of_any (d.toNat : Int) _ a va w5 HA5.out (by omega) (by omega) HG5.out).mono ?_
        rintro e6 w6 ⟨rfl, hb6⟩
        rw [← HO.out]
        have hw6 := hw5.trans (hb6.mono hw5.size)
        have HA6 := Lib.hid (HA5.out.below hb6)
        have HB6 := Lib.hid (HB5.out.below hb6)
        have HX6 := Lib.hid (HX5.out.below hb6)
        have HG6 := Lib.hid (HG5.out.below hb6)
        clear hb6 hw5
        go_wp2_with fail
        refine (refsum_any _ (textN (d.toNat : Int) a) w6 HX6.out (by have := HXS.out; omega) HG6.out).mono ?_
        rintro e7 w7 ⟨rfl, hb7⟩
        rw [HO2.out]
        have hw7 := hw6.trans (hb7.mono hw6.size)
        have HA7 := Lib.hid (HA6.out.below hb7)
        have HB7 := Lib.hid (HB6.out.below hb7)
        have HG7 := Lib.hid (HG6.out.below hb7)
        clear hb7 hw6
        go_wp2_with fail
        refine (of_any (d.toNat : Int) _ a va w7 HA7.out (by omega) (by omega) HG7.out).mono ?_
        rintro e8 w8 ⟨rfl, hb8⟩
        rw [← HO.out]
        have hw8 := hw7.trans (hb8.mono hw7.size)
        have HB8 := Lib.hid (HB7.out.below hb8)
        have HG8 := Lib.hid (HG7.out.below hb8)
        clear hb8 hw7
        go_wp2_with fail
        refine (of_any (e.toNat : Int) _ b vb w8 HB8.out (by omega) (by omega) HG8.out).mono ?_
        rintro e9 w9 ⟨rfl, hb9⟩
        rw [HRE.out]
        have hw9 := hw8.trans (hb9.mono hw8.size)
        clear hb9 hw8
        go_wp2_with fail
        go_ret
        exact ⟨rfl, hw9⟩

set_option maxRecDepth 100000 in
set_option maxHeartbeats 4000000 in
theorem lists_tf (d e : UInt8) (vp vq : Value) (a b : List (List UInt8)) (va vb : List Value) (w : World) (hpa : Parts w vp a va) (hpb : Parts w vq b vb) (hma : ∀ l ∈ a, l.length ≤ 4611686018427387904) (hmb : ∀ l ∈ b, l.length ≤ 4611686018427387904) (g1 : a.length + (cat a).length ≤ 1000) (g2 : b.length + (cat b).length ≤ 1000) (hg : Glob w)
    (f1 : ((d.toNat : Int) == (e.toNat : Int)) = true) (f2 : ((a.length : Int) == (b.length : Int)) = false) (hde : (d == e) = true) :
    Calls Tryd.prog 12 #[.int .u8 (d.toNat : Int), .int .u8 (e.toNat : Int), vp, vq] w fun e w' => e = .returned (.bool true) ∧ Below w.heap.size w w' := by
  obtain ⟨xp, cp, rfl, _⟩ := hpa.sl.form
  obtain ⟨xq, cq, rfl, _⟩ := hpb.sl.form
  have HG := Lib.hid hg
  have HA := Lib.hid hpa
  have HB := Lib.hid hpb
  have HMA := Lib.hid hma
  have HMB := Lib.hid hmb
  have HD1 := Lib.hid (show decide (1000 < a.length + (cat a).length) = false by rw [decide_eq_false_iff_not]; omega)
  have HD2 := Lib.hid (show decide (1000 < b.length + (cat b).length) = false by rw [decide_eq_false_iff_not]; omega)
  have hdl := d.toNat_lt
  have hel := e.toNat_lt
  have hlA := textN_len (d.toNat : Int) a
  have HXL := Lib.hid (show (textN (d.toNat : Int) a).length ≤ 4611686018427387904 by omega)
  have HXS := Lib.hid (show (textN (d.toNat : Int) a).length ≤ 100000 by omega)
  have HMA2 := Lib.hid (show ∀ l ∈ a, l.length < 4294967296 from fun l hl => by
    obtain ⟨i, hi⟩ := List.getElem?_of_mem hl
    have := part_le a i l hi
    omega)
  have HMB2 := Lib.hid (show ∀ l ∈ b, l.length < 4294967296 from fun l hl => by
    obtain ⟨i, hi⟩ := List.getElem?_of_mem hl
    have := part_le b i l hi
    omega)
  have HS0 := Lib.hid (show false = (d == e && (a.length : Int) == b.length) from by rw [f2, hde]; rfl)
  clear hlA hg hpa hpb hma hmb hde
  go_enter Tryd.func12, Tryd.ntmps12
  go_wp2_with (first
    | (go_at_call 25; refine (alive2_any _ HG.out).mono ?_; rintro e1 w1 ⟨rfl, hb1⟩)
    | fail)
  have HA1 := Lib.hid (HA.out.below hb1)
  refine (great_any _ a va w1 HA1.out HMA.out (by omega)).mono ?_
  rintro e2 w2 ⟨rfl, hb2⟩
  rw [HD1.out]
  have hw2 := hb1.trans (hb2.mono hb1.size)
  clear hb1 hb2 HA1
  go_wp2_with fail
  refine (great_any _ b vb w2 (HB.out.below hw2) HMB.out (by omega)).mono ?_
  rintro e3 w3 ⟨rfl, hb3⟩
  rw [HD2.out]
  have hw3 := hw2.trans (hb3.mono hw2.size)
  clear hw2 hb3
  go_wp2_with fail
  refine (reftext_any (d.toNat : Int) _ a va w3 (HA.out.below hw3) (by omega) (by omega)).mono ?_
  rintro e4 wx ⟨⟨v4, rfl, hv4⟩, hbx⟩
  have hwx := hw3.trans (hbx.mono hw3.size)
  obtain ⟨x4, c4, rfl, _⟩ := hv4.form
  have HVX := Lib.hid hv4
  clear hbx hw3 hv4
  go_wp2_with fail
  refine (reftext_any (e.toNat : Int) _ b vb wx (HB.out.below hwx) (by omega) (by omega)).mono ?_
  rintro e5 w4 ⟨⟨v5, rfl, hv5⟩, hb4⟩
  have hw4 := hwx.trans (hb4.mono hwx.size)
  obtain ⟨y4, cy4, rfl, _⟩ := hv5.form
  have HX4 := Lib.hid (HVX.out.below hb4)
  have HY4 := Lib.hid hv5
  have HA4 := Lib.hid (HA.out.below hw4)
  have HB4 := Lib.hid (HB.out.below hw4)
  have HG4 := Lib.hid (HG.out.below hw4)
  clear hb4 hwx hv5 HVX
  go_wp2_with fail
  go_loopw [11, 12] (fun sv i wr => ∃ j : Nat, j ≤ a.length ∧ j ≤ b.length ∧ i = .int .i64 j ∧ sv = .bool (false && (a.take j == b.take j)) ∧ Below w4.heap.size w4 wr) (fun _ i _ => a.length - (intOf i).toNat)
  case atStart => exact ⟨0, by omega, by omega, rfl, by simp, Below.refl _ _⟩
  case round =>
    obtain ⟨j, hja, hjb, rfl, rfl, hb⟩ := hrel
    by_cases h1 : j < a.length
    · by_cases h2 : j < b.length
      · obtain ⟨ba, oa, cca, e1, _, hra, hba⟩ := HA4.out.sl.pos (by omega) (by decide)
        cases e1
        obtain ⟨bb, ob, ccb, e2, _, hrb, hbb⟩ := HB4.out.sl.pos (by omega) (by decide)
        cases e2
        have hla := List.getElem?_eq_getElem h1
        have hlb := List.getElem?_eq_getElem h2
        have hjva : j < va.length := by rw [HA4.out.len]; exact h1
        have hjvb : j < vb.length := by rw [HB4.out.len]; exact h2
        have hva := List.getElem?_eq_getElem hjva
        have hvb := List.getElem?_eq_getElem hjvb
        have hya := HA4.out.each j _ _ hva hla
        have hyb := HB4.out.each j _ _ hvb hlb
        have hca := hra j _ hva
        have hcb := hrb j _ hvb
        have hll := HMA.out a[j] (List.getElem_mem h1)
        obtain ⟨l, hl⟩ : ∃ l, l = a[j] := ⟨_, rfl⟩
        obtain ⟨m, hm⟩ : ∃ m, m = b[j] := ⟨_, rfl⟩
        obtain ⟨x1, hx1⟩ : ∃ x1, x1 = va[j] := ⟨_, rfl⟩
        obtain ⟨x2, hx2⟩ : ∃ x2, x2 = vb[j] := ⟨_, rfl⟩
        rw [← hl] at hla hya hll
        rw [← hm] at hlb hyb
        rw [← hx1] at hya hca
        rw [← hx2] at hyb hcb
        have hst : (a.take (j + 1) == b.take (j + 1)) = ((a.take j == b.take j) && (l == m)) := by
          rw [List.take_add_one, List.take_add_one, hla, hlb]
          have hlen : (a.take j).length = (b.take j).length := by rw [List.length_take, List.length_take]; omega
          by_cases hq : a.take j = b.take j ∧ l = m
          · obtain ⟨q1, q2⟩ := hq
            rw [q1, q2]
            simp
          · have r1 : ((a.take j == b.take j) && (l == m)) = false := by
              rw [Bool.and_eq_false_iff, beq_eq_false_iff_ne, beq_eq_false_iff_ne]
              by_cases q : a.take j = b.take j
              · exact .inr fun q2 => hq ⟨q, q2⟩
              · exact .inl q
            rw [r1, beq_eq_false_iff_ne]
            intro hc
            obtain ⟨q1, q2⟩ := List.append_inj hc hlen
            exact hq ⟨q1, by simpa using q2⟩
        have HST := Lib.hid hst
        have HYA := Lib.hid (hya.below hb)
        have HYB := Lib.hid (hyb.below hb)
        have HCA := Lib.hid ((hb.cell (p := ⟨ba, _, none⟩) hba).trans hca)
        have HCB := Lib.hid ((hb.cell (p := ⟨bb, _, none⟩) hbb).trans hcb)
        have hlta : ba < wr.heap.size := Nat.lt_of_lt_of_le hba hb.size
        have hltb : bb < wr.heap.size := Nat.lt_of_lt_of_le hbb hb.size
        clear hst hla hlb hva hvb hya hyb hca hcb hl hm hx1 hx2 hra hrb
        obtain ⟨y1, c1, rfl, _⟩ := HYA.out.form
        obtain ⟨y2, c2, rfl, _⟩ := HYB.out.form
        have d1 : decide ((j : Int) < (a.length : Int)) = true := by rw [decide_eq_true_iff]; omega
        have d2 : decide ((j : Int) < (b.length : Int)) = true := by rw [decide_eq_true_iff]; omega
        obtain ⟨S, hS⟩ : ∃ S, S = (false && (a.take j == b.take j)) := ⟨_, rfl⟩
        have HSS : Hid ((false && (a.take (j + 1) == b.take (j + 1))) = (S && (l == m))) := Lib.hid (by rw [HST.out, hS, Bool.and_assoc])
        rw [← hS]
        clear hS
        cases S
        · go_wp2_with fail
          refine wp_region_mono 12 (wr.heap.size) [(fun v _ => v = .bool false), (fun v _ => v = .bool false), (fun v _ => v = undef), (fun v _ => v = undef), (fun v _ => v = undef), (fun v _ => v = undef), (fun v _ => v = undef), (fun v _ => v = undef), (fun v _ => v = undef), (fun v _ => v = undef), (fun v _ => v = undef), (fun v _ => v = .bool false)] (by kernel_rfl) (by kernel_rfl) (Nat.le_refl _) ?mkept _ rfl ?mops ?mfin
          case mkept =>
            repeat (refine List.forall_mem_cons.2 ⟨by first | exact fun _ _ _ _ h => h | exact fun _ _ _ hb h => Parts.below h hb | exact fun _ _ _ hb h => IsSl.below h hb, ?_⟩)
            exact fun _ h => by cases h
          case mops =>
            simp only [List.take_succ_cons, List.take_zero, monoAll, List.getD_cons_zero, List.getD_cons_succ]
            iterate 12
             (refine ⟨fun x wr hb hd Qg hK => ?_, ?_⟩
              · as_aux_lemma =>
                simp only [fill, Act.put, List.setIfInBounds_toArray, List.set_cons_succ, List.set_cons_zero, needs, Region.binds, List.filter_cons, List.filter_nil, List.map_cons, List.map_nil, if_true, List.mem_cons, List.not_mem_nil, or_false, forall_eq_or_imp, forall_eq, List.getD_cons_zero, List.getD_cons_succ, false_implies, implies_true] at hd hK ⊢
                (try simp only [hd] at hK ⊢)
                first
                | (go_wp2_with fail; exact hK _ _ rfl (Below.refl _ _)))
            trivial
          case mfin =>
            intro y w6 hb6 hR
            have x11 := hR 11 (by decide)
            simp only [List.getD_cons_zero, List.getD_cons_succ] at x11
            clear hR
            simp only [List.drop_succ_cons, List.drop_zero]
            generalize List.toArray _ = L0
            simp only [List.take_succ_cons, List.take_zero, List.map_cons, List.map_nil, fill, Act.put, List.setIfInBounds_toArray, List.set_cons_succ, List.set_cons_zero, x11]
            clear x11
            go_wp2_with fail
            refine ⟨⟨j + 1, by omega, by omega, by go_num, by rw [HSS.out]; rfl, hb.trans (hb6.mono hb.size)⟩, by simp [intOf]; omega⟩
        · go_wp2_with fail
          refine wp_region_mono 12 (wr.heap.size) [(fun v _ => v = .bool true), (fun v _ => v = .bool true), (fun v _ => v = .slice (some ⟨ba, oa, none⟩) a.length cp), (fun v _ => v = .int .i64 j), (fun v _ => v = .pointer (some ⟨ba, oa + j, none⟩)), (fun v _ => v = .slice y1 l.length c1), (fun v _ => v = .slice (some ⟨bb, ob, none⟩) b.length cq), (fun v _ => v = .int .i64 j), (fun v _ => v = .pointer (some ⟨bb, ob + j, none⟩)), (fun v _ => v = .slice y2 m.length c2), (fun v _ => v = .bool (l == m)), (fun v _ => v = .bool (l == m))] (by kernel_rfl) (by kernel_rfl) (Nat.le_refl _) ?mkept _ rfl ?mops ?mfin
          case mkept =>
            repeat (refine List.forall_mem_cons.2 ⟨by first | exact fun _ _ _ _ h => h | exact fun _ _ _ hb h => Parts.below h hb | exact fun _ _ _ hb h => IsSl.below h hb, ?_⟩)
            exact fun _ h => by cases h
          case mops =>
            simp only [List.take_succ_cons, List.take_zero, monoAll, List.getD_cons_zero, List.getD_cons_succ]
            iterate 12
            
             (refine ⟨fun x wr hb hd Qg hK => ?_, ?_⟩
              · as_aux_lemma =>
                simp only [fill, Act.put, List.setIfInBounds_toArray, List.set_cons_succ, List.set_cons_zero, needs, Region.binds, List.filter_cons, List.filter_nil, List.map_cons, List.map_nil, if_true, List.mem_cons, List.not_mem_nil, or_false, forall_eq_or_imp, forall_eq, List.getD_cons_zero, List.getD_cons_succ, false_implies, implies_true] at hd hK ⊢
                (try simp only [hd] at hK ⊢)
                first
                | (show wpList _ _ _ [⟨some 56, .load _ _, _, _, _, _⟩] _ _; have hcell := (hb.cell (p := ⟨ba, oa + j, none⟩) hlta).trans HCA.out; go_wp2_with fail; exact hK _ _ rfl (Below.refl _ _))
                | (show wpList _ _ _ [⟨some 60, .load _ _, _, _, _, _⟩] _ _; have hcell := (hb.cell (p := ⟨bb, ob + j, none⟩) hltb).trans HCB.out; go_wp2_with fail; exact hK _ _ rfl (Below.refl _ _))
                | (show wpList _ _ _ [⟨some 61, .call _, _, _, _, _⟩] _ _; go_wp2_with (go_at_call 18; refine (refbytes_any _ _ l m wr (HYA.out.below hb) (HYB.out.below hb) hll).mono ?_; rintro e w5 ⟨rfl, hb5⟩); exact hK _ _ (rfl) hb5)
                | (go_wp2_with fail; exact hK _ _ rfl (Below.refl _ _)))
            trivial
          case mfin =>
            intro y w6 hb6 hR
            have x11 := hR 11 (by decide)
            simp only [List.getD_cons_zero, List.getD_cons_succ] at x11
            clear hR
            simp only [List.drop_succ_cons, List.drop_zero]
            generalize List.toArray _ = L0
            simp only [List.take_succ_cons, List.take_zero, List.map_cons, List.map_nil, fill, Act.put, List.setIfInBounds_toArray, List.set_cons_succ, List.set_cons_zero, x11]
            clear x11
            go_wp2_with fail
            refine ⟨⟨j + 1, by omega, by omega, by go_num, by rw [HSS.out]; rfl, hb.trans (hb6.mono hb.size)⟩, by simp [intOf]; omega⟩
      · have hend : (false && (a.take j == b.take j)) = (d == e && a == b) := by rw [HS0.out]; exact lists_end d e a b j (by omega) (by omega)
        have d1 : decide ((j : Int) < (a.length : Int)) = true := by rw [decide_eq_true_iff]; omega
        have d2 : decide ((j : Int) < (b.length : Int)) = false := by rw [decide_eq_false_iff_not]; omega
        rw [hend]
        clear hend
        go_wp2_with fail
        refine (refbytes_any _ _ (textN (d.toNat : Int) a) (textN (e.toNat : Int) b) wr (HX4.out.below hb) (HY4.out.below hb) HXL.out).mono ?_
        rintro e5 w5 ⟨rfl, hb5⟩
        rw [textN_same d e a b HMA2.out HMB2.out]
        have hb45 := hb.trans (hb5.mono hb.size)
        clear hb hb5
        obtain ⟨R, hR⟩ : ∃ R, R = (d == e && a == b) := ⟨_, rfl⟩
        have HR := Lib.hid hR
        rw [← hR]
        clear hR
        have hw5 := hw4.trans (hb45.mono hw4.size)
        have HX5 := Lib.hid (HX4.out.below hb45)
        have HA5 := Lib.hid (HA4.out.below hb45)
        have HB5 := Lib.hid (HB4.out.below hb45)
        have HG5 := Lib.hid (HG4.out.below hb45)
        obtain ⟨O, hO⟩ : ∃ O, O = ofN (d.toNat : Int) a := ⟨_, rfl⟩
        have HO := Lib.hid hO
        have HO2 := Lib.hid (show sumN (textN (d.toNat : Int) a) = O by rw [hO]; rfl)
        have heo := fun w => eq_hash_same w O (by rw [hO]; exact sumN_len _)
        clear hO hb45
        cases R
        · go_wp2_with fail
          refine (of_any (d.toNat : Int) _ a va w5 HA5.out (by omega) (by omega) HG5.out).mono ?_
          rintro e6 w6 ⟨rfl, hb6⟩
          rw [← HO.out]
          have hw6 := hw5.trans (hb6.mono hw5.size)
          have HA6 := Lib.hid (HA5.out.below hb6)
          have HB6 := Lib.hid (HB5.out.below hb6)
          have HX6 := Lib.hid (HX5.out.below hb6)
          have HG6 := Lib.hid (HG5.out.below hb6)
          clear hb6 hw5
          go_wp2_with fail
          refine (refsum_any _ (textN (d.toNat : Int) a) w6 HX6.out (by have := HXS.out; omega) HG6.out).mono ?_
          rintro e7 w7 ⟨rfl, hb7⟩
          rw [HO2.out]
          have hw7 := hw6.trans (hb7.mono hw6.size)
          have HA7 := Lib.hid (HA6.out.below hb7)
          have HB7 := Lib.hid (HB6.out.below hb7)
          have HG7 := Lib.hid (HG6.out.below hb7)
          clear hb7 hw6
          go_wp2_with fail
          go_ret
          exact ⟨rfl, hw7⟩
        · have hre : ofN (e.toNat : Int) b = O := by
            have h := HR.out
            simp only [Bool.true_eq, Bool.and_eq_true, beq_iff_eq] at h
            rw [HO.out, h.1, h.2]
          have HRE := Lib.hid hre
          clear hre
          go_wp2_with fail
          refine (of_any (d.toNat : Int) _ a va w5 HA5.out (by omega) (by omega) HG5.out).mono ?_
          rintro e6 w6 ⟨rfl, hb6⟩
          rw [← HO.out]
          have hw6 := hw5.trans (hb6.mono hw5.size)
          have HA6 := Lib.hid (HA5.out.below hb6)
          have HB6 := Lib.hid (HB5.out.below hb6)
          have HX6 := Lib.hid (HX5.out.below hb6)
          have HG6 := Lib.hid (HG5.out.below hb6)
          clear hb6 hw5
          go_wp2_with fail
          refine (refsum_any _ (textN (d.toNat : Int) a) w6 HX6.out (by have := HXS.out; omega) HG6.out).mono ?_
          rintro e7 w7 ⟨rfl, hb7⟩
          rw [HO2.out]
          have hw7 := hw6.trans (hb7.mono hw6.size)
          have HA7 := Lib.hid (HA6.out.below hb7)
          have HB7 := Lib.hid (HB6.out.below hb7)
          have HG7 := Lib.hid (HG6.out.below hb7)
          clear hb7 hw6
          go_wp2_with fail
          refine (of_any (d.toNat : Int) _ a va w7 HA7.out (by omega) (by omega) HG7.out).mono ?_
          rintro e8 w8 ⟨rfl, hb8⟩
          rw [← HO.out]
          have hw8 := hw7.trans (hb8.mono hw7.size)
          have HB8 := Lib.hid (HB7.out.below hb8)
          have HG8 := Lib.hid (HG7.out.below hb8)
          clear hb8 hw7
          go_wp2_with fail
          refine (of_any (e.toNat : Int) _ b vb w8 HB8.out (by omega) (by omega) HG8.out).mono ?_
          rintro e9 w9 ⟨rfl, hb9⟩
          rw [HRE.out]
          have hw9 := hw8.trans (hb9.mono hw8.size)
          clear hb9 hw8
          go_wp2_with fail
          go_ret
          exact ⟨rfl, hw9⟩
    · have hend : (false && (a.take j == b.take j)) = (d == e && a == b) := by rw [HS0.out]; exact lists_end d e a b j (by omega) (by omega)
      have d1 : decide ((j : Int) < (a.length : Int)) = false := by rw [decide_eq_false_iff_not]; omega
      rw [hend]
      clear hend
      go_wp2_with fail
      refine (refbytes_any _ _ (textN (d.toNat : Int) a) (textN (e.toNat : Int) b) wr (HX4.out.below hb) (HY4.out.below hb) HXL.out).mono ?_
      rintro e5 w5 ⟨rfl, hb5⟩
      rw [textN_same d e a b HMA2.out HMB2.out]
      have hb45 := hb.trans (hb5.mono hb.size)
      clear hb hb5
      obtain ⟨R, hR⟩ : ∃ R, R = (d == e && a == b) := ⟨_, rfl⟩
      have HR := Lib.hid hR
      rw [← hR]
      clear hR
      have hw5 := hw4.trans (hb45.mono hw4.size)
      have HX5 := Lib.hid (HX4.out.below hb45)
      have HA5 := Lib.hid (HA4.out.below hb45)
      have HB5 := Lib.hid (HB4.out.below hb45)
      have HG5 := Lib.hid (HG4.out.below hb45)
      obtain ⟨O, hO⟩ : ∃ O, O = ofN (d.toNat : Int) a := ⟨_, rfl⟩
      have HO := Lib.hid hO
      have HO2 := Lib.hid (show sumN (textN (d.toNat : Int) a) = O by rw [hO]; rfl)
      have heo := fun w => eq_hash_same w O (by rw [hO]; exact sumN_len _)
      clear hO hb45
      cases R
      · go_wp2_with fail
        refine (of_any (d.toNat : Int) _ a va w5 HA5.out (by omega) (by omega) HG5.out).mono ?_
        rintro e6 w6 ⟨rfl, hb6⟩
        rw [← HO.out]
        have hw6 := hw5.trans (hb6.mono hw5.size)
        have HA6 := Lib.hid (HA5.out.below hb6)
        have HB6 := Lib.hid (HB5.out.below hb6)
        have HX6 := Lib.hid (HX5.out.below hb6)
        have HG6 := Lib.hid (HG5.out.below hb6)
        clear hb6 hw5
        go_wp2_with fail
        refine (refsum_any _ (textN (d.toNat : Int) a) w6 HX6.out (by have := HXS.out; omega) HG6.out).mono ?_
        rintro e7 w7 ⟨rfl, hb7⟩
        rw [HO2.out]
        have hw7 := hw6.trans (hb7.mono hw6.size)
        have HA7 := Lib.hid (HA6.out.below hb7)
        have HB7 := Lib.hid (HB6.out.below hb7)
        have HG7 := Lib.hid (HG6.out.below hb7)
        clear hb7 hw6
        go_wp2_with fail
        go_ret
        exact ⟨rfl, hw7⟩
      · have hre : ofN (e.toNat : Int) b = O := by
          have h := HR.out
          simp only [Bool.true_eq, Bool.and_eq_true, beq_iff_eq] at h
          rw [HO.out, h.1, h.2]
        have HRE := Lib.hid hre
        clear hre
        go_wp2_with fail
        refine (of_any (d.toNat : Int) _ a va w5 HA5.out (by omega) (by omega) HG5.out).mono ?_
        rintro e6 w6 ⟨rfl, hb6⟩
        rw [← HO.out]
        have hw6 := hw5.trans (hb6.mono hw5.size)
        have HA6 := Lib.hid (HA5.out.below hb6)
        have HB6 := Lib.hid (HB5.out.below hb6)
        have HX6 := Lib.hid (HX5.out.below hb6)
        have HG6 := Lib.hid (HG5.out.below hb6)
        clear hb6 hw5
        go_wp2_with fail
        refine (refsum_any _ (textN (d.toNat : Int) a) w6 HX6.out (by have := HXS.out; omega) HG6.out).mono ?_
        rintro e7 w7 ⟨rfl, hb7⟩
        rw [HO2.out]
        have hw7 := hw6.trans (hb7.mono hw6.size)
        have HA7 := Lib.hid (HA6.out.below hb7)
        have HB7 := Lib.hid (HB6.out.below hb7)
        have HG7 := Lib.hid (HG6.out.below hb7)
        clear hb7 hw6
        go_wp2_with fail
        refine (of_any (d.toNat : Int) _ a va w7 HA7.out (by omega) (by omega) HG7.out).mono ?_
        rintro e8 w8 ⟨rfl, hb8⟩
        rw [← HO.out]
        have hw8 := hw7.trans (hb8.mono hw7.size)
        have HB8 := Lib.hid (HB7.out.below hb8)
        have HG8 := Lib.hid (HG7.out.below hb8)
        clear hb8 hw7
        go_wp2_with fail
        refine (of_any (e.toNat : Int) _ b vb w8 HB8.out (by omega) (by omega) HG8.out).mono ?_
        rintro e9 w9 ⟨rfl, hb9⟩
        rw [HRE.out]
        have hw9 := hw8.trans (hb9.mono hw8.size)
        clear hb9 hw8
        go_wp2_with fail
        go_ret
        exact ⟨rfl, hw9⟩

set_option maxRecDepth 100000 in
set_option maxHeartbeats 4000000 in
theorem lists_f (d e : UInt8) (vp vq : Value) (a b : List (List UInt8)) (va vb : List Value) (w : World) (hpa : Parts w vp a va) (hpb : Parts w vq b vb) (hma : ∀ l ∈ a, l.length ≤ 4611686018427387904) (hmb : ∀ l ∈ b, l.length ≤ 4611686018427387904) (g1 : a.length + (cat a).length ≤ 1000) (g2 : b.length + (cat b).length ≤ 1000) (hg : Glob w)
    (f1 : ((d.toNat : Int) == (e.toNat : Int)) = false) (hde : (d == e) = false) :
    Calls Tryd.prog 12 #[.int .u8 (d.toNat : Int), .int .u8 (e.toNat : Int), vp, vq] w fun e w' => e = .returned (.bool true) ∧ Below w.heap.size w w' := by
  obtain ⟨xp, cp, rfl, _⟩ := hpa.sl.form
  obtain ⟨xq, cq, rfl, _⟩ := hpb.sl.form
  have HG := Lib.hid hg
  have HA := Lib.hid hpa
  have HB := Lib.hid hpb
  have HMA := Lib.hid hma
  have HMB := Lib.hid hmb
  have HD1 := Lib.hid (show decide (1000 < a.length + (cat a).length) = false by rw [decide_eq_false_iff_not]; omega)
  have HD2 := Lib.hid (show decide (1000 < b.length + (cat b).length) = false by rw [decide_eq_false_iff_not]; omega)
  have hdl := d.toNat_lt
  have hel := e.toNat_lt
  have hlA := textN_len (d.toNat : Int) a
  have HXL := Lib.hid (show (textN (d.toNat : Int) a).length ≤ 4611686018427387904 by omega)
  have HXS := Lib.hid (show (textN (d.toNat : Int) a).length ≤ 100000 by omega)
  have HMA2 := Lib.hid (show ∀ l ∈ a, l.length < 4294967296 from fun l hl => by
    obtain ⟨i, hi⟩ := List.getElem?_of_mem hl
    have := part_le a i l hi
    omega)
  have HMB2 := Lib.hid (show ∀ l ∈ b, l.length < 4294967296 from fun l hl => by
    obtain ⟨i, hi⟩ := List.getElem?_of_mem hl
    have := part_le b i l hi
    omega)
  have HS0 := Lib.hid (show false = (d == e && (a.length : Int) == b.length) from by rw [hde]; rfl)
  clear hlA hg hpa hpb hma hmb hde
  go_enter Tryd.func12, Tryd.ntmps12
  go_wp2_with (first
    | (go_at_call 25; refine (alive2_any _ HG.out).mono ?_; rintro e1 w1 ⟨rfl, hb1⟩)
    | fail)
  have HA1 := Lib.hid (HA.out.below hb1)
  refine (great_any _ a va w1 HA1.out HMA.out (by omega)).mono ?_
  rintro e2 w2 ⟨rfl, hb2⟩
  rw [HD1.out]
  have hw2 := hb1.trans (hb2.mono hb1.size)
  clear hb1 hb2 HA1
  go_wp2_with fail
  refine (great_any _ b vb w2 (HB.out.below hw2) HMB.out (by omega)).mono ?_
  rintro e3 w3 ⟨rfl, hb3⟩
  rw [HD2.out]
  have hw3 := hw2.trans (hb3.mono hw2.size)
  clear hw2 hb3
  go_wp2_with fail
  refine (reftext_any (d.toNat : Int) _ a va w3 (HA.out.below hw3) (by omega) (by omega)).mono ?_
  rintro e4 wx ⟨⟨v4, rfl, hv4⟩, hbx⟩
  have hwx := hw3.trans (hbx.mono hw3.size)
  obtain ⟨x4, c4, rfl, _⟩ := hv4.form
  have HVX := Lib.hid hv4
  clear hbx hw3 hv4
  go_wp2_with fail
  refine (reftext_any (e.toNat : Int) _ b vb wx (HB.out.below hwx) (by omega) (by omega)).mono ?_
  rintro e5 w4 ⟨⟨v5, rfl, hv5⟩, hb4⟩
  have hw4 := hwx.trans (hb4.mono hwx.size)
  obtain ⟨y4, cy4, rfl, _⟩ := hv5.form
  have HX4 := Lib.hid (HVX.out.below hb4)
  have HY4 := Lib.hid hv5
  have HA4 := Lib.hid (HA.out.below hw4)
  have HB4 := Lib.hid (HB.out.below hw4)
  have HG4 := Lib.hid (HG.out.below hw4)
  clear hb4 hwx hv5 HVX
  go_wp2_with fail
  go_loopw [11, 12] (fun sv i wr => ∃ j : Nat, j ≤ a.length ∧ j ≤ b.length ∧ i = .int .i64 j ∧ sv = .bool (false && (a.take j == b.take j)) ∧ Below w4.heap.size w4 wr) (fun _ i _ => a.length - (intOf i).toNat)
  case atStart => exact ⟨0, by omega, by omega, rfl, by simp, Below.refl _ _⟩
  case round =>
    obtain ⟨j, hja, hjb, rfl, rfl, hb⟩ := hrel
    by_cases h1 : j < a.length
    · by_cases h2 : j < b.length
      · obtain ⟨ba, oa, cca, e1, _, hra, hba⟩ := HA4.out.sl.pos (by omega) (by decide)
        cases e1
        obtain ⟨bb, ob, ccb, e2, _, hrb, hbb⟩ := HB4.out.sl.pos (by omega) (by decide)
        cases e2
        have hla := List.getElem?_eq_getElem h1
        have hlb := List.getElem?_eq_getElem h2
        have hjva : j < va.length := by rw [HA4.out.len]; exact h1
        have hjvb : j < vb.length := by rw [HB4.out.len]; exact h2
        have hva := List.getElem?_eq_getElem hjva
        have hvb := List.getElem?_eq_getElem hjvb
        have hya := HA4.out.each j _ _ hva hla
        have hyb := HB4.out.each j _ _ hvb hlb
        have hca := hra j _ hva
        have hcb := hrb j _ hvb
        have hll := HMA.out a[j] (List.getElem_mem h1)
        obtain ⟨l, hl⟩ : ∃ l, l = a[j] := ⟨_, rfl⟩
        obtain ⟨m, hm⟩ : ∃ m, m = b[j] := ⟨_, rfl⟩
        obtain ⟨x1, hx1⟩ : ∃ x1, x1 = va[j] := ⟨_, rfl⟩
        obtain ⟨x2, hx2⟩ : ∃ x2, x2 = vb[j] := ⟨_, rfl⟩
        rw [← hl] at hla hya hll
        rw [← hm] at hlb hyb
        rw [← hx1] at hya hca
        rw [← hx2] at hyb hcb
        have hst : (a.take (j + 1) == b.take (j + 1)) = ((a.take j == b.take j) && (l == m)) := by
          rw [List.take_add_one, List.take_add_one, hla, hlb]
          have hlen : (a.take j).length = (b.take j).length := by rw [List.length_take, List.length_take]; omega
          by_cases hq : a.take j = b.take j ∧ l = m
          · obtain ⟨q1, q2⟩ := hq
            rw [q1, q2]
            simp
          · have r1 : ((a.take j == b.take j) && (l == m)) = false := by
              rw [Bool.and_eq_false_iff, beq_eq_false_iff_ne, beq_eq_false_iff_ne]
              by_cases q : a.take j = b.take j
              · exact .inr fun q2 => hq ⟨q, q2⟩
              · exact .inl q
            rw [r1, beq_eq_false_iff_ne]
            intro hc
            obtain ⟨q1, q2⟩ := List.append_inj hc hlen
            exact hq ⟨q1, by simpa using q2⟩
        have HST := Lib.hid hst
        have HYA := Lib.hid (hya.below hb)
        have HYB := Lib.hid (hyb.below hb)
        have HCA := Lib.hid ((hb.cell (p := ⟨ba, _, none⟩) hba).trans hca)
        have HCB := Lib.hid ((hb.cell (p := ⟨bb, _, none⟩) hbb).trans hcb)
        have hlta : ba < wr.heap.size := Nat.lt_of_lt_of_le hba hb.size
        have hltb : bb < wr.heap.size := Nat.lt_of_lt_of_le hbb hb.size
        clear hst hla hlb hva hvb hya hyb hca hcb hl hm hx1 hx2 hra hrb
        obtain ⟨y1, c1, rfl, _⟩ := HYA.out.form
        obtain ⟨y2, c2, rfl, _⟩ := HYB.out.form
        have d1 : decide ((j : Int) < (a.length : Int)) = true := by rw [decide_eq_true_iff]; omega
        have d2 : decide ((j : Int) < (b.length : Int)) = true := by rw [decide_eq_true_iff]; omega
        obtain ⟨S, hS⟩ : ∃ S, S = (false && (a.take j == b.take j)) := ⟨_, rfl⟩
        have HSS : Hid ((false && (a.take (j + 1) == b.take (j + 1))) = (S && (l == m))) := Lib.hid (by rw [HST.out, hS, Bool.and_assoc])
        rw [← hS]
        clear hS
        cases S
        · go_wp2_with fail
          refine wp_region_mono 12 (wr.heap.size) [(fun v _ => v = .bool false), (fun v _ => v = .bool false), (fun v _ => v = undef), (fun v _ => v = undef), (fun v _ => v = undef), (fun v _ => v = undef), (fun v _ => v = undef), (fun v _ => v = undef), (fun v _ => v = undef), (fun v _ => v = undef), (fun v _ => v = undef), (fun v _ => v = .bool false)] (by kernel_rfl) (by kernel_rfl) (Nat.le_refl _) ?mkept _ rfl ?mops ?mfin
          case mkept =>
            repeat (refine List.forall_mem_cons.2 ⟨by first | exact fun _ _ _ _ h => h | exact fun _ _ _ hb h => Parts.below h hb | exact fun _ _ _ hb h => IsSl.below h hb, ?_⟩)
            exact fun _ h => by cases h
          case mops =>
            simp only [List.take_succ_cons, List.take_zero, monoAll, List.getD_cons_zero, List.getD_cons_succ]
            iterate 12
             (refine ⟨fun x wr hb hd Qg hK => ?_, ?_⟩
              · as_aux_lemma =>
                simp only [fill, Act.put, List.setIfInBounds_toArray, List.set_cons_succ, List.set_cons_zero, needs, Region.binds, List.filter_cons, List.filter_nil, List.map_cons, List.map_nil, if_true, List.mem_cons, List.not_mem_nil, or_false, forall_eq_or_imp, forall_eq, List.getD_cons_zero, List.getD_cons_succ, false_implies, implies_true] at hd hK ⊢
                (try simp only [hd] at hK ⊢)
                first
                | (go_wp2_with fail; exact hK _ _ rfl (Below.refl _ _)))
            trivial
          case mfin =>
            intro y w6 hb6 hR
            have x11 := hR 11 (by decide)
            simp only [List.getD_cons_zero, List.getD_cons_succ] at x11
            clear hR
            simp only [List.drop_succ_cons, List.drop_zero]
            generalize List.toArray _ = L0
            simp only [List.take_succ_cons, List.take_zero, List.map_cons, List.map_nil, fill, Act.put, List.setIfInBounds_toArray, List.set_cons_succ, List.set_cons_zero, x11]
            clear x11
            go_wp2_with fail
            refine ⟨⟨j + 1, by omega, by omega, by go_num, by rw [HSS.out]; rfl, hb.trans (hb6.mono hb.size)⟩, by simp [intOf]; omega⟩
        · go_wp2_with fail
          refine wp_region_mono 12 (wr.heap.size) [(fun v _ => v = .bool true), (fun v _ => v = .bool true), (fun v _ => v = .slice (some ⟨ba, oa, none⟩) a.length cp), (fun v _ => v = .int .i64 j), (fun v _ => v = .pointer (some ⟨ba, oa + j, none⟩)), (fun v _ => v = .slice y1 l.length c1), (fun v _ => v = .slice (some ⟨bb, ob, none⟩) b.length cq), (fun v _ => v = .int .i64 j), (fun v _ => v = .pointer (some ⟨bb, ob + j, none⟩)), (fun v _ => v = .slice y2 m.length c2), (fun v _ => v = .bool (l == m)), (fun v _ => v = .bool (l == m))] (by kernel_rfl) (by kernel_rfl) (Nat.le_refl _) ?mkept _ rfl ?mops ?mfin
          case mkept =>
            repeat (refine List.forall_mem_cons.2 ⟨by first | exact fun _ _ _ _ h => h | exact fun _ _ _ hb h => Parts.below h hb | exact fun _ _ _ hb h => IsSl.below h hb, ?_⟩)
            exact fun _ h => by cases h
          case mops =>
            simp only [List.take_succ_cons, List.take_zero, monoAll, List.getD_cons_zero, List.getD_cons_succ]
            iterate 12
            
             (refine ⟨fun x wr hb hd Qg hK => ?_, ?_⟩
              · as_aux_lemma =>
                simp only [fill, Act.put, List.setIfInBounds_toArray, List.set_cons_succ, List.set_cons_zero, needs, Region.binds, List.filter_cons, List.filter_nil, List.map_cons, List.map_nil, if_true, List.mem_cons, List.not_mem_nil, or_false, forall_eq_or_imp, forall_eq, List.getD_cons_zero, List.getD_cons_succ, false_implies, implies_true] at hd hK ⊢
                (try simp only [hd] at hK ⊢)
                first
                | (show wpList _ _ _ [⟨some 56, .load _ _, _, _, _, _⟩] _ _; have hcell := (hb.cell (p := ⟨ba, oa + j, none⟩) hlta).trans HCA.out; go_wp2_with fail; exact hK _ _ rfl (Below.refl _ _))
                | (show wpList _ _ _ [⟨some 60, .load _ _, _, _, _, _⟩] _ _; have hcell := (hb.cell (p := ⟨bb, ob + j, none⟩) hltb).trans HCB.out; go_wp2_with fail; exact hK _ _ rfl (Below.refl _ _))
                | (show wpList _ _ _ [⟨some 61, .call _, _, _, _, _⟩] _ _; go_wp2_with (go_at_call 18; refine (refbytes_any _ _ l m wr (HYA.out.below hb) (HYB.out.below hb) hll).mono ?_; rintro e w5 ⟨rfl, hb5⟩); exact hK _ _ (rfl) hb5)
                | (go_wp2_with fail; exact hK _ _ rfl (Below.refl _ _)))
            trivial
          case mfin =>
            intro y w6 hb6 hR
            have x11 := hR 11 (by decide)
            simp only [List.getD_cons_zero, List.getD_cons_succ] at x11
            clear hR
            simp only [List.drop_succ_cons, List.drop_zero]
            generalize List.toArray _ = L0
            simp only [List.take_succ_cons, List.take_zero, List.map_cons, List.map_nil, fill, Act.put, List.setIfInBounds_toArray, List.set_cons_succ, List.set_cons_zero, x11]
            clear x11
            go_wp2_with fail
            refine ⟨⟨j + 1, by omega, by omega, by go_num, by rw [HSS.out]; rfl, hb.trans (hb6.mono hb.size)⟩, by simp [intOf]; omega⟩
      · have hend : (false && (a.take j == b.take j)) = (d == e && a == b) := by rw [HS0.out]; exact lists_end d e a b j (by omega) (by omega)
        have d1 : decide ((j : Int) < (a.length : Int)) = true := by rw [decide_eq_true_iff]; omega
        have d2 : decide ((j : Int) < (b.length : Int)) = false := by rw [decide_eq_false_iff_not]; omega
        rw [hend]
        clear hend
        go_wp2_with fail
        refine (refbytes_any _ _ (textN (d.toNat : Int) a) (textN (e.toNat : Int) b) wr (HX4.out.below hb) (HY4.out.below hb) HXL.out).mono ?_
        rintro e5 w5 ⟨rfl, hb5⟩
        rw [textN_same d e a b HMA2.out HMB2.out]
        have hb45 := hb.trans (hb5.mono hb.size)
        clear hb hb5
        obtain ⟨R, hR⟩ : ∃ R, R = (d == e && a == b) := ⟨_, rfl⟩
        have HR := Lib.hid hR
        rw [← hR]
        clear hR
        have hw5 := hw4.trans (hb45.mono hw4.size)
        have HX5 := Lib.hid (HX4.out.below hb45)
        have HA5 := Lib.hid (HA4.out.below hb45)
        have HB5 := Lib.hid (HB4.out.below hb45)
        have HG5 := Lib.hid (HG4.out.below hb45)
        obtain ⟨O, hO⟩ : ∃ O, O = ofN (d.toNat : Int) a := ⟨_, rfl⟩
        have HO := Lib.hid hO
        have HO2 := Lib.hid (show sumN (textN (d.toNat : Int) a) = O by rw [hO]; rfl)
        have heo := fun w => eq_hash_same w O (by rw [hO]; exact sumN_len _)
        clear hO hb45
        cases R
        · go_wp2_with fail
          refine (of_any (d.toNat : Int) _ a va w5 HA5.out (by omega) (by omega) HG5.out).mono ?_
          rintro e6 w6 ⟨rfl, hb6⟩
          rw [← HO.out]
          have hw6 := hw5.trans (hb6.mono hw5.size)
          have HA6 := Lib.hid (HA5.out.below hb6)
          have HB6 := Lib.hid (HB5.out.below hb6)
          have HX6 := Lib.hid (HX5.out.below hb6)
          have HG6 := Lib.hid (HG5.out.below hb6)
          clear hb6 hw5
          go_wp2_with fail
          refine (refsum_any _ (textN (d.toNat : Int) a) w6 HX6.out (by have := HXS.out; omega) HG6.out).mono ?_
          rintro e7 w7 ⟨rfl, hb7⟩
          rw [HO2.out]
          have hw7 := hw6.trans (hb7.mono hw6.size)
          have HA7 := Lib.hid (HA6.out.below hb7)
          have HB7 := Lib.hid (HB6.out.below hb7)
          have HG7 := Lib.hid (HG6.out.below hb7)
          clear hb7 hw6
          go_wp2_with fail
          go_ret
          exact ⟨rfl, hw7⟩
        · have hre : ofN (e.toNat : Int) b = O := by
            have h := HR.out
            simp only [Bool.true_eq, Bool.and_eq_true, beq_iff_eq] at h
            rw [HO.out, h.1, h.2]
          have HRE := Lib.hid hre
          clear hre
          go_wp2_with fail
          refine (of_any (d.toNat : Int) _ a va w5 HA5.out (by omega) (by omega) HG5.out).mono ?_
          rintro e6 w6 ⟨rfl, hb6⟩
          rw [← HO.out]
          have hw6 := hw5.trans (hb6.mono hw5.size)
          have HA6 := Lib.hid (HA5.out.below hb6)
          have HB6 := Lib.hid (HB5.out.below hb6)
          have HX6 := Lib.hid (HX5.out.below hb6)
          have HG6 := Lib.hid (HG5.out.below hb6)
          clear hb6 hw5
          go_wp2_with fail
          refine (refsum_any _ (textN (d.toNat : Int) a) w6 HX6.out (by have := HXS.out; omega) HG6.out).mono ?_
          rintro e7 w7 ⟨rfl, hb7⟩
          rw [HO2.out]
          have hw7 := hw6.trans (hb7.mono hw6.size)
          have HA7 := Lib.hid (HA6.out.below hb7)
          have HB7 := Lib.hid (HB6.out.below hb7)
          have HG7 := Lib.hid (HG6.out.below hb7)
          clear hb7 hw6
          go_wp2_with fail
          refine (of_any (d.toNat : Int) _ a va w7 HA7.out (by omega) (by omega) HG7.out).mono ?_
          rintro e8 w8 ⟨rfl, hb8⟩
          rw [← HO.out]
          have hw8 := hw7.trans (hb8.mono hw7.size)
          have HB8 := Lib.hid (HB7.out.below hb8)
          have HG8 := Lib.hid (HG7.out.below hb8)
          clear hb8 hw7
          go_wp2_with fail
          refine (of_any (e.toNat : Int) _ b vb w8 HB8.out (by omega) (by omega) HG8.out).mono ?_
          rintro e9 w9 ⟨rfl, hb9⟩
          rw [HRE.out]
          have hw9 := hw8.trans (hb9.mono hw8.size)
          clear hb9 hw8
          go_wp2_with fail
          go_ret
          exact ⟨rfl, hw9⟩
    · have hend : (false && (a.take j == b.take j)) = (d == e && a == b) := by rw [HS0.out]; exact lists_end d e a b j (by omega) (by omega)
      have d1 : decide ((j : Int) < (a.length : Int)) = false := by rw [decide_eq_false_iff_not]; omega
      rw [hend]
      clear hend
      go_wp2_with fail
      refine (refbytes_any _ _ (textN (d.toNat : Int) a) (textN (e.toNat : Int) b) wr (HX4.out.below hb) (HY4.out.below hb) HXL.out).mono ?_
      rintro e5 w5 ⟨rfl, hb5⟩
      rw [textN_same d e a b HMA2.out HMB2.out]
      have hb45 := hb.trans (hb5.mono hb.size)
      clear hb hb5
      obtain ⟨R, hR⟩ : ∃ R, R = (d == e && a == b) := ⟨_, rfl⟩
      have HR := Lib.hid hR
      rw [← hR]
      clear hR
      have hw5 := hw4.trans (hb45.mono hw4.size)
      have HX5 := Lib.hid (HX4.out.below hb45)
      have HA5 := Lib.hid (HA4.out.below hb45)
      have HB5 := Lib.hid (HB4.out.below hb45)
      have HG5 := Lib.hid (HG4.out.below hb45)
      obtain ⟨O, hO⟩ : ∃ O, O = ofN (d.toNat : Int) a := ⟨_, rfl⟩
      have HO := Lib.hid hO
      have HO2 := Lib.hid (show sumN (textN (d.toNat : Int) a) = O by rw [hO]; rfl)
      have heo := fun w => eq_hash_same w O (by rw [hO]; exact sumN_len _)
      clear hO hb45
      cases R
      · go_wp2_with fail
        refine (of_any (d.toNat : Int) _ a va w5 HA5.out (by omega) (by omega) HG5.out).mono ?_
        rintro e6 w6 ⟨rfl, hb6⟩
        rw [← HO.out]
        have hw6 := hw5.trans (hb6.mono hw5.size)
        have HA6 := Lib.hid (HA5.out.below hb6)
        have HB6 := Lib.hid (HB5.out.below hb6)
        have HX6 := Lib.hid (HX5.out.below hb6)
        have HG6 := Lib.hid (HG5.out.below hb6)
        clear hb6 hw5
        go_wp2_with fail
        refine (refsum_any _ (textN (d.toNat : Int) a) w6 HX6.out (by have := HXS.out; omega) HG6.out).mono ?_
        rintro e7 w7 ⟨rfl, hb7⟩
        rw [HO2.out]
        have hw7 := hw6.trans (hb7.mono hw6.size)
        have HA7 := Lib.hid (HA6.out.below hb7)
        have HB7 := Lib.hid (HB6.out.below hb7)
        have HG7 := Lib.hid (HG6.out.below hb7)
        clear hb7 hw6
        go_wp2_with fail
        go_ret
        exact ⟨rfl, hw7⟩
      · have hre : ofN (e.toNat : Int) b = O := by
          have h := HR.out
          simp only [Bool.true_eq, Bool.and_eq_true, beq_iff_eq] at h
          rw [HO.out, h.1, h.2]
        have HRE := Lib.hid hre
        clear hre
        go_wp2_with fail
        refine (of_any (d.toNat : Int) _ a va w5 HA5.out (by omega) (by omega) HG5.out).mono ?_
        rintro e6 w6 ⟨rfl, hb6⟩
        rw [← HO.out]
        have hw6 := hw5.trans (hb6.mono hw5.size)
        have HA6 := Lib.hid (HA5.out.below hb6)
        have HB6 := Lib.hid (HB5.out.below hb6)
        have HX6 := Lib.hid (HX5.out.below hb6)
        have HG6 := Lib.hid (HG5.out.below hb6)
        clear hb6 hw5
        go_wp2_with fail
        refine (refsum_any _ (textN (d.toNat : Int) a) w6 HX6.out (by have := HXS.out; omega) HG6.out).mono ?_
        rintro e7 w7 ⟨rfl, hb7⟩
        rw [HO2.out]
        have hw7 := hw6.trans (hb7.mono hw6.size)
        have HA7 := Lib.hid (HA6.out.below hb7)
        have HB7 := Lib.hid (HB6.out.below hb7)
        have HG7 := Lib.hid (HG6.out.below hb7)
        clear hb7 hw6
        go_wp2_with fail
        refine (of_any (d.toNat : Int) _ a va w7 HA7.out (by omega) (by omega) HG7.out).mono ?_
        rintro e8 w8 ⟨rfl, hb8⟩
        rw [← HO.out]
        have hw8 := hw7.trans (hb8.mono hw7.size)
        have HB8 := Lib.hid (HB7.out.below hb8)
        have HG8 := Lib.hid (HG7.out.below hb8)
        clear hb8 hw7
        go_wp2_with fail
        refine (of_any (e.toNat : Int) _ b vb w8 HB8.out (by omega) (by omega) HG8.out).mono ?_
        rintro e9 w9 ⟨rfl, hb9⟩
        rw [HRE.out]
        have hw9 := hw8.trans (hb9.mono hw8.size)
        clear hb9 hw8
        go_wp2_with fail
        go_ret
        exact ⟨rfl, hw9⟩

set_option maxRecDepth 100000 in
set_option maxHeartbeats 800000 in
theorem lists_any (d e : UInt8) (vp vq : Value) (a b : List (List UInt8)) (va vb : List Value) (w : World) (hpa : Parts w vp a va) (hpb : Parts w vq b vb) (hma : ∀ l ∈ a, l.length ≤ 4611686018427387904) (hla : a.length ≤ 4611686018427387904) (hmb : ∀ l ∈ b, l.length ≤ 4611686018427387904) (hlb : b.length ≤ 4611686018427387904) (hg : Glob w) :
    Calls Tryd.prog 12 #[.int .u8 (d.toNat : Int), .int .u8 (e.toNat : Int), vp, vq] w fun e w' => e = .returned (.bool true) ∧ Below w.heap.size w w' := by
  by_cases g1 : a.length + (cat a).length ≤ 1000
  · by_cases g2 : b.length + (cat b).length ≤ 1000
    · by_cases h1 : d = e
      · have f1 : ((d.toNat : Int) == (e.toNat : Int)) = true := by rw [h1]; simp
        have hde : (d == e) = true := by rw [h1]; simp
        by_cases h2 : a.length = b.length
        · exact lists_tt d e vp vq a b va vb w hpa hpb hma hmb g1 g2 hg f1 (by rw [h2]; simp) hde
        · exact lists_tf d e vp vq a b va vb w hpa hpb hma hmb g1 g2 hg f1 (by rw [beq_eq_false_iff_ne]; omega) hde
      · refine lists_f d e vp vq a b va vb w hpa hpb hma hmb g1 g2 hg ?_ (by rw [beq_eq_false_iff_ne]; exact h1)
        rw [beq_eq_false_iff_ne]
        exact fun h => h1 (UInt8.toNat_inj.1 (by omega))
    · obtain ⟨xp, cp, rfl, _⟩ := hpa.sl.form
      obtain ⟨xq, cq, rfl, _⟩ := hpb.sl.form
      have HG := Lib.hid hg
      have HA := Lib.hid hpa
      have HB := Lib.hid hpb
      have HMA := Lib.hid hma
      have HMB := Lib.hid hmb
      have HD1 := Lib.hid (show decide (1000 < a.length + (cat a).length) = false by rw [decide_eq_false_iff_not]; omega)
      have HD2 := Lib.hid (show decide (1000 < b.length + (cat b).length) = true by rw [decide_eq_true_iff]; omega)
      clear hg hpa hpb hma hmb
      go_enter Tryd.func12, Tryd.ntmps12
      go_wp2_with (first
        | (go_at_call 25; refine (alive2_any _ HG.out).mono ?_; rintro e1 w1 ⟨rfl, hb1⟩)
        | fail)
      refine (great_any _ a va w1 (HA.out.below hb1) HMA.out hla).mono ?_
      rintro e2 w2 ⟨rfl, hb2⟩
      rw [HD1.out]
      have hw2 := hb1.trans (hb2.mono hb1.size)
      clear hb1 hb2
      go_wp2_with fail
      refine (great_any _ b vb w2 (HB.out.below hw2) HMB.out hlb).mono ?_
      rintro e3 w3 ⟨rfl, hb3⟩
      rw [HD2.out]
      have hw3 := hw2.trans (hb3.mono hw2.size)
      clear hw2 hb3
      go_wp2_with fail
      go_ret
      exact ⟨rfl, hw3⟩
  · obtain ⟨xp, cp, rfl, _⟩ := hpa.sl.form
    obtain ⟨xq, cq, rfl, _⟩ := hpb.sl.form
    have HG := Lib.hid hg
    have HA := Lib.hid hpa
    have HMA := Lib.hid hma
    have HD1 := Lib.hid (show decide (1000 < a.length + (cat a).length) = true by rw [decide_eq_true_iff]; omega)
    clear hg hpa hpb hma hmb
    go_enter Tryd.func12, Tryd.ntmps12
    go_wp2_with (first
      | (go_at_call 25; refine (alive2_any _ HG.out).mono ?_; rintro e1 w1 ⟨rfl, hb1⟩)
      | fail)
    refine (great_any _ a va w1 (HA.out.below hb1) HMA.out hla).mono ?_
    rintro e2 w2 ⟨rfl, hb2⟩
    rw [HD1.out]
    have hw2 := hb1.trans (hb2.mono hb1.size)
    clear hb1 hb2
    go_wp2_with fail
    go_ret
    exact ⟨rfl, hw2⟩
end Go.Proofs.YtjjoiefngoghpaaDoor
