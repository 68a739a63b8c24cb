/- The walk of the reference's Both where its numbers are in order. Conditions: what each part says. -/
import Derived.Test.YtldokkbfahobgaaDoorRef6T
/-! Ref6F: The walk of the reference's Both where its numbers are in order. Conditions: the proof can be read, at most 4096 hashes; the package's tables read as they are laid. -/
namespace Go.Proofs.YtldokkbfahobgaaDoor
open Go.RowKit

set_option maxRecDepth 100000 in
set_option maxHeartbeats 8000000 in
theorem refboth_ok (w : World) (x0 : H) (m n : Nat) (pv : Value) (P : List H) (hs : Hs w pv P) (hl : P.length ≤ 4096) (hg : Glob w) (h1 : 1 ≤ m) (hn : n ≤ 1048576) (hi : m ≤ n) :
    Calls Tryd.prog 43 #[.int .i64 m, .int .i64 n, hv x0, pv] w fun e w' => e = .returned (.tuple #[bothV1 (bothN ndH x0 n m P), bothV2 (bothN ndH x0 n m P), .bool (bothN ndH x0 n m P).isSome]) ∧ Below w.heap.size w w' := by
  obtain ⟨xp, cp, rfl, _⟩ := hs.form
  obtain ⟨W, hW⟩ : ∃ W, W = ((w.alloc (.cells (bytesV x0.b).toArray 31)).alloc (.cells z32.toArray 31)).alloc (.cells z32.toArray 31) := ⟨_, rfl⟩
  have hbW : Below w.heap.size w W := by rw [hW]; (repeat (first | with_reducible assumption | with_reducible exact Below.refl _ _ | ((with_reducible refine Below.setCell ?_ ?_ _); rotate_left; focus (first | omega | (simp; done) | (simp; omega))) | ((with_reducible refine Below.alloc ?_ ?_ _); rotate_left; focus (first | omega | (simp; done) | (simp; omega))) | ((with_reducible refine below_setRow ?_ ?_ _); rotate_left; focus (first | omega | (simp; done) | (simp; omega))) | (with_reducible refine below_drewN ?_ _) | (with_reducible refine Below.drew ?_)))
  have hX : Blk W w.heap.size (bytesV x0.b) 31 := by rw [hW]; exact ((Blk.newL w _ _).alloc _).alloc _
  have hR8 : Blk W (w.heap.size + 1) z32 31 := by rw [hW]; exact (Blk.newL1 w _ _ _).alloc _
  have hR9 : Blk W (w.heap.size + 1 + 1) z32 31 := by rw [hW]; exact Blk.newL2 w _ _ _ _
  have hsW : W.heap.size = w.heap.size + 1 + 1 + 1 := by rw [hW]; simp
  have k1 : ¬ (m : Int) < 1 := by omega
  have k2 : ¬ (n : Int) < m := by omega
  have k3 : ¬ (1048576 : Int) < n := by omega
  obtain ⟨T, hT⟩ : ∃ T, T = bothN ndH x0 n m P := ⟨_, rfl⟩
  rw [← hT]
  rw [hw3_lit] at hW
  have HT := Lib.hid hT
  have HX := Lib.hid hX
  have HR8 := Lib.hid hR8
  have HR9 := Lib.hid hR9
  have HS := Lib.hid (hs.below hbW)
  have HG := Lib.hid (hg.below hbW)
  have HW := Lib.hid hW
  clear hT hX hR8 hR9 hs hg
  unfold hv
  go_enter Tryd.func43, Tryd.ntmps43
  go_wp2_with fail
  go_loopw [0, 1, 11, 12] (fun mv nv lv hv' wr => ∃ (A : List Bool) (j k : Nat) (wh : Bool), mv = .int .i64 j ∧ nv = .int .i64 k ∧ hv' = .bool wh ∧ 1 ≤ j ∧ j ≤ k ∧ k ≤ n ∧ Bs wr lv A ∧ sidesM n m = sidesM k j ++ A ∧ wholeN n m true = wholeN k j wh ∧ Below W.heap.size W wr) (fun _ nv _ _ _ => (intOf nv).toNat)
  case atStart => exact ⟨[], m, n, true, rfl, rfl, rfl, h1, hi, Nat.le_refl _, Bs.nil _, by rw [List.append_nil], rfl, HW.out ▸ Below.refl _ _⟩
  case round =>
    obtain ⟨A, j, k, wh, rfl, rfl, rfl, hj1, hjk, hkn, hA, hSd, hWh, hb⟩ := hrel
    have hAl : A.length ≤ 40 := by
      have h40 := sidesM_len 40 n m (by simp; omega)
      rw [hSd, List.length_append] at h40
      omega
    have hsz := hb.size
    have HA := Lib.hid hA
    have HSd := Lib.hid hSd
    have HWh := Lib.hid hWh
    clear hA hSd hWh
    by_cases hm : j < k
    · have hgt : (j : Int) < k := by omega
      have hk2 : 2 ≤ k := by omega
      have hend : ¬ (k < 2 ∨ j = k) := by omega
      obtain ⟨s, hs⟩ : ∃ s, s = splitN k := ⟨_, rfl⟩
      have hlt := splitN_lt k hk2
      have hpos := splitN_pos k hk2
      rw [← hs] at hlt hpos
      have HK := Lib.hid hs
      by_cases hik : j ≤ s
      · have hlt' : (j : Int) ≤ s := by omega
        have hdt : decide ((j : Int) ≤ s) = true := decide_eq_true hlt'
        have hnx : sidesM n m = sidesM s j ++ (true :: A) := by rw [HSd.out, sidesM_left k j hend (hs ▸ hik), ← hs, List.append_assoc]; rfl
        have hwx : wholeN n m true = wholeN s j wh := by rw [HWh.out, wholeN_left k j wh hend (hs ▸ hik), ← hs]
        have HNX := Lib.hid hnx
        have HWX := Lib.hid hwx
        clear hnx hwx hs hend
        go_wp2_with (first
          | (go_at_call 41; refine (refsplit_any k _ (by omega)).mono ?_; rintro e w2 ⟨rfl, h2w⟩; rw [h2w, ← HK.out]; clear h2w w2)
          | (at_builtin; refine wpList_ahead rfl (.tmp 41) (.tmp 42) rfl true _ A rfl rfl HA.out (by omega) ?_; intro v5 w5 hA5 hb5; have HA5 := Lib.hid hA5; have hb6 := hb.trans (hb5.mono hsz); clear hA5 hb5)
          | fail)
        exact ⟨⟨_, j, s, wh, rfl, rfl, rfl, hj1, hik, by omega, HA5.out, HNX.out, HWX.out, hb6⟩, by simp [intOf]; omega⟩
      · have hlt' : ¬ (j : Int) ≤ s := by omega
        have hdt : decide ((j : Int) ≤ s) = false := decide_eq_false hlt'
        have hnx : sidesM n m = sidesM (k - s) (j - s) ++ (false :: A) := by rw [HSd.out, sidesM_right k j hend (hs ▸ hik), ← hs, List.append_assoc]; rfl
        have hwx : wholeN n m true = wholeN (k - s) (j - s) false := by rw [HWh.out, wholeN_right k j wh hend (hs ▸ hik), ← hs]
        have HNX := Lib.hid hnx
        have HWX := Lib.hid hwx
        clear hnx hwx hs hend
        go_wp2_with (first
          | (go_at_call 41; refine (refsplit_any k _ (by omega)).mono ?_; rintro e w2 ⟨rfl, h2w⟩; rw [h2w, ← HK.out]; clear h2w w2)
          | (at_builtin; refine wpList_ahead rfl (.tmp 41) (.tmp 42) rfl false _ A rfl rfl HA.out (by omega) ?_; intro v5 w5 hA5 hb5; have HA5 := Lib.hid hA5; have hb6 := hb.trans (hb5.mono hsz); clear hA5 hb5)
          | fail)
        exact ⟨⟨_, j - s, k - s, false, by go_num, by go_num, rfl, by omega, by omega, by omega, HA5.out, HNX.out, HWX.out, hb6⟩, by simp [intOf]; omega⟩
    · have hgt : ¬ (j : Int) < k := by omega
      have hend : k < 2 ∨ j = k := by omega
      have hAe : sidesM n m = A := by rw [HSd.out, sidesM_end k j hend]; rfl
      have hWe : wholeN n m true = wh := by rw [HWh.out, wholeN_end k j wh hend]
      have HAe := Lib.hid hAe
      have HWe := Lib.hid hWe
      have HX2 := Lib.hid (HX.out.below hb HX.out.lt)
      have hx2 := HX2.out.lt
      have HR82 := Lib.hid (HR8.out.below hb HR8.out.lt)
      have HR92 := Lib.hid (HR9.out.below hb HR9.out.lt)
      have hbw := hbW.trans (hb.mono hbW.size)
      have HVW := Lib.hid hb
      have HGv := Lib.hid (HG.out.below hb)
      obtain ⟨ya, yc, hye, _⟩ := HA.out.form
      subst hye
      clear hAe hWe hend
      rename World => v0
      go_wp2_with fail
      refine wp_region_monoF 3 (v0.heap.size) [1] [(fun v _ => v = .agg (bytesV x0.b).toArray), RowAt z32 31 v0.heap.size, (fun v _ => v = .int .i64 0)] (by kernel_rfl) (by kernel_rfl) (by decide) (Nat.le_refl _) ?mkept _ rfl ?mops ?mfin
      case mkept =>
        repeat (refine List.forall_mem_cons.2 ⟨by first | exact fun _ _ _ _ h => h | exact fun _ _ _ hb h => Parts.below h hb | exact fun _ _ _ hb h => IsSl.below h hb | exact fun _ _ _ hb h => RowAt.below h hb | exact fun _ _ _ hb ⟨vs, h⟩ => ⟨vs, Parts.below h hb⟩ | exact fun _ _ _ hb h => ownsRow_below h hb (ownsRow_block h) | exact fun _ _ _ hb ⟨g, e, h⟩ => ⟨g, e, ownsRow_below h hb (ownsRow_block h)⟩, ?_⟩)
        exact fun _ h => by cases h
      case mops =>
        simp only [List.take_succ_cons, List.take_zero, monoAllF, List.getD_cons_zero, List.getD_cons_succ]
        iterate 3
        
         (refine ⟨fun x wr hb hd Qg hK => ?_, ?_⟩
          · as_aux_lemma =>
            simp only [fill, Act.put, List.setIfInBounds_toArray, List.set_cons_succ, List.set_cons_zero, needs, Region.binds, List.filter_cons, List.filter_nil, List.map_cons, List.map_nil, if_true, List.mem_cons, List.not_mem_nil, or_false, false_implies, implies_true] at hd hK ⊢
            (try simp only [hd] at hK ⊢)
            first
            | (have hBr := HX2.out.below hb (hx2); refine wpList_load_rowIf rfl 31 (.tmp 6) rfl _ rfl 31 (bytesV x0.b).toArray (0, 0) _ (by exact hBr) Tryd.underlying31 rfl (hv_row x0) ?_; exact hK _ _ rfl (by first | exact trivial | exact fun h => absurd h (by decide) | exact fun _ => new_alloc _ _) (Below.refl _ _))
            | (show wpList _ _ _ [⟨some 15, .alloc _, _, _, _, _⟩] _ _; go_wp2_with fail; exact hK _ _ ⟨_, rfl, hb.size, Blk.newL wr z32 31⟩ (by first | exact trivial | exact fun h => absurd h (by decide) | exact fun _ => new_alloc _ _) ((Below.refl _ _).alloc (Nat.le_refl _) _))
            | (go_wp2_with fail; exact hK _ _ rfl (by first | exact trivial | exact fun h => absurd h (by decide) | exact fun _ => new_alloc _ _) (Below.refl _ _)))
        trivial
      case mfin =>
        intro z u9 hb9 hR9 _
        have z0 := hR9 0 (by decide)
        have z1 := hR9 1 (by decide)
        have z2 := hR9 2 (by decide)
        simp only [List.getD_cons_zero, List.getD_cons_succ] at z0 z1 z2
        obtain ⟨g, z1, hgg, hB⟩ := z1
        have HB := Lib.hid hB
        clear hR9 hB
        simp only [List.drop_succ_cons, List.drop_zero]
        generalize List.toArray _ = L0
        simp only [List.take_succ_cons, List.take_zero, List.map_cons, List.map_nil, fill, Act.put, List.setIfInBounds_toArray, List.set_cons_succ, List.set_cons_zero, z0, z1, z2]
        clear z0 z1 z2
        have hu9 : Below v0.heap.size v0 (u9.setRow g (bytesV x0.b).toArray) := below_setRow hb9 hgg _
        have HB10 := Lib.hid (HB.out.setRow (bytesV x0.b))
        cases wh with
        | true =>
          have hTe : T = if A.length = P.length then some (climb2 ndH (x0, x0) (A.zip P)) else none := by rw [HT.out, bothN_whole _ _ _ _ HWe.out, HAe.out]
          by_cases hln : A.length = P.length
          · have hne : ((P.length : Int) == A.length) = true := by rw [beq_iff_eq]; omega
            have hne2 : ((P.length : Int) - 0 == A.length) = true := by rw [beq_iff_eq]; omega
            rw [if_pos hln] at hTe
            have HTE := Lib.hid hTe
            have HLN := Lib.hid hln
            obtain ⟨U, hU⟩ : ∃ U, U = u9.setRow g (bytesV x0.b).toArray := ⟨_, rfl⟩
            have HU := Lib.hid hU
            rw [← hU] at hu9
            have HBU := Lib.hid (hU ▸ HB10.out)
            clear hTe hln hU
            go_wp2_with (first
              | (refine wpList_store_row rfl 31 (.tmp 15) (.tmp 54) rfl g (bytesV x0.b).toArray rfl rfl 31 z32.toArray (by exact HB.out) (by exact hv_row _) (by exact z32_old _) (by exact hv_one _) ?_)
              | fail)
            rw [← HU.out]
            refine wp_region_inv 5 (twoJ U (bytesV x0.b) z32 31) (fun _ _ => False) (by kernel_rfl) (by kernel_rfl) _ rfl (fun L x hL => twoJ_start hL) (fun _ _ _ _ h => h.elim) ?hops ?hfin
            case hops =>
              simp only [List.take_succ_cons, List.take_zero, invAll]
              refine ⟨fun L x wr hLi hd hJ Qg hK hP => ?_, fun L x wr hLi hd hJ Qg hK hP => ?_, fun L x wr hLi hd hJ Qg hK hP => ?_, fun L x wr hLi hd hJ Qg hK hP => ?_, fun L x wr hLi hd hJ Qg hK hP => ?_, trivial⟩
              all_goals simp only [fill, Act.put, List.setIfInBounds_toArray, List.set_cons_succ, List.set_cons_zero, needs, Region.binds, List.filter_cons, List.filter_nil, List.map_cons, List.map_nil, if_true, List.mem_cons, List.not_mem_nil, forall_eq_or_imp, false_implies, implies_true] at hd hK ⊢
              · refine wpList_load_rowIf rfl 31 (.tmp 15) rfl g rfl 31 (bytesV x0.b).toArray (0, 0) _ (by exact HBU.out.below hJ.1 HBU.out.lt) Tryd.underlying31 rfl (by exact hv_row _) ?_
                exact hK _ _ (twoJ_v0 hJ)
              · refine wpList_load_rowIf rfl 31 (.tmp 15) rfl g rfl 31 (bytesV x0.b).toArray (0, 0) _ (by exact HBU.out.below hJ.1 HBU.out.lt) Tryd.underlying31 rfl (by exact hv_row _) ?_
                exact hK _ _ (twoJ_v1 hJ)
              · go_wp2_with fail
                have h := twoJ_p hJ hLi
                rw [z32_arr] at h
                exact h
              · go_wp2_with fail
                have h := twoJ_q hJ
                rw [z32_arr] at h
                exact h
              · obtain ⟨p, e1, e2, e3⟩ := hJ.2.2.2.1 hd.1
                have e0 := hJ.2.1 hd.2.1
                rw [if_neg (by rw [hLi]; decide)] at e3
                refine wpList_store_row rfl 31 (.tmp 16) (.tmp 74) rfl p (bytesV x0.b).toArray (by exact e1) (by exact e0) 31 z32.toArray (by exact e3) (by exact hv_row _) (by exact z32_old _) (by exact hv_one _) ?_
                exact hK undef _ (twoJ_st hJ hd.1 p e1 _)
            case hfin =>
              intro L x u1 hL hJ
              obtain ⟨b16, b17, y1, y2, y3, hp, hq, hpq, hB16, hB17, hbu⟩ := twoJ_end hJ hL
              clear hJ hL
              simp only [List.drop_succ_cons, List.drop_zero]
              generalize List.toArray _ = L0
              simp only [List.take_succ_cons, List.take_zero, List.map_cons, List.map_nil, fill, Act.put, List.setIfInBounds_toArray, List.set_cons_succ, List.set_cons_zero, Nat.zero_add, Nat.reduceAdd, y1, y2, y3]
              clear y1 y2 y3
              have hv17 : Below v0.heap.size v0 (u1.setRow b17 (bytesV x0.b).toArray) := below_setRow (hu9.trans (hbu.mono hu9.size)) (Nat.le_trans hu9.size hq) _
              have hv16 := Nat.le_trans hu9.size hp
              have hv17' := Nat.le_trans hu9.size hq
              have HB16 := Lib.hid (show Blk (u1.setRow b17 (bytesV x0.b).toArray) b16 (bytesV x0.b) 31 from hB16.setRow_other hpq _)
              have HB17 := Lib.hid (hB17.setRow (bytesV x0.b))
              have HQ := Lib.hid hB17
              have HV := Lib.hid hv17
              clear hB16 hB17 hbu hv17 HU HBU hu9 HB10 HB
              go_wp2_with (first
                | (refine wpList_store_row rfl 31 (.tmp 17) (.tmp 75) rfl b17 (bytesV x0.b).toArray rfl rfl 31 z32.toArray (by exact HQ.out) (by exact hv_row _) (by exact z32_old _) (by exact hv_one _) ?_)
                | fail)
              go_loopw [18] (fun jv u => ∃ (q : Nat) (pr : H × H), jv = .int .i64 q ∧ q ≤ A.length ∧ pr = climb2 ndH (x0, x0) ((A.zip P).take q) ∧ Blk u b16 (bytesV pr.1.b) 31 ∧ Blk u b17 (bytesV pr.2.b) 31 ∧ Below v0.heap.size v0 u) (fun jv _ => A.length - (intOf jv).toNat)
              case atStart => exact ⟨0, (x0, x0), rfl, by omega, rfl, HB16.out, HB17.out, HV.out⟩
              case round =>
                clear HB16 HB17 HQ HV
                rename World => u
                obtain ⟨q, pr, rfl, hq2, hcur, hB16, hB17, hu⟩ := hrel
                have HB16 := Lib.hid hB16
                have HB17 := Lib.hid hB17
                have HCUR := Lib.hid hcur
                clear hB16 hB17 hcur
                by_cases hlt : q < A.length
                · have hlt' : (q : Int) < A.length := by omega
                  have hPl : P.length = A.length + 0 := by have := HLN.out; omega
                  obtain ⟨o, ho⟩ : ∃ o, P[0 + q]? = some o := ⟨_, List.getElem?_eq_getElem (by omega)⟩
                  have ho' : (P)[q]? = some o := by first | exact (by rw [Nat.zero_add] at ho; exact ho) | (rw [List.getElem?_drop]; exact ho)
                  obtain ⟨sd, hsd⟩ : ∃ sd, A[q]? = some sd := ⟨_, List.getElem?_eq_getElem (by omega)⟩
                  obtain ⟨bp, offp, e1, _, hr, hbp⟩ := hs_block HS.out (by omega)
                  subst e1
                  obtain ⟨ba, offa, ca, ea, hca, hra, hba⟩ := IsSl.pos HA.out (by omega) (by decide)
                  cases ea
                  have hE : u.rangeAt bp (offp + (0 + q) * 32) (bytesV o.b) := range_below (Hs.elem hr ho) ((HVW.out).trans (hu.mono HVW.out.size))
                  obtain ⟨o1, o2, o3, o4⟩ := one_parts u o
                  have cA : (oneW u o).cell? ⟨ba, offa + q, none⟩ = some (.bool sd) := (o1.cell (p := ⟨ba, offa + q, none⟩) (Nat.lt_of_lt_of_le hba hu.size)).trans ((hu.cell (p := ⟨ba, offa + q, none⟩) hba).trans (hra q (.bool sd) (by rw [List.getElem?_map, hsd]; rfl)))
                  unfold oneW at cA
                  have hix : (0 : Int) ≤ q ∧ q < P.length := ⟨by omega, by omega⟩
                  have hixA : (0 : Int) ≤ q ∧ (q : Int) < A.length := ⟨by omega, by omega⟩
                  have hst := climb2_step (x0, x0) A (P) q sd o hsd ho'
                  rw [← HCUR.out] at hst
                  have HE := Lib.hid hE
                  have HST := Lib.hid hst
                  have HO3 := Lib.hid o3
                  have HO4 := Lib.hid o4
                  have HB16a := Lib.hid (HB16.out.below o1 HB16.out.lt)
                  have HB17a := Lib.hid (HB17.out.below o1 HB17.out.lt)
                  have hoa := hu.trans (o1.mono hu.size)
                  have HGa := Lib.hid (HGv.out.below hoa)
                  have hbu16 := HB16.out.lt
                  have hbu17 := HB17.out.lt
                  have hsa : u.heap.size < (oneW u o).heap.size := by rw [o2]; omega
                  clear hE hr hra hst o1 o2 o3 o4 ho ho' hsd hPl
                  cases sd with
                  | true =>
                    go_wp2_with (first
                      | (refine wpList_load_mid rfl 31 (.tmp 86) rfl bp (offp + (0 + q) * 32) (by rw [Nat.zero_add]; rfl) (bytesV o.b) _ (by exact HE.out) Tryd.underlying31 rfl (by exact hv_info _) ?_)
                      | (refine wpList_store_row rfl 31 (.tmp 19) (.tmp 87) rfl u.heap.size (bytesV o.b).toArray rfl rfl 31 z32.toArray (by exact HO4.out) (by exact hv_row _) (by exact z32_old _) (by exact hv_one _) ?_)
                      | (refine wpList_load_row rfl 31 (.tmp 17) rfl b17 rfl 31 (bytesV pr.2.b).toArray (0, 0) _ (by exact HB17a.out) Tryd.underlying31 rfl (by exact hv_row _) ?_)
                      | (refine wpList_load_row rfl 31 (.tmp 19) rfl u.heap.size rfl 31 (bytesV o.b).toArray (0, 0) _ (by exact HO3.out) Tryd.underlying31 rfl (by exact hv_row _) ?_)
                      | (go_at_call 61; refine (refnode_any pr.2 o _ (by exact HGa.out)).mono ?_; rintro e w5 ⟨rfl, hb5⟩; have HB16b := Lib.hid (HB16a.out.below hb5 HB16a.out.lt); have HB17b := Lib.hid (HB17a.out.below hb5 HB17a.out.lt); have hw5 := hoa.trans (hb5.mono hoa.size); clear hb5)
                      | (refine wpList_store_row rfl 31 (.tmp 17) (.tmp 94) rfl b17 (bytesV (ndH pr.2 o).b).toArray rfl rfl 31 (bytesV pr.2.b).toArray (by exact HB17b.out) (by exact hv_row _) (by simp only [List.size_toArray, bytesV_len, H.len]) (by exact hv_one _) ?_)
                      | fail)
                    go_roundw
                    case rel =>
                      first
                      | exact ⟨q + 1, (pr.1, ndH pr.2 o), by go_num, by omega, HST.out.symm, HB16b.out.setRow_other hpq _, HB17b.out.setRow _, below_setRow hw5 (by omega) _⟩
                      | (repeat apply Exists.intro
                         exact ⟨⟨q + 1, (pr.1, ndH pr.2 o), by go_num, by omega, HST.out.symm, HB16b.out.setRow_other hpq _, HB17b.out.setRow _, below_setRow hw5 (by omega) _⟩, rfl⟩)
                    case measure => simp [intOf]; omega
                  | false =>
                    go_wp2_with (first
                      | (refine wpList_load_mid rfl 31 (.tmp 86) rfl bp (offp + (0 + q) * 32) (by rw [Nat.zero_add]; rfl) (bytesV o.b) _ (by exact HE.out) Tryd.underlying31 rfl (by exact hv_info _) ?_)
                      | (refine wpList_store_row rfl 31 (.tmp 19) (.tmp 87) rfl u.heap.size (bytesV o.b).toArray rfl rfl 31 z32.toArray (by exact HO4.out) (by exact hv_row _) (by exact z32_old _) (by exact hv_one _) ?_)
                      | (refine wpList_load_row rfl 31 (.tmp 16) rfl b16 rfl 31 (bytesV pr.1.b).toArray (0, 0) _ (by exact HB16a.out) Tryd.underlying31 rfl (by exact hv_row _) ?_)
                      | (refine wpList_load_row rfl 31 (.tmp 19) rfl u.heap.size rfl 31 (bytesV o.b).toArray (0, 0) _ (by exact HO3.out) Tryd.underlying31 rfl (by exact hv_row _) ?_)
                      | (go_at_call 61; have hgl := HGa.out; refine (refnode_any o pr.1 _ (by exact hgl)).mono ?_; rintro e w5 ⟨rfl, hb5⟩; have hb6 : Below u.heap.size u (w5.setRow b16 (bytesV (ndH o pr.1).b).toArray) ∨ True := .inr trivial; have HB16b := Lib.hid (HB16a.out.below hb5 HB16a.out.lt); have HB17b := Lib.hid (show Blk (w5.setRow b16 (bytesV (ndH o pr.1).b).toArray) b17 (bytesV pr.2.b) 31 from (HB17a.out.below hb5 HB17a.out.lt).setRow_other (fun e => hpq e.symm) _);
                         have HB16c := Lib.hid (HB16b.out.setRow (bytesV (ndH o pr.1).b)); have HO3b := Lib.hid (show Blk (w5.setRow b16 (bytesV (ndH o pr.1).b).toArray) u.heap.size (bytesV o.b) 31 from (HO3.out.below hb5 hsa).setRow_other (by omega) _); have hw5 : Below v0.heap.size v0 (w5.setRow b16 (bytesV (ndH o pr.1).b).toArray) := below_setRow (hoa.trans (hb5.mono hoa.size)) hv16 _; have HGb := Lib.hid (HGv.out.below hw5); clear hb5 hb6 hgl HGa HO3)
                      | (refine wpList_store_row rfl 31 (.tmp 16) (.tmp 97) rfl b16 (bytesV (ndH o pr.1).b).toArray rfl rfl 31 (bytesV pr.1.b).toArray (by exact HB16b.out) (by exact hv_row _) (by simp only [List.size_toArray, bytesV_len, H.len]) (by exact hv_one _) ?_)
                      | (refine wpList_load_row rfl 31 (.tmp 19) rfl u.heap.size rfl 31 (bytesV o.b).toArray (0, 0) _ (by exact HO3b.out) Tryd.underlying31 rfl (by exact hv_row _) ?_)
                      | (refine wpList_load_row rfl 31 (.tmp 17) rfl b17 rfl 31 (bytesV pr.2.b).toArray (0, 0) _ (by exact HB17b.out) Tryd.underlying31 rfl (by exact hv_row _) ?_)
                      | (go_at_call 61; refine (refnode_any o pr.2 _ (by exact HGb.out)).mono ?_; rintro e w6 ⟨rfl, hb6⟩; have HB16d := Lib.hid (HB16c.out.below hb6 HB16c.out.lt); have HB17d := Lib.hid (HB17b.out.below hb6 HB17b.out.lt); have hw6 := hw5.trans (hb6.mono hw5.size); clear hb6)
                      | (refine wpList_store_row rfl 31 (.tmp 17) (.tmp 100) rfl b17 (bytesV (ndH o pr.2).b).toArray rfl rfl 31 (bytesV pr.2.b).toArray (by exact HB17d.out) (by exact hv_row _) (by simp only [List.size_toArray, bytesV_len, H.len]) (by exact hv_one _) ?_)
                      | fail)
                    go_roundw
                    case rel =>
                      first
                      | exact ⟨q + 1, (ndH o pr.1, ndH o pr.2), by go_num, by omega, HST.out.symm, HB16d.out.setRow_other hpq _, HB17d.out.setRow _, below_setRow hw6 (by omega) _⟩
                      | (repeat apply Exists.intro
                         exact ⟨⟨q + 1, (ndH o pr.1, ndH o pr.2), by go_num, by omega, HST.out.symm, HB16d.out.setRow_other hpq _, HB17d.out.setRow _, below_setRow hw6 (by omega) _⟩, rfl⟩)
                    case measure => simp [intOf]; omega
                · have hlt' : ¬ (q : Int) < A.length := by omega
                  have hTn : T = some pr := by rw [HTE.out, HCUR.out, List.take_of_length_le (by rw [List.length_zip]; omega)]
                  clear HCUR
                  subst hTn
                  have HR8u := Lib.hid (HR82.out.below hu HR82.out.lt)
                  have HR9u := Lib.hid (HR92.out.below hu HR92.out.lt)
                  have hwu := hbw.trans (hu.mono hbw.size)
                  have hn16 : b16 ≠ w.heap.size + 1 := by omega
                  have hn17 : b17 ≠ w.heap.size + 1 := by omega
                  go_wp2_with fail
                  refine wp_region_but 3 2 (w.heap.size + 1) (fun b u => Blk u (w.heap.size + 1) (if b then bytesV pr.1.b else z32) 31) [(fun v _ => v = .agg (bytesV pr.1.b).toArray), (fun v _ => v = .agg (bytesV pr.2.b).toArray), (fun _ _ => True)] (fun _ _ => False) (by kernel_rfl) (by kernel_rfl) (by decide) rfl _ rfl ?hk ?hs (by exact HR8u.out) ?hp ?hops ?hfin
                  case hk =>
                    repeat (refine List.forall_mem_cons.2 ⟨by exact fun _ _ _ _ h => h, ?_⟩)
                    exact fun _ h => by cases h
                  case hs => exact fun b u u' hb h => Blk.below h hb h.lt
                  case hp => exact fun c a u _ h => h.elim
                  case hops =>
                    simp only [List.take_succ_cons, List.take_zero, butAll, List.getD_cons_zero, List.getD_cons_succ]
                    iterate 3
                      
                     (refine ⟨fun xs wr hb hd hst Qg hK hP => ?_, ?_⟩
                      · as_aux_lemma =>
                        simp only [fill, Act.put, List.setIfInBounds_toArray, List.set_cons_succ, List.set_cons_zero, needs, Region.binds, List.filter_cons, List.filter_nil, List.map_cons, List.map_nil, if_true, List.mem_cons, List.not_mem_nil, forall_eq_or_imp, List.getD_cons_zero, false_implies, implies_true] at hd hK ⊢
                        (try simp only [hd] at hK ⊢)
                        first
                        | ((refine wpList_load_rowIf rfl 31 (.tmp 16) rfl b16 rfl 31 (bytesV pr.1.b).toArray (0, 0) _ (by exact hb.blk HB16.out hn16) Tryd.underlying31 rfl (by exact hv_row _) ?_; exact hK _ _ rfl (fun h => absurd h (by decide)) (fun _ => Below.refl _ _)))
                        | ((refine wpList_load_rowIf rfl 31 (.tmp 17) rfl b17 rfl 31 (bytesV pr.2.b).toArray (0, 0) _ (by exact hb.blk HB17.out hn17) Tryd.underlying31 rfl (by exact hv_row _) ?_; exact hK _ _ rfl (fun h => absurd h (by decide)) (fun _ => Below.refl _ _)))
                        | (have h9 : Blk wr (w.heap.size + 1) z32 31 := (by first | exact hst rfl | exact hst trivial); refine wpList_store_row rfl 31 (.tmp 8) (.tmp 101) rfl (w.heap.size + 1) (bytesV pr.1.b).toArray rfl rfl 31 z32.toArray (by exact h9) (by exact hv_row _) (by exact z32_old _) (by exact hv_one _) ?_; exact hK undef _ trivial (fun _ => ⟨But.row _ _, h9.setRow _⟩) (fun h => absurd rfl h))
                        | (go_wp2_with fail; exact hK _ _ rfl (fun h => absurd h (by decide)) (fun _ => Below.refl _ _)))
                    trivial
                  case hfin =>
                    intro z u9 hb9 hR9 hS9
                    have z1 := hR9 1 (by decide)
                    simp only [List.getD_cons_zero, List.getD_cons_succ] at z1
                    have H39 := Lib.hid (show Blk u9 (w.heap.size + 1) (bytesV pr.1.b) 31 from hS9)
                    have H49 := Lib.hid (hb9.blk HR9u.out (by omega))
                    have hw9 := hwu.trans (hb9.below (B := w.heap.size) (by omega) hwu.size)
                    clear hR9 hb9 hS9
                    simp only [List.drop_succ_cons, List.drop_zero]
                    generalize List.toArray _ = L0
                    simp only [List.take_succ_cons, List.take_zero, List.map_cons, List.map_nil, fill, Act.put, List.setIfInBounds_toArray, List.set_cons_succ, List.set_cons_zero, z1]
                    clear z1
                    go_wp2_with (first
                      | (refine wpList_store_row rfl 31 (.tmp 9) (.tmp 102) rfl (w.heap.size + 1 + 1) (bytesV pr.2.b).toArray rfl rfl 31 z32.toArray (by exact H49.out) (by exact hv_row _) (by exact z32_old _) (by exact hv_one _) ?_)
                      | fail)
                    exact bodyPost_ret (results_row2_tmp (p := 8) (p2 := 9) (u := 10) rfl _ _ (w.heap.size + 1) (w.heap.size + 1 + 1) 31 31 (bytesV pr.1.b).toArray (bytesV pr.2.b).toArray (0, 0) (0, 0) _ rfl rfl (H39.out.setRow_other (by omega) _) (H49.out.setRow _) Tryd.underlying31 rfl (hv_row pr.1) (hv_row pr.2)) rfl ⟨rfl, below_setRow hw9 (by omega) _⟩
          · have hne : ((P.length : Int) == A.length) = false := by rw [beq_eq_false_iff_ne]; omega
            have hne2 : ((P.length : Int) - 0 == A.length) = false := by rw [beq_eq_false_iff_ne]; omega
            rw [if_neg hln] at hTe
            subst hTe
            clear hln
            have HR83 := Lib.hid (HR82.out.below hu9 HR82.out.lt)
            have HR93 := Lib.hid (HR92.out.below hu9 HR92.out.lt)
            have hw3 := hbw.trans (hu9.mono hbw.size)
            go_wp2_with (first
              | (refine wpList_store_row rfl 31 (.tmp 15) (.tmp 54) rfl g (bytesV x0.b).toArray rfl rfl 31 z32.toArray (by exact HB.out) (by exact hv_row _) (by exact z32_old _) (by exact hv_one _) ?_)
              | (refine wpList_store_row rfl 31 (.tmp 8) (.tmp 72) rfl (w.heap.size + 1) z32.toArray rfl (by rw [z32_arr]; rfl) 31 z32.toArray (by exact HR83.out) (by exact z32_row) (by exact z32_old z0H) (by exact hv_one z0H) ?_)
              | (refine wpList_store_row rfl 31 (.tmp 9) (.tmp 73) rfl (w.heap.size + 1 + 1) z32.toArray rfl (by rw [z32_arr]; rfl) 31 z32.toArray (by exact HR93.out.setRow_other (by omega) _) (by exact z32_row) (by exact z32_old z0H) (by exact hv_one z0H) ?_)
              | fail)
            exact bodyPost_ret (results_row2_tmp (p := 8) (p2 := 9) (u := 10) rfl _ _ (w.heap.size + 1) (w.heap.size + 1 + 1) 31 31 z32.toArray z32.toArray (0, 0) (0, 0) _ rfl rfl ((HR83.out.setRow z32).setRow_other (by omega) _) ((HR93.out.setRow_other (by omega) _).setRow z32) Tryd.underlying31 rfl z32_row z32_row) rfl ⟨rfl, below_setRow (below_setRow hw3 (by omega) _) (by omega) _⟩
        | false =>
          by_cases hP0 : P.length = 0
          · have hz : ((P.length : Int) == 0) = true := by rw [beq_iff_eq]; omega
            have hTn : T = none := by rw [HT.out, bothN_nil _ _ _ _ HWe.out hP0]
            subst hTn
            have HR83 := Lib.hid (HR82.out.below hu9 HR82.out.lt)
            have HR93 := Lib.hid (HR92.out.below hu9 HR92.out.lt)
            have hw3 := hbw.trans (hu9.mono hbw.size)
            clear hP0
            go_wp2_with (first
              | (refine wpList_store_row rfl 31 (.tmp 15) (.tmp 54) rfl g (bytesV x0.b).toArray rfl rfl 31 z32.toArray (by exact HB.out) (by exact hv_row _) (by exact z32_old _) (by exact hv_one _) ?_)
              | (refine wpList_store_row rfl 31 (.tmp 8) (.tmp 60) rfl (w.heap.size + 1) z32.toArray rfl (by rw [z32_arr]; rfl) 31 z32.toArray (by exact HR83.out) (by exact z32_row) (by exact z32_old z0H) (by exact hv_one z0H) ?_)
              | (refine wpList_store_row rfl 31 (.tmp 9) (.tmp 61) rfl (w.heap.size + 1 + 1) z32.toArray rfl (by rw [z32_arr]; rfl) 31 z32.toArray (by exact HR93.out.setRow_other (by omega) _) (by exact z32_row) (by exact z32_old z0H) (by exact hv_one z0H) ?_)
              | fail)
            exact bodyPost_ret (results_row2_tmp (p := 8) (p2 := 9) (u := 10) rfl _ _ (w.heap.size + 1) (w.heap.size + 1 + 1) 31 31 z32.toArray z32.toArray (0, 0) (0, 0) _ rfl rfl ((HR83.out.setRow z32).setRow_other (by omega) _) ((HR93.out.setRow_other (by omega) _).setRow z32) Tryd.underlying31 rfl z32_row z32_row) rfl ⟨rfl, below_setRow (below_setRow hw3 (by omega) _) (by omega) _⟩
          · have hz : ((P.length : Int) == 0) = false := by rw [beq_eq_false_iff_ne]; omega
            have hp0 : (0 : Int) < P.length := by omega
            obtain ⟨h0, hh0⟩ : ∃ h0, P[0]? = some h0 := ⟨_, List.getElem?_eq_getElem (by omega)⟩
            have hTe : T = if A.length = P.length - 1 then some (climb2 ndH (h0, h0) (A.zip (P.drop 1))) else none := by rw [HT.out, bothN_open _ _ _ _ _ HWe.out hh0, HAe.out]
            obtain ⟨bp, offp, e1, _, hr, hbp⟩ := hs_block HS.out (by omega)
            subst e1
            have hE0 : (u9.setRow g (bytesV x0.b).toArray).rangeAt bp offp (bytesV h0.b) := by
              have h := range_below (Hs.elem hr hh0) (hb.trans (hu9.mono hb.size))
              rw [Nat.zero_mul, Nat.add_zero] at h
              exact h
            have HE0 := Lib.hid hE0
            clear hE0 hP0 hh0
            by_cases hln : A.length = P.length - 1
            · have hne : ((P.length : Int) - 1 == A.length) = true := by rw [beq_iff_eq]; omega
              rw [if_pos hln] at hTe
              have HTE := Lib.hid hTe
              have HLN := Lib.hid hln
              have HPOS := Lib.hid hp0
              obtain ⟨U, hU⟩ : ∃ U, U = (u9.setRow g (bytesV x0.b).toArray).setRow g (bytesV h0.b).toArray := ⟨_, rfl⟩
              have hu9' := below_setRow hu9 hgg (bytesV h0.b).toArray
              rw [← hU] at hu9'
              have hu9 := hu9'
              have HU := Lib.hid hU
              have HBU := Lib.hid (hU ▸ HB10.out.setRow (bytesV h0.b))
              clear hTe hln hU hu9'
              go_wp2_with (first
                | (refine wpList_store_row rfl 31 (.tmp 15) (.tmp 54) rfl g (bytesV x0.b).toArray rfl rfl 31 z32.toArray (by exact HB.out) (by exact hv_row _) (by exact z32_old _) (by exact hv_one _) ?_)
                | (refine wpList_load_mid rfl 31 (.tmp 63) rfl bp offp rfl (bytesV h0.b) _ (by exact HE0.out) Tryd.underlying31 rfl (by exact hv_info _) ?_)
                | (refine wpList_store_row rfl 31 (.tmp 15) (.tmp 64) rfl g (bytesV h0.b).toArray rfl rfl 31 (bytesV x0.b).toArray (by exact HB10.out) (by exact hv_row _) (by simp only [List.size_toArray, bytesV_len, H.len]) (by exact hv_one _) ?_)
                | fail)
              rw [← HU.out]
              refine wp_region_inv 5 (twoJ U (bytesV h0.b) z32 31) (fun _ _ => False) (by kernel_rfl) (by kernel_rfl) _ rfl (fun L x hL => twoJ_start hL) (fun _ _ _ _ h => h.elim) ?hops ?hfin
              case hops =>
                simp only [List.take_succ_cons, List.take_zero, invAll]
                refine ⟨fun L x wr hLi hd hJ Qg hK hP => ?_, fun L x wr hLi hd hJ Qg hK hP => ?_, fun L x wr hLi hd hJ Qg hK hP => ?_, fun L x wr hLi hd hJ Qg hK hP => ?_, fun L x wr hLi hd hJ Qg hK hP => ?_, trivial⟩
                all_goals simp only [fill, Act.put, List.setIfInBounds_toArray, List.set_cons_succ, List.set_cons_zero, needs, Region.binds, List.filter_cons, List.filter_nil, List.map_cons, List.map_nil, if_true, List.mem_cons, List.not_mem_nil, forall_eq_or_imp, false_implies, implies_true] at hd hK ⊢
                · refine wpList_load_rowIf rfl 31 (.tmp 15) rfl g rfl 31 (bytesV h0.b).toArray (0, 0) _ (by exact HBU.out.below hJ.1 HBU.out.lt) Tryd.underlying31 rfl (by exact hv_row _) ?_
                  exact hK _ _ (twoJ_v0 hJ)
                · refine wpList_load_rowIf rfl 31 (.tmp 15) rfl g rfl 31 (bytesV h0.b).toArray (0, 0) _ (by exact HBU.out.below hJ.1 HBU.out.lt) Tryd.underlying31 rfl (by exact hv_row _) ?_
                  exact hK _ _ (twoJ_v1 hJ)
                · go_wp2_with fail
                  have h := twoJ_p hJ hLi
                  rw [z32_arr] at h
                  exact h
                · go_wp2_with fail
                  have h := twoJ_q hJ
                  rw [z32_arr] at h
                  exact h
                · obtain ⟨p, e1, e2, e3⟩ := hJ.2.2.2.1 hd.1
                  have e0 := hJ.2.1 hd.2.1
                  rw [if_neg (by rw [hLi]; decide)] at e3
                  refine wpList_store_row rfl 31 (.tmp 16) (.tmp 74) rfl p (bytesV h0.b).toArray (by exact e1) (by exact e0) 31 z32.toArray (by exact e3) (by exact hv_row _) (by exact z32_old _) (by exact hv_one _) ?_
                  exact hK undef _ (twoJ_st hJ hd.1 p e1 _)
              case hfin =>
                intro L x u1 hL hJ
                obtain ⟨b16, b17, y1, y2, y3, hp, hq, hpq, hB16, hB17, hbu⟩ := twoJ_end hJ hL
                clear hJ hL
                simp only [List.drop_succ_cons, List.drop_zero]
                generalize List.toArray _ = L0
                simp only [List.take_succ_cons, List.take_zero, List.map_cons, List.map_nil, fill, Act.put, List.setIfInBounds_toArray, List.set_cons_succ, List.set_cons_zero, Nat.zero_add, Nat.reduceAdd, y1, y2, y3]
                clear y1 y2 y3
                have hv17 : Below v0.heap.size v0 (u1.setRow b17 (bytesV h0.b).toArray) := below_setRow (hu9.trans (hbu.mono hu9.size)) (Nat.le_trans hu9.size hq) _
                have hv16 := Nat.le_trans hu9.size hp
                have hv17' := Nat.le_trans hu9.size hq
                have HB16 := Lib.hid (show Blk (u1.setRow b17 (bytesV h0.b).toArray) b16 (bytesV h0.b) 31 from hB16.setRow_other hpq _)
                have HB17 := Lib.hid (hB17.setRow (bytesV h0.b))
                have HQ := Lib.hid hB17
                have HV := Lib.hid hv17
                clear hB16 hB17 hbu hv17 HU HBU hu9 HB10 HB
                go_wp2_with (first
                  | (refine wpList_store_row rfl 31 (.tmp 17) (.tmp 75) rfl b17 (bytesV h0.b).toArray rfl rfl 31 z32.toArray (by exact HQ.out) (by exact hv_row _) (by exact z32_old _) (by exact hv_one _) ?_)
                  | fail)
                go_loopw [18] (fun jv u => ∃ (q : Nat) (pr : H × H), jv = .int .i64 q ∧ q ≤ A.length ∧ pr = climb2 ndH (h0, h0) ((A.zip (P.drop 1)).take q) ∧ Blk u b16 (bytesV pr.1.b) 31 ∧ Blk u b17 (bytesV pr.2.b) 31 ∧ Below v0.heap.size v0 u) (fun jv _ => A.length - (intOf jv).toNat)
                case atStart => exact ⟨0, (h0, h0), rfl, by omega, rfl, HB16.out, HB17.out, HV.out⟩
                case round =>
                  clear HB16 HB17 HQ HV
                  rename World => u
                  obtain ⟨q, pr, rfl, hq2, hcur, hB16, hB17, hu⟩ := hrel
                  have HB16 := Lib.hid hB16
                  have HB17 := Lib.hid hB17
                  have HCUR := Lib.hid hcur
                  clear hB16 hB17 hcur
                  by_cases hlt : q < A.length
                  · have hlt' : (q : Int) < A.length := by omega
                    have hPl : P.length = A.length + 1 := by have := HLN.out; omega
                    obtain ⟨o, ho⟩ : ∃ o, P[1 + q]? = some o := ⟨_, List.getElem?_eq_getElem (by omega)⟩
                    have ho' : ((P.drop 1))[q]? = some o := by first | exact (by rw [Nat.zero_add] at ho; exact ho) | (rw [List.getElem?_drop]; exact ho)
                    obtain ⟨sd, hsd⟩ : ∃ sd, A[q]? = some sd := ⟨_, List.getElem?_eq_getElem (by omega)⟩
                    have hp0 := HPOS.out
                    obtain ⟨ba, offa, ca, ea, hca, hra, hba⟩ := IsSl.pos HA.out (by omega) (by decide)
                    cases ea
                    have hE : u.rangeAt bp (offp + (1 + q) * 32) (bytesV o.b) := range_below (Hs.elem hr ho) ((HVW.out).trans (hu.mono HVW.out.size))
                    obtain ⟨o1, o2, o3, o4⟩ := one_parts u o
                    have cA : (oneW u o).cell? ⟨ba, offa + q, none⟩ = some (.bool sd) := (o1.cell (p := ⟨ba, offa + q, none⟩) (Nat.lt_of_lt_of_le hba hu.size)).trans ((hu.cell (p := ⟨ba, offa + q, none⟩) hba).trans (hra q (.bool sd) (by rw [List.getElem?_map, hsd]; rfl)))
                    unfold oneW at cA
                    have hix : (0 : Int) ≤ (1 : Int) + q ∧ (1 : Int) + q < P.length := ⟨by omega, by omega⟩
                    have hixA : (0 : Int) ≤ q ∧ (q : Int) < A.length := ⟨by omega, by omega⟩
                    have hst := climb2_step (h0, h0) A ((P.drop 1)) q sd o hsd ho'
                    rw [← HCUR.out] at hst
                    have HE := Lib.hid hE
                    have HST := Lib.hid hst
                    have HO3 := Lib.hid o3
                    have HO4 := Lib.hid o4
                    have HB16a := Lib.hid (HB16.out.below o1 HB16.out.lt)
                    have HB17a := Lib.hid (HB17.out.below o1 HB17.out.lt)
                    have hoa := hu.trans (o1.mono hu.size)
                    have HGa := Lib.hid (HGv.out.below hoa)
                    have hbu16 := HB16.out.lt
                    have hbu17 := HB17.out.lt
                    have hsa : u.heap.size < (oneW u o).heap.size := by rw [o2]; omega
                    clear hE hr hra hst o1 o2 o3 o4 ho ho' hsd hPl
                    cases sd with
                    | true =>
                      go_wp2_with (first
                        | (refine wpList_load_mid rfl 31 (.tmp 86) rfl bp (offp + (1 + q) * 32) rfl (bytesV o.b) _ (by exact HE.out) Tryd.underlying31 rfl (by exact hv_info _) ?_)
                        | (refine wpList_store_row rfl 31 (.tmp 19) (.tmp 87) rfl u.heap.size (bytesV o.b).toArray rfl rfl 31 z32.toArray (by exact HO4.out) (by exact hv_row _) (by exact z32_old _) (by exact hv_one _) ?_)
                        | (refine wpList_load_row rfl 31 (.tmp 17) rfl b17 rfl 31 (bytesV pr.2.b).toArray (0, 0) _ (by exact HB17a.out) Tryd.underlying31 rfl (by exact hv_row _) ?_)
                        | (refine wpList_load_row rfl 31 (.tmp 19) rfl u.heap.size rfl 31 (bytesV o.b).toArray (0, 0) _ (by exact HO3.out) Tryd.underlying31 rfl (by exact hv_row _) ?_)
                        | (go_at_call 61; refine (refnode_any pr.2 o _ (by exact HGa.out)).mono ?_; rintro e w5 ⟨rfl, hb5⟩; have HB16b := Lib.hid (HB16a.out.below hb5 HB16a.out.lt); have HB17b := Lib.hid (HB17a.out.below hb5 HB17a.out.lt); have hw5 := hoa.trans (hb5.mono hoa.size); clear hb5)
                        | (refine wpList_store_row rfl 31 (.tmp 17) (.tmp 94) rfl b17 (bytesV (ndH pr.2 o).b).toArray rfl rfl 31 (bytesV pr.2.b).toArray (by exact HB17b.out) (by exact hv_row _) (by simp only [List.size_toArray, bytesV_len, H.len]) (by exact hv_one _) ?_)
                        | fail)
                      go_roundw
                      case rel =>
                        first
                        | exact ⟨q + 1, (pr.1, ndH pr.2 o), by go_num, by omega, HST.out.symm, HB16b.out.setRow_other hpq _, HB17b.out.setRow _, below_setRow hw5 (by omega) _⟩
                        | (repeat apply Exists.intro
                           exact ⟨⟨q + 1, (pr.1, ndH pr.2 o), by go_num, by omega, HST.out.symm, HB16b.out.setRow_other hpq _, HB17b.out.setRow _, below_setRow hw5 (by omega) _⟩, rfl⟩)
                      case measure => simp [intOf]; omega
                    | false =>
                      go_wp2_with (first
                        | (refine wpList_load_mid rfl 31 (.tmp 86) rfl bp (offp + (1 + q) * 32) rfl (bytesV o.b) _ (by exact HE.out) Tryd.underlying31 rfl (by exact hv_info _) ?_)
                        | (refine wpList_store_row rfl 31 (.tmp 19) (.tmp 87) rfl u.heap.size (bytesV o.b).toArray rfl rfl 31 z32.toArray (by exact HO4.out) (by exact hv_row _) (by exact z32_old _) (by exact hv_one _) ?_)
                        | (refine wpList_load_row rfl 31 (.tmp 16) rfl b16 rfl 31 (bytesV pr.1.b).toArray (0, 0) _ (by exact HB16a.out) Tryd.underlying31 rfl (by exact hv_row _) ?_)
                        | (refine wpList_load_row rfl 31 (.tmp 19) rfl u.heap.size rfl 31 (bytesV o.b).toArray (0, 0) _ (by exact HO3.out) Tryd.underlying31 rfl (by exact hv_row _) ?_)
                        | (go_at_call 61; have hgl := HGa.out; refine (refnode_any o pr.1 _ (by exact hgl)).mono ?_; rintro e w5 ⟨rfl, hb5⟩; have hb6 : Below u.heap.size u (w5.setRow b16 (bytesV (ndH o pr.1).b).toArray) ∨ True := .inr trivial; have HB16b := Lib.hid (HB16a.out.below hb5 HB16a.out.lt); have HB17b := Lib.hid (show Blk (w5.setRow b16 (bytesV (ndH o pr.1).b).toArray) b17 (bytesV pr.2.b) 31 from (HB17a.out.below hb5 HB17a.out.lt).setRow_other (fun e => hpq e.symm) _);
                           have HB16c := Lib.hid (HB16b.out.setRow (bytesV (ndH o pr.1).b)); have HO3b := Lib.hid (show Blk (w5.setRow b16 (bytesV (ndH o pr.1).b).toArray) u.heap.size (bytesV o.b) 31 from (HO3.out.below hb5 hsa).setRow_other (by omega) _); have hw5 : Below v0.heap.size v0 (w5.setRow b16 (bytesV (ndH o pr.1).b).toArray) := below_setRow (hoa.trans (hb5.mono hoa.size)) hv16 _; have HGb := Lib.hid (HGv.out.below hw5); clear hb5 hb6 hgl HGa HO3)
                        | (refine wpList_store_row rfl 31 (.tmp 16) (.tmp 97) rfl b16 (bytesV (ndH o pr.1).b).toArray rfl rfl 31 (bytesV pr.1.b).toArray (by exact HB16b.out) (by exact hv_row _) (by simp only [List.size_toArray, bytesV_len, H.len]) (by exact hv_one _) ?_)
                        | (refine wpList_load_row rfl 31 (.tmp 19) rfl u.heap.size rfl 31 (bytesV o.b).toArray (0, 0) _ (by exact HO3b.out) Tryd.underlying31 rfl (by exact hv_row _) ?_)
                        | (refine wpList_load_row rfl 31 (.tmp 17) rfl b17 rfl 31 (bytesV pr.2.b).toArray (0, 0) _ (by exact HB17b.out) Tryd.underlying31 rfl (by exact hv_row _) ?_)
                        | (go_at_call 61; refine (refnode_any o pr.2 _ (by exact HGb.out)).mono ?_; rintro e w6 ⟨rfl, hb6⟩; have HB16d := Lib.hid (HB16c.out.below hb6 HB16c.out.lt); have HB17d := Lib.hid (HB17b.out.below hb6 HB17b.out.lt); have hw6 := hw5.trans (hb6.mono hw5.size); clear hb6)
                        | (refine wpList_store_row rfl 31 (.tmp 17) (.tmp 100) rfl b17 (bytesV (ndH o pr.2).b).toArray rfl rfl 31 (bytesV pr.2.b).toArray (by exact HB17d.out) (by exact hv_row _) (by simp only [List.size_toArray, bytesV_len, H.len]) (by exact hv_one _) ?_)
                        | fail)
                      go_roundw
                      case rel =>
                        first
                        | exact ⟨q + 1, (ndH o pr.1, ndH o pr.2), by go_num, by omega, HST.out.symm, HB16d.out.setRow_other hpq _, HB17d.out.setRow _, below_setRow hw6 (by omega) _⟩
                        | (repeat apply Exists.intro
                           exact ⟨⟨q + 1, (ndH o pr.1, ndH o pr.2), by go_num, by omega, HST.out.symm, HB16d.out.setRow_other hpq _, HB17d.out.setRow _, below_setRow hw6 (by omega) _⟩, rfl⟩)
                      case measure => simp [intOf]; omega
                  · have hlt' : ¬ (q : Int) < A.length := by omega
                    have hTn : T = some pr := by rw [HTE.out, HCUR.out, List.take_of_length_le (by rw [List.length_zip]; omega)]
                    clear HCUR
                    subst hTn
                    have HR8u := Lib.hid (HR82.out.below hu HR82.out.lt)
                    have HR9u := Lib.hid (HR92.out.below hu HR92.out.lt)
                    have hwu := hbw.trans (hu.mono hbw.size)
                    have hn16 : b16 ≠ w.heap.size + 1 := by omega
                    have hn17 : b17 ≠ w.heap.size + 1 := by omega
                    go_wp2_with fail
                    refine wp_region_but 3 2 (w.heap.size + 1) (fun b u => Blk u (w.heap.size + 1) (if b then bytesV pr.1.b else z32) 31) [(fun v _ => v = .agg (bytesV pr.1.b).toArray), (fun v _ => v = .agg (bytesV pr.2.b).toArray), (fun _ _ => True)] (fun _ _ => False) (by kernel_rfl) (by kernel_rfl) (by decide) rfl _ rfl ?hk ?hs (by exact HR8u.out) ?hp ?hops ?hfin
                    case hk =>
                      repeat (refine List.forall_mem_cons.2 ⟨by exact fun _ _ _ _ h => h, ?_⟩)
                      exact fun _ h => by cases h
                    case hs => exact fun b u u' hb h => Blk.below h hb h.lt
                    case hp => exact fun c a u _ h => h.elim
                    case hops =>
                      simp only [List.take_succ_cons, List.take_zero, butAll, List.getD_cons_zero, List.getD_cons_succ]
                      iterate 3
                        
                       (refine ⟨fun xs wr hb hd hst Qg hK hP => ?_, ?_⟩
                        · as_aux_lemma =>
                          simp only [fill, Act.put, List.setIfInBounds_toArray, List.set_cons_succ, List.set_cons_zero, needs, Region.binds, List.filter_cons, List.filter_nil, List.map_cons, List.map_nil, if_true, List.mem_cons, List.not_mem_nil, forall_eq_or_imp, List.getD_cons_zero, false_implies, implies_true] at hd hK ⊢
                          (try simp only [hd] at hK ⊢)
                          first
                          | ((refine wpList_load_rowIf rfl 31 (.tmp 16) rfl b16 rfl 31 (bytesV pr.1.b).toArray (0, 0) _ (by exact hb.blk HB16.out hn16) Tryd.underlying31 rfl (by exact hv_row _) ?_; exact hK _ _ rfl (fun h => absurd h (by decide)) (fun _ => Below.refl _ _)))
                          | ((refine wpList_load_rowIf rfl 31 (.tmp 17) rfl b17 rfl 31 (bytesV pr.2.b).toArray (0, 0) _ (by exact hb.blk HB17.out hn17) Tryd.underlying31 rfl (by exact hv_row _) ?_; exact hK _ _ rfl (fun h => absurd h (by decide)) (fun _ => Below.refl _ _)))
                          | (have h9 : Blk wr (w.heap.size + 1) z32 31 := (by first | exact hst rfl | exact hst trivial); refine wpList_store_row rfl 31 (.tmp 8) (.tmp 101) rfl (w.heap.size + 1) (bytesV pr.1.b).toArray rfl rfl 31 z32.toArray (by exact h9) (by exact hv_row _) (by exact z32_old _) (by exact hv_one _) ?_; exact hK undef _ trivial (fun _ => ⟨But.row _ _, h9.setRow _⟩) (fun h => absurd rfl h))
                          | (go_wp2_with fail; exact hK _ _ rfl (fun h => absurd h (by decide)) (fun _ => Below.refl _ _)))
                      trivial
                    case hfin =>
                      intro z u9 hb9 hR9 hS9
                      have z1 := hR9 1 (by decide)
                      simp only [List.getD_cons_zero, List.getD_cons_succ] at z1
                      have H39 := Lib.hid (show Blk u9 (w.heap.size + 1) (bytesV pr.1.b) 31 from hS9)
                      have H49 := Lib.hid (hb9.blk HR9u.out (by omega))
                      have hw9 := hwu.trans (hb9.below (B := w.heap.size) (by omega) hwu.size)
                      clear hR9 hb9 hS9
                      simp only [List.drop_succ_cons, List.drop_zero]
                      generalize List.toArray _ = L0
                      simp only [List.take_succ_cons, List.take_zero, List.map_cons, List.map_nil, fill, Act.put, List.setIfInBounds_toArray, List.set_cons_succ, List.set_cons_zero, z1]
                      clear z1
                      go_wp2_with (first
                        | (refine wpList_store_row rfl 31 (.tmp 9) (.tmp 102) rfl (w.heap.size + 1 + 1) (bytesV pr.2.b).toArray rfl rfl 31 z32.toArray (by exact H49.out) (by exact hv_row _) (by exact z32_old _) (by exact hv_one _) ?_)
                        | fail)
                      exact bodyPost_ret (results_row2_tmp (p := 8) (p2 := 9) (u := 10) rfl _ _ (w.heap.size + 1) (w.heap.size + 1 + 1) 31 31 (bytesV pr.1.b).toArray (bytesV pr.2.b).toArray (0, 0) (0, 0) _ rfl rfl (H39.out.setRow_other (by omega) _) (H49.out.setRow _) Tryd.underlying31 rfl (hv_row pr.1) (hv_row pr.2)) rfl ⟨rfl, below_setRow hw9 (by omega) _⟩
            · have hne : ((P.length : Int) - 1 == A.length) = false := by rw [beq_eq_false_iff_ne]; omega
              rw [if_neg hln] at hTe
              subst hTe
              clear hln
              have hu10 := below_setRow hu9 hgg (bytesV h0.b).toArray
              have HR83 := Lib.hid (HR82.out.below hu10 HR82.out.lt)
              have HR93 := Lib.hid (HR92.out.below hu10 HR92.out.lt)
              have hw3 := hbw.trans (hu10.mono hbw.size)
              go_wp2_with (first
                | (refine wpList_store_row rfl 31 (.tmp 15) (.tmp 54) rfl g (bytesV x0.b).toArray rfl rfl 31 z32.toArray (by exact HB.out) (by exact hv_row _) (by exact z32_old _) (by exact hv_one _) ?_)
                | (refine wpList_load_mid rfl 31 (.tmp 63) rfl bp offp rfl (bytesV h0.b) _ (by exact HE0.out) Tryd.underlying31 rfl (by exact hv_info _) ?_)
                | (refine wpList_store_row rfl 31 (.tmp 15) (.tmp 64) rfl g (bytesV h0.b).toArray rfl rfl 31 (bytesV x0.b).toArray (by exact HB10.out) (by exact hv_row _) (by simp only [List.size_toArray, bytesV_len, H.len]) (by exact hv_one _) ?_)
                | (refine wpList_store_row rfl 31 (.tmp 8) (.tmp 72) rfl (w.heap.size + 1) z32.toArray rfl (by rw [z32_arr]; rfl) 31 z32.toArray (by exact HR83.out) (by exact z32_row) (by exact z32_old z0H) (by exact hv_one z0H) ?_)
                | (refine wpList_store_row rfl 31 (.tmp 9) (.tmp 73) rfl (w.heap.size + 1 + 1) z32.toArray rfl (by rw [z32_arr]; rfl) 31 z32.toArray (by exact HR93.out.setRow_other (by omega) _) (by exact z32_row) (by exact z32_old z0H) (by exact hv_one z0H) ?_)
                | fail)
              exact bodyPost_ret (results_row2_tmp (p := 8) (p2 := 9) (u := 10) rfl _ _ (w.heap.size + 1) (w.heap.size + 1 + 1) 31 31 z32.toArray z32.toArray (0, 0) (0, 0) _ rfl rfl ((HR83.out.setRow z32).setRow_other (by omega) _) ((HR93.out.setRow_other (by omega) _).setRow z32) Tryd.underlying31 rfl z32_row z32_row) rfl ⟨rfl, below_setRow (below_setRow hw3 (by omega) _) (by omega) _⟩
end Go.Proofs.YtldokkbfahobgaaDoor
