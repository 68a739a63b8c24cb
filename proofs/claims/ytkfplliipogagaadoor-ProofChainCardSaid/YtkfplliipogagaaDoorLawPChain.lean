/- The law ProofChain, walked: true, and nothing that was there has turned. Conditions: the list can be read; the numbers are bytes; the package's tables read as they are laid. -/
import Derived.Test.YtkfplliipogagaaDoorAlive6
import Derived.Test.YtkfplliipogagaaDoorHoldP
namespace Go.Proofs.YtkfplliipogagaaDoor
open Go.RowKit

theorem hs_take {w : World} {xa : Option Addr} {ca : Nat} {l : List H} (h : Hs w (.slice xa l.length ca) l) (n : Nat) (hn : 1 ≤ n) (hl : n ≤ l.length) : Hs w (.slice xa n ca) (l.take n) := by
  obtain ⟨h1, h2, h3⟩ := h
  have hlt : (l.take n).length = n := by rw [List.length_take]; omega
  unfold Hs
  rw [hlt]
  refine ⟨by rw [bytesV_len, hflat_len, hlt], bytesV_one _, ?_⟩
  rcases h3 with ⟨e, h0⟩ | ⟨ad, cap, e, hc, hr⟩
  · omega
  · cases e
    refine .inr ⟨ad, ca, rfl, by omega, fun j u hu => hr j u ?_⟩
    rw [hflat_take] at hu
    unfold bytesV at hu ⊢
    rw [List.map_take, List.getElem?_take] at hu
    split at hu
    · exact hu
    · cases hu
theorem take_take_le (l : List H) (m n : Nat) (h : m ≤ n) : (l.take n).take m = l.take m := by rw [List.take_take, Nat.min_eq_left h]
set_option maxRecDepth 100000 in
set_option maxHeartbeats 8000000 in
theorem pchain_any (v : Value) (l : List H) (a b : Nat) (w : World) (hs : Hs w v l) (hg : Glob w) (ha : a < 256) (hb : b < 256) :
    Calls Tryd.prog 14 #[v, .int .u8 a, .int .u8 b] w fun e w' => e = .returned (.bool true) ∧ Below w.heap.size w w' := by
  obtain ⟨xa, ca, rfl, _⟩ := hs.form
  have HS := Lib.hid hs
  have HG := Lib.hid hg
  clear hs hg
  by_cases h60 : l.length ≤ 60 ∧ 0 < l.length
  · obtain ⟨h60, h0⟩ := h60
    have h1 : ¬ ((60 : Int) < l.length) := by omega
    have h2 : ((l.length : Int) == 0) = false := by rw [beq_eq_false_iff_ne]; omega
    have h2' : ¬ ((l.length : Int) = 0) := by omega
    have hle : l.length ≤ 1099511627776 := by omega
    obtain ⟨m, hm⟩ : ∃ m, m = 1 + a % l.length := ⟨_, rfl⟩
    obtain ⟨n, hn⟩ : ∃ n, n = m + b % (l.length - m + 1) := ⟨_, rfl⟩
    have hm1 : 1 ≤ m := by omega
    have hml : m ≤ l.length := by have := Nat.mod_lt a h0; omega
    have hmn : m ≤ n := by omega
    have hnl : n ≤ l.length := by have := Nat.mod_lt b (show 0 < l.length - m + 1 by omega); omega
    have r1 : (1 : Int) + (a : Int).tmod l.length = m := by rw [hm, Int.tmod_eq_emod_of_nonneg (by omega)]; rfl
    have r1' : (1 : Int) + (a : Int) % l.length = m := by rw [hm]; rfl
    have r2 : (m : Int) + (b : Int).tmod ((l.length : Int) - m + 1) = n := by
      rw [hn, Int.tmod_eq_emod_of_nonneg (by omega), show (l.length : Int) - m + 1 = ((l.length - m + 1 : Nat) : Int) by omega]
      rfl
    have r2' : (m : Int) + (b : Int) % ((l.length : Int) - m + 1) = n := by
      rw [hn, show (l.length : Int) - m + 1 = ((l.length - m + 1 : Nat) : Int) by omega]
      rfl
    have r3 : ¬ ((l.length : Int) - m + 1 = 0) := by omega
    obtain ⟨R1, hR1⟩ : ∃ R, R = rootN ndH e0H (l.take m) := ⟨_, rfl⟩
    obtain ⟨R2, hR2⟩ : ∃ R, R = rootN ndH e0H (l.take n) := ⟨_, rfl⟩
    obtain ⟨R3, hR3⟩ : ∃ R, R = rootN ndH e0H l := ⟨_, rfl⟩
    obtain ⟨X, hX⟩ : ∃ X, X = subN ndH e0H (l.take n) m true := ⟨_, rfl⟩
    obtain ⟨Y, hY⟩ : ∃ X, X = subN ndH e0H l n true := ⟨_, rfl⟩
    obtain ⟨Z, hZ⟩ : ∃ X, X = subN ndH e0H l m true := ⟨_, rfl⟩
    have hlt : (l.take n).length = n := by rw [List.length_take]; omega
    have e1 : begR m n R1 R2 X = true := by
      have h := beg_sub (l.take n) m hm1 (by omega) (by omega)
      rw [hlt, take_take_le l m n hmn] at h
      rw [hX, hR1, hR2]
      exact h
    have e2 : begR n l.length R2 R3 Y = true := by rw [hY, hR2, hR3]; exact beg_sub l n (by omega) hnl (by omega)
    have e3 : begR m l.length R1 R3 Z = true := by rw [hZ, hR1, hR3]; exact beg_sub l m hm1 hml (by omega)
    have lx : X.length ≤ 4096 := by rw [hX]; have := sub_few (l.take n) m true hm1 (by omega) (by omega); omega
    have ly : Y.length ≤ 4096 := by rw [hY]; have := sub_few l n true (by omega) hnl hle; omega
    have lz : Z.length ≤ 4096 := by rw [hZ]; have := sub_few l m true hm1 hml hle; omega
    have HX := Lib.hid hX
    have HY := Lib.hid hY
    have HZ := Lib.hid hZ
    have HLT := Lib.hid hlt
    have E1 := Lib.hid e1
    have E2 := Lib.hid e2
    have E3 := Lib.hid e3
    have LX := Lib.hid lx
    have LY := Lib.hid ly
    have LZ := Lib.hid lz
    have HLE := Lib.hid hle
    have HML := Lib.hid hml
    have HNL := Lib.hid hnl
    have HMN := Lib.hid hmn
    have HM1 := Lib.hid hm1
    have HR1 := Lib.hid hR1
    have HR2 := Lib.hid hR2
    have HR3 := Lib.hid hR3
    clear hm hn hR1 hR2 hR3 hle hX hY hZ e1 e2 e3 lx ly lz hlt
    go_enter Tryd.func14, Tryd.ntmps14
    go_wp2_with (first
      | (go_at_call 33; refine (alive6_any w HG.out).mono ?_; rintro e w1 ⟨rfl, hw1⟩; have HS1 := Lib.hid (HS.out.below hw1); have HG1 := Lib.hid (HG.out.below hw1))
      | (go_at_call 36; have hs1 := HS1.out; refine (prove_any (.slice xa n ca) (l.take n) m w1 (by rw [HLT.out]; omega) (hs_take hs1 n (by omega) HNL.out) HG1.out HM1.out (by rw [HLT.out]; exact HMN.out)).mono ?_; rintro e w2 ⟨⟨v2, rfl, ho2⟩, hb2⟩; rw [← HX.out] at ho2; have hw2 := hw1.trans (hb2.mono hw1.size); have HS2 := Lib.hid (hs1.below hb2); have HG2 := Lib.hid (HG1.out.below hb2); have HV2 := Lib.hid ho2.hs; clear ho2 hb2 hs1 HS1)
      | (go_at_call 36; have hs2 := HS2.out; refine (prove_any _ l n w2 HLE.out hs2 HG2.out (by omega) HNL.out).mono ?_; rintro e w3 ⟨⟨v3, rfl, ho3⟩, hb3⟩; rw [← HY.out] at ho3; have hw3 := hw2.trans (hb3.mono hw2.size); have HS3 := Lib.hid (hs2.below hb3); have HG3 := Lib.hid (HG2.out.below hb3); have HV23 := Lib.hid (HV2.out.below hb3); have HV3 := Lib.hid ho3.hs; clear ho3 hb3 hs2 HS2)
      | (go_at_call 36; refine (prove_any _ l m w3 HLE.out HS3.out HG3.out HM1.out HML.out).mono ?_; rintro e w4 ⟨⟨v4, rfl, ho4⟩, hb4⟩; rw [← HZ.out] at ho4; have hw4 := hw3.trans (hb4.mono hw3.size); have HS4 := Lib.hid (HS3.out.below hb4); have HG4 := Lib.hid (HG3.out.below hb4); have HV24 := Lib.hid (HV23.out.below hb4); have HV34 := Lib.hid (HV3.out.below hb4); have HV4 := Lib.hid ho4.hs; clear ho4 hb4)
      | fail)
    refine wp_region_monoF 13 (w4.heap.size) [10, 11, 12] [(fun v _ => v = .slice xa l.length ca), (fun v _ => v = .int .i64 m), (fun v _ => v = .slice xa m ca), (fun v _ => v = .agg (bytesV R1.b).toArray), (fun v _ => v = .slice xa l.length ca), (fun v _ => v = .int .i64 n), (fun v _ => v = .slice xa n ca), (fun v _ => v = .agg (bytesV R2.b).toArray), (fun v _ => v = .slice xa l.length ca), (fun v _ => v = .agg (bytesV R3.b).toArray), RowAt z32 24 w4.heap.size, RowAt z32 24 w4.heap.size, RowAt z32 24 w4.heap.size] (by kernel_rfl) (by kernel_rfl) (by decide) (Nat.le_refl _) ?mkept _ rfl ?mops ?mfin
    case mkept =>
      repeat (refine List.forall_mem_cons.2 ⟨by first | exact fun _ _ _ _ h => h | exact fun _ _ _ hb h => Parts.below h hb | exact fun _ _ _ hb h => IsSl.below h hb | exact fun _ _ _ hb h => RowAt.below h hb | exact fun _ _ _ hb ⟨vs, h⟩ => ⟨vs, Parts.below h hb⟩ | exact fun _ _ _ hb h => ownsRow_below h hb (ownsRow_block h) | exact fun _ _ _ hb ⟨g, e, h⟩ => ⟨g, e, ownsRow_below h hb (ownsRow_block h)⟩, ?_⟩)
      exact fun _ h => by cases h
    case mops =>
      simp only [List.take_succ_cons, List.take_zero, monoAllF, List.getD_cons_zero, List.getD_cons_succ]
      iterate 13
      
       (refine ⟨fun x wr hb hd Qg hK => ?_, ?_⟩
        · as_aux_lemma =>
          simp only [fill, Act.put, List.setIfInBounds_toArray, List.set_cons_succ, List.set_cons_zero, needs, Region.binds, List.filter_cons, List.filter_nil, List.map_cons, List.map_nil, if_true, List.mem_cons, List.not_mem_nil, or_false, forall_eq_or_imp, forall_eq, List.getD_cons_zero, List.getD_cons_succ, false_implies, implies_true] at hd hK ⊢
          (try simp only [hd] at hK ⊢)
          first
          | (show wpList _ _ _ [⟨some 67, .call _, _, _, _, _⟩] _ _; go_wp2_with (go_at_call 32; refine (root_any m _ (l.take m) wr (by rw [List.length_take, Nat.min_eq_left HML.out]) (Nat.le_trans HML.out HLE.out) (hs_take (HS4.out.below hb) m HM1.out HML.out) (HG4.out.below hb)).mono ?_; rintro e w5 ⟨rfl, hb5⟩); exact hK _ _ (by rw [← HR1.out]; rfl) (by first | exact trivial | exact fun h => absurd h (by decide) | exact fun _ => new_alloc _ _) hb5)
          | (show wpList _ _ _ [⟨some 71, .call _, _, _, _, _⟩] _ _; go_wp2_with (go_at_call 32; refine (root_any n _ (l.take n) wr HLT.out (Nat.le_trans HNL.out HLE.out) (hs_take (HS4.out.below hb) n (by have := HM1.out; have := HMN.out; omega) HNL.out) (HG4.out.below hb)).mono ?_; rintro e w5 ⟨rfl, hb5⟩); exact hK _ _ (by rw [← HR2.out]; rfl) (by first | exact trivial | exact fun h => absurd h (by decide) | exact fun _ => new_alloc _ _) hb5)
          | (show wpList _ _ _ [⟨some 73, .call _, _, _, _, _⟩] _ _; go_wp2_with (go_at_call 32; refine (root_any l.length _ l wr rfl HLE.out (HS4.out.below hb) (HG4.out.below hb)).mono ?_; rintro e w5 ⟨rfl, hb5⟩); exact hK _ _ (by rw [← HR3.out]; rfl) (by first | exact trivial | exact fun h => absurd h (by decide) | exact fun _ => new_alloc _ _) hb5)
          | (show wpList _ _ _ [⟨some 15, .alloc _, _, _, _, _⟩] _ _; go_wp2_with fail; exact hK _ _ ⟨_, rfl, hb.size, Blk.newL wr z32 24⟩ (by first | exact trivial | exact fun h => absurd h (by decide) | exact fun _ => new_alloc _ _) ((Below.refl _ _).alloc (Nat.le_refl _) _))
          | (show wpList _ _ _ [⟨some 16, .alloc _, _, _, _, _⟩] _ _; go_wp2_with fail; exact hK _ _ ⟨_, rfl, hb.size, Blk.newL wr z32 24⟩ (by first | exact trivial | exact fun h => absurd h (by decide) | exact fun _ => new_alloc _ _) ((Below.refl _ _).alloc (Nat.le_refl _) _))
          | (show wpList _ _ _ [⟨some 17, .alloc _, _, _, _, _⟩] _ _; go_wp2_with fail; exact hK _ _ ⟨_, rfl, hb.size, Blk.newL wr z32 24⟩ (by first | exact trivial | exact fun h => absurd h (by decide) | exact fun _ => new_alloc _ _) ((Below.refl _ _).alloc (Nat.le_refl _) _))
          | (go_wp2_with fail; exact hK _ _ rfl (by first | exact trivial | exact fun h => absurd h (by decide) | exact fun _ => new_alloc _ _) (Below.refl _ _)))
      trivial
    case mfin =>
      intro z u9 hb9 hR9 hfr
      have z3 := hR9 3 (by decide)
      have z7 := hR9 7 (by decide)
      have z9 := hR9 9 (by decide)
      have z10 := hR9 10 (by decide)
      have z11 := hR9 11 (by decide)
      have z12 := hR9 12 (by decide)
      simp only [List.getD_cons_zero, List.getD_cons_succ] at z3 z7 z9 z10 z11 z12
      have n1 := hfr 10 (by decide) 11 (by decide) (by decide)
      have n2 := hfr 10 (by decide) 12 (by decide) (by decide)
      have n3 := hfr 11 (by decide) 12 (by decide) (by decide)
      obtain ⟨g1, z10, hg1, hB1⟩ := z10
      obtain ⟨g2, z11, hg2, hB2⟩ := z11
      obtain ⟨g3, z12, hg3, hB3⟩ := z12
      have d1 : g1 ≠ g2 := fun e => n1 (by rw [z10, z11, e])
      have d2 : g1 ≠ g3 := fun e => n2 (by rw [z10, z12, e])
      have d3 : g2 ≠ g3 := fun e => n3 (by rw [z11, z12, e])
      have HB1 := Lib.hid hB1
      have HB2 := Lib.hid hB2
      have HB3 := Lib.hid hB3
      have c1 := ((hB1.setRow (bytesV R1.b)).setRow_other d1 (bytesV R2.b).toArray).setRow_other d2 (bytesV R3.b).toArray
      have c2 := ((hB2.setRow_other (fun e => d1 e.symm) (bytesV R1.b).toArray).setRow (bytesV R2.b)).setRow_other d3 (bytesV R3.b).toArray
      have c3 := ((hB3.setRow_other (fun e => d2 e.symm) (bytesV R1.b).toArray).setRow_other (fun e => d3 e.symm) (bytesV R2.b).toArray).setRow (bytesV R3.b)
      have hb10 : Below w4.heap.size w4 (((u9.setRow g1 (bytesV R1.b).toArray).setRow g2 (bytesV R2.b).toArray).setRow g3 (bytesV R3.b).toArray) := below_setRow (below_setRow (below_setRow hb9 hg1 _) hg2 _) hg3 _
      have hw10 := hw4.trans (hb10.mono hw4.size)
      have C1 := Lib.hid c1
      have C2 := Lib.hid c2
      have C3 := Lib.hid c3
      have HG10 := Lib.hid (HG4.out.below hb10)
      have HV2 := Lib.hid (HV24.out.below hb10)
      have HV3 := Lib.hid (HV34.out.below hb10)
      have HV4 := Lib.hid (HV4.out.below hb10)
      clear hR9 hb9 hB1 hB2 hB3 n1 n2 n3 hfr c1 c2 c3 hb10 HV23 HV24 HV34
      simp only [List.drop_succ_cons, List.drop_zero]
      generalize List.toArray _ = L0
      simp only [List.take_succ_cons, List.take_zero, List.map_cons, List.map_nil, fill, Act.put, List.setIfInBounds_toArray, List.set_cons_succ, List.set_cons_zero, z3, z7, z9, z10, z11, z12]
      clear z3 z7 z9 z10 z11 z12
      go_wp2_with (first
        | (refine wpList_store_row rfl 24 (.tmp 15) (.tmp 67) rfl g1 (bytesV R1.b).toArray rfl rfl 24 z32.toArray (by exact HB1.out) (by exact hv_row _) (by exact z32_old _) (by exact hv_one _) ?_)
        | (refine wpList_store_row rfl 24 (.tmp 16) (.tmp 71) rfl g2 (bytesV R2.b).toArray rfl rfl 24 z32.toArray (by exact HB2.out.setRow_other (fun e => d1 e.symm) _) (by exact hv_row _) (by exact z32_old _) (by exact hv_one _) ?_)
        | (refine wpList_store_row rfl 24 (.tmp 17) (.tmp 73) rfl g3 (bytesV R3.b).toArray rfl rfl 24 z32.toArray (by exact (HB3.out.setRow_other (fun e => d2 e.symm) _).setRow_other (fun e => d3 e.symm) _) (by exact hv_row _) (by exact z32_old _) (by exact hv_one _) ?_)
        | (refine wpList_load_rowIf rfl 24 (.tmp 15) rfl g1 rfl 24 (bytesV R1.b).toArray (0, 0) _ (by exact C1.out) Tryd.underlying24 rfl (by exact hv_row _) ?_)
        | (refine wpList_load_rowIf rfl 24 (.tmp 16) rfl g2 rfl 24 (bytesV R2.b).toArray (0, 0) _ (by exact C2.out) Tryd.underlying24 rfl (by exact hv_row _) ?_)
        | (go_at_call 44; have hg10 := HG10.out; refine (begins_any _ R1 R2 m n v2 X HV2.out LX.out hg10).mono ?_; rintro e w11 ⟨rfl, hb11⟩; rw [E1.out]; have hw11 := hw10.trans (hb11.mono hw10.size); have C21 := Lib.hid (C2.out.below hb11 C2.out.lt); have C31 := Lib.hid (C3.out.below hb11 C3.out.lt); have C11 := Lib.hid (C1.out.below hb11 C1.out.lt); have HG11 := Lib.hid (hg10.below hb11); have HV31 := Lib.hid (HV3.out.below hb11); have HV41 := Lib.hid (HV4.out.below hb11); clear hb11 hg10 HG10 C1 C2 C3)
        | (refine wpList_load_rowIf rfl 24 (.tmp 16) rfl g2 rfl 24 (bytesV R2.b).toArray (0, 0) _ (by exact C21.out) Tryd.underlying24 rfl (by exact hv_row _) ?_)
        | (refine wpList_load_rowIf rfl 24 (.tmp 17) rfl g3 rfl 24 (bytesV R3.b).toArray (0, 0) _ (by exact C31.out) Tryd.underlying24 rfl (by exact hv_row _) ?_)
        | (go_at_call 44; have hg11 := HG11.out; refine (begins_any w11 R2 R3 n l.length v3 Y HV31.out LY.out hg11).mono ?_; rintro e w12 ⟨rfl, hb12⟩; rw [E2.out]; have hw12 := hw11.trans (hb12.mono hw11.size); have C32 := Lib.hid (C31.out.below hb12 C31.out.lt); have C12 := Lib.hid (C11.out.below hb12 C11.out.lt); have HG12 := Lib.hid (hg11.below hb12); have HV42 := Lib.hid (HV41.out.below hb12); clear hb12 hg11 HG11 C11 C21 C31)
        | (refine wpList_load_rowIf rfl 24 (.tmp 15) rfl g1 rfl 24 (bytesV R1.b).toArray (0, 0) _ (by exact C12.out) Tryd.underlying24 rfl (by exact hv_row _) ?_)
        | (refine wpList_load_rowIf rfl 24 (.tmp 17) rfl g3 rfl 24 (bytesV R3.b).toArray (0, 0) _ (by exact C32.out) Tryd.underlying24 rfl (by exact hv_row _) ?_)
        | (go_at_call 44; refine (begins_any w12 R1 R3 m l.length v4 Z HV42.out LZ.out HG12.out).mono ?_; rintro e w13 ⟨rfl, hb13⟩; rw [E3.out]; have hw13 := hw12.trans (hb13.mono hw12.size); clear hb13)
        | fail)
      go_ret
      exact ⟨rfl, hw13⟩
  · by_cases h1 : (60 : Int) < l.length
    · go_enter Tryd.func14, Tryd.ntmps14
      go_wp2_with (first
        | (go_at_call 33; refine (alive6_any w HG.out).mono ?_; rintro e w1 ⟨rfl, hw1⟩)
        | fail)
      go_ret
      exact ⟨rfl, hw1⟩
    · have h2 : ((l.length : Int) == 0) = true := by rw [beq_iff_eq]; omega
      go_enter Tryd.func14, Tryd.ntmps14
      go_wp2_with (first
        | (go_at_call 33; refine (alive6_any w HG.out).mono ?_; rintro e w1 ⟨rfl, hw1⟩)
        | fail)
      go_ret
      exact ⟨rfl, hw1⟩
end Go.Proofs.YtkfplliipogagaaDoor
