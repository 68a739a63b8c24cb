/- The law ProofLong, walked: true, and nothing that was there has turned. Conditions: the list can be read; the package's tables read as they are laid. -/
import Derived.Test.YtkfplliipogagaaDoorAlive6
import Derived.Test.YtkfplliipogagaaDoorHoldP
namespace Go.Proofs.YtkfplliipogagaaDoor
open Go.RowKit

theorem below_same {w : World} {g : Nat} {e : TypeId} (h : Blk w g z32 e) : Below w.heap.size w (w.setRow g (bytesV z0H.b).toArray) := by
  have hb : But g w (w.setRow g (bytesV z0H.b).toArray) := But.row _ _
  refine ⟨hb.os, hb.tape, hb.output, hb.size, fun k hk => ?_⟩
  by_cases hkg : k = g
  · subst hkg
    have h2 : Blk (w.setRow k (bytesV z0H.b).toArray) k (bytesV z0H.b) e := h.setRow (bytesV z0H.b)
    have hz : bytesV z0H.b = z32 := rfl
    rw [hz] at h2 ⊢
    unfold Blk at h h2
    rw [h2, h]
  · exact hb.block k hk hkg
set_option maxRecDepth 100000 in
set_option maxHeartbeats 16000000 in
theorem plong_any (v : Value) (l : List H) (i m : Int) (w : World) (hs : Hs w v l) (hg : Glob w) :
    Calls Tryd.prog 12 #[v, .int .i64 i, .int .i64 m] w fun e w' => e = .returned (.bool true) ∧ Below w.heap.size w w' := by
  obtain ⟨xa, ca, rfl, _⟩ := hs.form
  have HS := Lib.hid hs
  have HG := Lib.hid hg
  clear hs hg
  by_cases h70 : l.length ≤ 70
  · have h1 : ¬ ((70 : Int) < l.length) := by omega
    have HLE := Lib.hid (show l.length ≤ 1099511627776 by omega)
    by_cases hl0 : 0 < l.length
    · obtain ⟨lb, lo, e9, _, _, _⟩ := hs_block HS.out hl0
      subst e9
      have HPOS := Lib.hid hl0
      clear hl0
      go_enter Tryd.func12, Tryd.ntmps12
      go_wp2_with (first
        | (go_at_call 33; refine (alive6_any w HG.out).mono ?_; rintro e w1 ⟨rfl, hw1⟩; have HS1 := Lib.hid (HS.out.below hw1); have HG1 := Lib.hid (HG.out.below hw1))
        | fail)
      by_cases hi : 0 ≤ i ∧ i < l.length
      · obtain ⟨k, rfl⟩ : ∃ k : Nat, i = k := ⟨i.toNat, by omega⟩
        have hk : k < l.length := by omega
        obtain ⟨x0, hx0⟩ : ∃ x0, l[k]? = some x0 := ⟨_, List.getElem?_eq_getElem hk⟩
        obtain ⟨p, hp⟩ : ∃ p, p = pathN ndH e0H l k := ⟨_, rfl⟩
        have hpl : p.length ≤ 40 := by rw [hp]; exact path_len l k hk HLE.out
        have e1 : comesR x0 k l.length (p ++ [x0]) = none := comesR_longer l k x0 _ hk (by rw [hp]; simp)
        have e2 : 0 < p.length → comesR x0 k l.length (p.drop 1) = none := fun h => comesR_longer l k x0 _ hk (by rw [← hp, List.length_drop]; omega)
        have e11 : (comesR x0 k l.length (p ++ [x0])).getD z0H = z0H := by rw [e1]; rfl
        have e12 : (comesR x0 k l.length (p ++ [x0])).isSome = false := by rw [e1]; rfl
        have hix : (0 : Int) ≤ k ∧ (k : Int) < l.length := hi
        have HP := Lib.hid hp
        have HK := Lib.hid hk
        have HPL := Lib.hid hpl
        have E2 := Lib.hid e2
        have E11 := Lib.hid e11
        have E12 := Lib.hid e12
        have HX0 := Lib.hid hx0
        clear hp hk hpl e1 e2 e11 e12 hx0 hi
        go_wp2_with (first
          | (go_at_call 34; refine (path_any l.length _ l k w1 rfl HLE.out HS1.out HG1.out HK.out).mono ?_; rintro e w2 ⟨⟨v2, rfl, ho2⟩, hb2⟩; rw [← HP.out] at ho2; have hv2 := ho2.hs; obtain ⟨pa, pc, rfl, _⟩ := hv2.form; have hw2 := hw1.trans (hb2.mono hw1.size); have HS2 := Lib.hid (HS1.out.below hb2); have HG2 := Lib.hid (HG1.out.below hb2); have HV2 := Lib.hid hv2; clear ho2 hv2 hb2)
          | fail)
        obtain ⟨sa, hcut, hcs, hsn⟩ := hs_cut HV2.out
        obtain ⟨lb', lo', e9, _, hr, hlb⟩ := hs_block HS2.out (by have := HPOS.out; omega)
        cases e9
        have HE := Lib.hid (Hs.elem hr HX0.out)
        have HCUT := Lib.hid hcs
        have HSN := Lib.hid hsn
        clear hr hlb hcs hsn
        refine wp_region_monoF 25 (w2.heap.size) [23] [(fun v _ => v = .slice (some ⟨lb, lo, none⟩) l.length ca), (fun v _ => v = .int .i64 k), (fun v _ => v = .pointer (some ⟨lb, lo + k * 32, none⟩)), (fun v _ => v = .agg (bytesV x0.b).toArray), (fun v _ => v = .int .i64 k), (fun v _ => v = .slice (some ⟨lb, lo, none⟩) l.length ca), (fun v _ => v = .int .i64 l.length), (fun v _ => v = .slice pa p.length pc), (fun v _ => v = .slice pa p.length pc), (fun v _ => v = .int .i64 p.length), (fun v _ => v = .slice pa p.length pc), (fun v _ => v = .int .i64 p.length), (fun v _ => v = .slice sa p.length p.length), (fun v _ => v = .slice (some ⟨lb, lo, none⟩) l.length ca), (fun v _ => v = .int .i64 k), (fun v _ => v = .pointer (some ⟨lb, lo + k * 32, none⟩)), (fun v _ => v = .agg (bytesV x0.b).toArray), (fun v w => Hs w v ([x0])), (fun v w => Hs w v (p ++ [x0])), (fun v _ => v = .tuple #[.agg (bytesV z0H.b).toArray, .bool false]), (fun v _ => v = .tuple #[.agg (bytesV z0H.b).toArray, .bool false]), (fun v _ => v = .agg (bytesV z0H.b).toArray), (fun v _ => v = .bool false), RowAt z32 24 w2.heap.size, (fun _ _ => True)] (by kernel_rfl) (by kernel_rfl) (by decide) (Nat.le_refl _) ?mkept _ rfl ?mops ?mfin
        case mkept =>
          repeat (refine List.forall_mem_cons.2 ⟨by first | exact fun _ _ _ _ h => h | exact fun _ _ _ hb h => Parts.below h hb | exact fun _ _ _ hb h => IsSl.below h hb | exact fun _ _ _ hb h => RowAt.below h hb | exact fun _ _ _ hb ⟨vs, h⟩ => ⟨vs, Parts.below h hb⟩ | exact fun _ _ _ hb h => ownsRow_below h hb (ownsRow_block h) | exact fun _ _ _ hb ⟨g, e, h⟩ => ⟨g, e, ownsRow_below h hb (ownsRow_block h)⟩, ?_⟩)
          exact fun _ h => by cases h
        case mops =>
          simp only [List.take_succ_cons, List.take_zero, monoAllF, List.getD_cons_zero, List.getD_cons_succ]
          iterate 24
           (refine ⟨fun x wr hb hd Qg hK => ?_, ?_⟩
            · as_aux_lemma =>
              simp only [fill, Act.put, List.setIfInBounds_toArray, List.set_cons_succ, List.set_cons_zero, needs, Region.binds, List.filter_cons, List.filter_nil, List.map_cons, List.map_nil, if_true, List.mem_cons, List.not_mem_nil, or_false, forall_eq_or_imp, forall_eq, List.getD_cons_zero, List.getD_cons_succ, false_implies, implies_true] at hd hK ⊢
              (try simp only [hd] at hK ⊢)
              first
              | ((refine wpList_load_midIf rfl 24 (.tmp 31) rfl lb (lo + k * 32) rfl (bytesV x0.b) _ (range_below HE.out hb) Tryd.underlying24 rfl (hv_info x0) ?_; exact hK _ _ rfl (by first | exact trivial | exact fun h => absurd h (by decide) | exact fun _ => new_alloc _ _) (Below.refl _ _)))
              | ((refine wpList_load_midIf rfl 24 (.tmp 44) rfl lb (lo + k * 32) rfl (bytesV x0.b) _ (range_below HE.out hb) Tryd.underlying24 rfl (hv_info x0) ?_; exact hK _ _ rfl (by first | exact trivial | exact fun h => absurd h (by decide) | exact fun _ => new_alloc _ _) (Below.refl _ _)))
              | (refine wpList_hashes rfl [x0] 1 _ rfl rfl (by decide) (by decide) (by simp only [List.map_toArray, List.map_cons, List.map_nil]; rfl) ?_; exact hK _ _ (hs_new wr [x0] _ rfl rfl) (by first | exact trivial | exact fun h => absurd h (by decide) | exact fun _ => new_alloc _ _) ((Below.refl _ _).alloc (Nat.le_refl _) _))
              | (refine wpList_app_full rfl (.tmp 41) (.tmp 46) rfl sa p [x0] (x 17) (by first | rfl | exact hd.1) (HCUT.out.below hb) HSN.out rfl (by first | exact hd.2 | exact hd.2.1 | exact hd) (by simp) (by have := HPL.out; simp; omega) ?_; intro v9 w9 hv9 hb9; exact hK _ _ hv9 (by first | exact trivial | exact fun h => absurd h (by decide) | exact fun _ => new_alloc _ _) hb9)
              | (show wpList _ _ _ [⟨some 48, .call _, _, _, _, _⟩] _ _; go_wp2_with (go_at_call 38; refine (comes_any wr x0 k l.length (x 18) (p ++ [x0]) (by first | exact hd | exact hd.1 | exact hd.2 | simp only [hd]) (by have := HPL.out; simp; omega) (HG2.out.below hb)).mono ?_; rintro e w5 ⟨rfl, hb5⟩); exact hK _ _ (by rw [E11.out, E12.out]; rfl) (by first | exact trivial | exact fun h => absurd h (by decide) | exact fun _ => new_alloc _ _) hb5)
              | (show wpList _ _ _ [⟨some 9, .alloc _, _, _, _, _⟩] _ _; go_wp2_with fail; exact hK _ _ ⟨_, rfl, hb.size, Blk.newL wr z32 24⟩ (by first | exact trivial | exact fun h => absurd h (by decide) | exact fun _ => new_alloc _ _) ((Below.refl _ _).alloc (Nat.le_refl _) _))
              | (go_wp2_with fail; exact hK _ _ rfl (by first | exact trivial | exact fun h => absurd h (by decide) | exact fun _ => new_alloc _ _) (Below.refl _ _)))
          (refine ⟨fun x wr hb hd Qg hK => ?_, ?_⟩
           · have h1 : RowAt z32 24 (w2.heap.size) (x 23) wr := hd 23 (by decide +kernel)
             have h0 : x 21 = .agg (bytesV z0H.b).toArray := hd 21 (by decide +kernel)
             obtain ⟨g1, e1, hg1, hB1⟩ := h1
             simp only [List.map_cons, List.map_nil, fill, Act.put, List.setIfInBounds_toArray, List.set_cons_succ, List.set_cons_zero] at hK ⊢
             refine wpList_store_row rfl 24 (.tmp 9) (.tmp 49) rfl g1 (bytesV z0H.b).toArray (by exact e1) (by exact h0) 24 z32.toArray (by exact hB1) (by exact hv_row _) (by exact z32_old _) (by exact hv_one _) ?_
             exact hK undef _ trivial (fun h => absurd h (by decide)) (below_same hB1))
          trivial
        case mfin =>
          intro z w4 hb3 hR3 _
          have z23 := hR3 23 (by decide)
          have z22 := hR3 22 (by decide)
          simp only [List.getD_cons_zero, List.getD_cons_succ] at z22 z23
          obtain ⟨g1, z23, _, _⟩ := z23
          have hw4 := hw2.trans (hb3.mono hw2.size)
          have HS4 := Lib.hid (HS2.out.below hb3)
          have HG4 := Lib.hid (HG2.out.below hb3)
          have HV4 := Lib.hid (HV2.out.below hb3)
          have HE4 := Lib.hid (range_below HE.out hb3)
          clear hR3 hb3 hcut
          simp only [List.drop_succ_cons, List.drop_zero]
          generalize List.toArray _ = L0
          simp only [List.take_succ_cons, List.take_zero, List.map_cons, List.map_nil, fill, Act.put, List.setIfInBounds_toArray, List.set_cons_succ, List.set_cons_zero, z22, z23]
          clear z22 z23
          by_cases hp0 : 0 < p.length
          · have g0 : (0 : Int) < p.length := by omega
            have e2 := E2.out hp0
            obtain ⟨pt, hpt⟩ : ∃ pt, pt = p.drop 1 := ⟨_, rfl⟩
            rw [← hpt] at e2
            have e21 : (comesR x0 k l.length pt).getD z0H = z0H := by rw [e2]; rfl
            have e22 : (comesR x0 k l.length pt).isSome = false := by rw [e2]; rfl
            have E21 := Lib.hid e21
            have E22 := Lib.hid e22
            obtain ⟨ta, tc, htl, hts⟩ := hs_tail HV4.out 1 (by omega)
            have htl' : ∀ w' : World, (Instr.slice 31 (.slice pa p.length pc) (some (.int .i64 1)) none none).run Tryd.prog w' = .ok (.slice ta (p.length - 1) tc) w' := htl
            rw [← hpt] at hts
            have HTS := Lib.hid hts
            have HTL := Lib.hid (show pt.length ≤ 4096 by have := HPL.out; rw [hpt, List.length_drop]; omega)
            clear hp0 e2 e21 e22 hts htl hpt
            go_wp2_with fail
            refine wp_region_mono 13 (w4.heap.size) [(fun v _ => v = .slice (some ⟨lb, lo, none⟩) l.length ca), (fun v _ => v = .int .i64 k), (fun v _ => v = .pointer (some ⟨lb, lo + k * 32, none⟩)), (fun v _ => v = .agg (bytesV x0.b).toArray), (fun v _ => v = .int .i64 k), (fun v _ => v = .slice (some ⟨lb, lo, none⟩) l.length ca), (fun v _ => v = .int .i64 l.length), (fun v _ => v = .slice pa p.length pc), (fun v _ => v = .slice ta (p.length - 1) tc), (fun v _ => v = .tuple #[.agg (bytesV z0H.b).toArray, .bool false]), (fun v _ => v = .tuple #[.agg (bytesV z0H.b).toArray, .bool false]), (fun v _ => v = .agg (bytesV z0H.b).toArray), (fun v _ => v = .bool false)] (by kernel_rfl) (by kernel_rfl) (Nat.le_refl _) ?mkept _ rfl ?mops ?mfin
            case mkept =>
              repeat (refine List.forall_mem_cons.2 ⟨by first | exact fun _ _ _ _ h => h | exact fun _ _ _ hb h => Parts.below h hb | exact fun _ _ _ hb h => IsSl.below h hb, ?_⟩)
              exact fun _ h => by cases h
            case mops =>
              simp only [List.take_succ_cons, List.take_zero, monoAll, List.getD_cons_zero, List.getD_cons_succ]
              iterate 13
              
               (refine ⟨fun x wr hb hd Qg hK => ?_, ?_⟩
                · as_aux_lemma =>
                  simp only [fill, Act.put, List.setIfInBounds_toArray, List.set_cons_succ, List.set_cons_zero, needs, Region.binds, List.filter_cons, List.filter_nil, List.map_cons, List.map_nil, if_true, List.mem_cons, List.not_mem_nil, or_false, forall_eq_or_imp, forall_eq, List.getD_cons_zero, List.getD_cons_succ, false_implies, implies_true] at hd hK ⊢
                  (try simp only [hd] at hK ⊢)
                  first
                  | ((refine wpList_load_midIf rfl 24 (.tmp 58) rfl lb (lo + k * 32) rfl (bytesV x0.b) _ (range_below HE4.out hb) Tryd.underlying24 rfl (hv_info x0) ?_; exact hK _ _ rfl (Below.refl _ _)))
                  | (show wpList _ _ _ [⟨some 65, .call _, _, _, _, _⟩] _ _; go_wp2_with (go_at_call 38; refine (comes_any wr x0 k l.length _ pt (HTS.out.below hb) HTL.out (HG4.out.below hb)).mono ?_; rintro e w5 ⟨rfl, hb5⟩); exact hK _ _ (by rw [E21.out, E22.out]; rfl) hb5)
                  | (go_wp2_with fail; exact hK _ _ rfl (Below.refl _ _)))
              trivial
            case mfin =>
              intro x w4b hb5 hR5
              have xl := hR5 12 (by decide)
              simp only [List.getD_cons_zero, List.getD_cons_succ] at xl
              replace hw4 := hw4.trans (hb5.mono hw4.size)
              replace HS4 := Lib.hid (HS4.out.below hb5)
              replace HG4 := Lib.hid (HG4.out.below hb5)
              clear hR5 hb5 HE HE4 HV4 HV2 HTS htl' hix HS1 HG1 HS2 HG2 HCUT
              simp only [List.drop_succ_cons, List.drop_zero]
              generalize List.toArray _ = L0
              simp only [List.take_succ_cons, List.take_zero, List.map_cons, List.map_nil, fill, Act.put, List.setIfInBounds_toArray, List.set_cons_succ, List.set_cons_zero, xl]
              clear xl
              by_cases hm : 1 ≤ m ∧ m ≤ l.length
              · obtain ⟨j, rfl⟩ : ∃ j : Nat, m = j := ⟨m.toNat, by omega⟩
                obtain ⟨x1, hx1⟩ : ∃ x1, l[0]? = some x1 := ⟨_, List.getElem?_eq_getElem (by have := HPOS.out; omega)⟩
                obtain ⟨q, hq⟩ : ∃ q, q = subN ndH e0H l j true := ⟨_, rfl⟩
                have hj1 : 1 ≤ j := by omega
                have hjn : j ≤ l.length := by omega
                have hql : q.length ≤ 41 := by rw [hq]; exact sub_few l j true hj1 hjn HLE.out
                have e1 : bothR x1 j l.length (q ++ [x1]) = none := bothR_longer l j x1 _ hj1 hjn (by rw [hq]; simp)
                have e2 : q.length ≠ 0 → bothR x1 j l.length (q.take (q.length - 1)) = none := fun h => bothR_longer l j x1 _ hj1 hjn (by rw [← hq, List.length_take]; omega)
                have e11 : ((bothR x1 j l.length (q ++ [x1])).getD (z0H, z0H)).1 = z0H := by rw [e1]; rfl
                have e12 : ((bothR x1 j l.length (q ++ [x1])).getD (z0H, z0H)).2 = z0H := by rw [e1]; rfl
                have e13 : (bothR x1 j l.length (q ++ [x1])).isSome = false := by rw [e1]; rfl
                have hix0 : (0 : Int) < l.length := by have := HPOS.out; omega
                have HQ := Lib.hid hq
                have HJ1 := Lib.hid hj1
                have HJN := Lib.hid hjn
                have HQL := Lib.hid hql
                have E2 := Lib.hid e2
                have E11 := Lib.hid e11
                have E12 := Lib.hid e12
                have E13 := Lib.hid e13
                have HX1 := Lib.hid hx1
                clear hq hj1 hjn hql e1 e2 e11 e12 e13 hx1 hm
                go_wp2_with (first
                  | (go_at_call 36; refine (prove_any _ l j w4b HLE.out HS4.out HG4.out HJ1.out HJN.out).mono ?_; rintro e w5 ⟨⟨v5, rfl, ho5⟩, hb5⟩; rw [← HQ.out] at ho5; have hv5 := ho5.hs; obtain ⟨qa, qc, rfl, _⟩ := hv5.form; have hw5 := hw4.trans (hb5.mono hw4.size); have HS5 := Lib.hid (HS4.out.below hb5); have HG5 := Lib.hid (HG4.out.below hb5); have HV5 := Lib.hid hv5; clear ho5 hv5 hb5)
                  | fail)
                obtain ⟨sq, hcut, hcs, hsn⟩ := hs_cut HV5.out
                obtain ⟨lb', lo', e9, _, hr, hlb⟩ := hs_block HS5.out (by have := HPOS.out; omega)
                cases e9
                have he := Hs.elem hr HX1.out
                rw [Nat.zero_mul, Nat.add_zero] at he
                have HE := Lib.hid he
                have HCUT := Lib.hid hcs
                have HSN := Lib.hid hsn
                clear hr hlb he hcs hsn
                refine wp_region_monoF 26 (w5.heap.size) [22, 23] [(fun v _ => v = .int .i64 j), (fun v _ => v = .slice (some ⟨lb, lo, none⟩) l.length ca), (fun v _ => v = .int .i64 l.length), (fun v _ => v = .slice (some ⟨lb, lo, none⟩) l.length ca), (fun v _ => v = .pointer (some ⟨lb, lo, none⟩)), (fun v _ => v = .agg (bytesV x1.b).toArray), (fun v _ => v = .slice qa q.length qc), (fun v _ => v = .slice qa q.length qc), (fun v _ => v = .int .i64 q.length), (fun v _ => v = .slice qa q.length qc), (fun v _ => v = .int .i64 q.length), (fun v _ => v = .slice sq q.length q.length), (fun v _ => v = .slice (some ⟨lb, lo, none⟩) l.length ca), (fun v _ => v = .pointer (some ⟨lb, lo, none⟩)), (fun v _ => v = .agg (bytesV x1.b).toArray), (fun v w => Hs w v ([x1])), (fun v w => Hs w v (q ++ [x1])), (fun v _ => v = .tuple #[.agg (bytesV z0H.b).toArray, .agg (bytesV z0H.b).toArray, .bool false]), (fun v _ => v = .tuple #[.agg (bytesV z0H.b).toArray, .agg (bytesV z0H.b).toArray, .bool false]), (fun v _ => v = .agg (bytesV z0H.b).toArray), (fun v _ => v = .agg (bytesV z0H.b).toArray), (fun v _ => v = .bool false), RowAt z32 24 w5.heap.size, RowAt z32 24 w5.heap.size, (fun _ _ => True), (fun _ _ => True)] (by kernel_rfl) (by kernel_rfl) (by decide) (Nat.le_refl _) ?mkept _ rfl ?mops ?mfin
                case mkept =>
                  repeat (refine List.forall_mem_cons.2 ⟨by first | exact fun _ _ _ _ h => h | exact fun _ _ _ hb h => Parts.below h hb | exact fun _ _ _ hb h => IsSl.below h hb | exact fun _ _ _ hb h => RowAt.below h hb | exact fun _ _ _ hb ⟨vs, h⟩ => ⟨vs, Parts.below h hb⟩ | exact fun _ _ _ hb h => ownsRow_below h hb (ownsRow_block h) | exact fun _ _ _ hb ⟨g, e, h⟩ => ⟨g, e, ownsRow_below h hb (ownsRow_block h)⟩, ?_⟩)
                  exact fun _ h => by cases h
                case mops =>
                  simp only [List.take_succ_cons, List.take_zero, monoAllF, List.getD_cons_zero, List.getD_cons_succ]
                  iterate 24
                   (refine ⟨fun x wr hb hd Qg hK => ?_, ?_⟩
                    · as_aux_lemma =>
                      simp only [fill, Act.put, List.setIfInBounds_toArray, List.set_cons_succ, List.set_cons_zero, needs, Region.binds, List.filter_cons, List.filter_nil, List.map_cons, List.map_nil, if_true, List.mem_cons, List.not_mem_nil, or_false, forall_eq_or_imp, forall_eq, List.getD_cons_zero, List.getD_cons_succ, false_implies, implies_true] at hd hK ⊢
                      (try simp only [hd] at hK ⊢)
                      first
                      | ((refine wpList_load_midIf rfl 24 (.tmp 82) rfl lb lo rfl (bytesV x1.b) _ (range_below HE.out hb) Tryd.underlying24 rfl (hv_info x1) ?_; exact hK _ _ rfl (by first | exact trivial | exact fun h => absurd h (by decide) | exact fun _ => new_alloc _ _) (Below.refl _ _)))
                      | ((refine wpList_load_midIf rfl 24 (.tmp 91) rfl lb lo rfl (bytesV x1.b) _ (range_below HE.out hb) Tryd.underlying24 rfl (hv_info x1) ?_; exact hK _ _ rfl (by first | exact trivial | exact fun h => absurd h (by decide) | exact fun _ => new_alloc _ _) (Below.refl _ _)))
                      | (refine wpList_hashes rfl [x1] 1 _ rfl rfl (by decide) (by decide) (by simp only [List.map_toArray, List.map_cons, List.map_nil]; rfl) ?_; exact hK _ _ (hs_new wr [x1] _ rfl rfl) (by first | exact trivial | exact fun h => absurd h (by decide) | exact fun _ => new_alloc _ _) ((Below.refl _ _).alloc (Nat.le_refl _) _))
                      | (refine wpList_app_full rfl (.tmp 89) (.tmp 93) rfl sq q [x1] (x 15) (by first | rfl | exact hd.1) (HCUT.out.below hb) HSN.out rfl (by first | exact hd.2 | exact hd.2.1 | exact hd) (by simp) (by have := HQL.out; simp; omega) ?_; intro v9 w9 hv9 hb9; exact hK _ _ hv9 (by first | exact trivial | exact fun h => absurd h (by decide) | exact fun _ => new_alloc _ _) hb9)
                      | (show wpList _ _ _ [⟨some 95, .call _, _, _, _, _⟩] _ _; go_wp2_with (go_at_call 40; refine (both_any wr x1 j l.length (x 16) (q ++ [x1]) (by first | exact hd | exact hd.1 | exact hd.2 | simp only [hd]) (by have := HQL.out; simp; omega) (HG5.out.below hb)).mono ?_; rintro e w5 ⟨rfl, hb5⟩); exact hK _ _ (by rw [E11.out, E12.out, E13.out]; rfl) (by first | exact trivial | exact fun h => absurd h (by decide) | exact fun _ => new_alloc _ _) hb5)
                      | (show wpList _ _ _ [⟨some 13, .alloc _, _, _, _, _⟩] _ _; go_wp2_with fail; exact hK _ _ ⟨_, rfl, hb.size, Blk.newL wr z32 24⟩ (by first | exact trivial | exact fun h => absurd h (by decide) | exact fun _ => new_alloc _ _) ((Below.refl _ _).alloc (Nat.le_refl _) _))
                      | (show wpList _ _ _ [⟨some 14, .alloc _, _, _, _, _⟩] _ _; go_wp2_with fail; exact hK _ _ ⟨_, rfl, hb.size, Blk.newL wr z32 24⟩ (by first | exact trivial | exact fun h => absurd h (by decide) | exact fun _ => new_alloc _ _) ((Below.refl _ _).alloc (Nat.le_refl _) _))
                      | (go_wp2_with fail; exact hK _ _ rfl (by first | exact trivial | exact fun h => absurd h (by decide) | exact fun _ => new_alloc _ _) (Below.refl _ _)))
                  (refine ⟨fun x wr hb hd Qg hK => ?_, ?_⟩
                   · have h1 : RowAt z32 24 (w5.heap.size) (x 22) wr := hd 22 (by decide +kernel)
                     have h0 : x 19 = .agg (bytesV z0H.b).toArray := hd 19 (by decide +kernel)
                     obtain ⟨g1, e1, hg1, hB1⟩ := h1
                     simp only [List.map_cons, List.map_nil, fill, Act.put, List.setIfInBounds_toArray, List.set_cons_succ, List.set_cons_zero] at hK ⊢
                     refine wpList_store_row rfl 24 (.tmp 13) (.tmp 96) rfl g1 (bytesV z0H.b).toArray (by exact e1) (by exact h0) 24 z32.toArray (by exact hB1) (by exact hv_row _) (by exact z32_old _) (by exact hv_one _) ?_
                     exact hK undef _ trivial (fun h => absurd h (by decide)) (below_same hB1))
                  (refine ⟨fun x wr hb hd Qg hK => ?_, ?_⟩
                   · have h1 : RowAt z32 24 (w5.heap.size) (x 23) wr := hd 23 (by decide +kernel)
                     have h0 : x 20 = .agg (bytesV z0H.b).toArray := hd 20 (by decide +kernel)
                     obtain ⟨g1, e1, hg1, hB1⟩ := h1
                     simp only [List.map_cons, List.map_nil, fill, Act.put, List.setIfInBounds_toArray, List.set_cons_succ, List.set_cons_zero] at hK ⊢
                     refine wpList_store_row rfl 24 (.tmp 14) (.tmp 97) rfl g1 (bytesV z0H.b).toArray (by exact e1) (by exact h0) 24 z32.toArray (by exact hB1) (by exact hv_row _) (by exact z32_old _) (by exact hv_one _) ?_
                     exact hK undef _ trivial (fun h => absurd h (by decide)) (below_same hB1))
                  trivial
                case mfin =>
                  intro z u9 hb9 hR9 hfr
                  have z22 := hR9 22 (by decide)
                  have z23 := hR9 23 (by decide)
                  have z21 := hR9 21 (by decide)
                  simp only [List.getD_cons_zero, List.getD_cons_succ] at z21 z22 z23
                  obtain ⟨g1, z22, _, _⟩ := z22
                  obtain ⟨g2, z23, _, _⟩ := z23
                  have hw10 := hw5.trans (hb9.mono hw5.size)
                  have HS10 := Lib.hid (HS5.out.below hb9)
                  have HG10 := Lib.hid (HG5.out.below hb9)
                  have HV10 := Lib.hid (HV5.out.below hb9)
                  have HE10 := Lib.hid (range_below HE.out hb9)
                  have hql41 := HQL.out
                  clear hR9 hb9 hfr hcut
                  simp only [List.drop_succ_cons, List.drop_zero]
                  generalize List.toArray _ = L0
                  simp only [List.take_succ_cons, List.take_zero, List.map_cons, List.map_nil, fill, Act.put, List.setIfInBounds_toArray, List.set_cons_succ, List.set_cons_zero, z21, z22, z23]
                  clear z21 z22 z23
                  by_cases hq0 : q.length = 0
                  · have g0 : ((q.length : Int) == 0) = true := by rw [beq_iff_eq]; omega
                    clear hq0
                    go_wp2_with fail
                    go_ret
                    exact ⟨rfl, hw10⟩
                  · have g0 : ((q.length : Int) == 0) = false := by rw [beq_eq_false_iff_ne]; omega
                    have e2 := E2.out hq0
                    obtain ⟨qt, hqt⟩ : ∃ qt, qt = q.take (q.length - 1) := ⟨_, rfl⟩
                    rw [← hqt] at e2
                    have e21 : ((bothR x1 j l.length qt).getD (z0H, z0H)).1 = z0H := by rw [e2]; rfl
                    have e22 : ((bothR x1 j l.length qt).getD (z0H, z0H)).2 = z0H := by rw [e2]; rfl
                    have e23 : (bothR x1 j l.length qt).isSome = false := by rw [e2]; rfl
                    have E21 := Lib.hid e21
                    have E22 := Lib.hid e22
                    have E23 := Lib.hid e23
                    obtain ⟨ta, tc, htl, hts⟩ := hs_head HV10.out (q.length - 1) (by omega)
                    have hc1 : ((q.length - 1 : Nat) : Int) = (q.length : Int) - 1 := by omega
                    rw [hc1] at htl
                    rw [← hqt] at hts
                    have HTS := Lib.hid hts
                    have HTL := Lib.hid (show qt.length ≤ 4096 by have := HQL.out; rw [hqt, List.length_take]; omega)
                    clear hq0 e2 e21 e22 e23 hts hc1 hqt
                    go_wp2_with fail
                    refine wp_region_mono 16 (u9.heap.size) [(fun v _ => v = .int .i64 j), (fun v _ => v = .slice (some ⟨lb, lo, none⟩) l.length ca), (fun v _ => v = .int .i64 l.length), (fun v _ => v = .slice (some ⟨lb, lo, none⟩) l.length ca), (fun v _ => v = .pointer (some ⟨lb, lo, none⟩)), (fun v _ => v = .agg (bytesV x1.b).toArray), (fun v _ => v = .slice qa q.length qc), (fun v _ => v = .slice qa q.length qc), (fun v _ => v = .int .i64 q.length), (fun v _ => v = .int .i64 ((q.length : Int) - 1)), (fun v _ => v = .slice ta (q.length - 1) tc), (fun v _ => v = .tuple #[.agg (bytesV z0H.b).toArray, .agg (bytesV z0H.b).toArray, .bool false]), (fun v _ => v = .tuple #[.agg (bytesV z0H.b).toArray, .agg (bytesV z0H.b).toArray, .bool false]), (fun v _ => v = .agg (bytesV z0H.b).toArray), (fun v _ => v = .agg (bytesV z0H.b).toArray), (fun v _ => v = .bool false)] (by kernel_rfl) (by kernel_rfl) (Nat.le_refl _) ?mkept _ rfl ?mops ?mfin
                    case mkept =>
                      repeat (refine List.forall_mem_cons.2 ⟨by first | exact fun _ _ _ _ h => h | exact fun _ _ _ hb h => Parts.below h hb | exact fun _ _ _ hb h => IsSl.below h hb, ?_⟩)
                      exact fun _ h => by cases h
                    case mops =>
                      simp only [List.take_succ_cons, List.take_zero, monoAll, List.getD_cons_zero, List.getD_cons_succ]
                      iterate 16
                      
                       (refine ⟨fun x wr hb hd Qg hK => ?_, ?_⟩
                        · as_aux_lemma =>
                          simp only [fill, Act.put, List.setIfInBounds_toArray, List.set_cons_succ, List.set_cons_zero, needs, Region.binds, List.filter_cons, List.filter_nil, List.map_cons, List.map_nil, if_true, List.mem_cons, List.not_mem_nil, or_false, forall_eq_or_imp, forall_eq, List.getD_cons_zero, List.getD_cons_succ, false_implies, implies_true] at hd hK ⊢
                          (try simp only [hd] at hK ⊢)
                          first
                          | ((refine wpList_load_midIf rfl 24 (.tmp 108) rfl lb lo rfl (bytesV x1.b) _ (range_below HE10.out hb) Tryd.underlying24 rfl (hv_info x1) ?_; exact hK _ _ rfl (Below.refl _ _)))
                          | (show wpList _ _ _ [⟨some 115, .call _, _, _, _, _⟩] _ _; go_wp2_with (go_at_call 40; refine (both_any wr x1 j l.length _ qt (HTS.out.below hb) HTL.out (HG10.out.below hb)).mono ?_; rintro e w5 ⟨rfl, hb5⟩); exact hK _ _ (by rw [E21.out, E22.out, E23.out]; rfl) hb5)
                          | (go_wp2_with fail; exact hK _ _ rfl (Below.refl _ _)))
                      trivial
                    case mfin =>
                      intro x w11 hb11 hR11
                      have xl := hR11 15 (by decide)
                      simp only [List.getD_cons_zero, List.getD_cons_succ] at xl
                      have hw11 := hw10.trans (hb11.mono hw10.size)
                      clear hR11 hb11
                      simp only [List.drop_succ_cons, List.drop_zero]
                      generalize List.toArray _ = L0
                      simp only [List.take_succ_cons, List.take_zero, List.map_cons, List.map_nil, fill, Act.put, List.setIfInBounds_toArray, List.set_cons_succ, List.set_cons_zero, xl]
                      clear xl
                      go_wp2_with fail
                      go_ret
                      exact ⟨rfl, hw11⟩
              · have hmo : m < 1 ∨ (l.length : Int) < m := by omega
                have HMO := Lib.hid hmo
                clear hm hmo
                go_wp2_with (first
                  | (go_at_call 36; refine (prove_none _ l m w4b HS4.out HMO.out).mono ?_; rintro e w5 ⟨rfl, h5⟩; rw [h5]; clear h5 w5)
                  | fail)
                go_ret
                exact ⟨rfl, hw4⟩
          · have g0 : ¬ (0 : Int) < p.length := by omega
            clear hp0
            go_wp2_with fail
            clear HE HE4 HV4 HV2 hix HS1 HG1 HS2 HG2 HCUT
            by_cases hm : 1 ≤ m ∧ m ≤ l.length
            · obtain ⟨j, rfl⟩ : ∃ j : Nat, m = j := ⟨m.toNat, by omega⟩
              obtain ⟨x1, hx1⟩ : ∃ x1, l[0]? = some x1 := ⟨_, List.getElem?_eq_getElem (by have := HPOS.out; omega)⟩
              obtain ⟨q, hq⟩ : ∃ q, q = subN ndH e0H l j true := ⟨_, rfl⟩
              have hj1 : 1 ≤ j := by omega
              have hjn : j ≤ l.length := by omega
              have hql : q.length ≤ 41 := by rw [hq]; exact sub_few l j true hj1 hjn HLE.out
              have e1 : bothR x1 j l.length (q ++ [x1]) = none := bothR_longer l j x1 _ hj1 hjn (by rw [hq]; simp)
              have e2 : q.length ≠ 0 → bothR x1 j l.length (q.take (q.length - 1)) = none := fun h => bothR_longer l j x1 _ hj1 hjn (by rw [← hq, List.length_take]; omega)
              have e11 : ((bothR x1 j l.length (q ++ [x1])).getD (z0H, z0H)).1 = z0H := by rw [e1]; rfl
              have e12 : ((bothR x1 j l.length (q ++ [x1])).getD (z0H, z0H)).2 = z0H := by rw [e1]; rfl
              have e13 : (bothR x1 j l.length (q ++ [x1])).isSome = false := by rw [e1]; rfl
              have hix0 : (0 : Int) < l.length := by have := HPOS.out; omega
              have HQ := Lib.hid hq
              have HJ1 := Lib.hid hj1
              have HJN := Lib.hid hjn
              have HQL := Lib.hid hql
              have E2 := Lib.hid e2
              have E11 := Lib.hid e11
              have E12 := Lib.hid e12
              have E13 := Lib.hid e13
              have HX1 := Lib.hid hx1
              clear hq hj1 hjn hql e1 e2 e11 e12 e13 hx1 hm
              go_wp2_with (first
                | (go_at_call 36; refine (prove_any _ l j w4 HLE.out HS4.out HG4.out HJ1.out HJN.out).mono ?_; rintro e w5 ⟨⟨v5, rfl, ho5⟩, hb5⟩; rw [← HQ.out] at ho5; have hv5 := ho5.hs; obtain ⟨qa, qc, rfl, _⟩ := hv5.form; have hw5 := hw4.trans (hb5.mono hw4.size); have HS5 := Lib.hid (HS4.out.below hb5); have HG5 := Lib.hid (HG4.out.below hb5); have HV5 := Lib.hid hv5; clear ho5 hv5 hb5)
                | fail)
              obtain ⟨sq, hcut, hcs, hsn⟩ := hs_cut HV5.out
              obtain ⟨lb', lo', e9, _, hr, hlb⟩ := hs_block HS5.out (by have := HPOS.out; omega)
              cases e9
              have he := Hs.elem hr HX1.out
              rw [Nat.zero_mul, Nat.add_zero] at he
              have HE := Lib.hid he
              have HCUT := Lib.hid hcs
              have HSN := Lib.hid hsn
              clear hr hlb he hcs hsn
              refine wp_region_monoF 26 (w5.heap.size) [22, 23] [(fun v _ => v = .int .i64 j), (fun v _ => v = .slice (some ⟨lb, lo, none⟩) l.length ca), (fun v _ => v = .int .i64 l.length), (fun v _ => v = .slice (some ⟨lb, lo, none⟩) l.length ca), (fun v _ => v = .pointer (some ⟨lb, lo, none⟩)), (fun v _ => v = .agg (bytesV x1.b).toArray), (fun v _ => v = .slice qa q.length qc), (fun v _ => v = .slice qa q.length qc), (fun v _ => v = .int .i64 q.length), (fun v _ => v = .slice qa q.length qc), (fun v _ => v = .int .i64 q.length), (fun v _ => v = .slice sq q.length q.length), (fun v _ => v = .slice (some ⟨lb, lo, none⟩) l.length ca), (fun v _ => v = .pointer (some ⟨lb, lo, none⟩)), (fun v _ => v = .agg (bytesV x1.b).toArray), (fun v w => Hs w v ([x1])), (fun v w => Hs w v (q ++ [x1])), (fun v _ => v = .tuple #[.agg (bytesV z0H.b).toArray, .agg (bytesV z0H.b).toArray, .bool false]), (fun v _ => v = .tuple #[.agg (bytesV z0H.b).toArray, .agg (bytesV z0H.b).toArray, .bool false]), (fun v _ => v = .agg (bytesV z0H.b).toArray), (fun v _ => v = .agg (bytesV z0H.b).toArray), (fun v _ => v = .bool false), RowAt z32 24 w5.heap.size, RowAt z32 24 w5.heap.size, (fun _ _ => True), (fun _ _ => True)] (by kernel_rfl) (by kernel_rfl) (by decide) (Nat.le_refl _) ?mkept _ rfl ?mops ?mfin
              case mkept =>
                repeat (refine List.forall_mem_cons.2 ⟨by first | exact fun _ _ _ _ h => h | exact fun _ _ _ hb h => Parts.below h hb | exact fun _ _ _ hb h => IsSl.below h hb | exact fun _ _ _ hb h => RowAt.below h hb | exact fun _ _ _ hb ⟨vs, h⟩ => ⟨vs, Parts.below h hb⟩ | exact fun _ _ _ hb h => ownsRow_below h hb (ownsRow_block h) | exact fun _ _ _ hb ⟨g, e, h⟩ => ⟨g, e, ownsRow_below h hb (ownsRow_block h)⟩, ?_⟩)
                exact fun _ h => by cases h
              case mops =>
                simp only [List.take_succ_cons, List.take_zero, monoAllF, List.getD_cons_zero, List.getD_cons_succ]
                iterate 24
                 (refine ⟨fun x wr hb hd Qg hK => ?_, ?_⟩
                  · as_aux_lemma =>
                    simp only [fill, Act.put, List.setIfInBounds_toArray, List.set_cons_succ, List.set_cons_zero, needs, Region.binds, List.filter_cons, List.filter_nil, List.map_cons, List.map_nil, if_true, List.mem_cons, List.not_mem_nil, or_false, forall_eq_or_imp, forall_eq, List.getD_cons_zero, List.getD_cons_succ, false_implies, implies_true] at hd hK ⊢
                    (try simp only [hd] at hK ⊢)
                    first
                    | ((refine wpList_load_midIf rfl 24 (.tmp 82) rfl lb lo rfl (bytesV x1.b) _ (range_below HE.out hb) Tryd.underlying24 rfl (hv_info x1) ?_; exact hK _ _ rfl (by first | exact trivial | exact fun h => absurd h (by decide) | exact fun _ => new_alloc _ _) (Below.refl _ _)))
                    | ((refine wpList_load_midIf rfl 24 (.tmp 91) rfl lb lo rfl (bytesV x1.b) _ (range_below HE.out hb) Tryd.underlying24 rfl (hv_info x1) ?_; exact hK _ _ rfl (by first | exact trivial | exact fun h => absurd h (by decide) | exact fun _ => new_alloc _ _) (Below.refl _ _)))
                    | (refine wpList_hashes rfl [x1] 1 _ rfl rfl (by decide) (by decide) (by simp only [List.map_toArray, List.map_cons, List.map_nil]; rfl) ?_; exact hK _ _ (hs_new wr [x1] _ rfl rfl) (by first | exact trivial | exact fun h => absurd h (by decide) | exact fun _ => new_alloc _ _) ((Below.refl _ _).alloc (Nat.le_refl _) _))
                    | (refine wpList_app_full rfl (.tmp 89) (.tmp 93) rfl sq q [x1] (x 15) (by first | rfl | exact hd.1) (HCUT.out.below hb) HSN.out rfl (by first | exact hd.2 | exact hd.2.1 | exact hd) (by simp) (by have := HQL.out; simp; omega) ?_; intro v9 w9 hv9 hb9; exact hK _ _ hv9 (by first | exact trivial | exact fun h => absurd h (by decide) | exact fun _ => new_alloc _ _) hb9)
                    | (show wpList _ _ _ [⟨some 95, .call _, _, _, _, _⟩] _ _; go_wp2_with (go_at_call 40; refine (both_any wr x1 j l.length (x 16) (q ++ [x1]) (by first | exact hd | exact hd.1 | exact hd.2 | simp only [hd]) (by have := HQL.out; simp; omega) (HG5.out.below hb)).mono ?_; rintro e w5 ⟨rfl, hb5⟩); exact hK _ _ (by rw [E11.out, E12.out, E13.out]; rfl) (by first | exact trivial | exact fun h => absurd h (by decide) | exact fun _ => new_alloc _ _) hb5)
                    | (show wpList _ _ _ [⟨some 13, .alloc _, _, _, _, _⟩] _ _; go_wp2_with fail; exact hK _ _ ⟨_, rfl, hb.size, Blk.newL wr z32 24⟩ (by first | exact trivial | exact fun h => absurd h (by decide) | exact fun _ => new_alloc _ _) ((Below.refl _ _).alloc (Nat.le_refl _) _))
                    | (show wpList _ _ _ [⟨some 14, .alloc _, _, _, _, _⟩] _ _; go_wp2_with fail; exact hK _ _ ⟨_, rfl, hb.size, Blk.newL wr z32 24⟩ (by first | exact trivial | exact fun h => absurd h (by decide) | exact fun _ => new_alloc _ _) ((Below.refl _ _).alloc (Nat.le_refl _) _))
                    | (go_wp2_with fail; exact hK _ _ rfl (by first | exact trivial | exact fun h => absurd h (by decide) | exact fun _ => new_alloc _ _) (Below.refl _ _)))
                (refine ⟨fun x wr hb hd Qg hK => ?_, ?_⟩
                 · have h1 : RowAt z32 24 (w5.heap.size) (x 22) wr := hd 22 (by decide +kernel)
                   have h0 : x 19 = .agg (bytesV z0H.b).toArray := hd 19 (by decide +kernel)
                   obtain ⟨g1, e1, hg1, hB1⟩ := h1
                   simp only [List.map_cons, List.map_nil, fill, Act.put, List.setIfInBounds_toArray, List.set_cons_succ, List.set_cons_zero] at hK ⊢
                   refine wpList_store_row rfl 24 (.tmp 13) (.tmp 96) rfl g1 (bytesV z0H.b).toArray (by exact e1) (by exact h0) 24 z32.toArray (by exact hB1) (by exact hv_row _) (by exact z32_old _) (by exact hv_one _) ?_
                   exact hK undef _ trivial (fun h => absurd h (by decide)) (below_same hB1))
                (refine ⟨fun x wr hb hd Qg hK => ?_, ?_⟩
                 · have h1 : RowAt z32 24 (w5.heap.size) (x 23) wr := hd 23 (by decide +kernel)
                   have h0 : x 20 = .agg (bytesV z0H.b).toArray := hd 20 (by decide +kernel)
                   obtain ⟨g1, e1, hg1, hB1⟩ := h1
                   simp only [List.map_cons, List.map_nil, fill, Act.put, List.setIfInBounds_toArray, List.set_cons_succ, List.set_cons_zero] at hK ⊢
                   refine wpList_store_row rfl 24 (.tmp 14) (.tmp 97) rfl g1 (bytesV z0H.b).toArray (by exact e1) (by exact h0) 24 z32.toArray (by exact hB1) (by exact hv_row _) (by exact z32_old _) (by exact hv_one _) ?_
                   exact hK undef _ trivial (fun h => absurd h (by decide)) (below_same hB1))
                trivial
              case mfin =>
                intro z u9 hb9 hR9 hfr
                have z22 := hR9 22 (by decide)
                have z23 := hR9 23 (by decide)
                have z21 := hR9 21 (by decide)
                simp only [List.getD_cons_zero, List.getD_cons_succ] at z21 z22 z23
                obtain ⟨g1, z22, _, _⟩ := z22
                obtain ⟨g2, z23, _, _⟩ := z23
                have hw10 := hw5.trans (hb9.mono hw5.size)
                have HS10 := Lib.hid (HS5.out.below hb9)
                have HG10 := Lib.hid (HG5.out.below hb9)
                have HV10 := Lib.hid (HV5.out.below hb9)
                have HE10 := Lib.hid (range_below HE.out hb9)
                have hql41 := HQL.out
                clear hR9 hb9 hfr hcut
                simp only [List.drop_succ_cons, List.drop_zero]
                generalize List.toArray _ = L0
                simp only [List.take_succ_cons, List.take_zero, List.map_cons, List.map_nil, fill, Act.put, List.setIfInBounds_toArray, List.set_cons_succ, List.set_cons_zero, z21, z22, z23]
                clear z21 z22 z23
                by_cases hq0 : q.length = 0
                · have g0 : ((q.length : Int) == 0) = true := by rw [beq_iff_eq]; omega
                  clear hq0
                  go_wp2_with fail
                  go_ret
                  exact ⟨rfl, hw10⟩
                · have g0 : ((q.length : Int) == 0) = false := by rw [beq_eq_false_iff_ne]; omega
                  have e2 := E2.out hq0
                  obtain ⟨qt, hqt⟩ : ∃ qt, qt = q.take (q.length - 1) := ⟨_, rfl⟩
                  rw [← hqt] at e2
                  have e21 : ((bothR x1 j l.length qt).getD (z0H, z0H)).1 = z0H := by rw [e2]; rfl
                  have e22 : ((bothR x1 j l.length qt).getD (z0H, z0H)).2 = z0H := by rw [e2]; rfl
                  have e23 : (bothR x1 j l.length qt).isSome = false := by rw [e2]; rfl
                  have E21 := Lib.hid e21
                  have E22 := Lib.hid e22
                  have E23 := Lib.hid e23
                  obtain ⟨ta, tc, htl, hts⟩ := hs_head HV10.out (q.length - 1) (by omega)
                  have hc1 : ((q.length - 1 : Nat) : Int) = (q.length : Int) - 1 := by omega
                  rw [hc1] at htl
                  rw [← hqt] at hts
                  have HTS := Lib.hid hts
                  have HTL := Lib.hid (show qt.length ≤ 4096 by have := HQL.out; rw [hqt, List.length_take]; omega)
                  clear hq0 e2 e21 e22 e23 hts hc1 hqt
                  go_wp2_with fail
                  refine wp_region_mono 16 (u9.heap.size) [(fun v _ => v = .int .i64 j), (fun v _ => v = .slice (some ⟨lb, lo, none⟩) l.length ca), (fun v _ => v = .int .i64 l.length), (fun v _ => v = .slice (some ⟨lb, lo, none⟩) l.length ca), (fun v _ => v = .pointer (some ⟨lb, lo, none⟩)), (fun v _ => v = .agg (bytesV x1.b).toArray), (fun v _ => v = .slice qa q.length qc), (fun v _ => v = .slice qa q.length qc), (fun v _ => v = .int .i64 q.length), (fun v _ => v = .int .i64 ((q.length : Int) - 1)), (fun v _ => v = .slice ta (q.length - 1) tc), (fun v _ => v = .tuple #[.agg (bytesV z0H.b).toArray, .agg (bytesV z0H.b).toArray, .bool false]), (fun v _ => v = .tuple #[.agg (bytesV z0H.b).toArray, .agg (bytesV z0H.b).toArray, .bool false]), (fun v _ => v = .agg (bytesV z0H.b).toArray), (fun v _ => v = .agg (bytesV z0H.b).toArray), (fun v _ => v = .bool false)] (by kernel_rfl) (by kernel_rfl) (Nat.le_refl _) ?mkept _ rfl ?mops ?mfin
                  case mkept =>
                    repeat (refine List.forall_mem_cons.2 ⟨by first | exact fun _ _ _ _ h => h | exact fun _ _ _ hb h => Parts.below h hb | exact fun _ _ _ hb h => IsSl.below h hb, ?_⟩)
                    exact fun _ h => by cases h
                  case mops =>
                    simp only [List.take_succ_cons, List.take_zero, monoAll, List.getD_cons_zero, List.getD_cons_succ]
                    iterate 16
                    
                     (refine ⟨fun x wr hb hd Qg hK => ?_, ?_⟩
                      · as_aux_lemma =>
                        simp only [fill, Act.put, List.setIfInBounds_toArray, List.set_cons_succ, List.set_cons_zero, needs, Region.binds, List.filter_cons, List.filter_nil, List.map_cons, List.map_nil, if_true, List.mem_cons, List.not_mem_nil, or_false, forall_eq_or_imp, forall_eq, List.getD_cons_zero, List.getD_cons_succ, false_implies, implies_true] at hd hK ⊢
                        (try simp only [hd] at hK ⊢)
                        first
                        | ((refine wpList_load_midIf rfl 24 (.tmp 108) rfl lb lo rfl (bytesV x1.b) _ (range_below HE10.out hb) Tryd.underlying24 rfl (hv_info x1) ?_; exact hK _ _ rfl (Below.refl _ _)))
                        | (show wpList _ _ _ [⟨some 115, .call _, _, _, _, _⟩] _ _; go_wp2_with (go_at_call 40; refine (both_any wr x1 j l.length _ qt (HTS.out.below hb) HTL.out (HG10.out.below hb)).mono ?_; rintro e w5 ⟨rfl, hb5⟩); exact hK _ _ (by rw [E21.out, E22.out, E23.out]; rfl) hb5)
                        | (go_wp2_with fail; exact hK _ _ rfl (Below.refl _ _)))
                    trivial
                  case mfin =>
                    intro x w11 hb11 hR11
                    have xl := hR11 15 (by decide)
                    simp only [List.getD_cons_zero, List.getD_cons_succ] at xl
                    have hw11 := hw10.trans (hb11.mono hw10.size)
                    clear hR11 hb11
                    simp only [List.drop_succ_cons, List.drop_zero]
                    generalize List.toArray _ = L0
                    simp only [List.take_succ_cons, List.take_zero, List.map_cons, List.map_nil, fill, Act.put, List.setIfInBounds_toArray, List.set_cons_succ, List.set_cons_zero, xl]
                    clear xl
                    go_wp2_with fail
                    go_ret
                    exact ⟨rfl, hw11⟩
            · have hmo : m < 1 ∨ (l.length : Int) < m := by omega
              have HMO := Lib.hid hmo
              clear hm hmo
              go_wp2_with (first
                | (go_at_call 36; refine (prove_none _ l m w4 HS4.out HMO.out).mono ?_; rintro e w5 ⟨rfl, h5⟩; rw [h5]; clear h5 w5)
                | fail)
              go_ret
              exact ⟨rfl, hw4⟩
      · have hio : i < 0 ∨ (l.length : Int) ≤ i := by omega
        have HIO := Lib.hid hio
        clear hi hio
        go_wp2_with (first
          | (go_at_call 34; refine (path_none _ l i w1 HS1.out HIO.out).mono ?_; rintro e w2 ⟨rfl, h2⟩; rw [h2]; clear h2 w2)
          | fail)
        by_cases hm : 1 ≤ m ∧ m ≤ l.length
        · obtain ⟨j, rfl⟩ : ∃ j : Nat, m = j := ⟨m.toNat, by omega⟩
          obtain ⟨x1, hx1⟩ : ∃ x1, l[0]? = some x1 := ⟨_, List.getElem?_eq_getElem (by have := HPOS.out; omega)⟩
          obtain ⟨q, hq⟩ : ∃ q, q = subN ndH e0H l j true := ⟨_, rfl⟩
          have hj1 : 1 ≤ j := by omega
          have hjn : j ≤ l.length := by omega
          have hql : q.length ≤ 41 := by rw [hq]; exact sub_few l j true hj1 hjn HLE.out
          have e1 : bothR x1 j l.length (q ++ [x1]) = none := bothR_longer l j x1 _ hj1 hjn (by rw [hq]; simp)
          have e2 : q.length ≠ 0 → bothR x1 j l.length (q.take (q.length - 1)) = none := fun h => bothR_longer l j x1 _ hj1 hjn (by rw [← hq, List.length_take]; omega)
          have e11 : ((bothR x1 j l.length (q ++ [x1])).getD (z0H, z0H)).1 = z0H := by rw [e1]; rfl
          have e12 : ((bothR x1 j l.length (q ++ [x1])).getD (z0H, z0H)).2 = z0H := by rw [e1]; rfl
          have e13 : (bothR x1 j l.length (q ++ [x1])).isSome = false := by rw [e1]; rfl
          have hix0 : (0 : Int) < l.length := by have := HPOS.out; omega
          have HQ := Lib.hid hq
          have HJ1 := Lib.hid hj1
          have HJN := Lib.hid hjn
          have HQL := Lib.hid hql
          have E2 := Lib.hid e2
          have E11 := Lib.hid e11
          have E12 := Lib.hid e12
          have E13 := Lib.hid e13
          have HX1 := Lib.hid hx1
          clear hq hj1 hjn hql e1 e2 e11 e12 e13 hx1 hm
          go_wp2_with (first
            | (go_at_call 36; refine (prove_any _ l j w1 HLE.out HS1.out HG1.out HJ1.out HJN.out).mono ?_; rintro e w5 ⟨⟨v5, rfl, ho5⟩, hb5⟩; rw [← HQ.out] at ho5; have hv5 := ho5.hs; obtain ⟨qa, qc, rfl, _⟩ := hv5.form; have hw5 := hw1.trans (hb5.mono hw1.size); have HS5 := Lib.hid (HS1.out.below hb5); have HG5 := Lib.hid (HG1.out.below hb5); have HV5 := Lib.hid hv5; clear ho5 hv5 hb5)
            | fail)
          obtain ⟨sq, hcut, hcs, hsn⟩ := hs_cut HV5.out
          obtain ⟨lb', lo', e9, _, hr, hlb⟩ := hs_block HS5.out (by have := HPOS.out; omega)
          cases e9
          have he := Hs.elem hr HX1.out
          rw [Nat.zero_mul, Nat.add_zero] at he
          have HE := Lib.hid he
          have HCUT := Lib.hid hcs
          have HSN := Lib.hid hsn
          clear hr hlb he hcs hsn
          refine wp_region_monoF 26 (w5.heap.size) [22, 23] [(fun v _ => v = .int .i64 j), (fun v _ => v = .slice (some ⟨lb, lo, none⟩) l.length ca), (fun v _ => v = .int .i64 l.length), (fun v _ => v = .slice (some ⟨lb, lo, none⟩) l.length ca), (fun v _ => v = .pointer (some ⟨lb, lo, none⟩)), (fun v _ => v = .agg (bytesV x1.b).toArray), (fun v _ => v = .slice qa q.length qc), (fun v _ => v = .slice qa q.length qc), (fun v _ => v = .int .i64 q.length), (fun v _ => v = .slice qa q.length qc), (fun v _ => v = .int .i64 q.length), (fun v _ => v = .slice sq q.length q.length), (fun v _ => v = .slice (some ⟨lb, lo, none⟩) l.length ca), (fun v _ => v = .pointer (some ⟨lb, lo, none⟩)), (fun v _ => v = .agg (bytesV x1.b).toArray), (fun v w => Hs w v ([x1])), (fun v w => Hs w v (q ++ [x1])), (fun v _ => v = .tuple #[.agg (bytesV z0H.b).toArray, .agg (bytesV z0H.b).toArray, .bool false]), (fun v _ => v = .tuple #[.agg (bytesV z0H.b).toArray, .agg (bytesV z0H.b).toArray, .bool false]), (fun v _ => v = .agg (bytesV z0H.b).toArray), (fun v _ => v = .agg (bytesV z0H.b).toArray), (fun v _ => v = .bool false), RowAt z32 24 w5.heap.size, RowAt z32 24 w5.heap.size, (fun _ _ => True), (fun _ _ => True)] (by kernel_rfl) (by kernel_rfl) (by decide) (Nat.le_refl _) ?mkept _ rfl ?mops ?mfin
          case mkept =>
            repeat (refine List.forall_mem_cons.2 ⟨by first | exact fun _ _ _ _ h => h | exact fun _ _ _ hb h => Parts.below h hb | exact fun _ _ _ hb h => IsSl.below h hb | exact fun _ _ _ hb h => RowAt.below h hb | exact fun _ _ _ hb ⟨vs, h⟩ => ⟨vs, Parts.below h hb⟩ | exact fun _ _ _ hb h => ownsRow_below h hb (ownsRow_block h) | exact fun _ _ _ hb ⟨g, e, h⟩ => ⟨g, e, ownsRow_below h hb (ownsRow_block h)⟩, ?_⟩)
            exact fun _ h => by cases h
          case mops =>
            simp only [List.take_succ_cons, List.take_zero, monoAllF, List.getD_cons_zero, List.getD_cons_succ]
            iterate 24
             (refine ⟨fun x wr hb hd Qg hK => ?_, ?_⟩
              · as_aux_lemma =>
                simp only [fill, Act.put, List.setIfInBounds_toArray, List.set_cons_succ, List.set_cons_zero, needs, Region.binds, List.filter_cons, List.filter_nil, List.map_cons, List.map_nil, if_true, List.mem_cons, List.not_mem_nil, or_false, forall_eq_or_imp, forall_eq, List.getD_cons_zero, List.getD_cons_succ, false_implies, implies_true] at hd hK ⊢
                (try simp only [hd] at hK ⊢)
                first
                | ((refine wpList_load_midIf rfl 24 (.tmp 82) rfl lb lo rfl (bytesV x1.b) _ (range_below HE.out hb) Tryd.underlying24 rfl (hv_info x1) ?_; exact hK _ _ rfl (by first | exact trivial | exact fun h => absurd h (by decide) | exact fun _ => new_alloc _ _) (Below.refl _ _)))
                | ((refine wpList_load_midIf rfl 24 (.tmp 91) rfl lb lo rfl (bytesV x1.b) _ (range_below HE.out hb) Tryd.underlying24 rfl (hv_info x1) ?_; exact hK _ _ rfl (by first | exact trivial | exact fun h => absurd h (by decide) | exact fun _ => new_alloc _ _) (Below.refl _ _)))
                | (refine wpList_hashes rfl [x1] 1 _ rfl rfl (by decide) (by decide) (by simp only [List.map_toArray, List.map_cons, List.map_nil]; rfl) ?_; exact hK _ _ (hs_new wr [x1] _ rfl rfl) (by first | exact trivial | exact fun h => absurd h (by decide) | exact fun _ => new_alloc _ _) ((Below.refl _ _).alloc (Nat.le_refl _) _))
                | (refine wpList_app_full rfl (.tmp 89) (.tmp 93) rfl sq q [x1] (x 15) (by first | rfl | exact hd.1) (HCUT.out.below hb) HSN.out rfl (by first | exact hd.2 | exact hd.2.1 | exact hd) (by simp) (by have := HQL.out; simp; omega) ?_; intro v9 w9 hv9 hb9; exact hK _ _ hv9 (by first | exact trivial | exact fun h => absurd h (by decide) | exact fun _ => new_alloc _ _) hb9)
                | (show wpList _ _ _ [⟨some 95, .call _, _, _, _, _⟩] _ _; go_wp2_with (go_at_call 40; refine (both_any wr x1 j l.length (x 16) (q ++ [x1]) (by first | exact hd | exact hd.1 | exact hd.2 | simp only [hd]) (by have := HQL.out; simp; omega) (HG5.out.below hb)).mono ?_; rintro e w5 ⟨rfl, hb5⟩); exact hK _ _ (by rw [E11.out, E12.out, E13.out]; rfl) (by first | exact trivial | exact fun h => absurd h (by decide) | exact fun _ => new_alloc _ _) hb5)
                | (show wpList _ _ _ [⟨some 13, .alloc _, _, _, _, _⟩] _ _; go_wp2_with fail; exact hK _ _ ⟨_, rfl, hb.size, Blk.newL wr z32 24⟩ (by first | exact trivial | exact fun h => absurd h (by decide) | exact fun _ => new_alloc _ _) ((Below.refl _ _).alloc (Nat.le_refl _) _))
                | (show wpList _ _ _ [⟨some 14, .alloc _, _, _, _, _⟩] _ _; go_wp2_with fail; exact hK _ _ ⟨_, rfl, hb.size, Blk.newL wr z32 24⟩ (by first | exact trivial | exact fun h => absurd h (by decide) | exact fun _ => new_alloc _ _) ((Below.refl _ _).alloc (Nat.le_refl _) _))
                | (go_wp2_with fail; exact hK _ _ rfl (by first | exact trivial | exact fun h => absurd h (by decide) | exact fun _ => new_alloc _ _) (Below.refl _ _)))
            (refine ⟨fun x wr hb hd Qg hK => ?_, ?_⟩
             · have h1 : RowAt z32 24 (w5.heap.size) (x 22) wr := hd 22 (by decide +kernel)
               have h0 : x 19 = .agg (bytesV z0H.b).toArray := hd 19 (by decide +kernel)
               obtain ⟨g1, e1, hg1, hB1⟩ := h1
               simp only [List.map_cons, List.map_nil, fill, Act.put, List.setIfInBounds_toArray, List.set_cons_succ, List.set_cons_zero] at hK ⊢
               refine wpList_store_row rfl 24 (.tmp 13) (.tmp 96) rfl g1 (bytesV z0H.b).toArray (by exact e1) (by exact h0) 24 z32.toArray (by exact hB1) (by exact hv_row _) (by exact z32_old _) (by exact hv_one _) ?_
               exact hK undef _ trivial (fun h => absurd h (by decide)) (below_same hB1))
            (refine ⟨fun x wr hb hd Qg hK => ?_, ?_⟩
             · have h1 : RowAt z32 24 (w5.heap.size) (x 23) wr := hd 23 (by decide +kernel)
               have h0 : x 20 = .agg (bytesV z0H.b).toArray := hd 20 (by decide +kernel)
               obtain ⟨g1, e1, hg1, hB1⟩ := h1
               simp only [List.map_cons, List.map_nil, fill, Act.put, List.setIfInBounds_toArray, List.set_cons_succ, List.set_cons_zero] at hK ⊢
               refine wpList_store_row rfl 24 (.tmp 14) (.tmp 97) rfl g1 (bytesV z0H.b).toArray (by exact e1) (by exact h0) 24 z32.toArray (by exact hB1) (by exact hv_row _) (by exact z32_old _) (by exact hv_one _) ?_
               exact hK undef _ trivial (fun h => absurd h (by decide)) (below_same hB1))
            trivial
          case mfin =>
            intro z u9 hb9 hR9 hfr
            have z22 := hR9 22 (by decide)
            have z23 := hR9 23 (by decide)
            have z21 := hR9 21 (by decide)
            simp only [List.getD_cons_zero, List.getD_cons_succ] at z21 z22 z23
            obtain ⟨g1, z22, _, _⟩ := z22
            obtain ⟨g2, z23, _, _⟩ := z23
            have hw10 := hw5.trans (hb9.mono hw5.size)
            have HS10 := Lib.hid (HS5.out.below hb9)
            have HG10 := Lib.hid (HG5.out.below hb9)
            have HV10 := Lib.hid (HV5.out.below hb9)
            have HE10 := Lib.hid (range_below HE.out hb9)
            have hql41 := HQL.out
            clear hR9 hb9 hfr hcut
            simp only [List.drop_succ_cons, List.drop_zero]
            generalize List.toArray _ = L0
            simp only [List.take_succ_cons, List.take_zero, List.map_cons, List.map_nil, fill, Act.put, List.setIfInBounds_toArray, List.set_cons_succ, List.set_cons_zero, z21, z22, z23]
            clear z21 z22 z23
            by_cases hq0 : q.length = 0
            · have g0 : ((q.length : Int) == 0) = true := by rw [beq_iff_eq]; omega
              clear hq0
              go_wp2_with fail
              go_ret
              exact ⟨rfl, hw10⟩
            · have g0 : ((q.length : Int) == 0) = false := by rw [beq_eq_false_iff_ne]; omega
              have e2 := E2.out hq0
              obtain ⟨qt, hqt⟩ : ∃ qt, qt = q.take (q.length - 1) := ⟨_, rfl⟩
              rw [← hqt] at e2
              have e21 : ((bothR x1 j l.length qt).getD (z0H, z0H)).1 = z0H := by rw [e2]; rfl
              have e22 : ((bothR x1 j l.length qt).getD (z0H, z0H)).2 = z0H := by rw [e2]; rfl
              have e23 : (bothR x1 j l.length qt).isSome = false := by rw [e2]; rfl
              have E21 := Lib.hid e21
              have E22 := Lib.hid e22
              have E23 := Lib.hid e23
              obtain ⟨ta, tc, htl, hts⟩ := hs_head HV10.out (q.length - 1) (by omega)
              have hc1 : ((q.length - 1 : Nat) : Int) = (q.length : Int) - 1 := by omega
              rw [hc1] at htl
              rw [← hqt] at hts
              have HTS := Lib.hid hts
              have HTL := Lib.hid (show qt.length ≤ 4096 by have := HQL.out; rw [hqt, List.length_take]; omega)
              clear hq0 e2 e21 e22 e23 hts hc1 hqt
              go_wp2_with fail
              refine wp_region_mono 16 (u9.heap.size) [(fun v _ => v = .int .i64 j), (fun v _ => v = .slice (some ⟨lb, lo, none⟩) l.length ca), (fun v _ => v = .int .i64 l.length), (fun v _ => v = .slice (some ⟨lb, lo, none⟩) l.length ca), (fun v _ => v = .pointer (some ⟨lb, lo, none⟩)), (fun v _ => v = .agg (bytesV x1.b).toArray), (fun v _ => v = .slice qa q.length qc), (fun v _ => v = .slice qa q.length qc), (fun v _ => v = .int .i64 q.length), (fun v _ => v = .int .i64 ((q.length : Int) - 1)), (fun v _ => v = .slice ta (q.length - 1) tc), (fun v _ => v = .tuple #[.agg (bytesV z0H.b).toArray, .agg (bytesV z0H.b).toArray, .bool false]), (fun v _ => v = .tuple #[.agg (bytesV z0H.b).toArray, .agg (bytesV z0H.b).toArray, .bool false]), (fun v _ => v = .agg (bytesV z0H.b).toArray), (fun v _ => v = .agg (bytesV z0H.b).toArray), (fun v _ => v = .bool false)] (by kernel_rfl) (by kernel_rfl) (Nat.le_refl _) ?mkept _ rfl ?mops ?mfin
              case mkept =>
                repeat (refine List.forall_mem_cons.2 ⟨by first | exact fun _ _ _ _ h => h | exact fun _ _ _ hb h => Parts.below h hb | exact fun _ _ _ hb h => IsSl.below h hb, ?_⟩)
                exact fun _ h => by cases h
              case mops =>
                simp only [List.take_succ_cons, List.take_zero, monoAll, List.getD_cons_zero, List.getD_cons_succ]
                iterate 16
                
                 (refine ⟨fun x wr hb hd Qg hK => ?_, ?_⟩
                  · as_aux_lemma =>
                    simp only [fill, Act.put, List.setIfInBounds_toArray, List.set_cons_succ, List.set_cons_zero, needs, Region.binds, List.filter_cons, List.filter_nil, List.map_cons, List.map_nil, if_true, List.mem_cons, List.not_mem_nil, or_false, forall_eq_or_imp, forall_eq, List.getD_cons_zero, List.getD_cons_succ, false_implies, implies_true] at hd hK ⊢
                    (try simp only [hd] at hK ⊢)
                    first
                    | ((refine wpList_load_midIf rfl 24 (.tmp 108) rfl lb lo rfl (bytesV x1.b) _ (range_below HE10.out hb) Tryd.underlying24 rfl (hv_info x1) ?_; exact hK _ _ rfl (Below.refl _ _)))
                    | (show wpList _ _ _ [⟨some 115, .call _, _, _, _, _⟩] _ _; go_wp2_with (go_at_call 40; refine (both_any wr x1 j l.length _ qt (HTS.out.below hb) HTL.out (HG10.out.below hb)).mono ?_; rintro e w5 ⟨rfl, hb5⟩); exact hK _ _ (by rw [E21.out, E22.out, E23.out]; rfl) hb5)
                    | (go_wp2_with fail; exact hK _ _ rfl (Below.refl _ _)))
                trivial
              case mfin =>
                intro x w11 hb11 hR11
                have xl := hR11 15 (by decide)
                simp only [List.getD_cons_zero, List.getD_cons_succ] at xl
                have hw11 := hw10.trans (hb11.mono hw10.size)
                clear hR11 hb11
                simp only [List.drop_succ_cons, List.drop_zero]
                generalize List.toArray _ = L0
                simp only [List.take_succ_cons, List.take_zero, List.map_cons, List.map_nil, fill, Act.put, List.setIfInBounds_toArray, List.set_cons_succ, List.set_cons_zero, xl]
                clear xl
                go_wp2_with fail
                go_ret
                exact ⟨rfl, hw11⟩
        · have hmo : m < 1 ∨ (l.length : Int) < m := by omega
          have HMO := Lib.hid hmo
          clear hm hmo
          go_wp2_with (first
            | (go_at_call 36; refine (prove_none _ l m w1 HS1.out HMO.out).mono ?_; rintro e w5 ⟨rfl, h5⟩; rw [h5]; clear h5 w5)
            | fail)
          go_ret
          exact ⟨rfl, hw1⟩
    · have hl00 : l.length = 0 := by omega
      have HIO := Lib.hid (show i < 0 ∨ (l.length : Int) ≤ i by omega)
      have HMO := Lib.hid (show m < 1 ∨ (l.length : Int) < m by omega)
      clear hl0 hl00
      go_enter Tryd.func12, Tryd.ntmps12
      go_wp2_with (first
        | (go_at_call 33; refine (alive6_any w HG.out).mono ?_; rintro e w1 ⟨rfl, hw1⟩; have HS1 := Lib.hid (HS.out.below hw1); have HG1 := Lib.hid (HG.out.below hw1))
        | (go_at_call 34; refine (path_none _ l i w1 HS1.out HIO.out).mono ?_; rintro e w2 ⟨rfl, h2⟩; rw [h2]; clear h2 w2)
        | (go_at_call 36; refine (prove_none _ l m w1 HS1.out HMO.out).mono ?_; rintro e w5 ⟨rfl, h5⟩; rw [h5]; clear h5 w5)
        | fail)
      go_ret
      exact ⟨rfl, hw1⟩
  · have h1 : (70 : Int) < l.length := by omega
    go_enter Tryd.func12, Tryd.ntmps12
    go_wp2_with (first
      | (go_at_call 33; refine (alive6_any w HG.out).mono ?_; rintro e w1 ⟨rfl, hw1⟩)
      | fail)
    go_ret
    exact ⟨rfl, hw1⟩
end Go.Proofs.YtkfplliipogagaaDoor
