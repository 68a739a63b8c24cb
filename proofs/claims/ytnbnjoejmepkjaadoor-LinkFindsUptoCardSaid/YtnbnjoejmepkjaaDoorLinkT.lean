/- The walk of link.nodes' closure. The walk of link.nodes. Conditions: what each part says. -/
import Derived.Test.YtnbnjoejmepkjaaDoorLinkS
import Derived.Test.YtnbnjoejmepkjaaDoorGroundK
/-! LinkI: The walk of link.nodes' closure. Conditions: what it has captured reads as told; the list and the proof can be read, the proof as long as the way down; the package's tables read as they are laid. -/
namespace Go.Proofs.YtnbnjoejmepkjaaDoor
open Go.RowKit

set_option maxRecDepth 100000 in
set_option maxHeartbeats 8000000 in
theorem ldown_any (ob ub : Nat) (x : H) : ∀ (n : Nat) (b : List (List UInt8)) (ys : List Value) (vb vl : Value) (m : Nat) (wh : Bool) (P : List H) (w : World), b.length = n → n ≤ 4000 → 1 ≤ m → m ≤ n → Parts w vb b ys → (∀ l ∈ b, l.length ≤ 35184372088832) → Hs w vl P → P.length ≤ 4096 → P.length = needsB n m wh → Dn w ob ub x → Glob w →
    Calls Tryd.prog 36 #[vb, .int .i64 m, .bool wh, vl, .pointer (some ⟨ob, 0, none⟩), .pointer (some ⟨ub, 0, none⟩)] w fun e w' => DnPost x b m wh P e w' ∧ Below w.heap.size w w' := by
  intro n
  induction n using Nat.strongRecOn with
  | _ n ih =>
    intro b ys vb vl m wh P w hn hle h1 hm hb hwb hs hPm hP hD hg
    subst hn
    by_cases he : m = b.length
    · subst he
      rw [needsB_end b.length b.length wh (.inr rfl)] at hP
      exact ldown_end ob ub x vb vl b ys wh P w hb hs hP hD
    have h2 : ¬ (b.length < 2 ∨ m = b.length) := by omega
    have hne : ((m : Int) == (b.length : Int)) = false := by rw [beq_eq_false_iff_ne]; omega
    obtain ⟨k, hk⟩ : ∃ k, k = splitN b.length := ⟨_, rfl⟩
    have hlt := splitN_lt b.length (by omega)
    have hpos := splitN_pos b.length (by omega)
    rw [← hk] at hlt hpos
    obtain ⟨j, hj, hjl, hjr⟩ : ∃ j, P.length = j + 1 ∧ (m ≤ k → j = needsB k m wh) ∧ (¬ m ≤ k → j = needsB (b.length - k) (m - k) false) := by
      by_cases hik : m ≤ splitN b.length
      · rw [needsB_left _ m wh h2 hik] at hP
        exact ⟨_, hP, fun _ => by rw [hk], fun h => absurd (by rw [hk]; exact hik) h⟩
      · rw [needsB_right _ m wh h2 hik] at hP
        exact ⟨_, hP, fun h => absurd (by rw [← hk]; exact h) hik, fun _ => by rw [hk]⟩
    obtain ⟨o, ho⟩ : ∃ o, P[j]? = some o := ⟨_, List.getElem?_eq_getElem (by omega)⟩
    have hrev := rev_last hj ho
    obtain ⟨xb, cb, rfl, _⟩ := hb.sl.form
    obtain ⟨lb, lo, cl, rfl, _, hr, _⟩ := Hs.pos hs (by omega)
    have hE : w.rangeAt lb (lo + j * 32) (bytesV o.b) := Hs.elem hr ho
    obtain ⟨ar, hs3, hR⟩ := hs_cut hs j (by omega)
    obtain ⟨a1, d1, hs1, hp1⟩ := parts_head hb k (by omega)
    obtain ⟨a2, d2, hs2, hp2⟩ := parts_tail hb k (by omega)
    obtain ⟨L, hL⟩ : ∃ L, L = rootB (b.take k) := ⟨_, rfl⟩
    obtain ⟨R, hR'⟩ : ∃ R, R = rootB (b.drop k) := ⟨_, rfl⟩
    obtain ⟨T, hT⟩ : ∃ T, T = textB b := ⟨_, rfl⟩
    have htt : T = 1 :: (L.b ++ R.b) := by rw [hT, textB_two b (by omega), ← hk, hL, hR']
    have hjm : j < P.length := by omega
    have hjb : j ≤ 4096 := by omega
    have hji : (P.length : Int) - 1 = (j : Int) := by omega
    have hix : (0 : Int) ≤ j ∧ (j : Int) < P.length := ⟨by omega, by omega⟩
    have hal : Below w.heap.size w (w.alloc (.cells z32.toArray 32)) := (Below.refl _ _).alloc (Nat.le_refl _) _
    have hX1 : Blk (w.alloc (.cells z32.toArray 32)) w.heap.size z32 32 := Blk.newL w _ _
    obtain ⟨w1, hw1⟩ : ∃ w1, w1 = w.alloc (.cells z32.toArray 32) := ⟨_, rfl⟩
    rw [← hw1] at hal hX1
    have HK := Lib.hid hk
    have HL := Lib.hid hL
    have HR' := Lib.hid hR'
    have HX1 := Lib.hid hX1
    have HH1 := Lib.hid (hp1.below hal)
    have HT1 := Lib.hid (hp2.below hal)
    have HE1 := Lib.hid (range_below hE hal)
    have HR1 := Lib.hid (hR.below hal)
    have HD1 := Lib.hid (hD.below hal)
    have HG1 := Lib.hid (hg.below hal)
    have HTT := Lib.hid htt
    have HTB := Lib.hid hT
    have HW1 := Lib.hid (fun l (h : l ∈ b.take k) => hwb l (List.mem_of_mem_take h))
    have HW2 := Lib.hid (fun l (h : l ∈ b.drop k) => hwb l (List.mem_of_mem_drop h))
    have HJL := Lib.hid hjl
    have HJR := Lib.hid hjr
    have HPT := Lib.hid (show (P.take j).length = j by rw [List.length_take]; omega)
    have HREV := Lib.hid hrev
    have HH2 := Lib.hid h2
    clear hb hwb hs hP hD hg hk hj hjl hjr ho hrev hr hE hR hp1 hp2 hL hR' hT htt hX1 h2
    go_enter Tryd.func36, Tryd.ntmps36
    go_wp2_with (first
      | (go_at_call 37; refine (split_any b.length _ (by omega)).mono ?_; rintro e w5 ⟨rfl, h5⟩; rw [h5, ← HK.out]; clear h5 w5)
      | fail)
    refine wp_world hw1 ?_
    refine wp_region_rows 10 [(fun v => v = .slice (some ⟨lb, lo, none⟩) P.length cl), (fun v => v = .int .i64 j), (fun v => v = .pointer (some ⟨lb, lo + j * 32, none⟩)), (fun v => v = .agg (bytesV o.b).toArray), (fun v => v = .slice (some ⟨lb, lo, none⟩) P.length cl), (fun v => v = .int .i64 j), (fun v => v = .int .i64 j), (fun v => v = .slice ar j j), (fun _ => True), (fun _ => True)] [⟨8, 9, z32, bytesV o.b, 32⟩] (by kernel_rfl) (by kernel_rfl) (by rfl) (by rfl) _ rfl ?rops ?rfin
    case rops =>
      simp only [List.take_succ_cons, List.take_zero, rowsAll]
      iterate 10
      
       (refine ⟨fun L x wr hL0 hL hd hJ Qg hK => ?_, ?_⟩
        · simp only [fill, Act.put, List.setIfInBounds_toArray, List.set_cons_succ, List.set_cons_zero, needs, Region.binds, List.filter_cons, List.filter_nil, List.map_cons, List.map_nil, if_true, List.mem_cons, List.not_mem_nil, or_false, forall_eq_or_imp, forall_eq, List.getD_cons_zero, List.getD_cons_succ, false_implies, implies_true] at hd hL hK ⊢
          (try simp only [hd] at hK ⊢)
          first
          | (show wpList _ _ _ [⟨some 39, .load _ _, _, _, _, _⟩] _ _; refine wpList_load_mid rfl 32 (.tmp 38) rfl lb (lo + j * 32) rfl (bytesV o.b) _ (range_below HE1.out hJ.old) Tryd.underlying32 rfl (by exact hv_info _) ?_; exact hK _ _ (hJ.const rfl rfl (Below.refl _ _)) trivial)
          | (show wpList _ _ _ [⟨some 14, .alloc _, _, _, _, _⟩] _ _; go_wp2_with fail; exact hK _ _ (hJ.alloc (List.mem_cons_self) rfl rfl hL0 rfl rfl) trivial)
          | (show wpList _ _ _ [⟨none, .store _ (.tmp 14) _, _, _, _, _⟩] _ _; obtain ⟨p, e1, e2, e3⟩ := hJ.fresh (List.mem_cons_self) (by simp only [hL]) hL0; refine wpList_store_row rfl 32 (.tmp 14) (.tmp 39) rfl p (bytesV o.b).toArray (by exact e1) (by first | rfl | simp only [hd]) 32 (z32).toArray (by exact e3) (by exact hv_row _) (by exact z32_old _) (by exact hv_one _) ?_; exact hK undef _ (hJ.store (List.mem_cons_self) rfl rfl (by simp only [hL]) e1 rfl rfl) trivial)
          | (go_wp2_with fail; exact hK _ _ (hJ.const rfl rfl (Below.refl _ _)) trivial))
      trivial
    case rfin =>
      intro y w3 hb3 hRy hr3 _
      obtain ⟨g4, e4, hg4, hO2⟩ := hr3 _ List.mem_cons_self
      have y7 : y 7 = .slice ar j j := hRy 7 (by decide)
      have y8 : y 8 = .pointer (some ⟨g4, 0, none⟩) := e4
      have HO2 := Lib.hid (show Blk w3 g4 (bytesV o.b) 32 from hO2)
      have HX2 := Lib.hid (HX1.out.below hb3 HX1.out.lt)
      have HH2b := Lib.hid (HH1.out.below hb3)
      have HT2 := Lib.hid (HT1.out.below hb3)
      have HR2 := Lib.hid (HR1.out.below hb3)
      have HD2 := Lib.hid (HD1.out.below hb3)
      have HG2 := Lib.hid (HG1.out.below hb3)
      have hw3 := hal.trans (hb3.mono hal.size)
      clear hRy hr3 e4 hO2 HE1 HX1 HH1 HT1 HR1 HD1 HG1 hb3
      simp only [List.drop_succ_cons, List.drop_zero]
      generalize List.toArray _ = L0
      simp only [List.take_succ_cons, List.take_zero, List.map_cons, List.map_nil, fill, Act.put, List.setIfInBounds_toArray, List.set_cons_succ, List.set_cons_zero, y7, y8]
      clear y7 y8
      go_wp2_with fail
      refine wp_region_mono 9 (w3.heap.size) [(fun v _ => v = .slice xb b.length cb), (fun v _ => v = .int .i64 k), (fun v _ => v = .slice a1 k d1), (fun v _ => v = .agg (bytesV L.b).toArray), (fun v _ => v = .slice xb b.length cb), (fun v _ => v = .int .i64 k), (fun v _ => v = .slice a2 (b.length - k) d2), (fun v _ => v = .agg (bytesV R.b).toArray), (fun v w => Bytes w v (1 :: (L.b ++ R.b)))] (by kernel_rfl) (by kernel_rfl) (Nat.le_refl _) ?mkept _ rfl ?mops ?mfin
      case mkept =>
        repeat (refine List.forall_mem_cons.2 ⟨by first | exact fun _ _ _ _ h => h | exact fun _ _ _ hb h => Parts.below h hb | exact fun _ _ _ hb h => IsSl.below h hb, ?_⟩)
        exact fun _ h => by cases h
      case mops =>
        simp only [List.take_succ_cons, List.take_zero, monoAll, List.getD_cons_zero, List.getD_cons_succ]
        iterate 9
        
         (refine ⟨fun x wr hb hd Qg hK => ?_, ?_⟩
          · as_aux_lemma =>
            simp only [fill, Act.put, List.setIfInBounds_toArray, List.set_cons_succ, List.set_cons_zero, needs, Region.binds, List.filter_cons, List.filter_nil, List.map_cons, List.map_nil, if_true, List.mem_cons, List.not_mem_nil, or_false, forall_eq_or_imp, forall_eq, List.getD_cons_zero, List.getD_cons_succ, false_implies, implies_true] at hd hK ⊢
            (try simp only [hd] at hK ⊢)
            first
            | (show wpList _ _ _ [⟨some 47, .call _, _, _, _, _⟩] _ _; go_wp2_with (go_at_call 21; refine (roots_any _ (b.take k) _ wr (HH2b.out.below hb) (by rw [List.length_take]; omega) HW1.out (HG2.out.below hb)).mono ?_; rintro e w5 ⟨rfl, hb5⟩); exact hK _ _ (by rw [← HL.out]; rfl) hb5)
            | (show wpList _ _ _ [⟨some 51, .call _, _, _, _, _⟩] _ _; go_wp2_with (go_at_call 21; refine (roots_any _ (b.drop k) _ wr (HT2.out.below hb) (by rw [List.length_drop]; omega) HW2.out (HG2.out.below hb)).mono ?_; rintro e w5 ⟨rfl, hb5⟩); exact hK _ _ (by rw [← HR'.out]; rfl) hb5)
            | (show wpList _ _ _ [⟨some 52, .call _, _, _, _, _⟩] _ _; go_wp2_with (go_at_call 38; refine (lpair_any L R wr).mono ?_; rintro e w5 ⟨⟨v5, rfl, hv5⟩, hb5⟩); exact hK _ _ hv5 hb5)
            | (go_wp2_with fail; exact hK _ _ rfl (Below.refl _ _)))
        trivial
      case mfin =>
        intro z w7 hb7 hR7
        have x8 := hR7 8 (by decide)
        simp only [List.getD_cons_zero, List.getD_cons_succ] at x8
        obtain ⟨c1, c2, e8, _⟩ := x8.form
        rw [show (1 :: (L.b ++ R.b)).length = 65 by simp [L.len, R.len]] at e8
        rw [e8] at x8
        rw [← HTT.out] at x8
        have HSo3 := Lib.hid (show Bytes w7 (.slice c1 65 c2) T from x8)
        have HO3 := Lib.hid (HO2.out.below hb7 HO2.out.lt)
        have HX3 := Lib.hid (HX2.out.below hb7 HX2.out.lt)
        have HH3 := Lib.hid (HH2b.out.below hb7)
        have HT3 := Lib.hid (HT2.out.below hb7)
        have HR3 := Lib.hid (HR2.out.below hb7)
        have HD3 := Lib.hid (HD2.out.below hb7)
        have HG3 := Lib.hid (HG2.out.below hb7)
        have hw7 := hw3.trans (hb7.mono hw3.size)
        clear hR7 hb7 x8 HO2 HX2 HH2b HT2 HR2 HD2 HG2
        simp only [List.drop_succ_cons, List.drop_zero]
        generalize List.toArray _ = L0
        simp only [List.take_succ_cons, List.take_zero, List.map_cons, List.map_nil, fill, Act.put, List.setIfInBounds_toArray, List.set_cons_succ, List.set_cons_zero, e8]
        clear e8
        by_cases hik : m ≤ k
        · have hlt' : (m : Int) ≤ k := by omega
          obtain ⟨S, hS⟩ : ∃ S, S = saidB x k m wh (P.take j).reverse := ⟨_, rfl⟩
          obtain ⟨Z, hZ⟩ : ∃ Z, Z = nodesB x (b.take k) m wh (P.take j).reverse := ⟨_, rfl⟩
          have HPL := Lib.hid ((HPT.out).trans (HJL.out hik))
          have HS := Lib.hid (show saidB x (b.take k).length m wh (P.take j).reverse = S by rw [hS, List.length_take, Nat.min_eq_left (by omega)])
          have HZ := Lib.hid hZ.symm
          have HZ1 := Lib.hid (show Ones Z by rw [hZ]; exact nodes_ones x _ _ m wh _ rfl)
          have HZN := Lib.hid (show Z.length ≤ 4000 by rw [hZ]; have := nodes_few x _ (b.take k) m wh (P.take j).reverse rfl; rw [List.length_take] at this; omega)
          have HSA := Lib.hid (show saidB x b.length m wh P.reverse = ndH S o by rw [HREV.out, said_left x o _ m wh _ HH2.out (by rw [← HK.out]; exact hik), ← HK.out, hS])
          have HNO := Lib.hid (show nodesB x b m wh P.reverse = (1 :: (S.b ++ o.b), T) :: Z by rw [HREV.out, nodes_left x o b m wh _ HH2.out (by rw [← HK.out]; exact hik), ← HK.out, hS, hZ, HTB.out])
          clear hS hZ
          go_wp2_with fail
          refine wp_region_rowsK 13 [(fun v _ => v = dnV ob ub), (fun v _ => v = .slice xb b.length cb), (fun v _ => v = .int .i64 k), (fun v _ => v = .slice a1 k d1), (fun v _ => v = .int .i64 m), (fun v _ => v = .bool wh), (fun v _ => v = .slice ar j j), (fun v w => ∃ v', v = .tuple #[.agg (bytesV S.b).toArray, v'] ∧ Prs w v' Z), (fun v w => ∃ v', v = .tuple #[.agg (bytesV S.b).toArray, v'] ∧ Prs w v' Z), (fun v _ => v = .agg (bytesV S.b).toArray), (fun v w => Prs w v Z), (fun _ _ => True), (fun _ _ => True)] [⟨11, 12, z32, bytesV S.b, 32⟩] (by kernel_rfl) (by kernel_rfl) ?rkept ?rrow (by rfl) (by rfl) _ rfl ?rops ?rfin
          case rkept =>
            repeat (refine List.forall_mem_cons.2 ⟨by first | exact fun _ _ _ _ h => h | exact fun _ _ _ hb ⟨v', e, h⟩ => ⟨v', e, Prs.below h hb⟩ | exact fun _ _ _ hb h => Prs.below h hb | exact fun _ _ _ hb h => Parts.below h hb | exact fun _ _ _ hb h => IsSl.below h hb | exact fun _ _ _ hb h => RowAt.below h hb | exact fun _ _ _ hb ⟨vs, h⟩ => ⟨vs, Parts.below h hb⟩ | exact fun _ _ _ hb h => ownsRow_below h hb (ownsRow_block h) | exact fun _ _ _ hb ⟨g, e, h⟩ => ⟨g, e, ownsRow_below h hb (ownsRow_block h)⟩, ?_⟩)
            exact fun _ h => by cases h
          case rrow =>
            repeat (refine List.forall_mem_cons.2 ⟨by first | exact fun _ _ _ _ _ _ h => h | exact fun r hr _ _ p hB ⟨v', e, h⟩ => ⟨v', e, h.but (But.row p _) (by rw [List.mem_singleton] at hr; subst hr; exact hB) HZ1.out⟩ | exact fun r hr _ _ p hB h => Prs.but h (But.row p _) (by rw [List.mem_singleton] at hr; subst hr; exact hB) HZ1.out, ?_⟩)
            exact fun _ h => by cases h
          case rops =>
            simp only [List.take_succ_cons, List.take_zero, rowsAllK]
            iterate 13
            
             (refine ⟨fun L x wr hL0 hL hd hJ Qg hK => ?_, ?_⟩
              · simp only [fill, Act.put, List.setIfInBounds_toArray, List.set_cons_succ, List.set_cons_zero, needs, Region.binds, List.filter_cons, List.filter_nil, List.map_cons, List.map_nil, if_true, List.mem_cons, List.not_mem_nil, or_false, forall_eq_or_imp, forall_eq, List.getD_cons_zero, List.getD_cons_succ, false_implies, implies_true] at hd hL hK ⊢
                (try simp only [hd] at hK ⊢)
                first
                | (show wpList _ _ _ [⟨some 57, .load _ _, _, _, _, _⟩] _ _; have c0 := (HD3.out.below hJ.old).up; go_wp2_with fail; exact hK _ _ (hJ.const rfl rfl (Below.refl _ _)) trivial)
                | (show wpList _ _ _ [⟨some 64, .call _, _, _, _, _⟩] _ _; simp only [dnV] at hK ⊢; have hb := hJ.old; go_wp2_with (go_at_call 36; refine (ih k hlt (b.take k) _ _ _ m wh (P.take j) wr (by rw [List.length_take]; omega) (by omega) h1 hik (HH3.out.below hb) HW1.out (HR3.out.below hb) (by rw [HPT.out]; omega) HPL.out (HD3.out.below hb) (HG3.out.below hb)).mono ?_; rintro e w5 ⟨⟨v5, rfl, hv5⟩, hb5⟩; rw [HS.out]; rw [HZ.out] at hv5); exact hK _ _ (hJ.const rfl ⟨v5, rfl, hv5⟩ hb5) trivial)
                | (show wpList _ _ _ [⟨some 56, .move _, _, _, _, _⟩] _ _; go_wp2_with fail; exact hK _ _ (hJ.const rfl (by first | exact hd | exact hd.1) (Below.refl _ _)) trivial)
                | (show wpList _ _ _ [⟨some 65, .extract _ _, _, _, _, _⟩] _ _; have hd' : ∃ v', x 8 = .tuple #[.agg (bytesV S.b).toArray, v'] ∧ Prs wr v' Z := (by first | exact hd | exact hd.1); obtain ⟨v', e1, h1⟩ := hd'; simp only [e1] at hK ⊢; go_wp2_with fail; exact hK _ _ (hJ.const rfl rfl (Below.refl _ _)) trivial)
                | (show wpList _ _ _ [⟨some 66, .extract _ _, _, _, _, _⟩] _ _; have hd' : ∃ v', x 8 = .tuple #[.agg (bytesV S.b).toArray, v'] ∧ Prs wr v' Z := (by first | exact hd | exact hd.1); obtain ⟨v', e1, h1⟩ := hd'; simp only [e1] at hK ⊢; go_wp2_with fail; exact hK _ _ (hJ.const rfl h1 (Below.refl _ _)) trivial)
                | (show wpList _ _ _ [⟨some 17, .alloc _, _, _, _, _⟩] _ _; go_wp2_with fail; exact hK _ _ (hJ.alloc (List.mem_cons_self) rfl rfl hL0 rfl rfl) trivial)
                | (show wpList _ _ _ [⟨none, .store _ (.tmp 17) _, _, _, _, _⟩] _ _; obtain ⟨p, e1, e2, e3⟩ := hJ.fresh (List.mem_cons_self) (by simp only [hL]) hL0; refine wpList_store_row rfl 32 (.tmp 17) (.tmp 65) rfl p (bytesV S.b).toArray (by exact e1) (by first | rfl | simp only [hd]) 32 (z32).toArray (by exact e3) (by exact hv_row _) (by exact z32_old _) (by exact hv_one _) ?_; exact hK undef _ (hJ.store (List.mem_cons_self) rfl rfl hL0 (by simp only [hL]) e1 rfl rfl) trivial)
                | (go_wp2_with fail; exact hK _ _ (hJ.const rfl rfl (Below.refl _ _)) trivial))
            trivial
          case rfin =>
            intro z3 w10 hb10 hR9 hr9 _
            have r10 := hR9 10 (by decide)
            simp only [List.getD_cons_zero, List.getD_cons_succ] at r10
            obtain ⟨g7, e7, hg7, hB7⟩ := hr9 _ List.mem_cons_self
            have r11 : z3 11 = .pointer (some ⟨g7, 0, none⟩) := e7
            obtain ⟨bl, hbl⟩ : ∃ v, v = z3 10 := ⟨_, rfl⟩
            rw [← hbl] at r10
            have hbl' := hbl.symm
            have HG7 := Lib.hid (show Blk w10 g7 (bytesV S.b) 32 from hB7)
            have HO7 := Lib.hid (HO3.out.below hb10 HO3.out.lt)
            have HSo7 := Lib.hid (HSo3.out.below hb10)
            have HX7 := Lib.hid (HX3.out.below hb10 HX3.out.lt)
            have HGL7 := Lib.hid (HG3.out.below hb10)
            have hw0 := hw7.trans (hb10.mono hw7.size)
            have HBL := Lib.hid r10
            clear hR9 hr9 hB7 e7 hb10 r10
            simp only [List.drop_succ_cons, List.drop_zero]
            generalize List.toArray _ = L0
            simp only [List.take_succ_cons, List.take_zero, List.map_cons, List.map_nil, fill, Act.put, List.setIfInBounds_toArray, List.set_cons_succ, List.set_cons_zero, hbl', r11]
            clear hbl' r11 hbl
            go_wp2_with fail
            have HLT := Lib.hid (show ((1 :: (S.b ++ o.b))).length = 65 by simp [S.len, o.len])
            refine wp_region_monoF 11 (w10.heap.size) [] [(fun v _ => v = .agg (bytesV S.b).toArray), (fun v _ => v = .agg (bytesV o.b).toArray), (fun v _ => v = .agg (bytesV (ndH S o).b).toArray), (fun v _ => v = .agg (bytesV S.b).toArray), (fun v _ => v = .agg (bytesV o.b).toArray), (fun v w => Bytes w v (1 :: (S.b ++ o.b))), (fun v _ => v = .slice c1 65 c2), (fun v w => ∃ y, v = .agg #[y, .slice c1 65 c2] ∧ Bytes w y (1 :: (S.b ++ o.b))), (fun v w => Prs w v [((1 :: (S.b ++ o.b)), T)] ∧ ∃ g, v = .slice (some ⟨g, 0, none⟩) 1 1), (fun v _ => v = bl), (fun v w => Prs w v (((1 :: (S.b ++ o.b)), T) :: Z))] (by kernel_rfl) (by kernel_rfl) (by decide) (Nat.le_refl _) ?mkept _ rfl ?mops ?mfin
            case mkept =>
              repeat (refine List.forall_mem_cons.2 ⟨by first | exact fun _ _ _ _ h => h | exact fun _ _ _ hb ⟨y, e, h⟩ => ⟨y, e, IsSl.below h hb⟩ | exact fun _ _ _ hb ⟨h, e⟩ => ⟨Prs.below h hb, e⟩ | exact fun _ _ _ hb h => Prs.below h hb | exact fun _ _ _ hb h => Parts.below h hb | exact fun _ _ _ hb h => IsSl.below h hb | exact fun _ _ _ hb h => RowAt.below h hb | exact fun _ _ _ hb ⟨vs, h⟩ => ⟨vs, Parts.below h hb⟩ | exact fun _ _ _ hb h => ownsRow_below h hb (ownsRow_block h) | exact fun _ _ _ hb ⟨g, e, h⟩ => ⟨g, e, ownsRow_below h hb (ownsRow_block h)⟩, ?_⟩)
              exact fun _ h => by cases h
            case mops =>
              simp only [List.take_succ_cons, List.take_zero, monoAllF, List.getD_cons_zero, List.getD_cons_succ]
              iterate 11
              
               (refine ⟨fun x wr hb hd Qg hK => ?_, ?_⟩
                · as_aux_lemma =>
                  simp only [fill, Act.put, List.setIfInBounds_toArray, List.set_cons_succ, List.set_cons_zero, needs, Region.binds, List.filter_cons, List.filter_nil, List.map_cons, List.map_nil, if_true, List.mem_cons, List.not_mem_nil, or_false, forall_eq_or_imp, forall_eq, List.getD_cons_zero, List.getD_cons_succ, false_implies, implies_true] at hd hK ⊢
                  (try simp only [hd] at hK ⊢)
                  first
                  | (show wpList _ _ _ [⟨some 69, .call _, _, _, _, _⟩] _ _; go_wp2_with (go_at_call 39; refine (node_any S o wr (HGL7.out.below hb)).mono ?_; rintro e w5 ⟨rfl, hb5⟩); exact hK _ _ rfl (by first | exact trivial | exact fun h => absurd h (by decide) | exact fun _ => new_alloc _ _) hb5)
                  | (show wpList _ _ _ [⟨some 72, .call _, _, _, _, _⟩] _ _; go_wp2_with (go_at_call 38; refine (lpair_any S o wr).mono ?_; rintro e w5 ⟨⟨v5, rfl, hv5⟩, hb5⟩); exact hK _ _ hv5 (by first | exact trivial | exact fun h => absurd h (by decide) | exact fun _ => new_alloc _ _) hb5)
                  | (have hBr := HG7.out.below hb (HG7.out.lt); refine wpList_load_rowIf rfl 32 (.tmp 17) rfl _ rfl 32 ((bytesV S.b)).toArray (0, 0) _ (by exact hBr) Tryd.underlying32 rfl (hv_row _) ?_; exact hK _ _ rfl (by first | exact trivial | exact fun h => absurd h (by decide) | exact fun _ => new_alloc _ _) (Below.refl _ _))
                  | (have hBr := HO7.out.below hb (HO7.out.lt); refine wpList_load_rowIf rfl 32 (.tmp 14) rfl _ rfl 32 ((bytesV o.b)).toArray (0, 0) _ (by exact hBr) Tryd.underlying32 rfl (hv_row _) ?_; exact hK _ _ rfl (by first | exact trivial | exact fun h => absurd h (by decide) | exact fun _ => new_alloc _ _) (Below.refl _ _))
                  | (show wpList _ _ _ [⟨some 74, .build _ _, _, _, _, _⟩] _ _; have hd' : Bytes wr (x 5) (1 :: (S.b ++ o.b)) := (by first | exact hd.1 | exact hd.2); obtain ⟨y1, y2, e1, _⟩ := hd'.form; rw [HLT.out] at e1; rw [e1] at hd'; simp only [e1] at hK ⊢; go_wp2_with fail; exact hK _ _ ⟨_, rfl, hd'⟩ (by first | exact trivial | exact fun h => absurd h (by decide) | exact fun _ => new_alloc _ _) (Below.refl _ _))
                  | (show wpList _ _ _ [⟨some 75, .buildSlice _ _ _, _, _, _, _⟩] _ _; have hd' : ∃ y, x 7 = .agg #[y, .slice c1 65 c2] ∧ Bytes wr y (1 :: (S.b ++ o.b)) := (by first | exact hd | exact hd.1); obtain ⟨y, e1, h1⟩ := hd'; obtain ⟨y1, y2, e2, _⟩ := h1.form; rw [HLT.out] at e2; subst e2; simp only [e1] at hK ⊢; go_wp2_with fail; exact hK _ _ ⟨prs_new wr _ _ _ _ h1 (HSo7.out.below hb) rfl, _, rfl⟩ (by first | exact trivial | exact fun h => absurd h (by decide) | exact fun _ => new_alloc _ _) ((Below.refl _ _).alloc (Nat.le_refl _) _))
                  | (show wpList _ _ _ [⟨some 77, .call _, _, _, _, _⟩] _ _; have h1 : Prs wr (x 8) [((1 :: (S.b ++ o.b)), T)] ∧ ∃ g, x 8 = .slice (some ⟨g, 0, none⟩) 1 1 := (by first | exact hd.1 | exact hd.2); have h2 : x 9 = bl := (by first | exact hd.2 | exact hd.2.1 | exact hd.1 | simp only [hd]); obtain ⟨h3, g, h4⟩ := h1; refine wpList_pairs rfl (.tmp 75) (.tmp 76) rfl (x 8) bl _ Z g (by first | rfl | simp) h4 h3 (by first | exact h2 | (simp; exact h2) | rfl) (HBL.out.below hb) (by have := HZN.out; omega) ?_; intro v6 w6 h6 hb6; exact hK _ _ h6 (by first | exact trivial | exact fun h => absurd h (by decide) | exact fun _ => new_alloc _ _) hb6)
                  | (go_wp2_with fail; exact hK _ _ rfl (by first | exact trivial | exact fun h => absurd h (by decide) | exact fun _ => new_alloc _ _) (Below.refl _ _)))
              trivial
            case mfin =>
              intro z4 w11 hb11 hR11 _
              have r2 := hR11 2 (by decide)
              have r10 := hR11 10 (by decide)
              simp only [List.getD_cons_zero, List.getD_cons_succ] at r2 r10
              have HX11 := Lib.hid (HX7.out.below hb11 HX7.out.lt)
              have r10b : Prs (w11.setRow w.heap.size (bytesV (ndH S o).b).toArray) (z4 10) (((1 :: (S.b ++ o.b)), T) :: Z) := r10.but (But.row _ _) HX11.out (fun z hz => by rcases List.mem_cons.1 hz with rfl | hz; exact ⟨rfl, by rw [HTT.out]; rfl⟩; exact HZ1.out z hz)
              have HBL11 := Lib.hid r10b
              have hw11 := hw0.trans (hb11.mono hw0.size)
              clear hR11 hb11 r10 r10b
              simp only [List.drop_succ_cons, List.drop_zero]
              generalize List.toArray _ = L0
              simp only [List.take_succ_cons, List.take_zero, List.map_cons, List.map_nil, fill, Act.put, List.setIfInBounds_toArray, List.set_cons_succ, List.set_cons_zero, r2]
              clear r2
              go_wp2_with (first
                | (refine wpList_store_row rfl 32 (.tmp 10) (.tmp 69) rfl w.heap.size (bytesV (ndH S o).b).toArray rfl rfl 32 z32.toArray (by exact HX11.out) (by exact hv_row _) (by exact z32_old _) (by exact hv_one _) ?_)
                | fail)
              refine bodyPost_ret (results_row_tmp (p := 10) (u := 11) rfl _ _ w.heap.size 32 (bytesV (ndH S o).b).toArray (0, 0) _ rfl (HX11.out.setRow _) Tryd.underlying32 rfl (hv_row _)) rfl ⟨?_, below_setRow hw11 (Nat.le_refl _) _⟩
              unfold DnPost
              rw [HSA.out, HNO.out]
              exact ⟨_, rfl, HBL11.out⟩
        · have hlt' : ¬ (m : Int) ≤ k := by omega
          have hmk : (m : Int) - k = (m - k : Nat) := by omega
          obtain ⟨S, hS⟩ : ∃ S, S = saidB x (b.length - k) (m - k) false (P.take j).reverse := ⟨_, rfl⟩
          obtain ⟨Z, hZ⟩ : ∃ Z, Z = nodesB x (b.drop k) (m - k) false (P.take j).reverse := ⟨_, rfl⟩
          have HPL := Lib.hid ((HPT.out).trans (HJR.out hik))
          have HS := Lib.hid (show saidB x (b.drop k).length (m - k) false (P.take j).reverse = S by rw [hS, List.length_drop])
          have HZ := Lib.hid hZ.symm
          have HZ1 := Lib.hid (show Ones Z by rw [hZ]; exact nodes_ones x _ _ (m - k) false _ rfl)
          have HZN := Lib.hid (show Z.length ≤ 4000 by rw [hZ]; have := nodes_few x _ (b.drop k) (m - k) false (P.take j).reverse rfl; rw [List.length_drop] at this; omega)
          have HSA := Lib.hid (show saidB x b.length m wh P.reverse = ndH o S by rw [HREV.out, said_right x o _ m wh _ HH2.out (by rw [← HK.out]; exact hik), ← HK.out, hS])
          have HNO := Lib.hid (show nodesB x b m wh P.reverse = (1 :: (o.b ++ S.b), T) :: Z by rw [HREV.out, nodes_right x o b m wh _ HH2.out (by rw [← HK.out]; exact hik), ← HK.out, hS, hZ, HTB.out])
          clear hS hZ
          go_wp2_with fail
          refine wp_region_rowsK 14 [(fun v _ => v = dnV ob ub), (fun v _ => v = .slice xb b.length cb), (fun v _ => v = .int .i64 k), (fun v _ => v = .slice a2 (b.length - k) d2), (fun v _ => v = .int .i64 m), (fun v _ => v = .int .i64 k), (fun v _ => v = .int .i64 (m - k : Nat)), (fun v _ => v = .slice ar j j), (fun v w => ∃ v', v = .tuple #[.agg (bytesV S.b).toArray, v'] ∧ Prs w v' Z), (fun v w => ∃ v', v = .tuple #[.agg (bytesV S.b).toArray, v'] ∧ Prs w v' Z), (fun v _ => v = .agg (bytesV S.b).toArray), (fun v w => Prs w v Z), (fun _ _ => True), (fun _ _ => True)] [⟨12, 13, z32, bytesV S.b, 32⟩] (by kernel_rfl) (by kernel_rfl) ?rkept ?rrow (by rfl) (by rfl) _ rfl ?rops ?rfin
          case rkept =>
            repeat (refine List.forall_mem_cons.2 ⟨by first | exact fun _ _ _ _ h => h | exact fun _ _ _ hb ⟨v', e, h⟩ => ⟨v', e, Prs.below h hb⟩ | exact fun _ _ _ hb h => Prs.below h hb | exact fun _ _ _ hb h => Parts.below h hb | exact fun _ _ _ hb h => IsSl.below h hb | exact fun _ _ _ hb h => RowAt.below h hb | exact fun _ _ _ hb ⟨vs, h⟩ => ⟨vs, Parts.below h hb⟩ | exact fun _ _ _ hb h => ownsRow_below h hb (ownsRow_block h) | exact fun _ _ _ hb ⟨g, e, h⟩ => ⟨g, e, ownsRow_below h hb (ownsRow_block h)⟩, ?_⟩)
            exact fun _ h => by cases h
          case rrow =>
            repeat (refine List.forall_mem_cons.2 ⟨by first | exact fun _ _ _ _ _ _ h => h | exact fun r hr _ _ p hB ⟨v', e, h⟩ => ⟨v', e, h.but (But.row p _) (by rw [List.mem_singleton] at hr; subst hr; exact hB) HZ1.out⟩ | exact fun r hr _ _ p hB h => Prs.but h (But.row p _) (by rw [List.mem_singleton] at hr; subst hr; exact hB) HZ1.out, ?_⟩)
            exact fun _ h => by cases h
          case rops =>
            simp only [List.take_succ_cons, List.take_zero, rowsAllK]
            iterate 14
            
             (refine ⟨fun L x wr hL0 hL hd hJ Qg hK => ?_, ?_⟩
              · simp only [fill, Act.put, List.setIfInBounds_toArray, List.set_cons_succ, List.set_cons_zero, needs, Region.binds, List.filter_cons, List.filter_nil, List.map_cons, List.map_nil, if_true, List.mem_cons, List.not_mem_nil, or_false, forall_eq_or_imp, forall_eq, List.getD_cons_zero, List.getD_cons_succ, false_implies, implies_true] at hd hL hK ⊢
                (try simp only [hd] at hK ⊢)
                first
                | (show wpList _ _ _ [⟨some 79, .load _ _, _, _, _, _⟩] _ _; have c0 := (HD3.out.below hJ.old).up; go_wp2_with fail; exact hK _ _ (hJ.const rfl rfl (Below.refl _ _)) trivial)
                | (show wpList _ _ _ [⟨some 87, .call _, _, _, _, _⟩] _ _; simp only [dnV] at hK ⊢; have hb := hJ.old; go_wp2_with (go_at_call 36; refine (ih (b.length - k) (by omega) (b.drop k) _ _ _ (m - k) false (P.take j) wr (by rw [List.length_drop]) (by omega) (by omega) (by omega) (HT3.out.below hb) HW2.out (HR3.out.below hb) (by rw [HPT.out]; omega) HPL.out (HD3.out.below hb) (HG3.out.below hb)).mono ?_; rintro e w5 ⟨⟨v5, rfl, hv5⟩, hb5⟩; rw [HS.out]; rw [HZ.out] at hv5); exact hK _ _ (hJ.const rfl ⟨v5, rfl, hv5⟩ hb5) trivial)
                | (show wpList _ _ _ [⟨some 78, .move _, _, _, _, _⟩] _ _; go_wp2_with fail; exact hK _ _ (hJ.const rfl (by first | exact hd | exact hd.1) (Below.refl _ _)) trivial)
                | (show wpList _ _ _ [⟨some 88, .extract _ _, _, _, _, _⟩] _ _; have hd' : ∃ v', x 9 = .tuple #[.agg (bytesV S.b).toArray, v'] ∧ Prs wr v' Z := (by first | exact hd | exact hd.1); obtain ⟨v', e1, h1⟩ := hd'; simp only [e1] at hK ⊢; go_wp2_with fail; exact hK _ _ (hJ.const rfl rfl (Below.refl _ _)) trivial)
                | (show wpList _ _ _ [⟨some 89, .extract _ _, _, _, _, _⟩] _ _; have hd' : ∃ v', x 9 = .tuple #[.agg (bytesV S.b).toArray, v'] ∧ Prs wr v' Z := (by first | exact hd | exact hd.1); obtain ⟨v', e1, h1⟩ := hd'; simp only [e1] at hK ⊢; go_wp2_with fail; exact hK _ _ (hJ.const rfl h1 (Below.refl _ _)) trivial)
                | (show wpList _ _ _ [⟨some 19, .alloc _, _, _, _, _⟩] _ _; go_wp2_with fail; exact hK _ _ (hJ.alloc (List.mem_cons_self) rfl rfl hL0 rfl rfl) trivial)
                | (show wpList _ _ _ [⟨none, .store _ (.tmp 19) _, _, _, _, _⟩] _ _; obtain ⟨p, e1, e2, e3⟩ := hJ.fresh (List.mem_cons_self) (by simp only [hL]) hL0; refine wpList_store_row rfl 32 (.tmp 19) (.tmp 88) rfl p (bytesV S.b).toArray (by exact e1) (by first | rfl | simp only [hd]) 32 (z32).toArray (by exact e3) (by exact hv_row _) (by exact z32_old _) (by exact hv_one _) ?_; exact hK undef _ (hJ.store (List.mem_cons_self) rfl rfl hL0 (by simp only [hL]) e1 rfl rfl) trivial)
                | (go_wp2_with fail; exact hK _ _ (hJ.const rfl rfl (Below.refl _ _)) trivial))
            trivial
          case rfin =>
            intro z3 w10 hb10 hR9 hr9 _
            have r10 := hR9 11 (by decide)
            simp only [List.getD_cons_zero, List.getD_cons_succ] at r10
            obtain ⟨g7, e7, hg7, hB7⟩ := hr9 _ List.mem_cons_self
            have r11 : z3 12 = .pointer (some ⟨g7, 0, none⟩) := e7
            obtain ⟨bl, hbl⟩ : ∃ v, v = z3 11 := ⟨_, rfl⟩
            rw [← hbl] at r10
            have hbl' := hbl.symm
            have HG7 := Lib.hid (show Blk w10 g7 (bytesV S.b) 32 from hB7)
            have HO7 := Lib.hid (HO3.out.below hb10 HO3.out.lt)
            have HSo7 := Lib.hid (HSo3.out.below hb10)
            have HX7 := Lib.hid (HX3.out.below hb10 HX3.out.lt)
            have HGL7 := Lib.hid (HG3.out.below hb10)
            have hw0 := hw7.trans (hb10.mono hw7.size)
            have HBL := Lib.hid r10
            clear hR9 hr9 hB7 e7 hb10 r10
            simp only [List.drop_succ_cons, List.drop_zero]
            generalize List.toArray _ = L0
            simp only [List.take_succ_cons, List.take_zero, List.map_cons, List.map_nil, fill, Act.put, List.setIfInBounds_toArray, List.set_cons_succ, List.set_cons_zero, hbl', r11]
            clear hbl' r11 hbl
            go_wp2_with fail
            have HLT := Lib.hid (show ((1 :: (o.b ++ S.b))).length = 65 by simp [S.len, o.len])
            refine wp_region_monoF 11 (w10.heap.size) [] [(fun v _ => v = .agg (bytesV o.b).toArray), (fun v _ => v = .agg (bytesV S.b).toArray), (fun v _ => v = .agg (bytesV (ndH o S).b).toArray), (fun v _ => v = .agg (bytesV o.b).toArray), (fun v _ => v = .agg (bytesV S.b).toArray), (fun v w => Bytes w v (1 :: (o.b ++ S.b))), (fun v _ => v = .slice c1 65 c2), (fun v w => ∃ y, v = .agg #[y, .slice c1 65 c2] ∧ Bytes w y (1 :: (o.b ++ S.b))), (fun v w => Prs w v [((1 :: (o.b ++ S.b)), T)] ∧ ∃ g, v = .slice (some ⟨g, 0, none⟩) 1 1), (fun v _ => v = bl), (fun v w => Prs w v (((1 :: (o.b ++ S.b)), T) :: Z))] (by kernel_rfl) (by kernel_rfl) (by decide) (Nat.le_refl _) ?mkept _ rfl ?mops ?mfin
            case mkept =>
              repeat (refine List.forall_mem_cons.2 ⟨by first | exact fun _ _ _ _ h => h | exact fun _ _ _ hb ⟨y, e, h⟩ => ⟨y, e, IsSl.below h hb⟩ | exact fun _ _ _ hb ⟨h, e⟩ => ⟨Prs.below h hb, e⟩ | exact fun _ _ _ hb h => Prs.below h hb | exact fun _ _ _ hb h => Parts.below h hb | exact fun _ _ _ hb h => IsSl.below h hb | exact fun _ _ _ hb h => RowAt.below h hb | exact fun _ _ _ hb ⟨vs, h⟩ => ⟨vs, Parts.below h hb⟩ | exact fun _ _ _ hb h => ownsRow_below h hb (ownsRow_block h) | exact fun _ _ _ hb ⟨g, e, h⟩ => ⟨g, e, ownsRow_below h hb (ownsRow_block h)⟩, ?_⟩)
              exact fun _ h => by cases h
            case mops =>
              simp only [List.take_succ_cons, List.take_zero, monoAllF, List.getD_cons_zero, List.getD_cons_succ]
              iterate 11
              
               (refine ⟨fun x wr hb hd Qg hK => ?_, ?_⟩
                · as_aux_lemma =>
                  simp only [fill, Act.put, List.setIfInBounds_toArray, List.set_cons_succ, List.set_cons_zero, needs, Region.binds, List.filter_cons, List.filter_nil, List.map_cons, List.map_nil, if_true, List.mem_cons, List.not_mem_nil, or_false, forall_eq_or_imp, forall_eq, List.getD_cons_zero, List.getD_cons_succ, false_implies, implies_true] at hd hK ⊢
                  (try simp only [hd] at hK ⊢)
                  first
                  | (show wpList _ _ _ [⟨some 92, .call _, _, _, _, _⟩] _ _; go_wp2_with (go_at_call 39; refine (node_any o S wr (HGL7.out.below hb)).mono ?_; rintro e w5 ⟨rfl, hb5⟩); exact hK _ _ rfl (by first | exact trivial | exact fun h => absurd h (by decide) | exact fun _ => new_alloc _ _) hb5)
                  | (show wpList _ _ _ [⟨some 95, .call _, _, _, _, _⟩] _ _; go_wp2_with (go_at_call 38; refine (lpair_any o S wr).mono ?_; rintro e w5 ⟨⟨v5, rfl, hv5⟩, hb5⟩); exact hK _ _ hv5 (by first | exact trivial | exact fun h => absurd h (by decide) | exact fun _ => new_alloc _ _) hb5)
                  | (have hBr := HO7.out.below hb (HO7.out.lt); refine wpList_load_rowIf rfl 32 (.tmp 14) rfl _ rfl 32 ((bytesV o.b)).toArray (0, 0) _ (by exact hBr) Tryd.underlying32 rfl (hv_row _) ?_; exact hK _ _ rfl (by first | exact trivial | exact fun h => absurd h (by decide) | exact fun _ => new_alloc _ _) (Below.refl _ _))
                  | (have hBr := HG7.out.below hb (HG7.out.lt); refine wpList_load_rowIf rfl 32 (.tmp 19) rfl _ rfl 32 ((bytesV S.b)).toArray (0, 0) _ (by exact hBr) Tryd.underlying32 rfl (hv_row _) ?_; exact hK _ _ rfl (by first | exact trivial | exact fun h => absurd h (by decide) | exact fun _ => new_alloc _ _) (Below.refl _ _))
                  | (show wpList _ _ _ [⟨some 97, .build _ _, _, _, _, _⟩] _ _; have hd' : Bytes wr (x 5) (1 :: (o.b ++ S.b)) := (by first | exact hd.1 | exact hd.2); obtain ⟨y1, y2, e1, _⟩ := hd'.form; rw [HLT.out] at e1; rw [e1] at hd'; simp only [e1] at hK ⊢; go_wp2_with fail; exact hK _ _ ⟨_, rfl, hd'⟩ (by first | exact trivial | exact fun h => absurd h (by decide) | exact fun _ => new_alloc _ _) (Below.refl _ _))
                  | (show wpList _ _ _ [⟨some 98, .buildSlice _ _ _, _, _, _, _⟩] _ _; have hd' : ∃ y, x 7 = .agg #[y, .slice c1 65 c2] ∧ Bytes wr y (1 :: (o.b ++ S.b)) := (by first | exact hd | exact hd.1); obtain ⟨y, e1, h1⟩ := hd'; obtain ⟨y1, y2, e2, _⟩ := h1.form; rw [HLT.out] at e2; subst e2; simp only [e1] at hK ⊢; go_wp2_with fail; exact hK _ _ ⟨prs_new wr _ _ _ _ h1 (HSo7.out.below hb) rfl, _, rfl⟩ (by first | exact trivial | exact fun h => absurd h (by decide) | exact fun _ => new_alloc _ _) ((Below.refl _ _).alloc (Nat.le_refl _) _))
                  | (show wpList _ _ _ [⟨some 100, .call _, _, _, _, _⟩] _ _; have h1 : Prs wr (x 8) [((1 :: (o.b ++ S.b)), T)] ∧ ∃ g, x 8 = .slice (some ⟨g, 0, none⟩) 1 1 := (by first | exact hd.1 | exact hd.2); have h2 : x 9 = bl := (by first | exact hd.2 | exact hd.2.1 | exact hd.1 | simp only [hd]); obtain ⟨h3, g, h4⟩ := h1; refine wpList_pairs rfl (.tmp 98) (.tmp 99) rfl (x 8) bl _ Z g (by first | rfl | simp) h4 h3 (by first | exact h2 | (simp; exact h2) | rfl) (HBL.out.below hb) (by have := HZN.out; omega) ?_; intro v6 w6 h6 hb6; exact hK _ _ h6 (by first | exact trivial | exact fun h => absurd h (by decide) | exact fun _ => new_alloc _ _) hb6)
                  | (go_wp2_with fail; exact hK _ _ rfl (by first | exact trivial | exact fun h => absurd h (by decide) | exact fun _ => new_alloc _ _) (Below.refl _ _)))
              trivial
            case mfin =>
              intro z4 w11 hb11 hR11 _
              have r2 := hR11 2 (by decide)
              have r10 := hR11 10 (by decide)
              simp only [List.getD_cons_zero, List.getD_cons_succ] at r2 r10
              have HX11 := Lib.hid (HX7.out.below hb11 HX7.out.lt)
              have r10b : Prs (w11.setRow w.heap.size (bytesV (ndH o S).b).toArray) (z4 10) (((1 :: (o.b ++ S.b)), T) :: Z) := r10.but (But.row _ _) HX11.out (fun z hz => by rcases List.mem_cons.1 hz with rfl | hz; exact ⟨rfl, by rw [HTT.out]; rfl⟩; exact HZ1.out z hz)
              have HBL11 := Lib.hid r10b
              have hw11 := hw0.trans (hb11.mono hw0.size)
              clear hR11 hb11 r10 r10b
              simp only [List.drop_succ_cons, List.drop_zero]
              generalize List.toArray _ = L0
              simp only [List.take_succ_cons, List.take_zero, List.map_cons, List.map_nil, fill, Act.put, List.setIfInBounds_toArray, List.set_cons_succ, List.set_cons_zero, r2]
              clear r2
              go_wp2_with (first
                | (refine wpList_store_row rfl 32 (.tmp 10) (.tmp 92) rfl w.heap.size (bytesV (ndH o S).b).toArray rfl rfl 32 z32.toArray (by exact HX11.out) (by exact hv_row _) (by exact z32_old _) (by exact hv_one _) ?_)
                | fail)
              refine bodyPost_ret (results_row_tmp (p := 10) (u := 11) rfl _ _ w.heap.size 32 (bytesV (ndH o S).b).toArray (0, 0) _ rfl (HX11.out.setRow _) Tryd.underlying32 rfl (hv_row _)) rfl ⟨?_, below_setRow hw11 (Nat.le_refl _) _⟩
              unfold DnPost
              rw [HSA.out, HNO.out]
              exact ⟨_, rfl, HBL11.out⟩
end Go.Proofs.YtnbnjoejmepkjaaDoor

/-! LinkJ: The walk of link.nodes. Conditions: the list and the proof can be read, the proof as long as the way down; the package's tables read as they are laid. -/
namespace Go.Proofs.YtnbnjoejmepkjaaDoor
open Go.RowKit

set_option maxRecDepth 100000 in
set_option maxHeartbeats 1000000 in
theorem nodes_any (vb vl : Value) (b : List (List UInt8)) (ys : List Value) (m : Nat) (x : H) (P : List H) (w : World) (hb : Parts w vb b ys) (hle : b.length ≤ 4000) (h1 : 1 ≤ m) (hm : m ≤ b.length) (hwb : ∀ l ∈ b, l.length ≤ 35184372088832) (hs : Hs w vl P) (hPm : P.length ≤ 4096) (hP : P.length = needsB b.length m true) (hg : Glob w) :
    Calls Tryd.prog 20 #[vb, .int .i64 m, hv x, vl] w fun e w' => (∃ v, e = .returned v ∧ Prs w' v (nodesB x b m true P.reverse)) ∧ Below w.heap.size w w' := by
  have hmf := run_makeFunc
  have hsf := fun (a : Addr) (c : Array Value) (w : World) => run_store Tryd.prog w a (.func (.func 36) #[] c) .plain rfl
  obtain ⟨W, hW⟩ : ∃ W, W = (w.alloc (.cells (bytesV x.b).toArray 32)).alloc (.cells #[dnV w.heap.size (w.heap.size + 1)] 52) := ⟨_, rfl⟩
  have hbW : Below w.heap.size w W := by rw [hW]; (repeat (first | with_reducible assumption | with_reducible exact Below.refl _ _ | ((with_reducible refine Below.setCell ?_ ?_ _); rotate_left; focus (first | omega | (simp; done) | (simp; omega))) | ((with_reducible refine Below.alloc ?_ ?_ _); rotate_left; focus (first | omega | (simp; done) | (simp; omega))) | ((with_reducible refine below_setRow ?_ ?_ _); rotate_left; focus (first | omega | (simp; done) | (simp; omega))) | (with_reducible refine below_drewN ?_ _) | (with_reducible refine Below.drew ?_)))
  have hD : Dn W w.heap.size (w.heap.size + 1) x := ⟨by rw [hW]; exact (Blk.newL w _ _).alloc _, by rw [hW]; exact (Blk.newL1 w _ [dnV w.heap.size (w.heap.size + 1)] _).cell (i := 0) rfl⟩
  obtain ⟨S, hS⟩ : ∃ S, S = saidB x b.length m true P.reverse := ⟨_, rfl⟩
  obtain ⟨Z, hZ⟩ : ∃ Z, Z = nodesB x b m true P.reverse := ⟨_, rfl⟩
  rw [← hZ]
  have HB := Lib.hid (hb.below hbW)
  have HS := Lib.hid (hs.below hbW)
  have HG := Lib.hid (hg.below hbW)
  have HD := Lib.hid hD
  have HWB := Lib.hid hwb
  have HP := Lib.hid hP
  have HW := Lib.hid hW
  have HSE := Lib.hid hS
  have HZ := Lib.hid hZ
  have HZ1 := Lib.hid (show Ones Z by rw [hZ]; exact nodes_ones x _ b m true _ rfl)
  clear hb hs hg hD hwb hP hW hS hZ
  unfold hv
  go_enter Tryd.func20, Tryd.ntmps20
  go_wp2_with (first
    | (go_at_call 36; refine calls_eq HW.out ((ldown_any w.heap.size (w.heap.size + 1) x b.length b ys vb vl m true P W rfl hle h1 hm HB.out HWB.out HS.out hPm HP.out HD.out HG.out).mono ?_); rintro e w5 ⟨⟨v5, rfl, hv5⟩, hb5⟩; rw [← HSE.out]; rw [← HZ.out] at hv5; unfold hv; have HV5 := Lib.hid hv5; have hw5 := hbW.trans (hb5.mono hbW.size); clear hv5 hb5)
    | (refine wpList_store_row rfl 32 (.tmp 10) (.tmp 19) rfl w5.heap.size (bytesV S.b).toArray rfl rfl 32 z32.toArray (by exact Blk.newL w5 z32 _) (by exact hv_row _) (by exact z32_old _) (by exact hv_one _) ?_)
    | fail)
  go_ret
  refine ⟨⟨_, rfl, ?_⟩, below_setRow (hw5.alloc hw5.size _) hw5.size _⟩
  exact (HV5.out.below ((Below.refl _ _).alloc (Nat.le_refl _) _)).but (But.row w5.heap.size _) (Blk.newL w5 z32 32) HZ1.out
end Go.Proofs.YtnbnjoejmepkjaaDoor
