/- The law ProofHolds, walked: true, and nothing that was there has turned. Conditions: the list can be read; the package's tables read as they are laid. -/
import Derived.Test.YtkfplliipogagaaDoorAlive6
import Derived.Test.YtkfplliipogagaaDoorHoldP
namespace Go.Proofs.YtkfplliipogagaaDoor
open Go.RowKit

set_option maxRecDepth 100000 in
set_option maxHeartbeats 16000000 in
theorem pholds_any (v : Value) (l : List H) (i m : Int) (w : World) (hs : Hs w v l) (hg : Glob w) :
    Calls Tryd.prog 11 #[v, .int .i64 i, .int .i64 m] w fun e w' => e = .returned (.bool true) ∧ Below w.heap.size w w' := by
  obtain ⟨xa, ca, rfl, _⟩ := hs.form
  have HS := Lib.hid hs
  have HG := Lib.hid hg
  clear hs hg
  by_cases h70 : l.length ≤ 70
  · have h1 : ¬ ((70 : Int) < l.length) := by omega
    have hle : l.length ≤ 1099511627776 := by omega
    have hdl := digitsN_le l.length
    obtain ⟨R, hR⟩ : ∃ R, R = rootN ndH e0H l := ⟨_, rfl⟩
    obtain ⟨dg, hdg⟩ : ∃ d, d = digitsN l.length := ⟨_, rfl⟩
    obtain ⟨p, hp⟩ : ∃ p, p = pathR l i := ⟨_, rfl⟩
    obtain ⟨q, hq⟩ : ∃ q, q = subR l m := ⟨_, rfl⟩
    obtain ⟨b1, hb1⟩ : ∃ b, b = decide (0 ≤ i ∧ i < l.length) := ⟨_, rfl⟩
    obtain ⟨b2, hb2⟩ : ∃ b, b = decide (1 ≤ m ∧ m ≤ l.length) := ⟨_, rfl⟩
    rw [← hdg] at hdl
    have HR := Lib.hid hR
    have HDG := Lib.hid hdg
    have HP := Lib.hid hp
    have HQ := Lib.hid hq
    have HB1 := Lib.hid hb1
    have HB2 := Lib.hid hb2
    have HLE := Lib.hid hle
    have H70 := Lib.hid h70
    have HDL := Lib.hid hdl
    clear hR hle hdl hdg hp hq hb1 hb2
    go_enter Tryd.func11, Tryd.ntmps11
    go_wp2_with (first
      | (go_at_call 33; refine (alive6_any w HG.out).mono ?_; rintro e w1 ⟨rfl, hw1⟩; have HS1 := Lib.hid (HS.out.below hw1); have HG1 := Lib.hid (HG.out.below hw1))
      | (go_at_call 32; refine (root_any l.length _ l w1 rfl HLE.out HS1.out HG1.out).mono ?_; rintro e w2 ⟨rfl, hb2⟩; rw [← HR.out]; unfold hv; obtain ⟨o1, o2, o3, o4⟩ := one_parts w2 R; have hq := hb2.trans (o1.mono hb2.size); have hw2 := hw1.trans (hq.mono hw1.size); have HS2 := Lib.hid (HS1.out.below hq); have HG2 := Lib.hid (HG1.out.below hq); have H7 := Lib.hid o3; have N7 := Lib.hid o4; clear hb2 o1 o2 o3 o4 hq)
      | (refine wpList_store_row rfl 24 (.tmp 7) (.tmp 20) rfl w2.heap.size (bytesV R.b).toArray rfl rfl 24 z32.toArray (by exact N7.out) (by exact hv_row _) (by exact z32_old _) (by exact hv_one _) ?_)
      | (go_at_call 34; refine (path_i _ l i (oneW w2 R) HLE.out HS2.out HG2.out).mono ?_; rintro e w3 ⟨⟨v3, rfl, hv3⟩, hb3⟩; rw [← HB1.out]; rw [← HP.out] at hv3; obtain ⟨pa, pc, rfl, _⟩ := hv3.form; have hw3 := hw2.trans (hb3.mono hw2.size); have HS3 := Lib.hid (HS2.out.below hb3); have HG3 := Lib.hid (HG2.out.below hb3); have H73 := Lib.hid (H7.out.below hb3 H7.out.lt); have HV3 := Lib.hid hv3; clear hv3 hb3)
      | fail)
    go_loopw [10, 11] (fun dv nv wr => ∃ (d n : Nat), dv = .int .i64 d ∧ nv = .int .i64 n ∧ n ≤ 70 ∧ d + digitsN n = dg ∧ wr = w3) (fun _ nv _ => (intOf nv).toNat)
    case atStart => exact ⟨0, l.length, rfl, rfl, H70.out, by rw [Nat.zero_add, HDG.out], rfl⟩
    case round =>
      obtain ⟨d, n, rfl, rfl, hn, hdn, hwr⟩ := hrel
      have hwr' : w3 = wr := hwr.symm
      subst hwr'
      have hdl := HDL.out
      have h70' := H70.out
      by_cases h0 : 0 < n
      · have h0' : (0 : Int) < n := by omega
        have hp := digitsN_pos n h0
        have hq1 : (n : Int).tdiv 2 = ((n / 2 : Nat) : Int) := by rw [Int.tdiv_eq_ediv_of_nonneg (by omega)]; rfl
        go_wp2_with fail
        exact ⟨⟨d + 1, n / 2, by go_num, by first | rfl | (congr 1; omega), by omega, by omega, trivial⟩, by simp [intOf]; omega⟩
      · have h0' : ¬ (0 : Int) < n := by omega
        obtain rfl : n = 0 := by omega
        rw [digitsN_zero, Nat.add_zero] at hdn
        have hdn' : dg = d := hdn.symm
        subst hdn'
        have l73 := H73.out.lt
        clear h0 hn hdl h70'
        by_cases hi : 0 ≤ i ∧ i < l.length
        · obtain ⟨k, rfl⟩ : ∃ k : Nat, i = k := ⟨i.toNat, by omega⟩
          obtain rfl : b1 = true := by rw [HB1.out]; exact decide_eq_true hi
          have hk : k < l.length := by omega
          obtain ⟨x0, hx0⟩ : ∃ x0, l[k]? = some x0 := ⟨_, List.getElem?_eq_getElem hk⟩
          have hpe : p = pathN ndH e0H l k := by rw [HP.out]; unfold pathR; rw [if_pos hi]; rfl
          have e1 : inR x0 R k l.length p = true := by rw [hpe, HR.out]; exact in_path l k x0 hx0 (by have := H70.out; omega)
          have hpl : p.length ≤ dg := by rw [hpe, HDG.out]; exact path_digits l k hk
          obtain ⟨lb, lo, e9, _, hr, hlb⟩ := hs_block HS3.out (by omega)
          subst e9
          have hix : (0 : Int) ≤ k ∧ (k : Int) < l.length := hi
          have f1 : decide ((0 : Int) ≤ k) = true := decide_eq_true (by omega)
          have f2 : decide ((k : Int) < l.length) = true := decide_eq_true (by omega)
          have f3 : decide ((dg : Int) < p.length) = false := decide_eq_false (by omega)
          have f4 : decide (dg < p.length) = false := decide_eq_false (by omega)
          have f5 : decide (k < l.length) = true := decide_eq_true hk
          have HE3 := Lib.hid (Hs.elem hr hx0)
          have E1 := Lib.hid e1
          have HPL := Lib.hid (show p.length ≤ 4096 by have := H70.out; have := HDL.out; omega)
          clear hk hx0 hpe e1 hpl hr hlb hi
          go_wp2_with fail
          refine wp_region_mono 32 (w3.heap.size) [(fun v _ => v = .bool true), (fun v _ => v = .int .i64 k), (fun v _ => v = .bool true), (fun v _ => v = .bool true), (fun v _ => v = .int .i64 k), (fun v _ => v = .slice (some ⟨lb, lo, none⟩) l.length ca), (fun v _ => v = .int .i64 l.length), (fun v _ => v = .bool true), (fun v _ => v = .bool true), (fun v _ => v = .bool false), (fun v _ => v = .bool false), (fun v _ => v = .bool true), (fun v _ => v = .bool true), (fun v _ => v = .slice (some ⟨lb, lo, none⟩) l.length ca), (fun v _ => v = .int .i64 k), (fun v _ => v = .pointer (some ⟨lb, lo + k * 32, none⟩)), (fun v _ => v = .agg (bytesV x0.b).toArray), (fun v _ => v = .int .i64 k), (fun v _ => v = .slice (some ⟨lb, lo, none⟩) l.length ca), (fun v _ => v = .int .i64 l.length), (fun v _ => v = .slice pa p.length pc), (fun v _ => v = .agg (bytesV R.b).toArray), (fun v _ => v = .bool true), (fun v _ => v = .bool false), (fun v _ => v = .bool false), (fun v _ => v = .slice pa p.length pc), (fun v _ => v = .int .i64 p.length), (fun v _ => v = .int .i64 dg), (fun v _ => v = .bool false), (fun v _ => v = .bool false), (fun v _ => v = .bool false), (fun v _ => v = .bool false)] (by kernel_rfl) (by kernel_rfl) (Nat.le_refl _) ?mkept _ rfl ?mops ?mfin
          case mkept =>
            repeat (refine List.forall_mem_cons.2 ⟨by first | exact fun _ _ _ _ h => h | exact fun _ _ _ hb h => Parts.below h hb | exact fun _ _ _ hb h => IsSl.below h hb, ?_⟩)
            exact fun _ h => by cases h
          case mops =>
            simp only [List.take_succ_cons, List.take_zero, monoAll, List.getD_cons_zero, List.getD_cons_succ]
            iterate 32
            
             (refine ⟨fun x wr hb hd Qg hK => ?_, ?_⟩
              · as_aux_lemma =>
                simp only [fill, Act.put, List.setIfInBounds_toArray, List.set_cons_succ, List.set_cons_zero, needs, Region.binds, List.filter_cons, List.filter_nil, List.map_cons, List.map_nil, if_true, List.mem_cons, List.not_mem_nil, or_false, forall_eq_or_imp, forall_eq, List.getD_cons_zero, List.getD_cons_succ, false_implies, implies_true] at hd hK ⊢
                (try simp only [hd] at hK ⊢)
                first
                | (have hBr := H73.out.below hb (l73); refine wpList_load_rowIf rfl 24 (.tmp 7) rfl _ rfl 24 (bytesV R.b).toArray (0, 0) _ (by exact hBr) Tryd.underlying24 rfl (hv_row R) ?_; exact hK _ _ rfl (Below.refl _ _))
                | ((refine wpList_load_midIf rfl 24 (.tmp 50) rfl lb (lo + k * 32) rfl (bytesV x0.b) _ (range_below HE3.out hb) Tryd.underlying24 rfl (hv_info x0) ?_; exact hK _ _ rfl (Below.refl _ _)))
                | (show wpList _ _ _ [⟨some 57, .call _, _, _, _, _⟩] _ _; go_wp2_with (go_at_call 42; refine (in_any wr x0 R k l.length _ p (HV3.out.below hb) HPL.out (HG3.out.below hb)).mono ?_; rintro e w5 ⟨rfl, hb5⟩); exact hK _ _ (by rw [E1.out]) hb5)
                | (go_wp2_with fail; exact hK _ _ rfl (Below.refl _ _)))
            trivial
          case mfin =>
            intro x w5 hb5 hR5
            have xl := hR5 31 (by decide)
            simp only [List.getD_cons_zero, List.getD_cons_succ] at xl
            have hw5 := hw3.trans (hb5.mono hw3.size)
            have HS5 := Lib.hid (HS3.out.below hb5)
            have HG5 := Lib.hid (HG3.out.below hb5)
            have H75 := Lib.hid (H73.out.below hb5 H73.out.lt)
            clear hR5 hb5
            simp only [List.drop_succ_cons, List.drop_zero]
            generalize List.toArray _ = L0
            simp only [List.take_succ_cons, List.take_zero, List.map_cons, List.map_nil, fill, Act.put, List.setIfInBounds_toArray, List.set_cons_succ, List.set_cons_zero, xl]
            clear xl f1 f2 f3 f4 f5
            by_cases hm : 1 ≤ m ∧ m ≤ l.length
            · obtain ⟨j, rfl⟩ : ∃ j : Nat, m = j := ⟨m.toNat, by omega⟩
              obtain rfl : b2 = true := by rw [HB2.out]; exact decide_eq_true hm
              have hjn : j ≤ l.length := by omega
              have hj1 : 1 ≤ j := by omega
              have hqe : q = subN ndH e0H l j true := by rw [HQ.out]; unfold subR; rw [if_pos hm]; rfl
              obtain ⟨R1, hR1⟩ : ∃ R, R = rootN ndH e0H (l.take j) := ⟨_, rfl⟩
              have e2 : begR j l.length R1 R q = true := by rw [hqe, hR1, HR.out]; exact beg_sub l j hj1 hjn (by have := H70.out; omega)
              have hql : q.length ≤ dg + 1 := by rw [hqe, HDG.out]; exact sub_digits l j hj1 hjn
              have f1 : decide ((1 : Int) ≤ j) = true := decide_eq_true (by omega)
              have f2 : decide ((j : Int) ≤ l.length) = true := decide_eq_true (by omega)
              have f3 : decide ((q.length : Int) ≤ (dg : Int) + 1) = true := decide_eq_true (by omega)
              have f4 : decide (1 ≤ j) = true := decide_eq_true hj1
              have f5 : decide (j ≤ l.length) = true := decide_eq_true hjn
              have f6 : decide (q.length ≤ dg + 1) = true := decide_eq_true hql
              have E2 := Lib.hid e2
              have HJN := Lib.hid hjn
              have HJ1 := Lib.hid hj1
              have HR1 := Lib.hid hR1
              have HQL := Lib.hid (show q.length ≤ 4096 by have := H70.out; have := HDL.out; omega)
              have hdl70 : (dg : Int) ≤ 70 := by have := HDL.out; have := H70.out; omega
              clear e2 hjn hj1 hqe hR1 hql hm
              go_wp2_with (first
                | (go_at_call 36; refine (prove_i _ l j w5 HLE.out HS5.out HG5.out).mono ?_; rintro e w6 ⟨⟨v6, rfl, hv6⟩, hb6⟩; rw [← HB2.out]; rw [← HQ.out] at hv6; obtain ⟨qa, qc, rfl, _⟩ := hv6.form; have hw6 := hw5.trans (hb6.mono hw5.size); have HS6 := Lib.hid (HS5.out.below hb6); have HG6 := Lib.hid (HG5.out.below hb6); have H76 := Lib.hid (H75.out.below hb6 H75.out.lt); have HV6 := Lib.hid hv6; clear hv6 hb6)
                | fail)
              obtain ⟨a1, c1, hs1, hh1⟩ := hs_head HS6.out j HJN.out
              have HH1 := Lib.hid hh1
              have l76 := H76.out.lt
              clear hh1
              refine wp_region_mono 21 (w6.heap.size) [(fun v _ => v = .bool true), (fun v _ => v = .bool false), (fun v _ => v = .bool false), (fun v _ => v = .int .i64 j), (fun v _ => v = .slice (some ⟨lb, lo, none⟩) l.length ca), (fun v _ => v = .int .i64 l.length), (fun v _ => v = .slice (some ⟨lb, lo, none⟩) l.length ca), (fun v _ => v = .int .i64 j), (fun v _ => v = .slice a1 j c1), (fun v _ => v = .agg (bytesV R1.b).toArray), (fun v _ => v = .agg (bytesV R.b).toArray), (fun v _ => v = .slice qa q.length qc), (fun v _ => v = .bool true), (fun v _ => v = .bool true), (fun v _ => v = .slice qa q.length qc), (fun v _ => v = .int .i64 q.length), (fun v _ => v = .int .i64 dg), (fun v _ => v = .int .i64 ((dg : Int) + 1)), (fun v _ => v = .bool true), (fun v _ => v = .bool true), (fun v _ => v = .bool true)] (by kernel_rfl) (by kernel_rfl) (Nat.le_refl _) ?mkept _ rfl ?mops ?mfin
              case mkept =>
                repeat (refine List.forall_mem_cons.2 ⟨by first | exact fun _ _ _ _ h => h | exact fun _ _ _ hb h => Parts.below h hb | exact fun _ _ _ hb h => IsSl.below h hb, ?_⟩)
                exact fun _ h => by cases h
              case mops =>
                simp only [List.take_succ_cons, List.take_zero, monoAll, List.getD_cons_zero, List.getD_cons_succ]
                iterate 21
                
                 (refine ⟨fun x wr hb hd Qg hK => ?_, ?_⟩
                  · as_aux_lemma =>
                    simp only [fill, Act.put, List.setIfInBounds_toArray, List.set_cons_succ, List.set_cons_zero, needs, Region.binds, List.filter_cons, List.filter_nil, List.map_cons, List.map_nil, if_true, List.mem_cons, List.not_mem_nil, or_false, forall_eq_or_imp, forall_eq, List.getD_cons_zero, List.getD_cons_succ, false_implies, implies_true] at hd hK ⊢
                    (try simp only [hd] at hK ⊢)
                    first
                    | (have hBr := H76.out.below hb (l76); refine wpList_load_rowIf rfl 24 (.tmp 7) rfl _ rfl 24 (bytesV R.b).toArray (0, 0) _ (by exact hBr) Tryd.underlying24 rfl (hv_row R) ?_; exact hK _ _ rfl (Below.refl _ _))
                    | (show wpList _ _ _ [⟨some 92, .call _, _, _, _, _⟩] _ _; go_wp2_with (go_at_call 32; refine (root_any j _ (l.take j) wr (by rw [List.length_take, Nat.min_eq_left HJN.out]) (Nat.le_trans HJN.out HLE.out) (HH1.out.below hb) (HG6.out.below hb)).mono ?_; rintro e w5 ⟨rfl, hb5⟩); exact hK _ _ (by rw [← HR1.out]; rfl) hb5)
                    | (show wpList _ _ _ [⟨some 95, .call _, _, _, _, _⟩] _ _; go_wp2_with (go_at_call 44; refine (begins_any wr R1 R j l.length _ q (HV6.out.below hb) HQL.out (HG6.out.below hb)).mono ?_; rintro e w5 ⟨rfl, hb5⟩); exact hK _ _ (by rw [E2.out]) hb5)
                    | (go_wp2_with fail; exact hK _ _ rfl (Below.refl _ _)))
                trivial
              case mfin =>
                intro x w8 hb8 hR8
                have xl := hR8 20 (by decide)
                simp only [List.getD_cons_zero, List.getD_cons_succ] at xl
                have hw8 := hw6.trans (hb8.mono hw6.size)
                clear hR8 hb8
                simp only [List.drop_succ_cons, List.drop_zero]
                generalize List.toArray _ = L0
                simp only [List.take_succ_cons, List.take_zero, List.map_cons, List.map_nil, fill, Act.put, List.setIfInBounds_toArray, List.set_cons_succ, List.set_cons_zero, xl]
                clear xl
                go_wp2_with fail
                go_ret
                exact ⟨rfl, hw8⟩
            by_cases hm1 : m < 1
            · obtain rfl : b2 = false := by rw [HB2.out]; exact decide_eq_false (by omega)
              have f1 : decide ((1 : Int) ≤ m) = false := decide_eq_false (by omega)
              clear hm hm1
              go_wp2_with (first
                | (go_at_call 36; refine (prove_i _ l m w5 HLE.out HS5.out HG5.out).mono ?_; rintro e w6 ⟨⟨v6, rfl, hv6⟩, hb6⟩; rw [← HB2.out]; rw [← HQ.out] at hv6; obtain ⟨qa, qc, rfl, _⟩ := hv6.form; have hw6 := hw5.trans (hb6.mono hw5.size); have HS6 := Lib.hid (HS5.out.below hb6); have HG6 := Lib.hid (HG5.out.below hb6); have H76 := Lib.hid (H75.out.below hb6 H75.out.lt); have HV6 := Lib.hid hv6; clear hv6 hb6)
                | fail)
              refine wp_region_mono 21 (w6.heap.size) [(fun v _ => v = .bool false), (fun v _ => v = .bool true), (fun v _ => v = .bool true), (fun v _ => v = undef), (fun v _ => v = undef), (fun v _ => v = undef), (fun v _ => v = undef), (fun v _ => v = undef), (fun v _ => v = undef), (fun v _ => v = undef), (fun v _ => v = undef), (fun v _ => v = undef), (fun v _ => v = undef), (fun v _ => v = undef), (fun v _ => v = undef), (fun v _ => v = undef), (fun v _ => v = undef), (fun v _ => v = undef), (fun v _ => v = undef), (fun v _ => v = undef), (fun v _ => v = .bool true)] (by kernel_rfl) (by kernel_rfl) (Nat.le_refl _) ?mkept _ rfl ?mops ?mfin
              case mkept =>
                repeat (refine List.forall_mem_cons.2 ⟨by first | exact fun _ _ _ _ h => h | exact fun _ _ _ hb h => Parts.below h hb | exact fun _ _ _ hb h => IsSl.below h hb, ?_⟩)
                exact fun _ h => by cases h
              case mops =>
                simp only [List.take_succ_cons, List.take_zero, monoAll, List.getD_cons_zero, List.getD_cons_succ]
                iterate 21
                 (refine ⟨fun x wr hb hd Qg hK => ?_, ?_⟩
                  · as_aux_lemma =>
                    simp only [fill, Act.put, List.setIfInBounds_toArray, List.set_cons_succ, List.set_cons_zero, needs, Region.binds, List.filter_cons, List.filter_nil, List.map_cons, List.map_nil, if_true, List.mem_cons, List.not_mem_nil, or_false, forall_eq_or_imp, forall_eq, List.getD_cons_zero, List.getD_cons_succ, false_implies, implies_true] at hd hK ⊢
                    (try simp only [hd] at hK ⊢)
                    first
                    | (fail)
                    | (go_wp2_with fail; exact hK _ _ rfl (Below.refl _ _)))
                trivial
              case mfin =>
                intro x w8 hb8 hR8
                have xl := hR8 20 (by decide)
                simp only [List.getD_cons_zero, List.getD_cons_succ] at xl
                have hw8 := hw6.trans (hb8.mono hw6.size)
                clear hR8 hb8
                simp only [List.drop_succ_cons, List.drop_zero]
                generalize List.toArray _ = L0
                simp only [List.take_succ_cons, List.take_zero, List.map_cons, List.map_nil, fill, Act.put, List.setIfInBounds_toArray, List.set_cons_succ, List.set_cons_zero, xl]
                clear xl
                go_wp2_with fail
                go_ret
                exact ⟨rfl, hw8⟩
            · obtain rfl : b2 = false := by rw [HB2.out]; exact decide_eq_false (by omega)
              have f1 : decide ((1 : Int) ≤ m) = true := decide_eq_true (by omega)
              have f2 : decide ((m : Int) ≤ l.length) = false := decide_eq_false (by omega)
              clear hm hm1
              go_wp2_with (first
                | (go_at_call 36; refine (prove_i _ l m w5 HLE.out HS5.out HG5.out).mono ?_; rintro e w6 ⟨⟨v6, rfl, hv6⟩, hb6⟩; rw [← HB2.out]; rw [← HQ.out] at hv6; obtain ⟨qa, qc, rfl, _⟩ := hv6.form; have hw6 := hw5.trans (hb6.mono hw5.size); have HS6 := Lib.hid (HS5.out.below hb6); have HG6 := Lib.hid (HG5.out.below hb6); have H76 := Lib.hid (H75.out.below hb6 H75.out.lt); have HV6 := Lib.hid hv6; clear hv6 hb6)
                | fail)
              refine wp_region_mono 21 (w6.heap.size) [(fun v _ => v = .bool false), (fun v _ => v = .bool true), (fun v _ => v = .bool true), (fun v _ => v = undef), (fun v _ => v = undef), (fun v _ => v = undef), (fun v _ => v = undef), (fun v _ => v = undef), (fun v _ => v = undef), (fun v _ => v = undef), (fun v _ => v = undef), (fun v _ => v = undef), (fun v _ => v = undef), (fun v _ => v = undef), (fun v _ => v = undef), (fun v _ => v = undef), (fun v _ => v = undef), (fun v _ => v = undef), (fun v _ => v = undef), (fun v _ => v = undef), (fun v _ => v = .bool true)] (by kernel_rfl) (by kernel_rfl) (Nat.le_refl _) ?mkept _ rfl ?mops ?mfin
              case mkept =>
                repeat (refine List.forall_mem_cons.2 ⟨by first | exact fun _ _ _ _ h => h | exact fun _ _ _ hb h => Parts.below h hb | exact fun _ _ _ hb h => IsSl.below h hb, ?_⟩)
                exact fun _ h => by cases h
              case mops =>
                simp only [List.take_succ_cons, List.take_zero, monoAll, List.getD_cons_zero, List.getD_cons_succ]
                iterate 21
                 (refine ⟨fun x wr hb hd Qg hK => ?_, ?_⟩
                  · as_aux_lemma =>
                    simp only [fill, Act.put, List.setIfInBounds_toArray, List.set_cons_succ, List.set_cons_zero, needs, Region.binds, List.filter_cons, List.filter_nil, List.map_cons, List.map_nil, if_true, List.mem_cons, List.not_mem_nil, or_false, forall_eq_or_imp, forall_eq, List.getD_cons_zero, List.getD_cons_succ, false_implies, implies_true] at hd hK ⊢
                    (try simp only [hd] at hK ⊢)
                    first
                    | (fail)
                    | (go_wp2_with fail; exact hK _ _ rfl (Below.refl _ _)))
                trivial
              case mfin =>
                intro x w8 hb8 hR8
                have xl := hR8 20 (by decide)
                simp only [List.getD_cons_zero, List.getD_cons_succ] at xl
                have hw8 := hw6.trans (hb8.mono hw6.size)
                clear hR8 hb8
                simp only [List.drop_succ_cons, List.drop_zero]
                generalize List.toArray _ = L0
                simp only [List.take_succ_cons, List.take_zero, List.map_cons, List.map_nil, fill, Act.put, List.setIfInBounds_toArray, List.set_cons_succ, List.set_cons_zero, xl]
                clear xl
                go_wp2_with fail
                go_ret
                exact ⟨rfl, hw8⟩
        by_cases hi1 : i < 0
        · obtain rfl : b1 = false := by rw [HB1.out]; exact decide_eq_false (by omega)
          have f1 : decide ((0 : Int) ≤ i) = false := decide_eq_false (by omega)
          clear hi hi1
          go_wp2_with fail
          refine wp_region_mono 32 (w3.heap.size) [(fun v _ => v = .bool false), (fun v _ => v = .int .i64 i), (fun v _ => v = .bool false), (fun v _ => v = .bool false), (fun v _ => v = undef), (fun v _ => v = undef), (fun v _ => v = undef), (fun v _ => v = undef), (fun v _ => v = .bool false), (fun v _ => v = .bool false), (fun v _ => v = .bool false), (fun v _ => v = .bool false), (fun v _ => v = .bool false), (fun v _ => v = undef), (fun v _ => v = undef), (fun v _ => v = undef), (fun v _ => v = undef), (fun v _ => v = undef), (fun v _ => v = undef), (fun v _ => v = undef), (fun v _ => v = undef), (fun v _ => v = undef), (fun v _ => v = undef), (fun v _ => v = undef), (fun v _ => v = undef), (fun v _ => v = undef), (fun v _ => v = undef), (fun v _ => v = undef), (fun v _ => v = undef), (fun v _ => v = undef), (fun v _ => v = .bool false), (fun v _ => v = .bool false)] (by kernel_rfl) (by kernel_rfl) (Nat.le_refl _) ?mkept _ rfl ?mops ?mfin
          case mkept =>
            repeat (refine List.forall_mem_cons.2 ⟨by first | exact fun _ _ _ _ h => h | exact fun _ _ _ hb h => Parts.below h hb | exact fun _ _ _ hb h => IsSl.below h hb, ?_⟩)
            exact fun _ h => by cases h
          case mops =>
            simp only [List.take_succ_cons, List.take_zero, monoAll, List.getD_cons_zero, List.getD_cons_succ]
            iterate 32
             (refine ⟨fun x wr hb hd Qg hK => ?_, ?_⟩
              · as_aux_lemma =>
                simp only [fill, Act.put, List.setIfInBounds_toArray, List.set_cons_succ, List.set_cons_zero, needs, Region.binds, List.filter_cons, List.filter_nil, List.map_cons, List.map_nil, if_true, List.mem_cons, List.not_mem_nil, or_false, forall_eq_or_imp, forall_eq, List.getD_cons_zero, List.getD_cons_succ, false_implies, implies_true] at hd hK ⊢
                (try simp only [hd] at hK ⊢)
                first
                | (fail)
                | (go_wp2_with fail; exact hK _ _ rfl (Below.refl _ _)))
            trivial
          case mfin =>
            intro x w5 hb5 hR5
            have xl := hR5 31 (by decide)
            simp only [List.getD_cons_zero, List.getD_cons_succ] at xl
            have hw5 := hw3.trans (hb5.mono hw3.size)
            have HS5 := Lib.hid (HS3.out.below hb5)
            have HG5 := Lib.hid (HG3.out.below hb5)
            have H75 := Lib.hid (H73.out.below hb5 H73.out.lt)
            clear hR5 hb5
            simp only [List.drop_succ_cons, List.drop_zero]
            generalize List.toArray _ = L0
            simp only [List.take_succ_cons, List.take_zero, List.map_cons, List.map_nil, fill, Act.put, List.setIfInBounds_toArray, List.set_cons_succ, List.set_cons_zero, xl]
            clear xl f1
            by_cases hm : 1 ≤ m ∧ m ≤ l.length
            · obtain ⟨j, rfl⟩ : ∃ j : Nat, m = j := ⟨m.toNat, by omega⟩
              obtain rfl : b2 = true := by rw [HB2.out]; exact decide_eq_true hm
              have hjn : j ≤ l.length := by omega
              have hj1 : 1 ≤ j := by omega
              have hqe : q = subN ndH e0H l j true := by rw [HQ.out]; unfold subR; rw [if_pos hm]; rfl
              obtain ⟨R1, hR1⟩ : ∃ R, R = rootN ndH e0H (l.take j) := ⟨_, rfl⟩
              have e2 : begR j l.length R1 R q = true := by rw [hqe, hR1, HR.out]; exact beg_sub l j hj1 hjn (by have := H70.out; omega)
              have hql : q.length ≤ dg + 1 := by rw [hqe, HDG.out]; exact sub_digits l j hj1 hjn
              have f1 : decide ((1 : Int) ≤ j) = true := decide_eq_true (by omega)
              have f2 : decide ((j : Int) ≤ l.length) = true := decide_eq_true (by omega)
              have f3 : decide ((q.length : Int) ≤ (dg : Int) + 1) = true := decide_eq_true (by omega)
              have f4 : decide (1 ≤ j) = true := decide_eq_true hj1
              have f5 : decide (j ≤ l.length) = true := decide_eq_true hjn
              have f6 : decide (q.length ≤ dg + 1) = true := decide_eq_true hql
              have E2 := Lib.hid e2
              have HJN := Lib.hid hjn
              have HJ1 := Lib.hid hj1
              have HR1 := Lib.hid hR1
              have HQL := Lib.hid (show q.length ≤ 4096 by have := H70.out; have := HDL.out; omega)
              have hdl70 : (dg : Int) ≤ 70 := by have := HDL.out; have := H70.out; omega
              clear e2 hjn hj1 hqe hR1 hql hm
              go_wp2_with (first
                | (go_at_call 36; refine (prove_i _ l j w5 HLE.out HS5.out HG5.out).mono ?_; rintro e w6 ⟨⟨v6, rfl, hv6⟩, hb6⟩; rw [← HB2.out]; rw [← HQ.out] at hv6; obtain ⟨qa, qc, rfl, _⟩ := hv6.form; have hw6 := hw5.trans (hb6.mono hw5.size); have HS6 := Lib.hid (HS5.out.below hb6); have HG6 := Lib.hid (HG5.out.below hb6); have H76 := Lib.hid (H75.out.below hb6 H75.out.lt); have HV6 := Lib.hid hv6; clear hv6 hb6)
                | fail)
              obtain ⟨a1, c1, hs1, hh1⟩ := hs_head HS6.out j HJN.out
              have HH1 := Lib.hid hh1
              have l76 := H76.out.lt
              clear hh1
              refine wp_region_mono 21 (w6.heap.size) [(fun v _ => v = .bool true), (fun v _ => v = .bool false), (fun v _ => v = .bool false), (fun v _ => v = .int .i64 j), (fun v _ => v = .slice xa l.length ca), (fun v _ => v = .int .i64 l.length), (fun v _ => v = .slice xa l.length ca), (fun v _ => v = .int .i64 j), (fun v _ => v = .slice a1 j c1), (fun v _ => v = .agg (bytesV R1.b).toArray), (fun v _ => v = .agg (bytesV R.b).toArray), (fun v _ => v = .slice qa q.length qc), (fun v _ => v = .bool true), (fun v _ => v = .bool true), (fun v _ => v = .slice qa q.length qc), (fun v _ => v = .int .i64 q.length), (fun v _ => v = .int .i64 dg), (fun v _ => v = .int .i64 ((dg : Int) + 1)), (fun v _ => v = .bool true), (fun v _ => v = .bool true), (fun v _ => v = .bool true)] (by kernel_rfl) (by kernel_rfl) (Nat.le_refl _) ?mkept _ rfl ?mops ?mfin
              case mkept =>
                repeat (refine List.forall_mem_cons.2 ⟨by first | exact fun _ _ _ _ h => h | exact fun _ _ _ hb h => Parts.below h hb | exact fun _ _ _ hb h => IsSl.below h hb, ?_⟩)
                exact fun _ h => by cases h
              case mops =>
                simp only [List.take_succ_cons, List.take_zero, monoAll, List.getD_cons_zero, List.getD_cons_succ]
                iterate 21
                
                 (refine ⟨fun x wr hb hd Qg hK => ?_, ?_⟩
                  · as_aux_lemma =>
                    simp only [fill, Act.put, List.setIfInBounds_toArray, List.set_cons_succ, List.set_cons_zero, needs, Region.binds, List.filter_cons, List.filter_nil, List.map_cons, List.map_nil, if_true, List.mem_cons, List.not_mem_nil, or_false, forall_eq_or_imp, forall_eq, List.getD_cons_zero, List.getD_cons_succ, false_implies, implies_true] at hd hK ⊢
                    (try simp only [hd] at hK ⊢)
                    first
                    | (have hBr := H76.out.below hb (l76); refine wpList_load_rowIf rfl 24 (.tmp 7) rfl _ rfl 24 (bytesV R.b).toArray (0, 0) _ (by exact hBr) Tryd.underlying24 rfl (hv_row R) ?_; exact hK _ _ rfl (Below.refl _ _))
                    | (show wpList _ _ _ [⟨some 92, .call _, _, _, _, _⟩] _ _; go_wp2_with (go_at_call 32; refine (root_any j _ (l.take j) wr (by rw [List.length_take, Nat.min_eq_left HJN.out]) (Nat.le_trans HJN.out HLE.out) (HH1.out.below hb) (HG6.out.below hb)).mono ?_; rintro e w5 ⟨rfl, hb5⟩); exact hK _ _ (by rw [← HR1.out]; rfl) hb5)
                    | (show wpList _ _ _ [⟨some 95, .call _, _, _, _, _⟩] _ _; go_wp2_with (go_at_call 44; refine (begins_any wr R1 R j l.length _ q (HV6.out.below hb) HQL.out (HG6.out.below hb)).mono ?_; rintro e w5 ⟨rfl, hb5⟩); exact hK _ _ (by rw [E2.out]) hb5)
                    | (go_wp2_with fail; exact hK _ _ rfl (Below.refl _ _)))
                trivial
              case mfin =>
                intro x w8 hb8 hR8
                have xl := hR8 20 (by decide)
                simp only [List.getD_cons_zero, List.getD_cons_succ] at xl
                have hw8 := hw6.trans (hb8.mono hw6.size)
                clear hR8 hb8
                simp only [List.drop_succ_cons, List.drop_zero]
                generalize List.toArray _ = L0
                simp only [List.take_succ_cons, List.take_zero, List.map_cons, List.map_nil, fill, Act.put, List.setIfInBounds_toArray, List.set_cons_succ, List.set_cons_zero, xl]
                clear xl
                go_wp2_with fail
                go_ret
                exact ⟨rfl, hw8⟩
            by_cases hm1 : m < 1
            · obtain rfl : b2 = false := by rw [HB2.out]; exact decide_eq_false (by omega)
              have f1 : decide ((1 : Int) ≤ m) = false := decide_eq_false (by omega)
              clear hm hm1
              go_wp2_with (first
                | (go_at_call 36; refine (prove_i _ l m w5 HLE.out HS5.out HG5.out).mono ?_; rintro e w6 ⟨⟨v6, rfl, hv6⟩, hb6⟩; rw [← HB2.out]; rw [← HQ.out] at hv6; obtain ⟨qa, qc, rfl, _⟩ := hv6.form; have hw6 := hw5.trans (hb6.mono hw5.size); have HS6 := Lib.hid (HS5.out.below hb6); have HG6 := Lib.hid (HG5.out.below hb6); have H76 := Lib.hid (H75.out.below hb6 H75.out.lt); have HV6 := Lib.hid hv6; clear hv6 hb6)
                | fail)
              refine wp_region_mono 21 (w6.heap.size) [(fun v _ => v = .bool false), (fun v _ => v = .bool true), (fun v _ => v = .bool true), (fun v _ => v = undef), (fun v _ => v = undef), (fun v _ => v = undef), (fun v _ => v = undef), (fun v _ => v = undef), (fun v _ => v = undef), (fun v _ => v = undef), (fun v _ => v = undef), (fun v _ => v = undef), (fun v _ => v = undef), (fun v _ => v = undef), (fun v _ => v = undef), (fun v _ => v = undef), (fun v _ => v = undef), (fun v _ => v = undef), (fun v _ => v = undef), (fun v _ => v = undef), (fun v _ => v = .bool true)] (by kernel_rfl) (by kernel_rfl) (Nat.le_refl _) ?mkept _ rfl ?mops ?mfin
              case mkept =>
                repeat (refine List.forall_mem_cons.2 ⟨by first | exact fun _ _ _ _ h => h | exact fun _ _ _ hb h => Parts.below h hb | exact fun _ _ _ hb h => IsSl.below h hb, ?_⟩)
                exact fun _ h => by cases h
              case mops =>
                simp only [List.take_succ_cons, List.take_zero, monoAll, List.getD_cons_zero, List.getD_cons_succ]
                iterate 21
                 (refine ⟨fun x wr hb hd Qg hK => ?_, ?_⟩
                  · as_aux_lemma =>
                    simp only [fill, Act.put, List.setIfInBounds_toArray, List.set_cons_succ, List.set_cons_zero, needs, Region.binds, List.filter_cons, List.filter_nil, List.map_cons, List.map_nil, if_true, List.mem_cons, List.not_mem_nil, or_false, forall_eq_or_imp, forall_eq, List.getD_cons_zero, List.getD_cons_succ, false_implies, implies_true] at hd hK ⊢
                    (try simp only [hd] at hK ⊢)
                    first
                    | (fail)
                    | (go_wp2_with fail; exact hK _ _ rfl (Below.refl _ _)))
                trivial
              case mfin =>
                intro x w8 hb8 hR8
                have xl := hR8 20 (by decide)
                simp only [List.getD_cons_zero, List.getD_cons_succ] at xl
                have hw8 := hw6.trans (hb8.mono hw6.size)
                clear hR8 hb8
                simp only [List.drop_succ_cons, List.drop_zero]
                generalize List.toArray _ = L0
                simp only [List.take_succ_cons, List.take_zero, List.map_cons, List.map_nil, fill, Act.put, List.setIfInBounds_toArray, List.set_cons_succ, List.set_cons_zero, xl]
                clear xl
                go_wp2_with fail
                go_ret
                exact ⟨rfl, hw8⟩
            · obtain rfl : b2 = false := by rw [HB2.out]; exact decide_eq_false (by omega)
              have f1 : decide ((1 : Int) ≤ m) = true := decide_eq_true (by omega)
              have f2 : decide ((m : Int) ≤ l.length) = false := decide_eq_false (by omega)
              clear hm hm1
              go_wp2_with (first
                | (go_at_call 36; refine (prove_i _ l m w5 HLE.out HS5.out HG5.out).mono ?_; rintro e w6 ⟨⟨v6, rfl, hv6⟩, hb6⟩; rw [← HB2.out]; rw [← HQ.out] at hv6; obtain ⟨qa, qc, rfl, _⟩ := hv6.form; have hw6 := hw5.trans (hb6.mono hw5.size); have HS6 := Lib.hid (HS5.out.below hb6); have HG6 := Lib.hid (HG5.out.below hb6); have H76 := Lib.hid (H75.out.below hb6 H75.out.lt); have HV6 := Lib.hid hv6; clear hv6 hb6)
                | fail)
              refine wp_region_mono 21 (w6.heap.size) [(fun v _ => v = .bool false), (fun v _ => v = .bool true), (fun v _ => v = .bool true), (fun v _ => v = undef), (fun v _ => v = undef), (fun v _ => v = undef), (fun v _ => v = undef), (fun v _ => v = undef), (fun v _ => v = undef), (fun v _ => v = undef), (fun v _ => v = undef), (fun v _ => v = undef), (fun v _ => v = undef), (fun v _ => v = undef), (fun v _ => v = undef), (fun v _ => v = undef), (fun v _ => v = undef), (fun v _ => v = undef), (fun v _ => v = undef), (fun v _ => v = undef), (fun v _ => v = .bool true)] (by kernel_rfl) (by kernel_rfl) (Nat.le_refl _) ?mkept _ rfl ?mops ?mfin
              case mkept =>
                repeat (refine List.forall_mem_cons.2 ⟨by first | exact fun _ _ _ _ h => h | exact fun _ _ _ hb h => Parts.below h hb | exact fun _ _ _ hb h => IsSl.below h hb, ?_⟩)
                exact fun _ h => by cases h
              case mops =>
                simp only [List.take_succ_cons, List.take_zero, monoAll, List.getD_cons_zero, List.getD_cons_succ]
                iterate 21
                 (refine ⟨fun x wr hb hd Qg hK => ?_, ?_⟩
                  · as_aux_lemma =>
                    simp only [fill, Act.put, List.setIfInBounds_toArray, List.set_cons_succ, List.set_cons_zero, needs, Region.binds, List.filter_cons, List.filter_nil, List.map_cons, List.map_nil, if_true, List.mem_cons, List.not_mem_nil, or_false, forall_eq_or_imp, forall_eq, List.getD_cons_zero, List.getD_cons_succ, false_implies, implies_true] at hd hK ⊢
                    (try simp only [hd] at hK ⊢)
                    first
                    | (fail)
                    | (go_wp2_with fail; exact hK _ _ rfl (Below.refl _ _)))
                trivial
              case mfin =>
                intro x w8 hb8 hR8
                have xl := hR8 20 (by decide)
                simp only [List.getD_cons_zero, List.getD_cons_succ] at xl
                have hw8 := hw6.trans (hb8.mono hw6.size)
                clear hR8 hb8
                simp only [List.drop_succ_cons, List.drop_zero]
                generalize List.toArray _ = L0
                simp only [List.take_succ_cons, List.take_zero, List.map_cons, List.map_nil, fill, Act.put, List.setIfInBounds_toArray, List.set_cons_succ, List.set_cons_zero, xl]
                clear xl
                go_wp2_with fail
                go_ret
                exact ⟨rfl, hw8⟩
        · obtain rfl : b1 = false := by rw [HB1.out]; exact decide_eq_false (by omega)
          have f1 : decide ((0 : Int) ≤ i) = true := decide_eq_true (by omega)
          have f2 : decide ((i : Int) < l.length) = false := decide_eq_false (by omega)
          clear hi hi1
          go_wp2_with fail
          refine wp_region_mono 32 (w3.heap.size) [(fun v _ => v = .bool false), (fun v _ => v = .int .i64 i), (fun v _ => v = .bool true), (fun v _ => v = .bool true), (fun v _ => v = .int .i64 i), (fun v _ => v = .slice xa l.length ca), (fun v _ => v = .int .i64 l.length), (fun v _ => v = .bool false), (fun v _ => v = .bool false), (fun v _ => v = .bool false), (fun v _ => v = .bool false), (fun v _ => v = .bool false), (fun v _ => v = .bool false), (fun v _ => v = undef), (fun v _ => v = undef), (fun v _ => v = undef), (fun v _ => v = undef), (fun v _ => v = undef), (fun v _ => v = undef), (fun v _ => v = undef), (fun v _ => v = undef), (fun v _ => v = undef), (fun v _ => v = undef), (fun v _ => v = undef), (fun v _ => v = undef), (fun v _ => v = undef), (fun v _ => v = undef), (fun v _ => v = undef), (fun v _ => v = undef), (fun v _ => v = undef), (fun v _ => v = .bool false), (fun v _ => v = .bool false)] (by kernel_rfl) (by kernel_rfl) (Nat.le_refl _) ?mkept _ rfl ?mops ?mfin
          case mkept =>
            repeat (refine List.forall_mem_cons.2 ⟨by first | exact fun _ _ _ _ h => h | exact fun _ _ _ hb h => Parts.below h hb | exact fun _ _ _ hb h => IsSl.below h hb, ?_⟩)
            exact fun _ h => by cases h
          case mops =>
            simp only [List.take_succ_cons, List.take_zero, monoAll, List.getD_cons_zero, List.getD_cons_succ]
            iterate 32
             (refine ⟨fun x wr hb hd Qg hK => ?_, ?_⟩
              · as_aux_lemma =>
                simp only [fill, Act.put, List.setIfInBounds_toArray, List.set_cons_succ, List.set_cons_zero, needs, Region.binds, List.filter_cons, List.filter_nil, List.map_cons, List.map_nil, if_true, List.mem_cons, List.not_mem_nil, or_false, forall_eq_or_imp, forall_eq, List.getD_cons_zero, List.getD_cons_succ, false_implies, implies_true] at hd hK ⊢
                (try simp only [hd] at hK ⊢)
                first
                | (fail)
                | (go_wp2_with fail; exact hK _ _ rfl (Below.refl _ _)))
            trivial
          case mfin =>
            intro x w5 hb5 hR5
            have xl := hR5 31 (by decide)
            simp only [List.getD_cons_zero, List.getD_cons_succ] at xl
            have hw5 := hw3.trans (hb5.mono hw3.size)
            have HS5 := Lib.hid (HS3.out.below hb5)
            have HG5 := Lib.hid (HG3.out.below hb5)
            have H75 := Lib.hid (H73.out.below hb5 H73.out.lt)
            clear hR5 hb5
            simp only [List.drop_succ_cons, List.drop_zero]
            generalize List.toArray _ = L0
            simp only [List.take_succ_cons, List.take_zero, List.map_cons, List.map_nil, fill, Act.put, List.setIfInBounds_toArray, List.set_cons_succ, List.set_cons_zero, xl]
            clear xl f1 f2
            by_cases hm : 1 ≤ m ∧ m ≤ l.length
            · obtain ⟨j, rfl⟩ : ∃ j : Nat, m = j := ⟨m.toNat, by omega⟩
              obtain rfl : b2 = true := by rw [HB2.out]; exact decide_eq_true hm
              have hjn : j ≤ l.length := by omega
              have hj1 : 1 ≤ j := by omega
              have hqe : q = subN ndH e0H l j true := by rw [HQ.out]; unfold subR; rw [if_pos hm]; rfl
              obtain ⟨R1, hR1⟩ : ∃ R, R = rootN ndH e0H (l.take j) := ⟨_, rfl⟩
              have e2 : begR j l.length R1 R q = true := by rw [hqe, hR1, HR.out]; exact beg_sub l j hj1 hjn (by have := H70.out; omega)
              have hql : q.length ≤ dg + 1 := by rw [hqe, HDG.out]; exact sub_digits l j hj1 hjn
              have f1 : decide ((1 : Int) ≤ j) = true := decide_eq_true (by omega)
              have f2 : decide ((j : Int) ≤ l.length) = true := decide_eq_true (by omega)
              have f3 : decide ((q.length : Int) ≤ (dg : Int) + 1) = true := decide_eq_true (by omega)
              have f4 : decide (1 ≤ j) = true := decide_eq_true hj1
              have f5 : decide (j ≤ l.length) = true := decide_eq_true hjn
              have f6 : decide (q.length ≤ dg + 1) = true := decide_eq_true hql
              have E2 := Lib.hid e2
              have HJN := Lib.hid hjn
              have HJ1 := Lib.hid hj1
              have HR1 := Lib.hid hR1
              have HQL := Lib.hid (show q.length ≤ 4096 by have := H70.out; have := HDL.out; omega)
              have hdl70 : (dg : Int) ≤ 70 := by have := HDL.out; have := H70.out; omega
              clear e2 hjn hj1 hqe hR1 hql hm
              go_wp2_with (first
                | (go_at_call 36; refine (prove_i _ l j w5 HLE.out HS5.out HG5.out).mono ?_; rintro e w6 ⟨⟨v6, rfl, hv6⟩, hb6⟩; rw [← HB2.out]; rw [← HQ.out] at hv6; obtain ⟨qa, qc, rfl, _⟩ := hv6.form; have hw6 := hw5.trans (hb6.mono hw5.size); have HS6 := Lib.hid (HS5.out.below hb6); have HG6 := Lib.hid (HG5.out.below hb6); have H76 := Lib.hid (H75.out.below hb6 H75.out.lt); have HV6 := Lib.hid hv6; clear hv6 hb6)
                | fail)
              obtain ⟨a1, c1, hs1, hh1⟩ := hs_head HS6.out j HJN.out
              have HH1 := Lib.hid hh1
              have l76 := H76.out.lt
              clear hh1
              refine wp_region_mono 21 (w6.heap.size) [(fun v _ => v = .bool true), (fun v _ => v = .bool false), (fun v _ => v = .bool false), (fun v _ => v = .int .i64 j), (fun v _ => v = .slice xa l.length ca), (fun v _ => v = .int .i64 l.length), (fun v _ => v = .slice xa l.length ca), (fun v _ => v = .int .i64 j), (fun v _ => v = .slice a1 j c1), (fun v _ => v = .agg (bytesV R1.b).toArray), (fun v _ => v = .agg (bytesV R.b).toArray), (fun v _ => v = .slice qa q.length qc), (fun v _ => v = .bool true), (fun v _ => v = .bool true), (fun v _ => v = .slice qa q.length qc), (fun v _ => v = .int .i64 q.length), (fun v _ => v = .int .i64 dg), (fun v _ => v = .int .i64 ((dg : Int) + 1)), (fun v _ => v = .bool true), (fun v _ => v = .bool true), (fun v _ => v = .bool true)] (by kernel_rfl) (by kernel_rfl) (Nat.le_refl _) ?mkept _ rfl ?mops ?mfin
              case mkept =>
                repeat (refine List.forall_mem_cons.2 ⟨by first | exact fun _ _ _ _ h => h | exact fun _ _ _ hb h => Parts.below h hb | exact fun _ _ _ hb h => IsSl.below h hb, ?_⟩)
                exact fun _ h => by cases h
              case mops =>
                simp only [List.take_succ_cons, List.take_zero, monoAll, List.getD_cons_zero, List.getD_cons_succ]
                iterate 21
                
                 (refine ⟨fun x wr hb hd Qg hK => ?_, ?_⟩
                  · as_aux_lemma =>
                    simp only [fill, Act.put, List.setIfInBounds_toArray, List.set_cons_succ, List.set_cons_zero, needs, Region.binds, List.filter_cons, List.filter_nil, List.map_cons, List.map_nil, if_true, List.mem_cons, List.not_mem_nil, or_false, forall_eq_or_imp, forall_eq, List.getD_cons_zero, List.getD_cons_succ, false_implies, implies_true] at hd hK ⊢
                    (try simp only [hd] at hK ⊢)
                    first
                    | (have hBr := H76.out.below hb (l76); refine wpList_load_rowIf rfl 24 (.tmp 7) rfl _ rfl 24 (bytesV R.b).toArray (0, 0) _ (by exact hBr) Tryd.underlying24 rfl (hv_row R) ?_; exact hK _ _ rfl (Below.refl _ _))
                    | (show wpList _ _ _ [⟨some 92, .call _, _, _, _, _⟩] _ _; go_wp2_with (go_at_call 32; refine (root_any j _ (l.take j) wr (by rw [List.length_take, Nat.min_eq_left HJN.out]) (Nat.le_trans HJN.out HLE.out) (HH1.out.below hb) (HG6.out.below hb)).mono ?_; rintro e w5 ⟨rfl, hb5⟩); exact hK _ _ (by rw [← HR1.out]; rfl) hb5)
                    | (show wpList _ _ _ [⟨some 95, .call _, _, _, _, _⟩] _ _; go_wp2_with (go_at_call 44; refine (begins_any wr R1 R j l.length _ q (HV6.out.below hb) HQL.out (HG6.out.below hb)).mono ?_; rintro e w5 ⟨rfl, hb5⟩); exact hK _ _ (by rw [E2.out]) hb5)
                    | (go_wp2_with fail; exact hK _ _ rfl (Below.refl _ _)))
                trivial
              case mfin =>
                intro x w8 hb8 hR8
                have xl := hR8 20 (by decide)
                simp only [List.getD_cons_zero, List.getD_cons_succ] at xl
                have hw8 := hw6.trans (hb8.mono hw6.size)
                clear hR8 hb8
                simp only [List.drop_succ_cons, List.drop_zero]
                generalize List.toArray _ = L0
                simp only [List.take_succ_cons, List.take_zero, List.map_cons, List.map_nil, fill, Act.put, List.setIfInBounds_toArray, List.set_cons_succ, List.set_cons_zero, xl]
                clear xl
                go_wp2_with fail
                go_ret
                exact ⟨rfl, hw8⟩
            by_cases hm1 : m < 1
            · obtain rfl : b2 = false := by rw [HB2.out]; exact decide_eq_false (by omega)
              have f1 : decide ((1 : Int) ≤ m) = false := decide_eq_false (by omega)
              clear hm hm1
              go_wp2_with (first
                | (go_at_call 36; refine (prove_i _ l m w5 HLE.out HS5.out HG5.out).mono ?_; rintro e w6 ⟨⟨v6, rfl, hv6⟩, hb6⟩; rw [← HB2.out]; rw [← HQ.out] at hv6; obtain ⟨qa, qc, rfl, _⟩ := hv6.form; have hw6 := hw5.trans (hb6.mono hw5.size); have HS6 := Lib.hid (HS5.out.below hb6); have HG6 := Lib.hid (HG5.out.below hb6); have H76 := Lib.hid (H75.out.below hb6 H75.out.lt); have HV6 := Lib.hid hv6; clear hv6 hb6)
                | fail)
              refine wp_region_mono 21 (w6.heap.size) [(fun v _ => v = .bool false), (fun v _ => v = .bool true), (fun v _ => v = .bool true), (fun v _ => v = undef), (fun v _ => v = undef), (fun v _ => v = undef), (fun v _ => v = undef), (fun v _ => v = undef), (fun v _ => v = undef), (fun v _ => v = undef), (fun v _ => v = undef), (fun v _ => v = undef), (fun v _ => v = undef), (fun v _ => v = undef), (fun v _ => v = undef), (fun v _ => v = undef), (fun v _ => v = undef), (fun v _ => v = undef), (fun v _ => v = undef), (fun v _ => v = undef), (fun v _ => v = .bool true)] (by kernel_rfl) (by kernel_rfl) (Nat.le_refl _) ?mkept _ rfl ?mops ?mfin
              case mkept =>
                repeat (refine List.forall_mem_cons.2 ⟨by first | exact fun _ _ _ _ h => h | exact fun _ _ _ hb h => Parts.below h hb | exact fun _ _ _ hb h => IsSl.below h hb, ?_⟩)
                exact fun _ h => by cases h
              case mops =>
                simp only [List.take_succ_cons, List.take_zero, monoAll, List.getD_cons_zero, List.getD_cons_succ]
                iterate 21
                 (refine ⟨fun x wr hb hd Qg hK => ?_, ?_⟩
                  · as_aux_lemma =>
                    simp only [fill, Act.put, List.setIfInBounds_toArray, List.set_cons_succ, List.set_cons_zero, needs, Region.binds, List.filter_cons, List.filter_nil, List.map_cons, List.map_nil, if_true, List.mem_cons, List.not_mem_nil, or_false, forall_eq_or_imp, forall_eq, List.getD_cons_zero, List.getD_cons_succ, false_implies, implies_true] at hd hK ⊢
                    (try simp only [hd] at hK ⊢)
                    first
                    | (fail)
                    | (go_wp2_with fail; exact hK _ _ rfl (Below.refl _ _)))
                trivial
              case mfin =>
                intro x w8 hb8 hR8
                have xl := hR8 20 (by decide)
                simp only [List.getD_cons_zero, List.getD_cons_succ] at xl
                have hw8 := hw6.trans (hb8.mono hw6.size)
                clear hR8 hb8
                simp only [List.drop_succ_cons, List.drop_zero]
                generalize List.toArray _ = L0
                simp only [List.take_succ_cons, List.take_zero, List.map_cons, List.map_nil, fill, Act.put, List.setIfInBounds_toArray, List.set_cons_succ, List.set_cons_zero, xl]
                clear xl
                go_wp2_with fail
                go_ret
                exact ⟨rfl, hw8⟩
            · obtain rfl : b2 = false := by rw [HB2.out]; exact decide_eq_false (by omega)
              have f1 : decide ((1 : Int) ≤ m) = true := decide_eq_true (by omega)
              have f2 : decide ((m : Int) ≤ l.length) = false := decide_eq_false (by omega)
              clear hm hm1
              go_wp2_with (first
                | (go_at_call 36; refine (prove_i _ l m w5 HLE.out HS5.out HG5.out).mono ?_; rintro e w6 ⟨⟨v6, rfl, hv6⟩, hb6⟩; rw [← HB2.out]; rw [← HQ.out] at hv6; obtain ⟨qa, qc, rfl, _⟩ := hv6.form; have hw6 := hw5.trans (hb6.mono hw5.size); have HS6 := Lib.hid (HS5.out.below hb6); have HG6 := Lib.hid (HG5.out.below hb6); have H76 := Lib.hid (H75.out.below hb6 H75.out.lt); have HV6 := Lib.hid hv6; clear hv6 hb6)
                | fail)
              refine wp_region_mono 21 (w6.heap.size) [(fun v _ => v = .bool false), (fun v _ => v = .bool true), (fun v _ => v = .bool true), (fun v _ => v = undef), (fun v _ => v = undef), (fun v _ => v = undef), (fun v _ => v = undef), (fun v _ => v = undef), (fun v _ => v = undef), (fun v _ => v = undef), (fun v _ => v = undef), (fun v _ => v = undef), (fun v _ => v = undef), (fun v _ => v = undef), (fun v _ => v = undef), (fun v _ => v = undef), (fun v _ => v = undef), (fun v _ => v = undef), (fun v _ => v = undef), (fun v _ => v = undef), (fun v _ => v = .bool true)] (by kernel_rfl) (by kernel_rfl) (Nat.le_refl _) ?mkept _ rfl ?mops ?mfin
              case mkept =>
                repeat (refine List.forall_mem_cons.2 ⟨by first | exact fun _ _ _ _ h => h | exact fun _ _ _ hb h => Parts.below h hb | exact fun _ _ _ hb h => IsSl.below h hb, ?_⟩)
                exact fun _ h => by cases h
              case mops =>
                simp only [List.take_succ_cons, List.take_zero, monoAll, List.getD_cons_zero, List.getD_cons_succ]
                iterate 21
                 (refine ⟨fun x wr hb hd Qg hK => ?_, ?_⟩
                  · as_aux_lemma =>
                    simp only [fill, Act.put, List.setIfInBounds_toArray, List.set_cons_succ, List.set_cons_zero, needs, Region.binds, List.filter_cons, List.filter_nil, List.map_cons, List.map_nil, if_true, List.mem_cons, List.not_mem_nil, or_false, forall_eq_or_imp, forall_eq, List.getD_cons_zero, List.getD_cons_succ, false_implies, implies_true] at hd hK ⊢
                    (try simp only [hd] at hK ⊢)
                    first
                    | (fail)
                    | (go_wp2_with fail; exact hK _ _ rfl (Below.refl _ _)))
                trivial
              case mfin =>
                intro x w8 hb8 hR8
                have xl := hR8 20 (by decide)
                simp only [List.getD_cons_zero, List.getD_cons_succ] at xl
                have hw8 := hw6.trans (hb8.mono hw6.size)
                clear hR8 hb8
                simp only [List.drop_succ_cons, List.drop_zero]
                generalize List.toArray _ = L0
                simp only [List.take_succ_cons, List.take_zero, List.map_cons, List.map_nil, fill, Act.put, List.setIfInBounds_toArray, List.set_cons_succ, List.set_cons_zero, xl]
                clear xl
                go_wp2_with fail
                go_ret
                exact ⟨rfl, hw8⟩
  · have h1 : (70 : Int) < l.length := by omega
    go_enter Tryd.func11, Tryd.ntmps11
    go_wp2_with (first
      | (go_at_call 33; refine (alive6_any w HG.out).mono ?_; rintro e w1 ⟨rfl, hw1⟩)
      | fail)
    go_ret
    exact ⟨rfl, hw1⟩
end Go.Proofs.YtkfplliipogagaaDoor
