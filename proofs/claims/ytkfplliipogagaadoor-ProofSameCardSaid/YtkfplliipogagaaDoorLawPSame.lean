/- The law ProofSame, walked: true, and nothing that was there has turned. Conditions: the list can be read; the package's tables read as they are laid. -/
import Derived.Test.YtkfplliipogagaaDoorAlive6
import Derived.Test.YtkfplliipogagaaDoorHoldP
import Derived.Test.YtkfplliipogagaaDoorPathW
namespace Go.Proofs.YtkfplliipogagaaDoor
open Go.RowKit

theorem comesR_set (l : List H) (k : Nat) (y : H) (hk : k < l.length) (hn : l.length ≤ 1048576) : comesR y k l.length (pathN ndH e0H l k) = some (rootN ndH e0H (l.set k y)) := by
  have h := comesR_path (l.set k y) k y (by rw [List.getElem?_set, if_pos rfl, if_pos hk]) (by simpa using hn)
  rw [pathN_set ndH e0H _ l k y rfl, List.length_set] at h
  exact h
theorem own_empty (w : World) : Own (w.alloc (.cells #[] 24)) w.heap.size (.slice (some ⟨w.heap.size, 0, none⟩) 0 0) [] := Own.fresh w [] rfl rfl (Nat.le_refl _) (by decide)
set_option maxRecDepth 100000 in
set_option maxHeartbeats 8000000 in
theorem psame_any (v : Value) (l : List H) (i : Int) (y0 : H) (w : World) (hs : Hs w v l) (hg : Glob w) :
    Calls Tryd.prog 13 #[v, .int .i64 i, hv y0] w fun e w' => e = .returned (.bool true) ∧ Below w.heap.size w w' := by
  obtain ⟨xa, ca, rfl, _⟩ := hs.form
  obtain ⟨w0, hw0⟩ : ∃ w0, w0 = w.alloc (.cells (bytesV y0.b).toArray 24) := ⟨_, rfl⟩
  have hbw : Below w.heap.size w w0 := by rw [hw0]; (repeat (first | with_reducible assumption | with_reducible exact Below.refl _ _ | ((with_reducible refine Below.setCell ?_ ?_ _); rotate_left; focus (first | omega | (simp; done) | (simp; omega))) | ((with_reducible refine Below.alloc ?_ ?_ _); rotate_left; focus (first | omega | (simp; done) | (simp; omega))) | ((with_reducible refine below_setRow ?_ ?_ _); rotate_left; focus (first | omega | (simp; done) | (simp; omega))) | (with_reducible refine below_drewN ?_ _) | (with_reducible refine Below.drew ?_)))
  have hs0 : w0.heap.size = w.heap.size + 1 := by rw [hw0]; simp
  have hY : Blk w0 w.heap.size (bytesV y0.b) 24 := by rw [hw0]; exact Blk.newL w _ _
  have HY0 := Lib.hid hY
  have HS0 := Lib.hid (hs.below hbw)
  have HG0 := Lib.hid (hg.below hbw)
  have HGw := Lib.hid hg
  have HW := Lib.hid hw0
  clear hY hs hg hw0
  by_cases hin : l.length ≤ 60 ∧ 0 ≤ i ∧ i < l.length
  · obtain ⟨h60, h2, h3⟩ := hin
    obtain ⟨k, rfl⟩ : ∃ k : Nat, i = k := ⟨i.toNat, by omega⟩
    have hk : k < l.length := by omega
    have g1 : ¬ ((60 : Int) < l.length) := by omega
    have g2 : ¬ ((k : Int) < 0) := by omega
    have g3 : ¬ ((l.length : Int) ≤ k) := by omega
    have hle : l.length ≤ 1099511627776 := by omega
    obtain ⟨x0, hx0⟩ : ∃ x0, l[k]? = some x0 := ⟨_, List.getElem?_eq_getElem hk⟩
    obtain ⟨R, hR⟩ : ∃ R, R = rootN ndH e0H l := ⟨_, rfl⟩
    obtain ⟨R2, hR2⟩ : ∃ R, R = rootN ndH e0H (l.set k y0) := ⟨_, rfl⟩
    obtain ⟨p, hp⟩ : ∃ p, p = pathN ndH e0H l k := ⟨_, rfl⟩
    have ea : comesR x0 k l.length p = some R := by rw [hp, hR]; exact comesR_path l k x0 hx0 (by omega)
    have eb : comesR y0 k l.length p = some R2 := by rw [hp, hR2]; exact comesR_set l k y0 hk (by omega)
    have ea1 : (comesR x0 k l.length p).getD z0H = R := by rw [ea]; rfl
    have ea2 : (comesR x0 k l.length p).isSome = true := by rw [ea]; rfl
    have eb1 : (comesR y0 k l.length p).getD z0H = R2 := by rw [eb]; rfl
    have eb2 : (comesR y0 k l.length p).isSome = true := by rw [eb]; rfl
    have hpl : p.length ≤ 4096 := by rw [hp]; have := path_len l k hk hle; omega
    obtain ⟨lb, lo, e1, _, hr, hlb⟩ := hs_block HS0.out (by omega)
    subst e1
    have hix : (0 : Int) ≤ k ∧ (k : Int) < l.length := ⟨h2, h3⟩
    have HE0 := Lib.hid (Hs.elem hr hx0)
    have HEA1 := Lib.hid ea1
    have HEA2 := Lib.hid ea2
    have HEB1 := Lib.hid eb1
    have HEB2 := Lib.hid eb2
    have HP := Lib.hid hp
    have HPL := Lib.hid hpl
    have HLE := Lib.hid hle
    have HR := Lib.hid hR
    have HR2 := Lib.hid hR2
    have HX0 := Lib.hid hx0
    have HK := Lib.hid hk
    have HQR := fun w => is_hash w R
    have HQR2 := fun w => is_hash w R2
    clear ea eb ea1 ea2 eb1 eb2 hp hpl hle hR hR2 hx0 hr hlb hk h2 h3
    unfold hv
    go_enter Tryd.func13, Tryd.ntmps13
    go_wp2_with (first
      | (go_at_call 33; refine calls_eq HW.out ((alive6_any w0 HG0.out).mono ?_); rintro e w1 ⟨rfl, hb1⟩; have hw1 := hbw.trans (hb1.mono hbw.size); have HY1 := Lib.hid (HY0.out.below hb1 HY0.out.lt); have HS1 := Lib.hid (HS0.out.below hb1); have HG1 := Lib.hid (HG0.out.below hb1); have HE1 := Lib.hid (range_below HE0.out hb1); clear hb1)
      | (go_at_call 34; refine (path_any l.length _ l k w1 rfl HLE.out HS1.out HG1.out HK.out).mono ?_; rintro e w2 ⟨⟨v2, rfl, ho2⟩, hb2⟩; rw [← HP.out] at ho2; have hw2 := hw1.trans (hb2.mono hw1.size); have HY2 := Lib.hid (HY1.out.below hb2 HY1.out.lt); have HS2 := Lib.hid (HS1.out.below hb2); have HG2 := Lib.hid (HG1.out.below hb2); have HE2 := Lib.hid (range_below HE1.out hb2); have HV2 := Lib.hid ho2.hs; clear hb2 ho2 HE1)
      | (refine wpList_load_mid rfl 24 (.tmp 38) rfl lb (lo + k * 32) rfl (bytesV x0.b) _ (by exact HE2.out) Tryd.underlying24 rfl (by exact hv_info _) ?_)
      | (go_at_call 38; have hy2 := HY2.out; refine (comes_any w2 x0 k l.length _ p HV2.out HPL.out HG2.out).mono ?_; rintro e w3 ⟨rfl, hb3⟩; rw [HEA1.out, HEA2.out]; unfold hv; obtain ⟨o1, o2, o3, o4⟩ := one_parts w3 R; have hq := hb3.trans (o1.mono hb3.size); have hw3 := hw2.trans (hq.mono hw2.size); have HY3 := Lib.hid (hy2.below hq hy2.lt); have HS3 := Lib.hid (HS2.out.below hq); have HG3 := Lib.hid (HG2.out.below hq); have HE3 := Lib.hid (range_below HE2.out hq); have HV3 := Lib.hid (HV2.out.below hq); have H9 := Lib.hid o3; have N9 := Lib.hid o4; clear hb3 o1 o2 o3 o4 hq hy2 HY2)
      | (refine wpList_store_row rfl 24 (.tmp 9) (.tmp 45) rfl w3.heap.size (bytesV R.b).toArray rfl rfl 24 z32.toArray (by exact N9.out) (by exact hv_row _) (by exact z32_old _) (by exact hv_one _) ?_)
      | (refine wpList_load_row rfl 24 (.tmp 5) rfl w.heap.size rfl 24 (bytesV y0.b).toArray (0, 0) _ (by exact HY3.out) Tryd.underlying24 rfl (by exact hv_row _) ?_)
      | (go_at_call 38; refine (comes_any (oneW w3 R) y0 k l.length _ p HV3.out HPL.out HG3.out).mono ?_; rintro e w4 ⟨rfl, hb4⟩; rw [HEB1.out, HEB2.out]; unfold hv; obtain ⟨o1, o2, o3, o4⟩ := one_parts w4 R2; have hq := hb4.trans (o1.mono hb4.size); have hw4 := hw3.trans (hq.mono hw3.size); have HY4 := Lib.hid (HY3.out.below hq HY3.out.lt); have HS4 := Lib.hid (HS3.out.below hq); have HG4 := Lib.hid (HG3.out.below hq); have HE4 := Lib.hid (range_below HE3.out hq); have H94 := Lib.hid (H9.out.below hq H9.out.lt); have H11 := Lib.hid o3; have N11 := Lib.hid o4; clear hb4 o1 o2 o3 o4 hq)
      | (refine wpList_store_row rfl 24 (.tmp 11) (.tmp 54) rfl w4.heap.size (bytesV R2.b).toArray rfl rfl 24 z32.toArray (by exact N11.out) (by exact hv_row _) (by exact z32_old _) (by exact hv_one _) ?_)
      | fail)
    have l9 := H94.out.lt
    refine wp_region_mono 12 ((oneW w4 R2).heap.size) [(fun v _ => v = .bool true), (fun v _ => v = .bool false), (fun v _ => v = .bool false), (fun v _ => v = .bool true), (fun v _ => v = .bool false), (fun v _ => v = .bool false), (fun v _ => v = .bool false), (fun v _ => v = .agg (bytesV R.b).toArray), (fun v _ => v = .slice (some ⟨lb, lo, none⟩) l.length ca), (fun v _ => v = .agg (bytesV R.b).toArray), (fun v _ => v = .bool false), (fun v _ => v = .bool false)] (by kernel_rfl) (by kernel_rfl) (Nat.le_refl _) ?mkept _ rfl ?mops ?mfin
    case mkept =>
      repeat (refine List.forall_mem_cons.2 ⟨by first | exact fun _ _ _ _ h => h | exact fun _ _ _ hb h => Parts.below h hb | exact fun _ _ _ hb h => IsSl.below h hb, ?_⟩)
      exact fun _ h => by cases h
    case mops =>
      simp only [List.take_succ_cons, List.take_zero, monoAll, List.getD_cons_zero, List.getD_cons_succ]
      iterate 12
      
       (refine ⟨fun x wr hb hd Qg hK => ?_, ?_⟩
        · as_aux_lemma =>
          simp only [fill, Act.put, List.setIfInBounds_toArray, List.set_cons_succ, List.set_cons_zero, needs, Region.binds, List.filter_cons, List.filter_nil, List.map_cons, List.map_nil, if_true, List.mem_cons, List.not_mem_nil, or_false, forall_eq_or_imp, forall_eq, List.getD_cons_zero, List.getD_cons_succ, false_implies, implies_true] at hd hK ⊢
          (try simp only [hd] at hK ⊢)
          first
          | (have hBr := H94.out.below hb (l9); refine wpList_load_rowIf rfl 24 (.tmp 9) rfl _ rfl 24 (bytesV R.b).toArray (0, 0) _ (by exact hBr) Tryd.underlying24 rfl (hv_row R) ?_; exact hK _ _ rfl (Below.refl _ _))
          | (show wpList _ _ _ [⟨some 65, .call _, _, _, _, _⟩] _ _; go_wp2_with (go_at_call 32; refine (root_any l.length _ l wr rfl HLE.out (HS4.out.below hb) (HG4.out.below hb)).mono ?_; rintro e w5 ⟨rfl, hb5⟩); exact hK _ _ (by rw [← HR.out]; rfl) hb5)
          | (go_wp2_with fail; exact hK _ _ rfl (Below.refl _ _)))
      trivial
    case mfin =>
      intro x w5 hb5 hR5
      have xl := hR5 11 (by decide)
      simp only [List.getD_cons_zero, List.getD_cons_succ] at xl
      have hw5 := hw4.trans (hb5.mono hw4.size)
      have HY5 := Lib.hid (HY4.out.below hb5 HY4.out.lt)
      have H95 := Lib.hid (H94.out.below hb5 l9)
      have H115 := Lib.hid (H11.out.below hb5 H11.out.lt)
      have HS5 := Lib.hid (HS4.out.below hb5)
      have HE5 := Lib.hid (range_below HE4.out hb5)
      have HAL := Lib.hid (show Below w5.heap.size w5 (w5.alloc (.cells #[] 24)) from (Below.refl _ _).alloc (Nat.le_refl _) _)
      have HOE := Lib.hid (own_empty w5)
      clear hR5 hb5
      simp only [List.drop_succ_cons, List.drop_zero]
      generalize List.toArray _ = L0
      simp only [List.take_succ_cons, List.take_zero, List.map_cons, List.map_nil, fill, Act.put, List.setIfInBounds_toArray, List.set_cons_succ, List.set_cons_zero, xl]
      clear xl
      go_wp2_with (first
        | (at_builtin; refine wpList_owned (w0 := w5) rfl (.tmp 68) (.tmp 69) rfl w5.heap.size _ _ [] l rfl (by exact HOE.out) rfl (HS5.out.below HAL.out) (by simp; omega) (by simp) HAL.out ?_; intro v6 w6 hO6 hb6; obtain ⟨g, c, rfl, hgb, hgl, hth, hm7⟩ := own_set hO6 k HK.out y0; have hb7 := below_cells hgb (bytesV y0.b) (k * 32) w6 hb6; have hw7 := hw5.trans (hb7.mono hw5.size); have HM7 := Lib.hid hm7; have HTH := Lib.hid hth; have HY6 := Lib.hid (HY5.out.below hb6 HY5.out.lt); have HY7 := Lib.hid (HY5.out.below hb7 HY5.out.lt); have H97 := Lib.hid (H95.out.below hb7 H95.out.lt); have H117 := Lib.hid (H115.out.below hb7 H115.out.lt); have HS7 := Lib.hid (HS5.out.below hb7); have HE7 := Lib.hid (range_below HE5.out hb7); clear hO6 hm7 hth hb6 hb7 hgb hgl)
        | (refine wpList_load_row rfl 24 (.tmp 5) rfl w.heap.size rfl 24 (bytesV y0.b).toArray (0, 0) _ (by exact HY6.out) Tryd.underlying24 rfl (by exact hv_row _) ?_)
        | (refine wpList_store_mid rfl 24 (.tmp 74) (.tmp 73) rfl g (k * 32) (bytesV y0.b).toArray (by first | rfl | (rw [Nat.zero_add]; rfl)) rfl (by have h := HTH.out; simpa [bytesV_len, y0.len] using h) (by exact hv_row _) (by exact hv_one _) ?_)
        | fail)
      have HG7 := Lib.hid (HGw.out.below hw7)
      have lY7 := HY7.out.lt
      have l97 := H97.out.lt
      have l117 := H117.out.lt
      by_cases hxy : y0.b = x0.b
      · have hy : y0 = x0 := H.ext hxy
        have hset : l.set k y0 = l := by
          rw [hy]
          obtain ⟨q1, q2⟩ := List.getElem?_eq_some_iff.1 HX0.out
          rw [← q2]
          exact List.set_getElem_self q1
        obtain rfl : R2 = R := by rw [HR2.out, hset, HR.out]
        have heq : ∀ w, (Op.equalIn 10000 24 (.agg (bytesV y0.b).toArray) (.agg (bytesV x0.b).toArray)).run Tryd.prog w = .ok true w := fun w => by rw [eq_hash w y0.b x0.b y0.len x0.len, hxy]; simp
        clear hxy hy hset
        refine wp_region_mono 17 ((w6.setCells g (k * 32) (bytesV y0.b)).heap.size) [(fun v _ => v = .agg (bytesV R2.b).toArray), (fun v _ => v = .slice (some ⟨g, 0, none⟩) l.length c), (fun v _ => v = .agg (bytesV R2.b).toArray), (fun v _ => v = .bool true), (fun v _ => v = .bool true), (fun v _ => v = .agg (bytesV y0.b).toArray), (fun v _ => v = .slice (some ⟨lb, lo, none⟩) l.length ca), (fun v _ => v = .int .i64 k), (fun v _ => v = .pointer (some ⟨lb, lo + k * 32, none⟩)), (fun v _ => v = .agg (bytesV x0.b).toArray), (fun v _ => v = .bool false), (fun v _ => v = .bool false), (fun v _ => v = .agg (bytesV R2.b).toArray), (fun v _ => v = .agg (bytesV R2.b).toArray), (fun v _ => v = .bool true), (fun v _ => v = .bool true), (fun v _ => v = .bool true)] (by kernel_rfl) (by kernel_rfl) (Nat.le_refl _) ?mkept _ rfl ?mops ?mfin
        case mkept =>
          repeat (refine List.forall_mem_cons.2 ⟨by first | exact fun _ _ _ _ h => h | exact fun _ _ _ hb h => Parts.below h hb | exact fun _ _ _ hb h => IsSl.below h hb, ?_⟩)
          exact fun _ h => by cases h
        case mops =>
          simp only [List.take_succ_cons, List.take_zero, monoAll, List.getD_cons_zero, List.getD_cons_succ]
          iterate 17
          
           (refine ⟨fun x wr hb hd Qg hK => ?_, ?_⟩
            · as_aux_lemma =>
              simp only [fill, Act.put, List.setIfInBounds_toArray, List.set_cons_succ, List.set_cons_zero, needs, Region.binds, List.filter_cons, List.filter_nil, List.map_cons, List.map_nil, if_true, List.mem_cons, List.not_mem_nil, or_false, forall_eq_or_imp, forall_eq, List.getD_cons_zero, List.getD_cons_succ, false_implies, implies_true] at hd hK ⊢
              (try simp only [hd] at hK ⊢)
              first
              | (have hBr := HY7.out.below hb (lY7); refine wpList_load_rowIf rfl 24 (.tmp 5) rfl _ rfl 24 (bytesV y0.b).toArray (0, 0) _ (by exact hBr) Tryd.underlying24 rfl (hv_row y0) ?_; exact hK _ _ rfl (Below.refl _ _))
              | (have hBr := H97.out.below hb (l97); refine wpList_load_rowIf rfl 24 (.tmp 9) rfl _ rfl 24 (bytesV R2.b).toArray (0, 0) _ (by exact hBr) Tryd.underlying24 rfl (hv_row R2) ?_; exact hK _ _ rfl (Below.refl _ _))
              | (have hBr := H117.out.below hb (l117); refine wpList_load_rowIf rfl 24 (.tmp 11) rfl _ rfl 24 (bytesV R2.b).toArray (0, 0) _ (by exact hBr) Tryd.underlying24 rfl (hv_row R2) ?_; exact hK _ _ rfl (Below.refl _ _))
              | (show wpList _ _ _ [⟨some 77, .call _, _, _, _, _⟩] _ _; go_wp2_with (go_at_call 32; refine (root_any l.length _ (l.set k y0) wr (by simp) HLE.out (HM7.out.below hb) (HG7.out.below hb)).mono ?_; rintro e w5 ⟨rfl, hb5⟩); exact hK _ _ (by rw [← HR2.out]; rfl) hb5)
              | ((refine wpList_load_midIf rfl 24 (.tmp 83) rfl lb (lo + k * 32) rfl (bytesV x0.b) _ (range_below HE7.out hb) Tryd.underlying24 rfl (hv_info x0) ?_; exact hK _ _ rfl (Below.refl _ _)))
              | (go_wp2_with fail; exact hK _ _ rfl (Below.refl _ _)))
          trivial
        case mfin =>
          intro x w8 hb8 hR8
          have xl := hR8 16 (by decide)
          simp only [List.getD_cons_zero, List.getD_cons_succ] at xl
          have hw8 := hw7.trans (hb8.mono hw7.size)
          clear hR8 hb8
          simp only [List.drop_succ_cons, List.drop_zero]
          generalize List.toArray _ = L0
          simp only [List.take_succ_cons, List.take_zero, List.map_cons, List.map_nil, fill, Act.put, List.setIfInBounds_toArray, List.set_cons_succ, List.set_cons_zero, xl]
          clear xl
          go_wp2_with fail
          go_ret
          exact ⟨rfl, hw8⟩
      · have heq : ∀ w, (Op.equalIn 10000 24 (.agg (bytesV y0.b).toArray) (.agg (bytesV x0.b).toArray)).run Tryd.prog w = .ok false w := fun w => by rw [eq_hash w y0.b x0.b y0.len x0.len, beq_eq_false_iff_ne.2 hxy]
        clear hxy
        refine wp_region_mono 17 ((w6.setCells g (k * 32) (bytesV y0.b)).heap.size) [(fun v _ => v = .agg (bytesV R2.b).toArray), (fun v _ => v = .slice (some ⟨g, 0, none⟩) l.length c), (fun v _ => v = .agg (bytesV R2.b).toArray), (fun v _ => v = .bool true), (fun v _ => v = .bool true), (fun v _ => v = .agg (bytesV y0.b).toArray), (fun v _ => v = .slice (some ⟨lb, lo, none⟩) l.length ca), (fun v _ => v = .int .i64 k), (fun v _ => v = .pointer (some ⟨lb, lo + k * 32, none⟩)), (fun v _ => v = .agg (bytesV x0.b).toArray), (fun v _ => v = .bool true), (fun v _ => v = .bool true), (fun v _ => v = undef), (fun v _ => v = undef), (fun v _ => v = undef), (fun v _ => v = .bool true), (fun v _ => v = .bool true)] (by kernel_rfl) (by kernel_rfl) (Nat.le_refl _) ?mkept _ rfl ?mops ?mfin
        case mkept =>
          repeat (refine List.forall_mem_cons.2 ⟨by first | exact fun _ _ _ _ h => h | exact fun _ _ _ hb h => Parts.below h hb | exact fun _ _ _ hb h => IsSl.below h hb, ?_⟩)
          exact fun _ h => by cases h
        case mops =>
          simp only [List.take_succ_cons, List.take_zero, monoAll, List.getD_cons_zero, List.getD_cons_succ]
          iterate 17
          
           (refine ⟨fun x wr hb hd Qg hK => ?_, ?_⟩
            · as_aux_lemma =>
              simp only [fill, Act.put, List.setIfInBounds_toArray, List.set_cons_succ, List.set_cons_zero, needs, Region.binds, List.filter_cons, List.filter_nil, List.map_cons, List.map_nil, if_true, List.mem_cons, List.not_mem_nil, or_false, forall_eq_or_imp, forall_eq, List.getD_cons_zero, List.getD_cons_succ, false_implies, implies_true] at hd hK ⊢
              (try simp only [hd] at hK ⊢)
              first
              | (have hBr := HY7.out.below hb (lY7); refine wpList_load_rowIf rfl 24 (.tmp 5) rfl _ rfl 24 (bytesV y0.b).toArray (0, 0) _ (by exact hBr) Tryd.underlying24 rfl (hv_row y0) ?_; exact hK _ _ rfl (Below.refl _ _))
              | (have hBr := H97.out.below hb (l97); refine wpList_load_rowIf rfl 24 (.tmp 9) rfl _ rfl 24 (bytesV R.b).toArray (0, 0) _ (by exact hBr) Tryd.underlying24 rfl (hv_row R) ?_; exact hK _ _ rfl (Below.refl _ _))
              | (have hBr := H117.out.below hb (l117); refine wpList_load_rowIf rfl 24 (.tmp 11) rfl _ rfl 24 (bytesV R2.b).toArray (0, 0) _ (by exact hBr) Tryd.underlying24 rfl (hv_row R2) ?_; exact hK _ _ rfl (Below.refl _ _))
              | (show wpList _ _ _ [⟨some 77, .call _, _, _, _, _⟩] _ _; go_wp2_with (go_at_call 32; refine (root_any l.length _ (l.set k y0) wr (by simp) HLE.out (HM7.out.below hb) (HG7.out.below hb)).mono ?_; rintro e w5 ⟨rfl, hb5⟩); exact hK _ _ (by rw [← HR2.out]; rfl) hb5)
              | ((refine wpList_load_midIf rfl 24 (.tmp 83) rfl lb (lo + k * 32) rfl (bytesV x0.b) _ (range_below HE7.out hb) Tryd.underlying24 rfl (hv_info x0) ?_; exact hK _ _ rfl (Below.refl _ _)))
              | (go_wp2_with fail; exact hK _ _ rfl (Below.refl _ _)))
          trivial
        case mfin =>
          intro x w8 hb8 hR8
          have xl := hR8 16 (by decide)
          simp only [List.getD_cons_zero, List.getD_cons_succ] at xl
          have hw8 := hw7.trans (hb8.mono hw7.size)
          clear hR8 hb8
          simp only [List.drop_succ_cons, List.drop_zero]
          generalize List.toArray _ = L0
          simp only [List.take_succ_cons, List.take_zero, List.map_cons, List.map_nil, fill, Act.put, List.setIfInBounds_toArray, List.set_cons_succ, List.set_cons_zero, xl]
          clear xl
          go_wp2_with fail
          go_ret
          exact ⟨rfl, hw8⟩
  · unfold hv
    by_cases h1 : (60 : Int) < l.length
    · go_enter Tryd.func13, Tryd.ntmps13
      go_wp2_with (first
        | (go_at_call 33; refine calls_eq HW.out ((alive6_any w0 HG0.out).mono ?_); rintro e w1 ⟨rfl, hb1⟩; have hw1 := hbw.trans (hb1.mono hbw.size); clear hb1)
        | fail)
      go_ret
      exact ⟨rfl, hw1⟩
    by_cases h2 : i < 0
    · go_enter Tryd.func13, Tryd.ntmps13
      go_wp2_with (first
        | (go_at_call 33; refine calls_eq HW.out ((alive6_any w0 HG0.out).mono ?_); rintro e w1 ⟨rfl, hb1⟩; have hw1 := hbw.trans (hb1.mono hbw.size); clear hb1)
        | fail)
      go_ret
      exact ⟨rfl, hw1⟩
    have h3 : (l.length : Int) ≤ i := by omega
    go_enter Tryd.func13, Tryd.ntmps13
    go_wp2_with (first
      | (go_at_call 33; refine calls_eq HW.out ((alive6_any w0 HG0.out).mono ?_); rintro e w1 ⟨rfl, hb1⟩; have hw1 := hbw.trans (hb1.mono hbw.size); clear hb1)
      | fail)
    go_ret
    exact ⟨rfl, hw1⟩
end Go.Proofs.YtkfplliipogagaaDoor
