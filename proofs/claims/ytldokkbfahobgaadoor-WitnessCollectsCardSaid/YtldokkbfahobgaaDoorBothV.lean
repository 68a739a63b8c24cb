/- The walk of Both's inner closure. Conditions: what each part says. -/
import Derived.Test.YtldokkbfahobgaaDoorBothU
import Derived.Test.YtldokkbfahobgaaDoorGround
/-! BothB: The walk of Both's inner closure. Conditions: what it has captured reads as told; the package's tables read as they are laid. -/
namespace Go.Proofs.YtldokkbfahobgaaDoor
open Go.RowKit

theorem pair_left {w : World} {b : Nat} {p q : H} {e : TypeId} (h : Blk w b (bytesV (p.b ++ q.b)) e) : w.rangeAt b 0 (bytesV p.b) := fun j u hu => by
  have hj : j < 32 := by
    have := (List.getElem?_eq_some_iff.1 hu).1
    rw [bytesV_len, p.len] at this
    exact this
  rw [Nat.zero_add]
  refine h.cell ?_
  rw [bytesV_app, List.getElem?_append_left (by rw [bytesV_len, p.len]; exact hj)]
  exact hu
theorem pair_right {w : World} {b : Nat} {p q : H} {e : TypeId} (h : Blk w b (bytesV (p.b ++ q.b)) e) : w.rangeAt b 32 (bytesV q.b) := fun j u hu => by
  refine h.cell ?_
  rw [bytesV_app, List.getElem?_append_right (by rw [bytesV_len, p.len]; omega), bytesV_len, p.len, show 32 + j - 32 = j by omega]
  exact hu
set_option maxRecDepth 100000 in
set_option maxHeartbeats 4000000 in
theorem upb_any (w0 : World) (ob nb ub g q : Nat) (x : H) (pv : Value) (P : List H) : ∀ (n m : Nat) (wh : Bool) (a : Nat) (w : World), 1 ≤ m → m ≤ n → n ≤ 1048576 → UpB w0 w ob nb ub g q x → Tk w g q pv P a →
    Calls Tryd.prog 58 #[.int .i64 m, .int .i64 n, .bool wh, .pointer (some ⟨ob, 0, none⟩), .pointer (some ⟨nb, 0, none⟩), .pointer (some ⟨ub, 0, none⟩)] w fun e w' =>
      BothPost (up2A x P n m wh a) g q pv P e w' ∧ But g w w' := by
  intro n
  induction n using Nat.strongRecOn with
  | _ n ih =>
    intro m wh a w h1 hmn hle hU hT
    by_cases he : m = n
    · subst he
      cases wh with
      | true =>
        rw [up2A_old x P m m a (.inr rfl)]
        exact upb_old w0 ob nb ub g q x pv P m a w hU hT
      | false =>
        cases a with
        | zero =>
          rw [up2A_end0 x P m m (.inr rfl)]
          exact upb_end0 w0 ob nb ub g q x pv P m w hU hT
        | succ a =>
          obtain ⟨o, ho⟩ : ∃ o, P[a]? = some o := ⟨_, List.getElem?_eq_getElem (by have := hT.le; omega)⟩
          rw [up2A_end x P m m a o (.inr rfl) ho]
          exact upb_end w0 ob nb ub g q x pv P m a o w ho hU hT
    have h2 : 2 ≤ n := by omega
    have hn2 : ¬ (n < 2 ∨ m = n) := by omega
    have hne : ((m : Int) == n) = false := by rw [beq_eq_false_iff_ne]; omega
    have hgl := hT.at_.lt
    have hql := hT.qlt
    have HPL := Lib.hid hT.plt
    have hal : Below w.heap.size w (w.alloc (.cells zp64.toArray 104)) := (Below.refl _ _).alloc (Nat.le_refl _) _
    have hU1 := hU.but (But.of hal)
    have hT1 := hT.below hal
    have hX1 : Blk (w.alloc (.cells zp64.toArray 104)) w.heap.size zp64 104 := Blk.newL w _ _
    obtain ⟨k, hk⟩ : ∃ k, k = splitN n := ⟨_, rfl⟩
    have hlt := splitN_lt n h2
    have hpos := splitN_pos n h2
    rw [← hk] at hlt hpos
    have HK := Lib.hid hk
    obtain ⟨w1, hw1⟩ : ∃ w1, w1 = w.alloc (.cells zp64.toArray 104) := ⟨_, rfl⟩
    rw [← hw1] at hal hU1 hT1 hX1
    have c3 := hU1.next
    have HU1 := Lib.hid hU1
    have HT1 := Lib.hid hT1
    have HX1 := Lib.hid hX1
    have hsz0 := hal.size
    clear hU hT hU1 hT1 hX1 hk
    cases a with
    | zero =>
      rw [up2A_zero x P n m wh hn2]
      go_enter Tryd.func58, Tryd.ntmps58
      go_wp2_with fail
      refine wp_world hw1 ?_
      refine wp_region_but 5 3 g (fun b wr => if b then False else Tk wr g q pv P 0) [(fun v _ => v = .int .i64 n), (fun v _ => v = .int .i64 k), (fun v _ => v = nextV g q), (fun _ _ => True), (fun _ _ => True)] (fun c wr => c = [{ v := shortP, recovered := false }] ∧ But g w1 wr) (by kernel_rfl) (by kernel_rfl) (by decide) rfl _ rfl ?hk ?hs (by exact HT1.out) ?hp ?hops ?hfin
      case hk =>
        repeat (refine List.forall_mem_cons.2 ⟨by exact fun _ _ _ _ h => h, ?_⟩)
        exact fun _ h => by cases h
      case hs =>
        intro b u u' hb h
        cases b
        · exact Tk.below h hb
        · exact h
      case hp =>
        rintro c a u hd ⟨rfl, hu⟩
        exact ⟨hd, rfl, (But.of hal).trans hu⟩
      case hops =>
        simp only [List.take_succ_cons, List.take_zero, butAll, List.getD_cons_zero, List.getD_cons_succ]
        iterate 5
          
         (refine ⟨fun xs wr hb hd hst Qg hK hP => ?_, ?_⟩
          · as_aux_lemma =>
            simp only [fill, Act.put, List.setIfInBounds_toArray, List.set_cons_succ, List.set_cons_zero, needs, Region.binds, List.filter_cons, List.filter_nil, List.map_cons, List.map_nil, if_true, List.mem_cons, List.not_mem_nil, or_false, forall_eq_or_imp, forall_eq, List.getD_cons_zero, List.getD_cons_succ, false_implies, implies_true] at hd hK ⊢
            (try simp only [hd] at hK ⊢)
            first
            | (show wpList _ _ _ [⟨some 27, .call _, _, _, _, _⟩] _ _; go_wp2_with (go_at_call 32; refine (split_any n _ (by omega)).mono ?_; rintro e w5 ⟨rfl, h5⟩; rw [h5, ← HK.out]; clear h5 w5); exact hK _ _ rfl (fun h => absurd h (by decide)) (fun _ => Below.refl _ _))
            | (show wpList _ _ _ [⟨some 28, .load _ _, _, _, _, _⟩] _ _; have c0 := hb.cell c3 HU1.out.ng; go_wp2_with fail; exact hK _ _ rfl (fun h => absurd h (by decide)) (fun _ => Below.refl _ _))
            | (show wpList _ _ _ [⟨some 29, .call _, _, _, _, _⟩] _ _; simp only [nextV] at hK ⊢; go_wp2_with (go_at_call 73; refine (next_none wr g q pv P (hst trivial)).mono ?_; rintro e w5 ⟨rfl, hb5⟩); exact hP _ _ _ rfl ⟨rfl, hb.trans (But.of hb5)⟩)
            | (go_wp2_with fail; exact hK _ _ trivial (fun h => absurd h (by decide)) (fun _ => (Below.refl _ _).alloc (Nat.le_refl _) _))
            | (go_wp2_with fail; exact hK _ _ rfl (fun h => absurd h (by decide)) (fun _ => Below.refl _ _)))
        trivial
      case hfin =>
        intro y u _ _ h
        exact h.elim
    | succ a =>
      obtain ⟨o, ho⟩ : ∃ o, P[a]? = some o := ⟨_, List.getElem?_eq_getElem (by have := HT1.out.le; omega)⟩
      obtain ⟨Z, hZ⟩ : ∃ Z, Z = up2A x P n m wh (a + 1) := ⟨_, rfl⟩
      rw [← hZ]
      have HZ := Lib.hid hZ
      have HO := Lib.hid ho
      clear ho hZ
      go_enter Tryd.func58, Tryd.ntmps58
      go_wp2_with fail
      refine wp_world hw1 ?_
      refine wp_region_but 5 3 g (fun b u => Tk u g q pv P (if b then a else a + 1)) [(fun v _ => v = .int .i64 n), (fun v _ => v = .int .i64 k), (fun v _ => v = nextV g q), (fun v _ => v = .agg (bytesV o.b).toArray), (fun v u => ∃ b, v = .pointer (some ⟨b, 0, none⟩) ∧ w1.heap.size ≤ b ∧ b ≠ g ∧ Blk u b z32 31)] (fun _ _ => False) (by kernel_rfl) (by kernel_rfl) (by decide) rfl _ rfl ?hk ?hs (by exact HT1.out) ?hp ?hops ?hfin
      case hk =>
        repeat (refine List.forall_mem_cons.2 ⟨by first | exact fun _ _ _ _ h => h | exact fun _ _ _ hb ⟨b, e, h1, h2, h3⟩ => ⟨b, e, h1, h2, hb.blk h3 h2⟩, ?_⟩)
        exact fun _ h => by cases h
      case hs => exact fun b u u' hb h => Tk.below h hb
      case hp => exact fun c a u _ h => h.elim
      case hops =>
        simp only [List.take_succ_cons, List.take_zero, butAll, List.getD_cons_zero, List.getD_cons_succ]
        iterate 5
          
         (refine ⟨fun xs wr hb hd hst Qg hK hP => ?_, ?_⟩
          · as_aux_lemma =>
            simp only [fill, Act.put, List.setIfInBounds_toArray, List.set_cons_succ, List.set_cons_zero, needs, Region.binds, List.filter_cons, List.filter_nil, List.map_cons, List.map_nil, if_true, List.mem_cons, List.not_mem_nil, or_false, forall_eq_or_imp, forall_eq, List.getD_cons_zero, List.getD_cons_succ, false_implies, implies_true] at hd hK ⊢
            (try simp only [hd] at hK ⊢)
            first
            | (show wpList _ _ _ [⟨some 27, .call _, _, _, _, _⟩] _ _; go_wp2_with (go_at_call 32; refine (split_any n _ (by omega)).mono ?_; rintro e w5 ⟨rfl, h5⟩; rw [h5, ← HK.out]; clear h5 w5); exact hK _ _ rfl (fun h => absurd h (by decide)) (fun _ => Below.refl _ _))
            | (show wpList _ _ _ [⟨some 28, .load _ _, _, _, _, _⟩] _ _; have c0 := hb.cell c3 HU1.out.ng; go_wp2_with fail; exact hK _ _ rfl (fun h => absurd h (by decide)) (fun _ => Below.refl _ _))
            | (show wpList _ _ _ [⟨some 29, .call _, _, _, _, _⟩] _ _; simp only [nextV] at hK ⊢; go_wp2_with (go_at_call 73; refine (next_some wr g q pv P a o (hst trivial) HO.out).mono ?_; rintro e w5 ⟨rfl, hT5, hb5⟩); exact hK _ _ rfl (fun _ => ⟨hb5, hT5⟩) (fun h => absurd rfl h))
            | (show wpList _ _ _ [⟨some 12, .alloc _, _, _, _, _⟩] _ _; go_wp2_with fail; exact hK _ _ ⟨_, rfl, hb.size, by have := hb.size; omega, Blk.newL wr z32 _⟩ (fun h => absurd h (by decide)) (fun _ => (Below.refl _ _).alloc (Nat.le_refl _) _))
            | (go_wp2_with fail; exact hK _ _ rfl (fun h => absurd h (by decide)) (fun _ => Below.refl _ _)))
        trivial
      case hfin =>
        intro y u hb1 hR hTu
        have y1 := hR 1 (by decide)
        have y3 := hR 3 (by decide)
        have y4 := hR 4 (by decide)
        simp only [List.getD_cons_zero, List.getD_cons_succ] at y1 y3 y4
        obtain ⟨b4, y4, hb4, hb4g, hB4⟩ := y4
        have HB3 := Lib.hid hB4
        obtain ⟨u2, hu2⟩ : ∃ u2, u2 = u.setRow b4 (bytesV o.b).toArray := ⟨_, rfl⟩
        have hsz1 : w.heap.size < w1.heap.size := HX1.out.lt
        have hb1u : But g w1 u2 := hb1.then (by rw [hu2]; exact below_setRow (Below.refl _ _) hb4 _)
        have hT2 : Tk u2 g q pv P a := by
          rw [hu2]
          exact Tk.past hTu (below_setRow (Below.refl b4 u) (Nat.le_refl _) _) (by omega) (by omega) (fun hp ad k c e => Nat.lt_of_lt_of_le (HPL.out hp ad k c e) (by omega))
        have hB4' : Blk u2 b4 (bytesV o.b) 31 := by rw [hu2]; exact hB4.setRow _
        have hX2 : Blk u2 w.heap.size zp64 104 := by rw [hu2]; exact (hb1.blk HX1.out (by omega)).setRow_other (by omega) _
        have hU2 := HU1.out.but hb1u
        have c5 := hU2.up
        rw [hu2] at c5
        unfold upbV at c5
        have HT2 := Lib.hid hT2
        have HB4 := Lib.hid hB4'
        have HX2 := Lib.hid hX2
        have HU2 := Lib.hid hU2
        have hwu : But g w u2 := (But.of hal).trans hb1u
        clear hR hTu hB4 hT2 hB4' hX2 hU2 hb1
        simp only [List.drop_succ_cons, List.drop_zero]
        generalize List.toArray _ = L0
        simp only [List.take_succ_cons, List.take_zero, List.map_cons, List.map_nil, fill, Act.put, List.setIfInBounds_toArray, List.set_cons_succ, List.set_cons_zero, y1, y3, y4]
        clear y1 y3 y4
        by_cases hik : m ≤ k
        · have hlt' : (m : Int) ≤ k := by omega
          obtain ⟨Y, hY⟩ : ∃ Y, Y = up2A x P k m wh a := ⟨_, rfl⟩
          have hup : Z = Y.map fun p => ((p.1.1, ndH p.1.2 o), p.2) := by rw [hY, HK.out, HZ.out]; exact up2A_left x P n m a wh o hn2 HO.out (HK.out ▸ hik)
          have HY := Lib.hid hY
          clear hY
          cases Y with
          | none =>
            have hZe := Lib.hid (show Z = none from hup)
            clear hup
            go_wp2_with (first
              | (refine wpList_store_row rfl 31 (.tmp 12) (.tmp 29) rfl b4 (bytesV o.b).toArray rfl rfl 31 z32.toArray (by exact HB3.out) (by exact hv_row _) (by exact z32_old _) (by exact hv_one _) ?_)
              | (go_at_call 58; refine calls_eq hu2 ((ih k (by omega) m wh a u2 (by omega) (by omega) (by omega) HU2.out HT2.out).mono ?_); rintro e w5 ⟨h5, hb5⟩; rw [← HY.out] at h5; have h6 : e = .panicked [{ v := shortP, recovered := false }] := h5; subst h6)
              | fail)
            refine ⟨rfl, ?_, hwu.trans hb5⟩
            rw [hZe.out]
            exact rfl
          | some p =>
            obtain ⟨⟨r, s⟩, a'⟩ := p
            have hZe := Lib.hid (show Z = some ((r, (ndH s o)), a') from hup)
            clear hup
            go_wp2_with (first
              | (refine wpList_store_row rfl 31 (.tmp 12) (.tmp 29) rfl b4 (bytesV o.b).toArray rfl rfl 31 z32.toArray (by exact HB3.out) (by exact hv_row _) (by exact z32_old _) (by exact hv_one _) ?_)
              | (go_at_call 58; refine calls_eq hu2 ((ih k (by omega) m wh a u2 (by omega) (by omega) (by omega) HU2.out HT2.out).mono ?_); rintro e w5 ⟨h5, hb5⟩; rw [← HY.out] at h5; obtain ⟨rfl, hT5⟩ := h5; unfold pairV; have HT5 := Lib.hid hT5; have HB5 := Lib.hid (hb5.blk HB4.out hb4g); have HX5 := Lib.hid (hb5.blk HX2.out (by omega)); have HU5 := Lib.hid (HU2.out.but hb5); have hw5 := hwu.trans hb5; clear hT5 hb5)
              | (refine wpList_store_row rfl 104 (.tmp 13) (.tmp 37) rfl w5.heap.size (bytesV (r.b ++ s.b)).toArray rfl rfl 104 zp64.toArray (by exact Blk.newL w5 zp64 _) (by exact pair_row _ _) (by exact zp64_old _ _) (by exact pair_one _ _) ?_)
              | fail)
            obtain ⟨w6, hw6⟩ : ∃ w6, w6 = (w5.alloc (.cells zp64.toArray 104)).setRow w5.heap.size (bytesV (r.b ++ s.b)).toArray := ⟨_, rfl⟩
            have hb6 : Below w5.heap.size w5 w6 := by rw [hw6]; exact below_setRow ((Below.refl _ _).alloc (Nat.le_refl _) _) (Nat.le_refl _) _
            have hP6 : Blk w6 w5.heap.size (bytesV (r.b ++ s.b)) 104 := by rw [hw6]; exact (Blk.newL w5 zp64 _).setRow _
            have HL6 := Lib.hid (pair_left hP6)
            have HR6 := Lib.hid (pair_right hP6)
            have HB6 := Lib.hid (HB5.out.below hb6 HB5.out.lt)
            have HX6 := Lib.hid (HX5.out.below hb6 HX5.out.lt)
            have HG6 := Lib.hid ((HU5.out.but (But.of hb6)).glob)
            have HT6 := Lib.hid (HT5.out.below hb6)
            have hbw6 : But g w w6 := hw5.trans (But.of hb6)
            clear hP6
            refine wp_world hw6 ?_
            refine wp_region_monoF 7 (w6.heap.size) [] [(fun v _ => v = .pointer (some ⟨w5.heap.size, 0, none⟩)), (fun v _ => v = .agg (bytesV r.b).toArray), (fun v _ => v = .pointer (some ⟨w5.heap.size, 32, none⟩)), (fun v _ => v = .agg (bytesV s.b).toArray), (fun v _ => v = .agg (bytesV o.b).toArray), (fun v _ => v = .agg (bytesV (ndH s o).b).toArray), (fun v _ => v = .agg (bytesV (r.b ++ (ndH s o).b)).toArray)] (by kernel_rfl) (by kernel_rfl) (by decide) (Nat.le_refl _) ?mkept _ rfl ?mops ?mfin
            case mkept =>
              repeat (refine List.forall_mem_cons.2 ⟨by first | exact fun _ _ _ _ h => h | exact fun _ _ _ hb h => Parts.below h hb | exact fun _ _ _ hb h => IsSl.below h hb | exact fun _ _ _ hb h => RowAt.below h hb | exact fun _ _ _ hb ⟨vs, h⟩ => ⟨vs, Parts.below h hb⟩ | exact fun _ _ _ hb h => ownsRow_below h hb (ownsRow_block h) | exact fun _ _ _ hb ⟨g, e, h⟩ => ⟨g, e, ownsRow_below h hb (ownsRow_block h)⟩, ?_⟩)
              exact fun _ h => by cases h
            case mops =>
              simp only [List.take_succ_cons, List.take_zero, monoAllF, List.getD_cons_zero, List.getD_cons_succ]
              iterate 7
              
               (refine ⟨fun x wr hb hd Qg hK => ?_, ?_⟩
                · as_aux_lemma =>
                  simp only [fill, Act.put, List.setIfInBounds_toArray, List.set_cons_succ, List.set_cons_zero, needs, Region.binds, List.filter_cons, List.filter_nil, List.map_cons, List.map_nil, if_true, List.mem_cons, List.not_mem_nil, or_false, forall_eq_or_imp, forall_eq, List.getD_cons_zero, List.getD_cons_succ, false_implies, implies_true] at hd hK ⊢
                  (try simp only [hd] at hK ⊢)
                  first
                  | (have hBr := HB6.out.below hb (HB6.out.lt); refine wpList_load_rowIf rfl 31 (.tmp 12) rfl _ rfl 31 ((bytesV o.b)).toArray (0, 0) _ (by exact hBr) Tryd.underlying31 rfl (hv_row _) ?_; exact hK _ _ rfl (by first | exact trivial | exact fun h => absurd h (by decide) | exact fun _ => new_alloc _ _) (Below.refl _ _))
                  | ((refine wpList_load_midIf rfl 31 (.tmp 38) rfl w5.heap.size 0 rfl (bytesV r.b) _ (range_below HL6.out hb) Tryd.underlying31 rfl (hv_info r) ?_; exact hK _ _ rfl (by first | exact trivial | exact fun h => absurd h (by decide) | exact fun _ => new_alloc _ _) (Below.refl _ _)))
                  | ((refine wpList_load_midIf rfl 31 (.tmp 40) rfl w5.heap.size 32 rfl (bytesV s.b) _ (range_below HR6.out hb) Tryd.underlying31 rfl (hv_info s) ?_; exact hK _ _ rfl (by first | exact trivial | exact fun h => absurd h (by decide) | exact fun _ => new_alloc _ _) (Below.refl _ _)))
                  | (show wpList _ _ _ [⟨some 43, .call _, _, _, _, _⟩] _ _; go_wp2_with (go_at_call 33; refine (node_any s o wr (HG6.out.below hb)).mono ?_; rintro e w5 ⟨rfl, hb5⟩); exact hK _ _ (rfl) (by first | exact trivial | exact fun h => absurd h (by decide) | exact fun _ => new_alloc _ _) hb5)
                  | ((refine wpList_pair rfl r (ndH s o) (.tmp 39) (.tmp 43) rfl rfl rfl ?_; exact hK _ _ rfl (by first | exact trivial | exact fun h => absurd h (by decide) | exact fun _ => new_alloc _ _) (Below.refl _ _)))
                  | (go_wp2_with fail; exact hK _ _ rfl (by first | exact trivial | exact fun h => absurd h (by decide) | exact fun _ => new_alloc _ _) (Below.refl _ _)))
              trivial
            case mfin =>
              intro z u9 hb9 hR9 _
              have z5 := hR9 6 (by decide)
              simp only [List.getD_cons_zero, List.getD_cons_succ] at z5
              have HX9 := Lib.hid (HX6.out.below hb9 HX6.out.lt)
              have HT9 := Lib.hid (HT6.out.below hb9)
              have hw9 := hbw6.trans (But.of hb9)
              clear hR9 hb9
              simp only [List.drop_succ_cons, List.drop_zero]
              generalize List.toArray _ = L0
              simp only [List.take_succ_cons, List.take_zero, List.map_cons, List.map_nil, fill, Act.put, List.setIfInBounds_toArray, List.set_cons_succ, List.set_cons_zero, z5]
              clear z5
              go_wp2_with (first
                | (refine wpList_store_row rfl 104 (.tmp 9) (.tmp 44) rfl w.heap.size (bytesV (r.b ++ (ndH s o).b)).toArray rfl rfl 104 zp64.toArray (by exact HX9.out) (by exact pair_row _ _) (by exact zp64_old _ _) (by exact pair_one _ _) ?_)
                | fail)
              refine bodyPost_ret (v := pairV r (ndH s o)) (results_cell_row rfl _ _ w.heap.size 104 _ (0, 0) _ rfl (HX9.out.setRow _) Tryd.underlying104 rfl (pair_row _ _)) rfl ⟨?_, hw9.then (below_setRow (Below.refl w.heap.size _) (Nat.le_refl _) _)⟩
              rw [hZe.out]
              exact ⟨rfl, HT9.out.past (below_setRow (Below.refl w.heap.size _) (Nat.le_refl _) _) hgl hql HPL.out⟩
        · have hlt' : ¬ (m : Int) ≤ k := by omega
          have hik2 : (m : Int) - k = (m - k : Nat) := by omega
          have hnk2 : (n : Int) - k = (n - k : Nat) := by omega
          obtain ⟨Y, hY⟩ : ∃ Y, Y = up2A x P (n - k) (m - k) false a := ⟨_, rfl⟩
          have hup : Z = Y.map fun p => ((ndH o p.1.1, ndH o p.1.2), p.2) := by rw [hY, HK.out, HZ.out]; exact up2A_right x P n m a wh o hn2 HO.out (HK.out ▸ hik)
          have HY := Lib.hid hY
          clear hY
          cases Y with
          | none =>
            have hZe := Lib.hid (show Z = none from hup)
            clear hup
            go_wp2_with (first
              | (refine wpList_store_row rfl 31 (.tmp 12) (.tmp 29) rfl b4 (bytesV o.b).toArray rfl rfl 31 z32.toArray (by exact HB3.out) (by exact hv_row _) (by exact z32_old _) (by exact hv_one _) ?_)
              | (go_at_call 58; refine calls_eq hu2 ((ih (n - k) (by omega) (m - k) false a u2 (by omega) (by omega) (by omega) HU2.out HT2.out).mono ?_); rintro e w5 ⟨h5, hb5⟩; rw [← HY.out] at h5; have h6 : e = .panicked [{ v := shortP, recovered := false }] := h5; subst h6)
              | fail)
            refine ⟨rfl, ?_, hwu.trans hb5⟩
            rw [hZe.out]
            exact rfl
          | some p =>
            obtain ⟨⟨r, s⟩, a'⟩ := p
            have hZe := Lib.hid (show Z = some (((ndH o r), (ndH o s)), a') from hup)
            clear hup
            go_wp2_with (first
              | (refine wpList_store_row rfl 31 (.tmp 12) (.tmp 29) rfl b4 (bytesV o.b).toArray rfl rfl 31 z32.toArray (by exact HB3.out) (by exact hv_row _) (by exact z32_old _) (by exact hv_one _) ?_)
              | (go_at_call 58; refine calls_eq hu2 ((ih (n - k) (by omega) (m - k) false a u2 (by omega) (by omega) (by omega) HU2.out HT2.out).mono ?_); rintro e w5 ⟨h5, hb5⟩; rw [← HY.out] at h5; obtain ⟨rfl, hT5⟩ := h5; unfold pairV; have HT5 := Lib.hid hT5; have HB5 := Lib.hid (hb5.blk HB4.out hb4g); have HX5 := Lib.hid (hb5.blk HX2.out (by omega)); have HU5 := Lib.hid (HU2.out.but hb5); have hw5 := hwu.trans hb5; clear hT5 hb5)
              | (refine wpList_store_row rfl 104 (.tmp 14) (.tmp 52) rfl w5.heap.size (bytesV (r.b ++ s.b)).toArray rfl rfl 104 zp64.toArray (by exact Blk.newL w5 zp64 _) (by exact pair_row _ _) (by exact zp64_old _ _) (by exact pair_one _ _) ?_)
              | fail)
            obtain ⟨w6, hw6⟩ : ∃ w6, w6 = (w5.alloc (.cells zp64.toArray 104)).setRow w5.heap.size (bytesV (r.b ++ s.b)).toArray := ⟨_, rfl⟩
            have hb6 : Below w5.heap.size w5 w6 := by rw [hw6]; exact below_setRow ((Below.refl _ _).alloc (Nat.le_refl _) _) (Nat.le_refl _) _
            have hP6 : Blk w6 w5.heap.size (bytesV (r.b ++ s.b)) 104 := by rw [hw6]; exact (Blk.newL w5 zp64 _).setRow _
            have HL6 := Lib.hid (pair_left hP6)
            have HR6 := Lib.hid (pair_right hP6)
            have HB6 := Lib.hid (HB5.out.below hb6 HB5.out.lt)
            have HX6 := Lib.hid (HX5.out.below hb6 HX5.out.lt)
            have HG6 := Lib.hid ((HU5.out.but (But.of hb6)).glob)
            have HT6 := Lib.hid (HT5.out.below hb6)
            have hbw6 : But g w w6 := hw5.trans (But.of hb6)
            clear hP6
            refine wp_world hw6 ?_
            refine wp_region_monoF 9 (w6.heap.size) [] [(fun v _ => v = .agg (bytesV o.b).toArray), (fun v _ => v = .pointer (some ⟨w5.heap.size, 0, none⟩)), (fun v _ => v = .agg (bytesV r.b).toArray), (fun v _ => v = .agg (bytesV (ndH o r).b).toArray), (fun v _ => v = .agg (bytesV o.b).toArray), (fun v _ => v = .pointer (some ⟨w5.heap.size, 32, none⟩)), (fun v _ => v = .agg (bytesV s.b).toArray), (fun v _ => v = .agg (bytesV (ndH o s).b).toArray), (fun v _ => v = .agg (bytesV ((ndH o r).b ++ (ndH o s).b)).toArray)] (by kernel_rfl) (by kernel_rfl) (by decide) (Nat.le_refl _) ?mkept _ rfl ?mops ?mfin
            case mkept =>
              repeat (refine List.forall_mem_cons.2 ⟨by first | exact fun _ _ _ _ h => h | exact fun _ _ _ hb h => Parts.below h hb | exact fun _ _ _ hb h => IsSl.below h hb | exact fun _ _ _ hb h => RowAt.below h hb | exact fun _ _ _ hb ⟨vs, h⟩ => ⟨vs, Parts.below h hb⟩ | exact fun _ _ _ hb h => ownsRow_below h hb (ownsRow_block h) | exact fun _ _ _ hb ⟨g, e, h⟩ => ⟨g, e, ownsRow_below h hb (ownsRow_block h)⟩, ?_⟩)
              exact fun _ h => by cases h
            case mops =>
              simp only [List.take_succ_cons, List.take_zero, monoAllF, List.getD_cons_zero, List.getD_cons_succ]
              iterate 9
              
               (refine ⟨fun x wr hb hd Qg hK => ?_, ?_⟩
                · as_aux_lemma =>
                  simp only [fill, Act.put, List.setIfInBounds_toArray, List.set_cons_succ, List.set_cons_zero, needs, Region.binds, List.filter_cons, List.filter_nil, List.map_cons, List.map_nil, if_true, List.mem_cons, List.not_mem_nil, or_false, forall_eq_or_imp, forall_eq, List.getD_cons_zero, List.getD_cons_succ, false_implies, implies_true] at hd hK ⊢
                  (try simp only [hd] at hK ⊢)
                  first
                  | (have hBr := HB6.out.below hb (HB6.out.lt); refine wpList_load_rowIf rfl 31 (.tmp 12) rfl _ rfl 31 ((bytesV o.b)).toArray (0, 0) _ (by exact hBr) Tryd.underlying31 rfl (hv_row _) ?_; exact hK _ _ rfl (by first | exact trivial | exact fun h => absurd h (by decide) | exact fun _ => new_alloc _ _) (Below.refl _ _))
                  | ((refine wpList_load_midIf rfl 31 (.tmp 54) rfl w5.heap.size 0 rfl (bytesV r.b) _ (range_below HL6.out hb) Tryd.underlying31 rfl (hv_info r) ?_; exact hK _ _ rfl (by first | exact trivial | exact fun h => absurd h (by decide) | exact fun _ => new_alloc _ _) (Below.refl _ _)))
                  | ((refine wpList_load_midIf rfl 31 (.tmp 58) rfl w5.heap.size 32 rfl (bytesV s.b) _ (range_below HR6.out hb) Tryd.underlying31 rfl (hv_info s) ?_; exact hK _ _ rfl (by first | exact trivial | exact fun h => absurd h (by decide) | exact fun _ => new_alloc _ _) (Below.refl _ _)))
                  | (show wpList _ _ _ [⟨some 56, .call _, _, _, _, _⟩] _ _; go_wp2_with (go_at_call 33; refine (node_any o r wr (HG6.out.below hb)).mono ?_; rintro e w5 ⟨rfl, hb5⟩); exact hK _ _ (rfl) (by first | exact trivial | exact fun h => absurd h (by decide) | exact fun _ => new_alloc _ _) hb5)
                  | (show wpList _ _ _ [⟨some 60, .call _, _, _, _, _⟩] _ _; go_wp2_with (go_at_call 33; refine (node_any o s wr (HG6.out.below hb)).mono ?_; rintro e w5 ⟨rfl, hb5⟩); exact hK _ _ (rfl) (by first | exact trivial | exact fun h => absurd h (by decide) | exact fun _ => new_alloc _ _) hb5)
                  | ((refine wpList_pair rfl (ndH o r) (ndH o s) (.tmp 56) (.tmp 60) rfl rfl rfl ?_; exact hK _ _ rfl (by first | exact trivial | exact fun h => absurd h (by decide) | exact fun _ => new_alloc _ _) (Below.refl _ _)))
                  | (go_wp2_with fail; exact hK _ _ rfl (by first | exact trivial | exact fun h => absurd h (by decide) | exact fun _ => new_alloc _ _) (Below.refl _ _)))
              trivial
            case mfin =>
              intro z u9 hb9 hR9 _
              have z5 := hR9 8 (by decide)
              simp only [List.getD_cons_zero, List.getD_cons_succ] at z5
              have HX9 := Lib.hid (HX6.out.below hb9 HX6.out.lt)
              have HT9 := Lib.hid (HT6.out.below hb9)
              have hw9 := hbw6.trans (But.of hb9)
              clear hR9 hb9
              simp only [List.drop_succ_cons, List.drop_zero]
              generalize List.toArray _ = L0
              simp only [List.take_succ_cons, List.take_zero, List.map_cons, List.map_nil, fill, Act.put, List.setIfInBounds_toArray, List.set_cons_succ, List.set_cons_zero, z5]
              clear z5
              go_wp2_with (first
                | (refine wpList_store_row rfl 104 (.tmp 9) (.tmp 61) rfl w.heap.size (bytesV ((ndH o r).b ++ (ndH o s).b)).toArray rfl rfl 104 zp64.toArray (by exact HX9.out) (by exact pair_row _ _) (by exact zp64_old _ _) (by exact pair_one _ _) ?_)
                | fail)
              refine bodyPost_ret (v := pairV (ndH o r) (ndH o s)) (results_cell_row rfl _ _ w.heap.size 104 _ (0, 0) _ rfl (HX9.out.setRow _) Tryd.underlying104 rfl (pair_row _ _)) rfl ⟨?_, hw9.then (below_setRow (Below.refl w.heap.size _) (Nat.le_refl _) _)⟩
              rw [hZe.out]
              exact ⟨rfl, HT9.out.past (below_setRow (Below.refl w.heap.size _) (Nat.le_refl _) _) hgl hql HPL.out⟩
end Go.Proofs.YtldokkbfahobgaaDoor
