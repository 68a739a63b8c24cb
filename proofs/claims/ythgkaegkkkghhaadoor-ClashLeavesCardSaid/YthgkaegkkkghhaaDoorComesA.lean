/- The walk of Comes' inner closure. Conditions: what it has captured reads as told; the package's tables read as they are laid. -/
import Derived.Test.YthgkaegkkkghhaaDoorPathW
import Derived.Test.YthgkaegkkkghhaaDoorHashP
import Derived.Test.YthgkaegkkkghhaaDoorTreeW
namespace Go.Proofs.YthgkaegkkkghhaaDoor
open Go.RowKit

/-- The inner closure as a value. -/
def upV (hb nb ub : Nat) : Value := .func (.func 45) #[] #[.pointer (some ⟨hb, 0, none⟩), .pointer (some ⟨nb, 0, none⟩), .pointer (some ⟨ub, 0, none⟩)]
/-- What it has captured. -/
structure Up (w0 w : World) (hb nb ub g q : Nat) (x : H) : Prop where
  tab : Glob w0
  old : Below w0.heap.size w0 w
  new : w0.heap.size ≤ g
  h : Blk w hb (bytesV x.b) 30
  next : w.cell? ⟨nb, 0, none⟩ = some (nextV g q)
  up : w.cell? ⟨ub, 0, none⟩ = some (upV hb nb ub)
  hg : hb ≠ g
  ng : nb ≠ g
  ug : ub ≠ g
theorem Up.but {w0 w w' : World} {hb nb ub g q : Nat} {x : H} (h : Up w0 w hb nb ub g q x) (hw : But g w w') : Up w0 w' hb nb ub g q x :=
  ⟨h.tab, h.old.trans (hw.below h.new h.old.size), h.new, hw.blk h.h h.hg, hw.cell h.next h.ng, hw.cell h.up h.ug, h.hg, h.ng, h.ug⟩
theorem Tk.qlt {w : World} {g q : Nat} {pv : Value} {P : List H} {a : Nat} (h : Tk w g q pv P a) : q < w.heap.size := World.block_lt_of_cell? _ _ h.box
theorem Tk.plt {w : World} {g q : Nat} {pv : Value} {P : List H} {a : Nat} (h : Tk w g q pv P a) : 0 < P.length → ∀ ad k c, pv = .slice (some ad) k c → ad.block < w.heap.size := fun hp => IsSl.block_lt h.hs hp (by decide)
theorem Tk.ple {w : World} {g q : Nat} {pv : Value} {P : List H} {a B : Nat} (h : Tk w g q pv P a) (hB : w.heap.size ≤ B) : 0 < P.length → ∀ ad k c, pv = .slice (some ad) k c → ad.block < B := fun hp ad k c e => Nat.lt_of_lt_of_le (h.plt hp ad k c e) hB
theorem Up.glob {w0 w : World} {hb nb ub g q : Nat} {x : H} (h : Up w0 w hb nb ub g q x) : Glob w := h.tab.below h.old
/-- What the closure comes to, and how many hashes are left. -/
def UpPost (Z : Option (H × Nat)) (g q : Nat) (pv : Value) (P : List H) (e : Ending) (w' : World) : Prop :=
  match Z with
  | some (r, a') => e = .returned (hv r) ∧ Tk w' g q pv P a'
  | none => e = .panicked [{ v := shortP, recovered := false }]
set_option maxRecDepth 100000 in
set_option maxHeartbeats 4000000 in
theorem up_any (w0 : World) (hb nb ub g q : Nat) (x : H) (pv : Value) (P : List H) : ∀ (n i a : Nat) (w : World), 1 ≤ n → n ≤ 1048576 → i < n → Up w0 w hb nb ub g q x → Tk w g q pv P a →
    Calls Tryd.prog 45 #[.int .i64 i, .int .i64 n, .pointer (some ⟨hb, 0, none⟩), .pointer (some ⟨nb, 0, none⟩), .pointer (some ⟨ub, 0, none⟩)] w fun e w' =>
      UpPost (upA x P n i a) g q pv P e w' ∧ But g w w' := by
  intro n
  induction n using Nat.strongRecOn with
  | _ n ih =>
    intro i a w h1 hle hi hU hT
    have hgl := hT.at_.lt
    have hql := hT.qlt
    have HPL := Lib.hid hT.plt
    have hal : Below w.heap.size w (w.alloc (.cells z32.toArray 30)) := (Below.refl _ _).alloc (Nat.le_refl _) _
    have hU1 := hU.but (But.of hal)
    have hT1 := hT.below hal
    have hX1 : Blk (w.alloc (.cells z32.toArray 30)) w.heap.size z32 30 := Blk.newL w _ _
    by_cases hn1 : n = 1
    · subst hn1
      rw [upA_low x P 1 i a (by omega)]
      have HT1 := Lib.hid hT1
      have HH := Lib.hid hU1.h
      have HX := Lib.hid hX1
      have hne : ((1 : Nat) : Int) = 1 := rfl
      clear hU hT hU1 hT1 hX1
      go_enter Tryd.func45, Tryd.ntmps45
      go_wp2_with (first
        | (refine wpList_load_row rfl 30 (.tmp 2) rfl hb rfl 30 (bytesV x.b).toArray (0, 0) _ (by exact HH.out) Tryd.underlying30 rfl (by exact hv_row _) ?_)
        | (refine wpList_store_row rfl 30 (.tmp 7) (.tmp 12) rfl w.heap.size (bytesV x.b).toArray rfl rfl 30 z32.toArray (by exact HX.out) (by exact hv_row _) (by exact z32_old _) (by exact hv_one _) ?_)
        | fail)
      refine bodyPost_ret (v := hv x) (results_cell_row rfl _ _ w.heap.size 30 _ (0, 0) _ rfl (HX.out.setRow _) Tryd.underlying30 rfl (hv_row _)) rfl ⟨⟨rfl, ?_⟩, ?_⟩
      · exact HT1.out.past (below_setRow (Below.refl w.heap.size _) (Nat.le_refl _) _) hgl hql HPL.out
      · exact But.of (below_setRow hal (Nat.le_refl _) _)
    have h2 : 2 ≤ n := by omega
    have hne : ((n : Int) == 1) = false := by rw [beq_eq_false_iff_ne]; omega
    obtain ⟨k, hk⟩ : ∃ k, k = splitN n := ⟨_, rfl⟩
    have hlt := splitN_lt n h2
    have hpos := splitN_pos n h2
    rw [← hk] at hlt hpos
    have HK := Lib.hid hk
    have c3 := hU1.next
    have c4 := hU1.up
    obtain ⟨w1, hw1⟩ : ∃ w1, w1 = w.alloc (.cells z32.toArray 30) := ⟨_, rfl⟩
    rw [← hw1] at hal hU1 hT1 hX1 c3 c4
    have HU1 := Lib.hid hU1
    have HT1 := Lib.hid hT1
    have HX1 := Lib.hid hX1
    clear hU hT hU1 hT1 hX1 hk
    cases a with
    | zero =>
      rw [upA_zero x P n i h2]
      go_enter Tryd.func45, Tryd.ntmps45
      go_wp2_with fail
      refine wp_world hw1 ?_
      refine wp_region_but 5 3 g (fun b wr => if b then False else Tk wr g q pv P 0) [(fun v _ => v = .int .i64 n), (fun v _ => v = .int .i64 k), (fun v _ => v = nextV g q), (fun _ _ => True), (fun _ _ => True)] (fun c wr => c = [{ v := shortP, recovered := false }] ∧ But g w1 wr) (by kernel_rfl) (by kernel_rfl) (by decide) rfl _ rfl ?hk ?hs (by exact HT1.out) ?hp ?hops ?hfin
      case hk =>
        repeat (refine List.forall_mem_cons.2 ⟨by exact fun _ _ _ _ h => h, ?_⟩)
        exact fun _ h => by cases h
      case hs =>
        intro b u u' hb h
        cases b
        · exact Tk.below h hb
        · exact h
      case hp =>
        rintro c a u hd ⟨rfl, hu⟩
        exact ⟨hd, rfl, (But.of hal).trans hu⟩
      case hops =>
        simp only [List.take_succ_cons, List.take_zero, butAll, List.getD_cons_zero, List.getD_cons_succ]
        iterate 5
          
         (refine ⟨fun xs wr hb hd hst Qg hK hP => ?_, ?_⟩
          · as_aux_lemma =>
            simp only [fill, Act.put, List.setIfInBounds_toArray, List.set_cons_succ, List.set_cons_zero, needs, Region.binds, List.filter_cons, List.filter_nil, List.map_cons, List.map_nil, if_true, List.mem_cons, List.not_mem_nil, or_false, forall_eq_or_imp, forall_eq, List.getD_cons_zero, List.getD_cons_succ, false_implies, implies_true] at hd hK ⊢
            (try simp only [hd] at hK ⊢)
            first
            | (show wpList _ _ _ [⟨some 14, .call _, _, _, _, _⟩] _ _; go_wp2_with (go_at_call 32; refine (split_any n _ (by omega)).mono ?_; rintro e w5 ⟨rfl, h5⟩; rw [h5, ← HK.out]; clear h5 w5); exact hK _ _ rfl (fun h => absurd h (by decide)) (fun _ => Below.refl _ _))
            | (show wpList _ _ _ [⟨some 15, .load _ _, _, _, _, _⟩] _ _; have c0 := hb.cell c3 HU1.out.ng; go_wp2_with fail; exact hK _ _ rfl (fun h => absurd h (by decide)) (fun _ => Below.refl _ _))
            | (show wpList _ _ _ [⟨some 16, .call _, _, _, _, _⟩] _ _; simp only [nextV] at hK ⊢; go_wp2_with (go_at_call 57; refine (next_none wr g q pv P (hst trivial)).mono ?_; rintro e w5 ⟨rfl, hb5⟩); exact hP _ _ _ rfl ⟨rfl, hb.trans (But.of hb5)⟩)
            | (go_wp2_with fail; exact hK _ _ trivial (fun h => absurd h (by decide)) (fun _ => (Below.refl _ _).alloc (Nat.le_refl _) _))
            | (go_wp2_with fail; exact hK _ _ rfl (fun h => absurd h (by decide)) (fun _ => Below.refl _ _)))
        trivial
      case hfin =>
        intro y u _ _ h
        exact h.elim
    | succ a =>
      obtain ⟨o, ho⟩ : ∃ o, P[a]? = some o := ⟨_, List.getElem?_eq_getElem (by have := HT1.out.le; omega)⟩
      obtain ⟨Z, hZ⟩ : ∃ Z, Z = upA x P n i (a + 1) := ⟨_, rfl⟩
      rw [← hZ]
      have HZ := Lib.hid hZ
      have HO := Lib.hid ho
      have hsz0 := hal.size
      clear ho hZ
      go_enter Tryd.func45, Tryd.ntmps45
      go_wp2_with fail
      refine wp_world hw1 ?_
      refine wp_region_but 5 3 g (fun b u => Tk u g q pv P (if b then a else a + 1)) [(fun v _ => v = .int .i64 n), (fun v _ => v = .int .i64 k), (fun v _ => v = nextV g q), (fun v _ => v = .agg (bytesV o.b).toArray), (fun v u => ∃ b, v = .pointer (some ⟨b, 0, none⟩) ∧ w1.heap.size ≤ b ∧ b ≠ g ∧ Blk u b z32 30)] (fun _ _ => False) (by kernel_rfl) (by kernel_rfl) (by decide) rfl _ rfl ?hk ?hs (by exact HT1.out) ?hp ?hops ?hfin
      case hk =>
        repeat (refine List.forall_mem_cons.2 ⟨by first | exact fun _ _ _ _ h => h | exact fun _ _ _ hb ⟨b, e, h1, h2, h3⟩ => ⟨b, e, h1, h2, hb.blk h3 h2⟩, ?_⟩)
        exact fun _ h => by cases h
      case hs => exact fun b u u' hb h => Tk.below h hb
      case hp => exact fun c a u _ h => h.elim
      case hops =>
        simp only [List.take_succ_cons, List.take_zero, butAll, List.getD_cons_zero, List.getD_cons_succ]
        iterate 5
          
         (refine ⟨fun xs wr hb hd hst Qg hK hP => ?_, ?_⟩
          · as_aux_lemma =>
            simp only [fill, Act.put, List.setIfInBounds_toArray, List.set_cons_succ, List.set_cons_zero, needs, Region.binds, List.filter_cons, List.filter_nil, List.map_cons, List.map_nil, if_true, List.mem_cons, List.not_mem_nil, or_false, forall_eq_or_imp, forall_eq, List.getD_cons_zero, List.getD_cons_succ, false_implies, implies_true] at hd hK ⊢
            (try simp only [hd] at hK ⊢)
            first
            | (show wpList _ _ _ [⟨some 14, .call _, _, _, _, _⟩] _ _; go_wp2_with (go_at_call 32; refine (split_any n _ (by omega)).mono ?_; rintro e w5 ⟨rfl, h5⟩; rw [h5, ← HK.out]; clear h5 w5); exact hK _ _ rfl (fun h => absurd h (by decide)) (fun _ => Below.refl _ _))
            | (show wpList _ _ _ [⟨some 15, .load _ _, _, _, _, _⟩] _ _; have c0 := hb.cell c3 HU1.out.ng; go_wp2_with fail; exact hK _ _ rfl (fun h => absurd h (by decide)) (fun _ => Below.refl _ _))
            | (show wpList _ _ _ [⟨some 16, .call _, _, _, _, _⟩] _ _; simp only [nextV] at hK ⊢; go_wp2_with (go_at_call 57; refine (next_some wr g q pv P a o (hst trivial) HO.out).mono ?_; rintro e w5 ⟨rfl, hT5, hb5⟩); exact hK _ _ rfl (fun _ => ⟨hb5, hT5⟩) (fun h => absurd rfl h))
            | (show wpList _ _ _ [⟨some 9, .alloc _, _, _, _, _⟩] _ _; go_wp2_with fail; exact hK _ _ ⟨_, rfl, hb.size, by have := hb.size; omega, Blk.newL wr z32 _⟩ (fun h => absurd h (by decide)) (fun _ => (Below.refl _ _).alloc (Nat.le_refl _) _))
            | (go_wp2_with fail; exact hK _ _ rfl (fun h => absurd h (by decide)) (fun _ => Below.refl _ _)))
        trivial
      case hfin =>
        intro y u hb1 hR hTu
        have y1 := hR 1 (by decide)
        have y3 := hR 3 (by decide)
        have y4 := hR 4 (by decide)
        simp only [List.getD_cons_zero, List.getD_cons_succ] at y1 y3 y4
        obtain ⟨b4, y4, hb4, hb4g, hB4⟩ := y4
        have HB3 := Lib.hid hB4
        obtain ⟨u2, hu2⟩ : ∃ u2, u2 = u.setRow b4 (bytesV o.b).toArray := ⟨_, rfl⟩
        have hal2 := hal.size
        have hsz1 : w.heap.size < w1.heap.size := HX1.out.lt
        have hb1u : But g w1 u2 := hb1.then (by rw [hu2]; exact below_setRow (Below.refl _ _) hb4 _)
        have hT2 : Tk u2 g q pv P a := by
          rw [hu2]
          exact Tk.past hTu (below_setRow (Below.refl b4 u) (Nat.le_refl _) _) (by omega) (by omega) (fun hp ad k c e => Nat.lt_of_lt_of_le (HPL.out hp ad k c e) (by omega))
        have hB4' : Blk u2 b4 (bytesV o.b) 30 := by rw [hu2]; exact hB4.setRow _
        have hX2 : Blk u2 w.heap.size z32 30 := by rw [hu2]; exact (hb1.blk HX1.out (by omega)).setRow_other (by omega) _
        have hU2 := HU1.out.but hb1u
        have c5 := hU2.up
        have HT2 := Lib.hid hT2
        have HB4 := Lib.hid hB4'
        have HX2 := Lib.hid hX2
        have HU2 := Lib.hid hU2
        have hwu : But g w u2 := (But.of hal).trans hb1u
        clear hR hTu hB4 hT2 hB4' hX2 hU2 hb1
        simp only [List.drop_succ_cons, List.drop_zero]
        generalize List.toArray _ = L0
        simp only [List.take_succ_cons, List.take_zero, List.map_cons, List.map_nil, fill, Act.put, List.setIfInBounds_toArray, List.set_cons_succ, List.set_cons_zero, y1, y3, y4]
        clear y1 y3 y4
        by_cases hik : i < k
        · have hlt' : (i : Int) < k := by omega
          obtain ⟨Y, hY⟩ : ∃ Y, Y = upA x P k i a := ⟨_, rfl⟩
          have hup : Z = Y.map fun p => (ndH p.1 o, p.2) := by rw [hY, HK.out, HZ.out]; exact upA_left x P n i a o h2 HO.out (HK.out ▸ hik)
          have HY := Lib.hid hY
          clear hY
          go_wp2_with (first
            | (refine wpList_store_row rfl 30 (.tmp 9) (.tmp 16) rfl b4 (bytesV o.b).toArray rfl rfl 30 z32.toArray (by exact HB3.out) (by exact hv_row _) (by exact z32_old _) (by exact hv_one _) ?_)
            | fail)
          refine wp_world hu2 ?_
          cases Y with
          | none =>
            have hZe := Lib.hid (show Z = none from hup)
            clear hup
            refine wp_region_but 6 3 g (fun b u => if b then False else Tk u g q pv P a) [(fun v _ => v = upV hb nb ub), (fun v _ => v = .int .i64 i), (fun v _ => v = .int .i64 k), (fun _ _ => False), (fun v _ => v = .agg (bytesV o.b).toArray), (fun _ _ => True)] (fun c u => c = [{ v := shortP, recovered := false }] ∧ But g u2 u) (by kernel_rfl) (by kernel_rfl) (by decide) rfl _ rfl ?hk ?hs (by exact HT2.out) ?hp ?hops ?hfin
            case hk =>
              repeat (refine List.forall_mem_cons.2 ⟨by exact fun _ _ _ _ h => h, ?_⟩)
              exact fun _ h => by cases h
            case hs =>
              intro b u u' hb h
              cases b
              · exact Tk.below h hb
              · exact h
            case hp =>
              rintro c a u hd ⟨rfl, hu⟩
              refine ⟨hd, ?_, hwu.trans hu⟩
              rw [hZe.out]
              exact rfl
            case hops =>
              simp only [List.take_succ_cons, List.take_zero, butAll, List.getD_cons_zero, List.getD_cons_succ]
              iterate 6
                
               (refine ⟨fun xs wr hb hd hst Qg hK hP => ?_, ?_⟩
                · as_aux_lemma =>
                  simp only [fill, Act.put, List.setIfInBounds_toArray, List.set_cons_succ, List.set_cons_zero, needs, Region.binds, List.filter_cons, List.filter_nil, List.map_cons, List.map_nil, if_true, List.mem_cons, List.not_mem_nil, or_false, forall_eq_or_imp, forall_eq, List.getD_cons_zero, List.getD_cons_succ, false_implies, implies_true] at hd hK ⊢
                  (try simp only [hd] at hK ⊢)
                  first
                  | (show wpList _ _ _ [⟨some 20, .load _ _, _, _, _, _⟩] _ _; have c0 := hb.cell c5 HU2.out.ug; go_wp2_with fail; exact hK _ _ rfl (fun h => absurd h (by decide)) (fun _ => Below.refl _ _))
                  | (show wpList _ _ _ [⟨some 23, .call _, _, _, _, _⟩] _ _; simp only [upV] at hK ⊢; go_wp2_with (go_at_call 45; refine (ih k (by omega) i a wr (by omega) (by omega) (by omega) (HU2.out.but hb) (hst trivial)).mono ?_; rintro e w5 ⟨h5, hb5⟩; rw [← HY.out] at h5; have h6 : e = .panicked [{ v := shortP, recovered := false }] := h5; subst h6); exact hP _ _ _ rfl ⟨rfl, hb.trans hb5⟩)
                  | (refine wpList_load_rowIf rfl 30 (.tmp 9) rfl b4 rfl 30 (bytesV o.b).toArray (0, 0) _ (by exact hb.blk HB4.out hb4g) Tryd.underlying30 rfl (hv_row _) ?_; exact hK _ _ rfl (fun h => absurd h (by decide)) (fun _ => Below.refl _ _))
                  | (show wpList _ _ _ [⟨some 25, .call _, _, _, _, _⟩] _ _; exact hd.1.elim)
                  | (go_wp2_with fail; exact hK _ _ rfl (fun h => absurd h (by decide)) (fun _ => Below.refl _ _)))
              trivial
            case hfin =>
              exact fun z u3 _ _ h => h.elim
          | some p =>
            obtain ⟨r, a'⟩ := p
            have hZe := Lib.hid (show Z = some (ndH r o, a') from hup)
            clear hup
            refine wp_region_but 6 3 g (fun b u => Tk u g q pv P (if b then a' else a)) [(fun v _ => v = upV hb nb ub), (fun v _ => v = .int .i64 i), (fun v _ => v = .int .i64 k), (fun v _ => v = .agg (bytesV r.b).toArray), (fun v _ => v = .agg (bytesV o.b).toArray), (fun v _ => v = .agg (bytesV (ndH r o).b).toArray)] (fun _ _ => False) (by kernel_rfl) (by kernel_rfl) (by decide) rfl _ rfl ?hk ?hs (by exact HT2.out) ?hp ?hops ?hfin
            case hk =>
              repeat (refine List.forall_mem_cons.2 ⟨by exact fun _ _ _ _ h => h, ?_⟩)
              exact fun _ h => by cases h
            case hs =>
              exact fun b u u' hb h => Tk.below h hb
            case hp =>
              exact fun c a u _ h => h.elim
            case hops =>
              simp only [List.take_succ_cons, List.take_zero, butAll, List.getD_cons_zero, List.getD_cons_succ]
              iterate 6
                
               (refine ⟨fun xs wr hb hd hst Qg hK hP => ?_, ?_⟩
                · as_aux_lemma =>
                  simp only [fill, Act.put, List.setIfInBounds_toArray, List.set_cons_succ, List.set_cons_zero, needs, Region.binds, List.filter_cons, List.filter_nil, List.map_cons, List.map_nil, if_true, List.mem_cons, List.not_mem_nil, or_false, forall_eq_or_imp, forall_eq, List.getD_cons_zero, List.getD_cons_succ, false_implies, implies_true] at hd hK ⊢
                  (try simp only [hd] at hK ⊢)
                  first
                  | (show wpList _ _ _ [⟨some 20, .load _ _, _, _, _, _⟩] _ _; have c0 := hb.cell c5 HU2.out.ug; go_wp2_with fail; exact hK _ _ rfl (fun h => absurd h (by decide)) (fun _ => Below.refl _ _))
                  | (show wpList _ _ _ [⟨some 23, .call _, _, _, _, _⟩] _ _; simp only [upV] at hK ⊢; go_wp2_with (go_at_call 45; refine (ih k (by omega) i a wr (by omega) (by omega) (by omega) (HU2.out.but hb) (hst trivial)).mono ?_; rintro e w5 ⟨h5, hb5⟩; rw [← HY.out] at h5; obtain ⟨rfl, hT5⟩ := h5); exact hK _ _ rfl (fun _ => ⟨hb5, hT5⟩) (fun h => absurd rfl h))
                  | (refine wpList_load_rowIf rfl 30 (.tmp 9) rfl b4 rfl 30 (bytesV o.b).toArray (0, 0) _ (by exact hb.blk HB4.out hb4g) Tryd.underlying30 rfl (hv_row _) ?_; exact hK _ _ rfl (fun h => absurd h (by decide)) (fun _ => Below.refl _ _))
                  | (show wpList _ _ _ [⟨some 25, .call _, _, _, _, _⟩] _ _; go_wp2_with (go_at_call 26; refine (node_any r o wr (HU2.out.but hb).glob).mono ?_; rintro e w5 ⟨rfl, hb5⟩); exact hK _ _ rfl (fun h => absurd h (by decide)) (fun _ => hb5))
                  | (go_wp2_with fail; exact hK _ _ rfl (fun h => absurd h (by decide)) (fun _ => Below.refl _ _)))
              trivial
            case hfin =>
              intro z u3 hb3 hR3 hT3
              have z5 := hR3 5 (by decide)
              simp only [List.getD_cons_zero, List.getD_cons_succ] at z5
              have HX3 := Lib.hid (hb3.blk HX2.out (by omega))
              have HT3 := Lib.hid hT3
              have hwu3 := hwu.trans hb3
              clear hR3 hT3 hb3
              simp only [List.drop_succ_cons, List.drop_zero]
              generalize List.toArray _ = L0
              simp only [List.take_succ_cons, List.take_zero, List.map_cons, List.map_nil, fill, Act.put, List.setIfInBounds_toArray, List.set_cons_succ, List.set_cons_zero, z5]
              clear z5
              go_wp2_with (first
                | (refine wpList_store_row rfl 30 (.tmp 7) (.tmp 25) rfl w.heap.size (bytesV (ndH r o).b).toArray rfl rfl 30 z32.toArray (by exact HX3.out) (by exact hv_row _) (by exact z32_old _) (by exact hv_one _) ?_)
                | fail)
              refine bodyPost_ret (v := hv (ndH r o)) (results_cell_row rfl _ _ w.heap.size 30 _ (0, 0) _ rfl (HX3.out.setRow _) Tryd.underlying30 rfl (hv_row _)) rfl ⟨?_, hwu3.then (below_setRow (Below.refl w.heap.size _) (Nat.le_refl _) _)⟩
              rw [hZe.out]
              exact ⟨rfl, HT3.out.past (below_setRow (Below.refl w.heap.size _) (Nat.le_refl _) _) hgl hql HPL.out⟩
        · have hlt' : ¬ (i : Int) < k := by omega
          have hik2 : (i : Int) - k = (i - k : Nat) := by omega
          have hnk2 : (n : Int) - k = (n - k : Nat) := by omega
          obtain ⟨Y, hY⟩ : ∃ Y, Y = upA x P (n - k) (i - k) a := ⟨_, rfl⟩
          have hup : Z = Y.map fun p => (ndH o p.1, p.2) := by rw [hY, HK.out, HZ.out]; exact upA_right x P n i a o h2 HO.out (HK.out ▸ hik)
          have HY := Lib.hid hY
          clear hY
          go_wp2_with (first
            | (refine wpList_store_row rfl 30 (.tmp 9) (.tmp 16) rfl b4 (bytesV o.b).toArray rfl rfl 30 z32.toArray (by exact HB3.out) (by exact hv_row _) (by exact z32_old _) (by exact hv_one _) ?_)
            | fail)
          refine wp_world hu2 ?_
          cases Y with
          | none =>
            have hZe := Lib.hid (show Z = none from hup)
            clear hup
            refine wp_region_but 10 8 g (fun b u => if b then False else Tk u g q pv P a) [(fun v _ => v = .agg (bytesV o.b).toArray), (fun v _ => v = upV hb nb ub), (fun v _ => v = .int .i64 i), (fun v _ => v = .int .i64 k), (fun v _ => v = .int .i64 (i - k : Nat)), (fun v _ => v = .int .i64 n), (fun v _ => v = .int .i64 k), (fun v _ => v = .int .i64 (n - k : Nat)), (fun _ _ => False), (fun _ _ => True)] (fun c u => c = [{ v := shortP, recovered := false }] ∧ But g u2 u) (by kernel_rfl) (by kernel_rfl) (by decide) rfl _ rfl ?hk ?hs (by exact HT2.out) ?hp ?hops ?hfin
            case hk =>
              repeat (refine List.forall_mem_cons.2 ⟨by exact fun _ _ _ _ h => h, ?_⟩)
              exact fun _ h => by cases h
            case hs =>
              intro b u u' hb h
              cases b
              · exact Tk.below h hb
              · exact h
            case hp =>
              rintro c a u hd ⟨rfl, hu⟩
              refine ⟨hd, ?_, hwu.trans hu⟩
              rw [hZe.out]
              exact rfl
            case hops =>
              simp only [List.take_succ_cons, List.take_zero, butAll, List.getD_cons_zero, List.getD_cons_succ]
              iterate 10
                
               (refine ⟨fun xs wr hb hd hst Qg hK hP => ?_, ?_⟩
                · as_aux_lemma =>
                  simp only [fill, Act.put, List.setIfInBounds_toArray, List.set_cons_succ, List.set_cons_zero, needs, Region.binds, List.filter_cons, List.filter_nil, List.map_cons, List.map_nil, if_true, List.mem_cons, List.not_mem_nil, or_false, forall_eq_or_imp, forall_eq, List.getD_cons_zero, List.getD_cons_succ, false_implies, implies_true] at hd hK ⊢
                  (try simp only [hd] at hK ⊢)
                  first
                  | (show wpList _ _ _ [⟨some 27, .load _ _, _, _, _, _⟩] _ _; have c0 := hb.cell c5 HU2.out.ug; go_wp2_with fail; exact hK _ _ rfl (fun h => absurd h (by decide)) (fun _ => Below.refl _ _))
                  | (show wpList _ _ _ [⟨some 34, .call _, _, _, _, _⟩] _ _; simp only [upV] at hK ⊢; go_wp2_with (go_at_call 45; refine (ih (n - k) (by omega) (i - k) a wr (by omega) (by omega) (by omega) (HU2.out.but hb) (hst trivial)).mono ?_; rintro e w5 ⟨h5, hb5⟩; rw [← HY.out] at h5; have h6 : e = .panicked [{ v := shortP, recovered := false }] := h5; subst h6); exact hP _ _ _ rfl ⟨rfl, hb.trans hb5⟩)
                  | (refine wpList_load_rowIf rfl 30 (.tmp 9) rfl b4 rfl 30 (bytesV o.b).toArray (0, 0) _ (by exact hb.blk HB4.out hb4g) Tryd.underlying30 rfl (hv_row _) ?_; exact hK _ _ rfl (fun h => absurd h (by decide)) (fun _ => Below.refl _ _))
                  | (show wpList _ _ _ [⟨some 35, .call _, _, _, _, _⟩] _ _; first | exact hd.2.elim | exact hd.2.1.elim | exact hd.2.2.elim | exact hd.1.elim | exact hd.elim)
                  | (go_wp2_with fail; exact hK _ _ rfl (fun h => absurd h (by decide)) (fun _ => Below.refl _ _)))
              trivial
            case hfin =>
              exact fun z u3 _ _ h => h.elim
          | some p =>
            obtain ⟨r, a'⟩ := p
            have hZe := Lib.hid (show Z = some (ndH o r, a') from hup)
            clear hup
            refine wp_region_but 10 8 g (fun b u => Tk u g q pv P (if b then a' else a)) [(fun v _ => v = .agg (bytesV o.b).toArray), (fun v _ => v = upV hb nb ub), (fun v _ => v = .int .i64 i), (fun v _ => v = .int .i64 k), (fun v _ => v = .int .i64 (i - k : Nat)), (fun v _ => v = .int .i64 n), (fun v _ => v = .int .i64 k), (fun v _ => v = .int .i64 (n - k : Nat)), (fun v _ => v = .agg (bytesV r.b).toArray), (fun v _ => v = .agg (bytesV (ndH o r).b).toArray)] (fun _ _ => False) (by kernel_rfl) (by kernel_rfl) (by decide) rfl _ rfl ?hk ?hs (by exact HT2.out) ?hp ?hops ?hfin
            case hk =>
              repeat (refine List.forall_mem_cons.2 ⟨by exact fun _ _ _ _ h => h, ?_⟩)
              exact fun _ h => by cases h
            case hs =>
              exact fun b u u' hb h => Tk.below h hb
            case hp =>
              exact fun c a u _ h => h.elim
            case hops =>
              simp only [List.take_succ_cons, List.take_zero, butAll, List.getD_cons_zero, List.getD_cons_succ]
              iterate 10
                
               (refine ⟨fun xs wr hb hd hst Qg hK hP => ?_, ?_⟩
                · as_aux_lemma =>
                  simp only [fill, Act.put, List.setIfInBounds_toArray, List.set_cons_succ, List.set_cons_zero, needs, Region.binds, List.filter_cons, List.filter_nil, List.map_cons, List.map_nil, if_true, List.mem_cons, List.not_mem_nil, or_false, forall_eq_or_imp, forall_eq, List.getD_cons_zero, List.getD_cons_succ, false_implies, implies_true] at hd hK ⊢
                  (try simp only [hd] at hK ⊢)
                  first
                  | (show wpList _ _ _ [⟨some 27, .load _ _, _, _, _, _⟩] _ _; have c0 := hb.cell c5 HU2.out.ug; go_wp2_with fail; exact hK _ _ rfl (fun h => absurd h (by decide)) (fun _ => Below.refl _ _))
                  | (show wpList _ _ _ [⟨some 34, .call _, _, _, _, _⟩] _ _; simp only [upV] at hK ⊢; go_wp2_with (go_at_call 45; refine (ih (n - k) (by omega) (i - k) a wr (by omega) (by omega) (by omega) (HU2.out.but hb) (hst trivial)).mono ?_; rintro e w5 ⟨h5, hb5⟩; rw [← HY.out] at h5; obtain ⟨rfl, hT5⟩ := h5); exact hK _ _ rfl (fun _ => ⟨hb5, hT5⟩) (fun h => absurd rfl h))
                  | (refine wpList_load_rowIf rfl 30 (.tmp 9) rfl b4 rfl 30 (bytesV o.b).toArray (0, 0) _ (by exact hb.blk HB4.out hb4g) Tryd.underlying30 rfl (hv_row _) ?_; exact hK _ _ rfl (fun h => absurd h (by decide)) (fun _ => Below.refl _ _))
                  | (show wpList _ _ _ [⟨some 35, .call _, _, _, _, _⟩] _ _; go_wp2_with (go_at_call 26; refine (node_any o r wr (HU2.out.but hb).glob).mono ?_; rintro e w5 ⟨rfl, hb5⟩); exact hK _ _ rfl (fun h => absurd h (by decide)) (fun _ => hb5))
                  | (go_wp2_with fail; exact hK _ _ rfl (fun h => absurd h (by decide)) (fun _ => Below.refl _ _)))
              trivial
            case hfin =>
              intro z u3 hb3 hR3 hT3
              have z5 := hR3 9 (by decide)
              simp only [List.getD_cons_zero, List.getD_cons_succ] at z5
              have HX3 := Lib.hid (hb3.blk HX2.out (by omega))
              have HT3 := Lib.hid hT3
              have hwu3 := hwu.trans hb3
              clear hR3 hT3 hb3
              simp only [List.drop_succ_cons, List.drop_zero]
              generalize List.toArray _ = L0
              simp only [List.take_succ_cons, List.take_zero, List.map_cons, List.map_nil, fill, Act.put, List.setIfInBounds_toArray, List.set_cons_succ, List.set_cons_zero, z5]
              clear z5
              go_wp2_with (first
                | (refine wpList_store_row rfl 30 (.tmp 7) (.tmp 35) rfl w.heap.size (bytesV (ndH o r).b).toArray rfl rfl 30 z32.toArray (by exact HX3.out) (by exact hv_row _) (by exact z32_old _) (by exact hv_one _) ?_)
                | fail)
              refine bodyPost_ret (v := hv (ndH o r)) (results_cell_row rfl _ _ w.heap.size 30 _ (0, 0) _ rfl (HX3.out.setRow _) Tryd.underlying30 rfl (hv_row _)) rfl ⟨?_, hwu3.then (below_setRow (Below.refl w.heap.size _) (Nat.le_refl _) _)⟩
              rw [hZe.out]
              exact ⟨rfl, HT3.out.past (below_setRow (Below.refl w.heap.size _) (Nat.le_refl _) _) hgl hql HPL.out⟩
end Go.Proofs.YthgkaegkkkghhaaDoor
