/- The walk of tree.Root. Conditions: the list can be read, at most 2^40 hashes; the package's tables read as they are laid. -/
import Derived.Test.YtkfplliipogagaaDoorTreeB
namespace Go.Proofs.YtkfplliipogagaaDoor
open Go.RowKit

theorem hs_block {w : World} {a : Option Addr} {n c : Nat} {l : List H} (h : Hs w (.slice a n c) l) (hl : 0 < l.length) : ∃ b off, a = some ⟨b, off, none⟩ ∧ n = l.length ∧ w.rangeAt b off (bytesV (hflat l)) ∧ b < w.heap.size := by
  obtain ⟨b, off, cap, e, _, hr, hb⟩ := h.pos hl
  cases e
  exact ⟨b, off, rfl, rfl, hr, hb⟩
set_option maxRecDepth 100000 in
set_option maxHeartbeats 400000 in
theorem root_empty (xa : Option Addr) (ca : Nat) (w : World) (hg : Glob w) :
    Calls Tryd.prog 32 #[.slice xa 0 ca] w fun e w' => e = .returned (hv e0H) ∧ Below w.heap.size w w' := by
  have hb1 : Below w.heap.size w (w.alloc (.cells z32.toArray 24)) := by (repeat (first | with_reducible assumption | with_reducible exact Below.refl _ _ | ((with_reducible refine Below.setCell ?_ ?_ _); rotate_left; focus (first | omega | (simp; done) | (simp; omega))) | ((with_reducible refine Below.alloc ?_ ?_ _); rotate_left; focus (first | omega | (simp; done) | (simp; omega))) | ((with_reducible refine below_setRow ?_ ?_ _); rotate_left; focus (first | omega | (simp; done) | (simp; omega))) | (with_reducible refine below_drewN ?_ _) | (with_reducible refine Below.drew ?_)))
  have HG := Lib.hid (hg.below hb1)
  clear hg
  go_enter Tryd.func32, Tryd.ntmps32
  go_wp2_with fail
  refine (sum_any (.slice none 0 0) [] [] (w.alloc (.cells z32.toArray 24)) (Parts.nil _) (by decide) (by decide) HG.out).mono ?_
  rintro e w2 ⟨rfl, hb2⟩
  rw [sum_nat, show cat [] = [] from rfl]
  have hH : Blk w2 w.heap.size z32 24 := (Blk.newL w z32 _).below hb2 (by simp)
  have HH := Lib.hid hH
  have hw2 := hb1.trans (hb2.mono hb1.size)
  clear hH hb1 hb2 HG
  go_wp2_with (first
    | (refine wpList_store_row rfl 24 (.tmp 2) (.tmp 8) rfl w.heap.size (bytesV e0H.b).toArray rfl rfl 24 z32.toArray (by exact HH.out) (by exact hv_row _) (by exact z32_old _) (by exact hv_one _) ?_)
    | fail)
  exact bodyPost_ret (v := hv e0H) (results_cell_row rfl _ _ w.heap.size 24 _ (0, 0) _ rfl (HH.out.setRow _) Tryd.underlying24 rfl (hv_row _)) rfl ⟨rfl, below_setRow hw2 (Nat.le_refl _) _⟩
set_option maxRecDepth 100000 in
set_option maxHeartbeats 400000 in
theorem root_one (v : Value) (x : H) (w : World) (hs : Hs w v [x]) :
    Calls Tryd.prog 32 #[v] w fun e w' => e = .returned (hv x) ∧ Below w.heap.size w w' := by
  obtain ⟨b, off, cap, rfl, _, hr, hbw⟩ := hs.pos (by simp)
  have hb1 : Below w.heap.size w (w.alloc (.cells z32.toArray 24)) := by (repeat (first | with_reducible assumption | with_reducible exact Below.refl _ _ | ((with_reducible refine Below.setCell ?_ ?_ _); rotate_left; focus (first | omega | (simp; done) | (simp; omega))) | ((with_reducible refine Below.alloc ?_ ?_ _); rotate_left; focus (first | omega | (simp; done) | (simp; omega))) | ((with_reducible refine below_setRow ?_ ?_ _); rotate_left; focus (first | omega | (simp; done) | (simp; omega))) | (with_reducible refine below_drewN ?_ _) | (with_reducible refine Below.drew ?_)))
  have hr1 : (w.alloc (.cells z32.toArray 24)).rangeAt b off (bytesV x.b) := by
    have h0 := Hs.elem hr (i := 0) (x := x) rfl
    rw [Nat.zero_mul, Nat.add_zero] at h0
    exact range_below h0 hb1
  have HR := Lib.hid hr1
  have HH := Lib.hid (Blk.newL w z32 24)
  clear hs hr hr1
  go_enter Tryd.func32, Tryd.ntmps32
  go_wp2_with (first
    | (refine wpList_load_mid rfl 24 (.tmp 12) rfl b off rfl (bytesV x.b) _ (by exact HR.out) Tryd.underlying24 rfl (by exact hv_info _) ?_)
    | (refine wpList_store_row rfl 24 (.tmp 2) (.tmp 13) rfl w.heap.size (bytesV x.b).toArray rfl rfl 24 z32.toArray (by exact HH.out) (by exact hv_row _) (by exact z32_old _) (by exact hv_one _) ?_)
    | fail)
  exact bodyPost_ret (v := hv x) (results_cell_row rfl _ _ w.heap.size 24 _ (0, 0) _ rfl (HH.out.setRow _) Tryd.underlying24 rfl (hv_row _)) rfl ⟨rfl, below_setRow hb1 (Nat.le_refl _) _⟩

set_option maxRecDepth 100000 in
set_option maxHeartbeats 1000000 in
theorem root_any : ∀ (n : Nat) (v : Value) (l : List H) (w : World), l.length = n → n ≤ 1099511627776 → Hs w v l → Glob w →
    Calls Tryd.prog 32 #[v] w fun e w' => e = .returned (hv (rootN ndH e0H l)) ∧ Below w.heap.size w w' := by
  intro n
  induction n using Nat.strongRecOn with
  | _ n ih =>
    intro v l w hn hle hs hg
    by_cases h0 : n = 0
    · subst h0
      have hl := List.eq_nil_of_length_eq_zero hn
      subst hl
      obtain ⟨xa, ca, rfl, _⟩ := hs.form
      rw [rootN_nil]
      exact root_empty _ _ w hg
    by_cases h1 : n = 1
    · obtain ⟨x, rfl⟩ := List.length_eq_one_iff.1 (hn.trans h1)
      rw [rootN_one]
      exact root_one v x w hs
    have h2 : 2 ≤ n := by omega
    obtain ⟨xa, ca, rfl, _⟩ := hs.form
    obtain ⟨k, hk⟩ : ∃ k, k = splitN n := ⟨_, rfl⟩
    have hlt := splitN_lt n h2
    have hpos := splitN_pos n h2
    rw [← hk] at hlt hpos
    rw [rootN_two _ _ l (by omega), hn, ← hk]
    obtain ⟨a1, c1, hs1, hh1⟩ := hs_head hs k (by omega)
    obtain ⟨a2, c2, hs2, hh2⟩ := hs_tail hs k (by omega)
    have hb1 : Below w.heap.size w (w.alloc (.cells z32.toArray 24)) := by (repeat (first | with_reducible assumption | with_reducible exact Below.refl _ _ | ((with_reducible refine Below.setCell ?_ ?_ _); rotate_left; focus (first | omega | (simp; done) | (simp; omega))) | ((with_reducible refine Below.alloc ?_ ?_ _); rotate_left; focus (first | omega | (simp; done) | (simp; omega))) | ((with_reducible refine below_setRow ?_ ?_ _); rotate_left; focus (first | omega | (simp; done) | (simp; omega))) | (with_reducible refine below_drewN ?_ _) | (with_reducible refine Below.drew ?_)))
    rw [hn] at hs1 hs2 hh2
    have HH := Lib.hid (Blk.newL w z32 24)
    have HG := Lib.hid (hg.below hb1)
    have H1 := Lib.hid (hh1.below hb1)
    have H2 := Lib.hid (hh2.below hb1)
    have HN := Lib.hid hn
    have HK := Lib.hid hk
    have hne : ¬ (n : Int) = 0 := by omega
    have hne1 : ¬ (n : Int) = 1 := by omega
    obtain ⟨R1, hR1⟩ : ∃ R1, R1 = rootN ndH e0H (l.take k) := ⟨_, rfl⟩
    obtain ⟨R2, hR2⟩ : ∃ R2, R2 = rootN ndH e0H (l.drop k) := ⟨_, rfl⟩
    rw [← hR1, ← hR2]
    have HR1 := Lib.hid hR1
    have HR2 := Lib.hid hR2
    clear hs hh1 hh2 hg hn hk hR1 hR2
    go_enter Tryd.func32, Tryd.ntmps32
    go_wp2_with (first
      | (go_at_call 22; refine (split_any n _ (by omega)).mono ?_; rintro e w2 ⟨rfl, rfl⟩; rw [← HK.out])
      | fail)
    refine wp_region_mono 9 ((w.alloc (.cells z32.toArray 24)).heap.size) [(fun v _ => v = .slice xa n ca), (fun v _ => v = .int .i64 k), (fun v _ => v = .slice a1 k c1), (fun v _ => v = hv R1), (fun v _ => v = .slice xa n ca), (fun v _ => v = .int .i64 k), (fun v _ => v = .slice a2 (n - k) c2), (fun v _ => v = hv R2), (fun v _ => v = hv (ndH R1 R2))] (by kernel_rfl) (by kernel_rfl) (Nat.le_refl _) ?mkept _ rfl ?mops ?mfin
    case mkept =>
      repeat (refine List.forall_mem_cons.2 ⟨by first | exact fun _ _ _ _ h => h | exact fun _ _ _ hb h => Parts.below h hb | exact fun _ _ _ hb h => IsSl.below h hb, ?_⟩)
      exact fun _ h => by cases h
    case mops =>
      simp only [List.take_succ_cons, List.take_zero, monoAll, List.getD_cons_zero, List.getD_cons_succ]
      iterate 9
      
       (refine ⟨fun x wr hb hd Qg hK => ?_, ?_⟩
        · as_aux_lemma =>
          simp only [fill, Act.put, List.setIfInBounds_toArray, List.set_cons_succ, List.set_cons_zero, needs, Region.binds, List.filter_cons, List.filter_nil, List.map_cons, List.map_nil, if_true, List.mem_cons, List.not_mem_nil, or_false, forall_eq_or_imp, forall_eq, List.getD_cons_zero, List.getD_cons_succ, false_implies, implies_true] at hd hK ⊢
          (try simp only [hd] at hK ⊢)
          first
          | (show wpList _ _ _ [⟨some 20, .call _, _, _, _, _⟩] _ _; go_wp2_with (go_at_call 32; refine (ih k hlt _ _ wr (by rw [List.length_take, HN.out]; omega) (by omega) (H1.out.below hb) (HG.out.below hb)).mono ?_; rintro e w5 ⟨rfl, hb5⟩); exact hK _ _ (by rw [HR1.out]) hb5)
          | (show wpList _ _ _ [⟨some 24, .call _, _, _, _, _⟩] _ _; go_wp2_with (go_at_call 32; refine (ih (n - k) (by omega) _ _ wr (by rw [List.length_drop, HN.out]) (by omega) (H2.out.below hb) (HG.out.below hb)).mono ?_; rintro e w5 ⟨rfl, hb5⟩); exact hK _ _ (by rw [HR2.out]) hb5)
          | (show wpList _ _ _ [⟨some 25, .call _, _, _, _, _⟩] _ _; go_wp2_with (go_at_call 19; refine (node_any R1 R2 wr (HG.out.below hb)).mono ?_; rintro e w5 ⟨rfl, hb5⟩); exact hK _ _ (rfl) hb5)
          | (go_wp2_with fail; exact hK _ _ rfl (Below.refl _ _)))
      trivial
    case mfin =>
      intro x wr hb hR
      have x8 := hR 8 (by decide)
      simp only [List.getD_cons_zero, List.getD_cons_succ] at x8
      have HH2 := Lib.hid (HH.out.below hb (by simp))
      have hw2 := hb1.trans (hb.mono hb1.size)
      clear hR hb hb1 HH HG H1 H2 ih
      simp only [List.drop_succ_cons, List.drop_zero]
      generalize List.toArray _ = L0
      simp only [List.take_succ_cons, List.take_zero, List.map_cons, List.map_nil, fill, Act.put, List.setIfInBounds_toArray, List.set_cons_succ, List.set_cons_zero, x8]
      clear x8
      go_wp2_with (first
        | (refine wpList_store_row rfl 24 (.tmp 2) (.tmp 25) rfl w.heap.size (bytesV (ndH R1 R2).b).toArray rfl rfl 24 z32.toArray (by exact HH2.out) (by exact hv_row _) (by exact z32_old _) (by exact hv_one _) ?_)
        | fail)
      exact bodyPost_ret (v := hv (ndH R1 R2)) (results_cell_row rfl _ _ w.heap.size 24 _ (0, 0) _ rfl (HH2.out.setRow _) Tryd.underlying24 rfl (hv_row _)) rfl ⟨rfl, below_setRow hw2 (Nat.le_refl _) _⟩
end Go.Proofs.YtkfplliipogagaaDoor
