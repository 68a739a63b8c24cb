/- The walks of the reference's Leaf, Pair and Split. The walks of the reference's Split and Root. The walks of the reference's Same and Trees. Conditions: what each part says. -/
import Derived.Test.YtldokkbfahobgaaDoorTreeW
import Derived.Test.YtldokkbfahobgaaDoorRefS
import Derived.Test.YtldokkbfahobgaaDoorGround
import Derived.Test.YtldokkbfahobgaaDoorHashP
/-! Ref5A: The walks of the reference's Leaf, Pair and Split. Conditions: the bytes can be read, at most 2^45; the package's tables read as they are laid. -/
namespace Go.Proofs.YtldokkbfahobgaaDoor
open Go.RowKit

set_option maxRecDepth 100000 in
set_option maxHeartbeats 400000 in
theorem bytes_is {w : World} {b : Nat} {x : H} {e : TypeId} (h : Blk w b (bytesV x.b) e) : IsSl w (.slice (some ⟨b, 0, none⟩) 32 32) 1 32 (bytesV x.b) := by
  have := bytes_box h
  unfold Bytes at this
  rw [x.len] at this
  exact this
set_option maxRecDepth 100000 in
set_option maxHeartbeats 400000 in
theorem pair_any (l r : H) (w : World) :
    Calls Tryd.prog 42 #[hv l, hv r] w fun e w' => (∃ v, e = .returned v ∧ Bytes w' v (1 :: (l.b ++ r.b))) ∧ Below w.heap.size w w' := by
  obtain ⟨i0, hi, hz0, hz1, hz2⟩ := info_parts info_u8
  obtain ⟨w1, hw1⟩ : ∃ w1, w1 = (w.alloc (.cells (bytesV l.b).toArray 31)).alloc (.cells (bytesV r.b).toArray 31) := ⟨_, rfl⟩
  have hb1 : Below w.heap.size w w1 := by rw [hw1]; (repeat (first | with_reducible assumption | with_reducible exact Below.refl _ _ | ((with_reducible refine Below.setCell ?_ ?_ _); rotate_left; focus (first | omega | (simp; done) | (simp; omega))) | ((with_reducible refine Below.alloc ?_ ?_ _); rotate_left; focus (first | omega | (simp; done) | (simp; omega))) | ((with_reducible refine below_setRow ?_ ?_ _); rotate_left; focus (first | omega | (simp; done) | (simp; omega))) | (with_reducible refine below_drewN ?_ _) | (with_reducible refine Below.drew ?_)))
  have hs1 : w1.heap.size = w.heap.size + 1 + 1 := by rw [hw1]; simp
  have hL : Blk w1 w.heap.size (bytesV l.b) 31 := by rw [hw1]; exact (Blk.newL w _ _).alloc _
  have hR : Blk w1 (w.heap.size + 1) (bytesV r.b) 31 := by rw [hw1]; exact Blk.newL1 w _ _ _
  have HL := Lib.hid hL
  have HR := Lib.hid hR
  have HI := Lib.hid hi
  have HW := Lib.hid hw1
  clear hL hR hi
  go_enter Tryd.func42, Tryd.ntmps42
  unfold hv
  go_wp2_with fail
  refine wp_world hw1 ?_
  clear hw1
  refine wp_region_forced [1, 3] [0, 2, 4, 5] (by kernel_rfl) (by kernel_rfl) (fun _ _ _ d _ h => by cases d <;> exact h) _ _ rfl rfl ?_
  simp only [List.map_cons, List.map_nil, List.getD_cons_succ, List.getD_cons_zero]
  refine wpPure_run (.slice (some ⟨w.heap.size, 0, none⟩) 32 32) rfl (fun w' => ?_) ?_
  · simp [go_sem, execOp]
  refine wpPure_run (.slice (some ⟨w.heap.size + 1, 0, none⟩) 32 32) rfl (fun w' => ?_) ?_
  · simp [go_sem, execOp]
  refine wpPure_nil ?_
  intro nq
  obtain ⟨w2, hw2⟩ : ∃ w2, w2 = (w1.drewN nq).alloc (.cells (bytesV [1]).toArray 5) := ⟨_, rfl⟩
  have hb2 : Below w1.heap.size w1 w2 := by rw [hw2]; exact (below_drewN (Below.refl _ _) nq).alloc (by simp) _
  have hs2 : w2.heap.size = w1.heap.size + 1 := by rw [hw2]; simp
  have hO2 : w2.ownsRow (w.heap.size + 1 + 1) 5 1 (.slice (some ⟨w.heap.size + 1 + 1, 0, none⟩) 1 1) 1 (bytesV [1]) := by
    rw [hw2, ← hs1]
    exact World.ownsRow_lit (w1.drewN nq) (bytesV [1]).toArray (e := 5) (size := 1) (base := w1.heap.size) 1 (by simp) (by decide) rfl
  have HO2 := Lib.hid hO2
  have hL2 : IsSl w2 (.slice (some ⟨w.heap.size, 0, none⟩) 32 32) 1 32 (bytesV l.b) := by
    have := bytes_box (HL.out.below hb2 (by omega))
    unfold Bytes at this
    rw [l.len] at this
    exact this
  have HL2 := Lib.hid hL2
  have HR2 := Lib.hid (HR.out.below hb2 (by omega))
  have HW2 := Lib.hid hw2
  clear hO2 HL HR hL2 hw2
  have hll := l.len
  have hrl := r.len
  go_wp2_with (first
    | (at_builtin; refine wpList_app rfl (.tmp 5) (.tmp 6) 48 rfl (w.heap.size + 1 + 1) 5 i0 (.int .u8 0) 1 1 Tryd.underlying48 HI.out hz0 hz1 hz2 rfl (by decide) (.slice (some ⟨w.heap.size + 1 + 1, 0, none⟩) 1 1) 1 (bytesV [1]) rfl (by exact HW2.out ▸ HO2.out) _ 32 (bytesV l.b) rfl (by exact HW2.out ▸ HL2.out) (by unfold maxLen; omega) (by omega) (by simp <;> omega) ?_; intro a3 cap3 w3 hown3 hgrow3 _;
       have hgrow3 : w2.grownBy w3 (Value.slice (some ⟨w.heap.size + 1 + 1, 0, none⟩) 1 1).ownBlock := (by rw [HW2.out]; exact hgrow3);
       have hw3 := (hb1.trans (hb2.mono hb1.size)).grown hgrow3 (by omega) (fun k hk => (by simp [Value.ownBlock] at hk; omega)); have hr3 := HR2.out.grown hgrow3 (by simp [Value.ownBlock] <;> omega); have HR3 := Lib.hid (bytes_is hr3); have HO3 := Lib.hid hown3; have hs3 := hgrow3.size; clear hr3 hown3 hgrow3)
    | (at_builtin; refine wpList_app rfl (.tmp 7) (.tmp 8) 48 rfl (w.heap.size + 1 + 1) 5 i0 (.int .u8 0) 1 1 Tryd.underlying48 HI.out hz0 hz1 hz2 rfl (by decide) (.slice a3 33 cap3) 33 (bytesV [1] ++ bytesV l.b) rfl (by exact HO3.out) _ 32 (bytesV r.b) rfl (by exact HR3.out) (by unfold maxLen; omega) (by omega) (by omega) ?_; intro a4 cap4 w4 hown4 hgrow4 _;
       have hw4 := hw3.grown hgrow4 (by omega) (fun k hk => (by have := (HO3.out.lt k hk).1; omega)); have HO4 := Lib.hid hown4; clear hown4 hgrow4)
    | fail)
  go_ret
  refine ⟨⟨_, rfl, ?_⟩, hw4⟩
  have h4 := ownsRow_isSl HO4.out (by intro u hu; rw [List.mem_append, List.mem_append] at hu; rcases hu with (h | h) | h <;> exact bytesV_one _ _ h)
  rw [← bytesV_app, ← bytesV_app] at h4
  unfold Bytes
  rw [show (1 :: (l.b ++ r.b)).length = 65 by simp [hll, hrl]]
  exact h4
end Go.Proofs.YtldokkbfahobgaaDoor

/-! Ref5B: The walks of the reference's Split and Root. Conditions: the number is at most 2^61; the list can be read, at most 2^40 hashes; the package's tables read as they are laid. -/
namespace Go.Proofs.YtldokkbfahobgaaDoor
open Go.RowKit

set_option maxRecDepth 100000 in
set_option maxHeartbeats 400000 in
theorem refsplit_low (n : Int) (w : World) (h : n < 2) :
    Calls Tryd.prog 41 #[.int .i64 n] w fun e w' => e = .returned (.int .i64 0) ∧ w' = w := by
  have h1 : ¬ (1 < n) := by omega
  go_enter Tryd.func41, Tryd.ntmps41
  go_wp2_with fail
  go_loopw [3, 4] (fun kv pv wr => kv = .int .i64 0 ∧ pv = .int .i64 1 ∧ wr = w) (fun _ _ _ => 0)
  case atStart => exact ⟨rfl, rfl, rfl⟩
  case round =>
    obtain ⟨rfl, rfl, rfl⟩ := hrel
    go_wp2_with fail
    go_ret
    exact ⟨rfl, rfl⟩
set_option maxRecDepth 100000 in
set_option maxHeartbeats 400000 in
theorem refsplit_any (n : Nat) (w : World) (hn : n ≤ 2305843009213693952) :
    Calls Tryd.prog 41 #[.int .i64 n] w fun e w' => e = .returned (.int .i64 (splitN n)) ∧ w' = w := by
  by_cases h2 : n < 2
  · rw [splitN_small n h2]
    exact refsplit_low n w (by omega)
  · go_enter Tryd.func41, Tryd.ntmps41
    go_wp2_with fail
    go_loopw [3, 4] (fun kv pv wr => ∃ (k p j : Nat), kv = .int .i64 k ∧ pv = .int .i64 p ∧ p = 2 ^ j ∧ 1 ≤ p ∧ p < 2 * n ∧ (p = 1 ∨ (2 * k = p ∧ k < n)) ∧ wr = w) (fun _ pv _ => n - (intOf pv).toNat)
    case atStart => exact ⟨0, 1, 0, rfl, rfl, rfl, by omega, by omega, .inl rfl, rfl⟩
    case round =>
      obtain ⟨k, p, j, rfl, rfl, hp, h1, hpn, hk, rfl⟩ := hrel
      have HP := Lib.hid hp
      have HK := Lib.hid hk
      clear hp hk
      by_cases hlt : p < n
      · have hlt' : (p : Int) < n := by omega
        go_wp2_with fail
        exact ⟨⟨p, p * 2, j + 1, rfl, by go_num, by rw [HP.out, Nat.pow_succ], by omega, by omega, .inr ⟨by omega, hlt⟩, by trivial⟩, by simp [intOf]; omega⟩
      · have hlt' : ¬ (p : Int) < n := by omega
        go_wp2_with fail
        go_ret
        refine ⟨?_, rfl⟩
        have h3 := HK.out
        cases j with
        | zero =>
          have := HP.out
          simp at this
          omega
        | succ i =>
          have h4 := HP.out
          rw [Nat.pow_succ] at h4
          have h5 : k = 2 ^ i := by omega
          rw [splitN_unique n i (by omega) (by rw [Nat.pow_succ]; omega), ← h5]
          rfl
set_option maxRecDepth 100000 in
set_option maxHeartbeats 400000 in
theorem refroot_empty (xa : Option Addr) (ca : Nat) (w : World) (hg : Glob w) :
    Calls Tryd.prog 25 #[.slice xa 0 ca] w fun e w' => e = .returned (hv e0H) ∧ Below w.heap.size w w' := by
  have hb1 : Below w.heap.size w (w.alloc (.cells z32.toArray 31)) := by (repeat (first | with_reducible assumption | with_reducible exact Below.refl _ _ | ((with_reducible refine Below.setCell ?_ ?_ _); rotate_left; focus (first | omega | (simp; done) | (simp; omega))) | ((with_reducible refine Below.alloc ?_ ?_ _); rotate_left; focus (first | omega | (simp; done) | (simp; omega))) | ((with_reducible refine below_setRow ?_ ?_ _); rotate_left; focus (first | omega | (simp; done) | (simp; omega))) | (with_reducible refine below_drewN ?_ _) | (with_reducible refine Below.drew ?_)))
  have HG := Lib.hid (hg.below hb1)
  clear hg
  go_enter Tryd.func25, Tryd.ntmps25
  go_wp2_with fail
  refine (refsum_any (.slice none 0 0) [] (w.alloc (.cells z32.toArray 31)) (bytes_nil _) (by decide) HG.out).mono ?_
  rintro e w2 ⟨rfl, hb2⟩
  have hH : Blk w2 w.heap.size z32 31 := (Blk.newL w z32 _).below hb2 (by simp)
  have HH := Lib.hid hH
  have hw2 := hb1.trans (hb2.mono hb1.size)
  clear hH hb1 hb2 HG
  go_wp2_with (first
    | (refine wpList_store_row rfl 31 (.tmp 2) (.tmp 7) rfl w.heap.size (bytesV e0H.b).toArray rfl rfl 31 z32.toArray (by exact HH.out) (by exact hv_row _) (by exact z32_old _) (by exact hv_one _) ?_)
    | fail)
  exact bodyPost_ret (v := hv e0H) (results_cell_row rfl _ _ w.heap.size 31 _ (0, 0) _ rfl (HH.out.setRow _) Tryd.underlying31 rfl (hv_row _)) rfl ⟨rfl, below_setRow hw2 (Nat.le_refl _) _⟩
set_option maxRecDepth 100000 in
set_option maxHeartbeats 400000 in
theorem refroot_one (v : Value) (x : H) (w : World) (hs : Hs w v [x]) :
    Calls Tryd.prog 25 #[v] w fun e w' => e = .returned (hv x) ∧ Below w.heap.size w w' := by
  obtain ⟨b, off, cap, rfl, _, hr, hbw⟩ := hs.pos (by simp)
  have hb1 : Below w.heap.size w (w.alloc (.cells z32.toArray 31)) := by (repeat (first | with_reducible assumption | with_reducible exact Below.refl _ _ | ((with_reducible refine Below.setCell ?_ ?_ _); rotate_left; focus (first | omega | (simp; done) | (simp; omega))) | ((with_reducible refine Below.alloc ?_ ?_ _); rotate_left; focus (first | omega | (simp; done) | (simp; omega))) | ((with_reducible refine below_setRow ?_ ?_ _); rotate_left; focus (first | omega | (simp; done) | (simp; omega))) | (with_reducible refine below_drewN ?_ _) | (with_reducible refine Below.drew ?_)))
  have hr1 : (w.alloc (.cells z32.toArray 31)).rangeAt b off (bytesV x.b) := by
    have h0 := Hs.elem hr (i := 0) (x := x) rfl
    rw [Nat.zero_mul, Nat.add_zero] at h0
    exact range_below h0 hb1
  have HR := Lib.hid hr1
  have HH := Lib.hid (Blk.newL w z32 31)
  clear hs hr hr1
  go_enter Tryd.func25, Tryd.ntmps25
  go_wp2_with (first
    | (refine wpList_load_mid rfl 31 (.tmp 12) rfl b off rfl (bytesV x.b) _ (by exact HR.out) Tryd.underlying31 rfl (by exact hv_info _) ?_)
    | (refine wpList_store_row rfl 31 (.tmp 2) (.tmp 13) rfl w.heap.size (bytesV x.b).toArray rfl rfl 31 z32.toArray (by exact HH.out) (by exact hv_row _) (by exact z32_old _) (by exact hv_one _) ?_)
    | fail)
  exact bodyPost_ret (v := hv x) (results_cell_row rfl _ _ w.heap.size 31 _ (0, 0) _ rfl (HH.out.setRow _) Tryd.underlying31 rfl (hv_row _)) rfl ⟨rfl, below_setRow hb1 (Nat.le_refl _) _⟩

set_option maxRecDepth 100000 in
set_option maxHeartbeats 1000000 in
theorem refroot_any : ∀ (n : Nat) (v : Value) (l : List H) (w : World), l.length = n → n ≤ 1099511627776 → Hs w v l → Glob w →
    Calls Tryd.prog 25 #[v] w fun e w' => e = .returned (hv (rootN ndH e0H l)) ∧ Below w.heap.size w w' := by
  intro n
  induction n using Nat.strongRecOn with
  | _ n ih =>
    intro v l w hn hle hs hg
    by_cases h0 : n = 0
    · subst h0
      have hl := List.eq_nil_of_length_eq_zero hn
      subst hl
      obtain ⟨xa, ca, rfl, _⟩ := hs.form
      rw [rootN_nil]
      exact refroot_empty _ _ w hg
    by_cases h1 : n = 1
    · obtain ⟨x, rfl⟩ := List.length_eq_one_iff.1 (hn.trans h1)
      rw [rootN_one]
      exact refroot_one v x w hs
    have h2 : 2 ≤ n := by omega
    obtain ⟨xa, ca, rfl, _⟩ := hs.form
    obtain ⟨k, hk⟩ : ∃ k, k = splitN n := ⟨_, rfl⟩
    have hlt := splitN_lt n h2
    have hpos := splitN_pos n h2
    rw [← hk] at hlt hpos
    rw [rootN_two _ _ l (by omega), hn, ← hk]
    obtain ⟨a1, c1, hs1, hh1⟩ := hs_head hs k (by omega)
    obtain ⟨a2, c2, hs2, hh2⟩ := hs_tail hs k (by omega)
    have hb1 : Below w.heap.size w (w.alloc (.cells z32.toArray 31)) := by (repeat (first | with_reducible assumption | with_reducible exact Below.refl _ _ | ((with_reducible refine Below.setCell ?_ ?_ _); rotate_left; focus (first | omega | (simp; done) | (simp; omega))) | ((with_reducible refine Below.alloc ?_ ?_ _); rotate_left; focus (first | omega | (simp; done) | (simp; omega))) | ((with_reducible refine below_setRow ?_ ?_ _); rotate_left; focus (first | omega | (simp; done) | (simp; omega))) | (with_reducible refine below_drewN ?_ _) | (with_reducible refine Below.drew ?_)))
    rw [hn] at hs1 hs2 hh2
    have HH := Lib.hid (Blk.newL w z32 31)
    have HG := Lib.hid (hg.below hb1)
    have H1 := Lib.hid (hh1.below hb1)
    have H2 := Lib.hid (hh2.below hb1)
    have HN := Lib.hid hn
    have HK := Lib.hid hk
    have hne : ((n : Int) == 0) = false := by rw [beq_eq_false_iff_ne]; omega
    have hne1 : ((n : Int) == 1) = false := by rw [beq_eq_false_iff_ne]; omega
    obtain ⟨R1, hR1⟩ : ∃ R1, R1 = rootN ndH e0H (l.take k) := ⟨_, rfl⟩
    obtain ⟨R2, hR2⟩ : ∃ R2, R2 = rootN ndH e0H (l.drop k) := ⟨_, rfl⟩
    rw [← hR1, ← hR2]
    have HR1 := Lib.hid hR1
    have HR2 := Lib.hid hR2
    clear hs hh1 hh2 hg hn hk hR1 hR2
    go_enter Tryd.func25, Tryd.ntmps25
    go_wp2_with (first
      | (go_at_call 41; refine (refsplit_any n _ (by omega)).mono ?_; rintro e w2 ⟨rfl, rfl⟩; rw [← HK.out])
      | fail)
    refine wp_region_mono 10 ((w.alloc (.cells z32.toArray 31)).heap.size) [(fun v _ => v = .slice xa n ca), (fun v _ => v = .int .i64 k), (fun v _ => v = .slice a1 k c1), (fun v _ => v = hv R1), (fun v _ => v = .slice xa n ca), (fun v _ => v = .int .i64 k), (fun v _ => v = .slice a2 (n - k) c2), (fun v _ => v = hv R2), (fun v w => Bytes w v (1 :: (R1.b ++ R2.b))), (fun v _ => v = hv (ndH R1 R2))] (by kernel_rfl) (by kernel_rfl) (Nat.le_refl _) ?mkept _ rfl ?mops ?mfin
    case mkept =>
      repeat (refine List.forall_mem_cons.2 ⟨by first | exact fun _ _ _ _ h => h | exact fun _ _ _ hb h => Parts.below h hb | exact fun _ _ _ hb h => IsSl.below h hb, ?_⟩)
      exact fun _ h => by cases h
    case mops =>
      simp only [List.take_succ_cons, List.take_zero, monoAll, List.getD_cons_zero, List.getD_cons_succ]
      iterate 10
      
       (refine ⟨fun x wr hb hd Qg hK => ?_, ?_⟩
        · as_aux_lemma =>
          simp only [fill, Act.put, List.setIfInBounds_toArray, List.set_cons_succ, List.set_cons_zero, needs, Region.binds, List.filter_cons, List.filter_nil, List.map_cons, List.map_nil, if_true, List.mem_cons, List.not_mem_nil, or_false, forall_eq_or_imp, forall_eq, List.getD_cons_zero, List.getD_cons_succ, false_implies, implies_true] at hd hK ⊢
          (try simp only [hd] at hK ⊢)
          first
          | (show wpList _ _ _ [⟨some 20, .call _, _, _, _, _⟩] _ _; go_wp2_with (go_at_call 25; refine (ih k hlt _ _ wr (by rw [List.length_take, HN.out]; omega) (by omega) (H1.out.below hb) (HG.out.below hb)).mono ?_; rintro e w5 ⟨rfl, hb5⟩); exact hK _ _ (by rw [HR1.out]) hb5)
          | (show wpList _ _ _ [⟨some 24, .call _, _, _, _, _⟩] _ _; go_wp2_with (go_at_call 25; refine (ih (n - k) (by omega) _ _ wr (by rw [List.length_drop, HN.out]) (by omega) (H2.out.below hb) (HG.out.below hb)).mono ?_; rintro e w5 ⟨rfl, hb5⟩); exact hK _ _ (by rw [HR2.out]) hb5)
          | (show wpList _ _ _ [⟨some 25, .call _, _, _, _, _⟩] _ _; go_wp2_with (go_at_call 42; refine (pair_any R1 R2 wr).mono ?_; rintro e w5 ⟨⟨v5, rfl, hv5⟩, hb5⟩); exact hK _ _ hv5 hb5)
          | (show wpList _ _ _ [⟨some 26, .call _, _, _, _, _⟩] _ _; go_wp2_with (go_at_call 40; refine (refsum_any (x 8) (1 :: (R1.b ++ R2.b)) wr hd.1 (by simp [H.len]) (HG.out.below hb)).mono ?_; rintro e w5 ⟨rfl, hb5⟩); exact hK _ _ (rfl) hb5)
          | (go_wp2_with fail; exact hK _ _ rfl (Below.refl _ _)))
      trivial
    case mfin =>
      intro x wr hb hR
      have x9 := hR 9 (by decide)
      simp only [List.getD_cons_zero, List.getD_cons_succ] at x9
      have HH2 := Lib.hid (HH.out.below hb (by simp))
      have hw2 := hb1.trans (hb.mono hb1.size)
      clear hR hb hb1 HH HG H1 H2 ih
      simp only [List.drop_succ_cons, List.drop_zero]
      generalize List.toArray _ = L0
      simp only [List.take_succ_cons, List.take_zero, List.map_cons, List.map_nil, fill, Act.put, List.setIfInBounds_toArray, List.set_cons_succ, List.set_cons_zero, x9]
      clear x9
      go_wp2_with (first
        | (refine wpList_store_row rfl 31 (.tmp 2) (.tmp 26) rfl w.heap.size (bytesV (ndH R1 R2).b).toArray rfl rfl 31 z32.toArray (by exact HH2.out) (by exact hv_row _) (by exact z32_old _) (by exact hv_one _) ?_)
        | fail)
      exact bodyPost_ret (v := hv (ndH R1 R2)) (results_cell_row rfl _ _ w.heap.size 31 _ (0, 0) _ rfl (HH2.out.setRow _) Tryd.underlying31 rfl (hv_row _)) rfl ⟨rfl, below_setRow hw2 (Nat.le_refl _) _⟩
end Go.Proofs.YtldokkbfahobgaaDoor

/-! Ref5C: The walks of the reference's Same and Trees. Conditions: the lists can be read, at most 2^40 hashes; the package's tables read as they are laid. -/
namespace Go.Proofs.YtldokkbfahobgaaDoor
open Go.RowKit

theorem ne_hash (w : World) (x y : H) (h : x ≠ y) : (Op.equalIn 10000 31 (.agg (bytesV x.b).toArray) (.agg (bytesV y.b).toArray)).run Tryd.prog w = .ok false w := by
  rw [eq_hash w x.b y.b x.len y.len, beq_eq_false_iff_ne.2 (fun e => h (H.ext e))]
theorem is_hash (w : World) (x : H) : (Op.equalIn 10000 31 (.agg (bytesV x.b).toArray) (.agg (bytesV x.b).toArray)).run Tryd.prog w = .ok true w := eq_hash_same w x.b x.len
/-- The whole trees so far, and the list that is left. -/
structure TreesJ (w : World) (l done l' : List H) (lv ov : Value) (wr : World) : Prop where
  rest : Hs w lv l'
  own : wr.ownsRow w.heap.size 31 32 ov done.length (bytesV (hflat done))
  sum : done ++ treesN ndH e0H l' = treesN ndH e0H l
  few : done.length + l'.length ≤ l.length
  old : Below w.heap.size w wr
end Go.Proofs.YtldokkbfahobgaaDoor
