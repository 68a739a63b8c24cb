/- The walks of the reference's Leaf, Pair and Split. The walks of the reference's Split and Root. The walks of the reference's Same and Trees. Conditions: what each part says. -/
import Derived.Test.YtkfplliipogagaaDoorTreeW
import Derived.Test.YtkfplliipogagaaDoorRefS
import Derived.Test.YtkfplliipogagaaDoorGround
import Derived.Test.YtkfplliipogagaaDoorHashP
/-! Ref5A: The walks of the reference's Leaf, Pair and Split. Conditions: the bytes can be read, at most 2^45; the package's tables read as they are laid. -/
namespace Go.Proofs.YtkfplliipogagaaDoor
open Go.RowKit

set_option maxRecDepth 100000 in
set_option maxHeartbeats 400000 in
theorem refleaf_any (v : Value) (b : List UInt8) (w : World) (hb : Bytes w v b) (hl : b.length ≤ 35184372088832) (hg : Glob w) :
    Calls Tryd.prog 18 #[v] w fun e w' => e = .returned (hv (lfH b)) ∧ Below w.heap.size w w' := by
  obtain ⟨i0, hi, hz0, hz1, hz2⟩ := info_parts info_u8
  obtain ⟨xa, ca, rfl, _⟩ := hb.form
  obtain ⟨w1, hw1⟩ : ∃ w1, w1 = (w.alloc (.cells z32.toArray 24)).alloc (.cells (bytesV [0]).toArray 5) := ⟨_, rfl⟩
  have hb1 : Below w.heap.size w w1 := by rw [hw1]; (repeat (first | with_reducible assumption | with_reducible exact Below.refl _ _ | ((with_reducible refine Below.setCell ?_ ?_ _); rotate_left; focus (first | omega | (simp; done) | (simp; omega))) | ((with_reducible refine Below.alloc ?_ ?_ _); rotate_left; focus (first | omega | (simp; done) | (simp; omega))) | ((with_reducible refine below_setRow ?_ ?_ _); rotate_left; focus (first | omega | (simp; done) | (simp; omega))) | (with_reducible refine below_drewN ?_ _) | (with_reducible refine Below.drew ?_)))
  have hs1 : w1.heap.size = w.heap.size + 1 + 1 := by rw [hw1]; simp
  have hH1 : Blk w1 w.heap.size z32 24 := by rw [hw1]; exact (Blk.newL w z32 _).alloc _
  have hO1 : w1.ownsRow (w.heap.size + 1) 5 1 (.slice (some ⟨w.heap.size + 1, 0, none⟩) 1 1) 1 (bytesV [0]) := by
    have := World.ownsRow_lit (w.alloc (.cells z32.toArray 24)) (bytesV [0]).toArray (e := 5) (size := 1) (base := w.heap.size + 1) 1 (by simp) (by decide) rfl
    rw [hw1]
    rw [World.size_alloc] at this
    exact this
  have HB := Lib.hid (hb.below hb1)
  have HO := Lib.hid hO1
  have HH := Lib.hid hH1
  have HG := Lib.hid hg
  have HI := Lib.hid hi
  have HW := Lib.hid hw1
  clear hb hg hO1 hH1 hi hw1
  go_enter Tryd.func18, Tryd.ntmps18
  go_wp2_with (first
    | (at_builtin; refine wpList_app rfl (.tmp 3) (.tmp 4) 22 rfl (w.heap.size + 1) 5 i0 (.int .u8 0) 1 1 Tryd.underlying22 HI.out hz0 hz1 hz2 rfl (by decide) (.slice (some ⟨w.heap.size + 1, 0, none⟩) 1 1) 1 (bytesV [0]) rfl (by exact HW.out ▸ HO.out) _ b.length (bytesV b) rfl (by exact HW.out ▸ HB.out) (by unfold maxLen; omega) (by omega) (by simp) ?_; intro a3 cap3 w3 hown3 hgrow3 _)
    | fail)
  have hgrow3 : w1.grownBy w3 (Value.slice (some ⟨w.heap.size + 1, 0, none⟩) 1 1).ownBlock := by rw [HW.out]; exact hgrow3
  have hH3 := HH.out.grown hgrow3 (by simp [Value.ownBlock])
  have hw3 := hb1.grown hgrow3 (by omega) (fun k hk => by simp [Value.ownBlock] at hk; omega)
  have hV3 : Bytes w3 (.slice a3 (1 + b.length) cap3) (0 :: b) := by
    have := ownsRow_isSl hown3 (by intro u hu; rw [List.mem_append] at hu; rcases hu with h | h <;> exact bytesV_one _ _ h)
    unfold Bytes
    rw [List.length_cons, Nat.add_comm b.length 1]
    exact this
  have HH3 := Lib.hid hH3
  have hlt3 := hH3.lt
  refine (refsum_any _ (0 :: b) w3 hV3 (by simp; omega) (HG.out.below hw3)).mono ?_
  rintro e w4 ⟨rfl, hb4⟩
  have HH4 := Lib.hid (HH3.out.below hb4 hlt3)
  have hw4 := hw3.trans (hb4.mono hw3.size)
  clear hown3 hgrow3 hH3 hV3 HH3 hw3 hb4 hb1 HB HO HH
  go_wp2_with (first
    | (refine wpList_store_row rfl 24 (.tmp 2) (.tmp 6) rfl w.heap.size (bytesV (lfH b).b).toArray rfl rfl 24 z32.toArray (by exact HH4.out) (by exact hv_row _) (by exact z32_old _) (by exact hv_one _) ?_)
    | fail)
  exact bodyPost_ret (v := hv (lfH b)) (results_cell_row rfl _ _ w.heap.size 24 _ (0, 0) _ rfl (HH4.out.setRow _) Tryd.underlying24 rfl (hv_row _)) rfl ⟨rfl, below_setRow hw4 (Nat.le_refl _) _⟩

set_option maxRecDepth 100000 in
set_option maxHeartbeats 400000 in
theorem bytes_is {w : World} {b : Nat} {x : H} {e : TypeId} (h : Blk w b (bytesV x.b) e) : IsSl w (.slice (some ⟨b, 0, none⟩) 32 32) 1 32 (bytesV x.b) := by
  have := bytes_box h
  unfold Bytes at this
  rw [x.len] at this
  exact this
set_option maxRecDepth 100000 in
set_option maxHeartbeats 400000 in
theorem pair_any (l r : H) (w : World) :
    Calls Tryd.prog 21 #[hv l, hv r] w fun e w' => (∃ v, e = .returned v ∧ Bytes w' v (1 :: (l.b ++ r.b))) ∧ Below w.heap.size w w' := by
  obtain ⟨i0, hi, hz0, hz1, hz2⟩ := info_parts info_u8
  obtain ⟨w1, hw1⟩ : ∃ w1, w1 = (w.alloc (.cells (bytesV l.b).toArray 24)).alloc (.cells (bytesV r.b).toArray 24) := ⟨_, rfl⟩
  have hb1 : Below w.heap.size w w1 := by rw [hw1]; (repeat (first | with_reducible assumption | with_reducible exact Below.refl _ _ | ((with_reducible refine Below.setCell ?_ ?_ _); rotate_left; focus (first | omega | (simp; done) | (simp; omega))) | ((with_reducible refine Below.alloc ?_ ?_ _); rotate_left; focus (first | omega | (simp; done) | (simp; omega))) | ((with_reducible refine below_setRow ?_ ?_ _); rotate_left; focus (first | omega | (simp; done) | (simp; omega))) | (with_reducible refine below_drewN ?_ _) | (with_reducible refine Below.drew ?_)))
  have hs1 : w1.heap.size = w.heap.size + 1 + 1 := by rw [hw1]; simp
  have hL : Blk w1 w.heap.size (bytesV l.b) 24 := by rw [hw1]; exact (Blk.newL w _ _).alloc _
  have hR : Blk w1 (w.heap.size + 1) (bytesV r.b) 24 := by rw [hw1]; exact Blk.newL1 w _ _ _
  have HL := Lib.hid hL
  have HR := Lib.hid hR
  have HI := Lib.hid hi
  have HW := Lib.hid hw1
  clear hL hR hi
  go_enter Tryd.func21, Tryd.ntmps21
  unfold hv
  go_wp2_with fail
  refine wp_world hw1 ?_
  clear hw1
  refine wp_region_forced [1, 3] [0, 2, 4, 5] (by kernel_rfl) (by kernel_rfl) (fun _ _ _ d _ h => by cases d <;> exact h) _ _ rfl rfl ?_
  simp only [List.map_cons, List.map_nil, List.getD_cons_succ, List.getD_cons_zero]
  refine wpPure_run (.slice (some ⟨w.heap.size, 0, none⟩) 32 32) rfl (fun w' => ?_) ?_
  · simp [go_sem, execOp]
  refine wpPure_run (.slice (some ⟨w.heap.size + 1, 0, none⟩) 32 32) rfl (fun w' => ?_) ?_
  · simp [go_sem, execOp]
  refine wpPure_nil ?_
  intro nq
  obtain ⟨w2, hw2⟩ : ∃ w2, w2 = (w1.drewN nq).alloc (.cells (bytesV [1]).toArray 5) := ⟨_, rfl⟩
  have hb2 : Below w1.heap.size w1 w2 := by rw [hw2]; exact (below_drewN (Below.refl _ _) nq).alloc (by simp) _
  have hs2 : w2.heap.size = w1.heap.size + 1 := by rw [hw2]; simp
  have hO2 : w2.ownsRow (w.heap.size + 1 + 1) 5 1 (.slice (some ⟨w.heap.size + 1 + 1, 0, none⟩) 1 1) 1 (bytesV [1]) := by
    rw [hw2, ← hs1]
    exact World.ownsRow_lit (w1.drewN nq) (bytesV [1]).toArray (e := 5) (size := 1) (base := w1.heap.size) 1 (by simp) (by decide) rfl
  have HO2 := Lib.hid hO2
  have hL2 : IsSl w2 (.slice (some ⟨w.heap.size, 0, none⟩) 32 32) 1 32 (bytesV l.b) := by
    have := bytes_box (HL.out.below hb2 (by omega))
    unfold Bytes at this
    rw [l.len] at this
    exact this
  have HL2 := Lib.hid hL2
  have HR2 := Lib.hid (HR.out.below hb2 (by omega))
  have HW2 := Lib.hid hw2
  clear hO2 HL HR hL2 hw2
  have hll := l.len
  have hrl := r.len
  go_wp2_with (first
    | (at_builtin; refine wpList_app rfl (.tmp 5) (.tmp 6) 22 rfl (w.heap.size + 1 + 1) 5 i0 (.int .u8 0) 1 1 Tryd.underlying22 HI.out hz0 hz1 hz2 rfl (by decide) (.slice (some ⟨w.heap.size + 1 + 1, 0, none⟩) 1 1) 1 (bytesV [1]) rfl (by exact HW2.out ▸ HO2.out) _ 32 (bytesV l.b) rfl (by exact HW2.out ▸ HL2.out) (by unfold maxLen; omega) (by omega) (by simp <;> omega) ?_; intro a3 cap3 w3 hown3 hgrow3 _;
       have hgrow3 : w2.grownBy w3 (Value.slice (some ⟨w.heap.size + 1 + 1, 0, none⟩) 1 1).ownBlock := (by rw [HW2.out]; exact hgrow3);
       have hw3 := (hb1.trans (hb2.mono hb1.size)).grown hgrow3 (by omega) (fun k hk => (by simp [Value.ownBlock] at hk; omega)); have hr3 := HR2.out.grown hgrow3 (by simp [Value.ownBlock] <;> omega); have HR3 := Lib.hid (bytes_is hr3); have HO3 := Lib.hid hown3; have hs3 := hgrow3.size; clear hr3 hown3 hgrow3)
    | (at_builtin; refine wpList_app rfl (.tmp 7) (.tmp 8) 22 rfl (w.heap.size + 1 + 1) 5 i0 (.int .u8 0) 1 1 Tryd.underlying22 HI.out hz0 hz1 hz2 rfl (by decide) (.slice a3 33 cap3) 33 (bytesV [1] ++ bytesV l.b) rfl (by exact HO3.out) _ 32 (bytesV r.b) rfl (by exact HR3.out) (by unfold maxLen; omega) (by omega) (by omega) ?_; intro a4 cap4 w4 hown4 hgrow4 _;
       have hw4 := hw3.grown hgrow4 (by omega) (fun k hk => (by have := (HO3.out.lt k hk).1; omega)); have HO4 := Lib.hid hown4; clear hown4 hgrow4)
    | fail)
  go_ret
  refine ⟨⟨_, rfl, ?_⟩, hw4⟩
  have h4 := ownsRow_isSl HO4.out (by intro u hu; rw [List.mem_append, List.mem_append] at hu; rcases hu with (h | h) | h <;> exact bytesV_one _ _ h)
  rw [← bytesV_app, ← bytesV_app] at h4
  unfold Bytes
  rw [show (1 :: (l.b ++ r.b)).length = 65 by simp [hll, hrl]]
  exact h4
end Go.Proofs.YtkfplliipogagaaDoor

/-! Ref5B: The walks of the reference's Split and Root. Conditions: the number is at most 2^61; the list can be read, at most 2^40 hashes; the package's tables read as they are laid. -/
namespace Go.Proofs.YtkfplliipogagaaDoor
open Go.RowKit

set_option maxRecDepth 100000 in
set_option maxHeartbeats 400000 in
theorem refsplit_low (n : Int) (w : World) (h : n < 2) :
    Calls Tryd.prog 23 #[.int .i64 n] w fun e w' => e = .returned (.int .i64 0) ∧ w' = w := by
  have h1 : ¬ (1 < n) := by omega
  go_enter Tryd.func23, Tryd.ntmps23
  go_wp2_with fail
  go_loopw [3, 4] (fun kv pv wr => kv = .int .i64 0 ∧ pv = .int .i64 1 ∧ wr = w) (fun _ _ _ => 0)
  case atStart => exact ⟨rfl, rfl, rfl⟩
  case round =>
    obtain ⟨rfl, rfl, rfl⟩ := hrel
    go_wp2_with fail
    go_ret
    exact ⟨rfl, rfl⟩
set_option maxRecDepth 100000 in
set_option maxHeartbeats 400000 in
theorem refsplit_any (n : Nat) (w : World) (hn : n ≤ 2305843009213693952) :
    Calls Tryd.prog 23 #[.int .i64 n] w fun e w' => e = .returned (.int .i64 (splitN n)) ∧ w' = w := by
  by_cases h2 : n < 2
  · rw [splitN_small n h2]
    exact refsplit_low n w (by omega)
  · go_enter Tryd.func23, Tryd.ntmps23
    go_wp2_with fail
    go_loopw [3, 4] (fun kv pv wr => ∃ (k p j : Nat), kv = .int .i64 k ∧ pv = .int .i64 p ∧ p = 2 ^ j ∧ 1 ≤ p ∧ p < 2 * n ∧ (p = 1 ∨ (2 * k = p ∧ k < n)) ∧ wr = w) (fun _ pv _ => n - (intOf pv).toNat)
    case atStart => exact ⟨0, 1, 0, rfl, rfl, rfl, by omega, by omega, .inl rfl, rfl⟩
    case round =>
      obtain ⟨k, p, j, rfl, rfl, hp, h1, hpn, hk, rfl⟩ := hrel
      have HP := Lib.hid hp
      have HK := Lib.hid hk
      clear hp hk
      by_cases hlt : p < n
      · have hlt' : (p : Int) < n := by omega
        go_wp2_with fail
        exact ⟨⟨p, p * 2, j + 1, rfl, by go_num, by rw [HP.out, Nat.pow_succ], by omega, by omega, .inr ⟨by omega, hlt⟩, by trivial⟩, by simp [intOf]; omega⟩
      · have hlt' : ¬ (p : Int) < n := by omega
        go_wp2_with fail
        go_ret
        refine ⟨?_, rfl⟩
        have h3 := HK.out
        cases j with
        | zero =>
          have := HP.out
          simp at this
          omega
        | succ i =>
          have h4 := HP.out
          rw [Nat.pow_succ] at h4
          have h5 : k = 2 ^ i := by omega
          rw [splitN_unique n i (by omega) (by rw [Nat.pow_succ]; omega), ← h5]
          rfl
set_option maxRecDepth 100000 in
set_option maxHeartbeats 400000 in
theorem refroot_empty (xa : Option Addr) (ca : Nat) (w : World) (hg : Glob w) :
    Calls Tryd.prog 29 #[.slice xa 0 ca] w fun e w' => e = .returned (hv e0H) ∧ Below w.heap.size w w' := by
  have hb1 : Below w.heap.size w (w.alloc (.cells z32.toArray 24)) := by (repeat (first | with_reducible assumption | with_reducible exact Below.refl _ _ | ((with_reducible refine Below.setCell ?_ ?_ _); rotate_left; focus (first | omega | (simp; done) | (simp; omega))) | ((with_reducible refine Below.alloc ?_ ?_ _); rotate_left; focus (first | omega | (simp; done) | (simp; omega))) | ((with_reducible refine below_setRow ?_ ?_ _); rotate_left; focus (first | omega | (simp; done) | (simp; omega))) | (with_reducible refine below_drewN ?_ _) | (with_reducible refine Below.drew ?_)))
  have HG := Lib.hid (hg.below hb1)
  clear hg
  go_enter Tryd.func29, Tryd.ntmps29
  go_wp2_with fail
  refine (refsum_any (.slice none 0 0) [] (w.alloc (.cells z32.toArray 24)) (bytes_nil _) (by decide) HG.out).mono ?_
  rintro e w2 ⟨rfl, hb2⟩
  have hH : Blk w2 w.heap.size z32 24 := (Blk.newL w z32 _).below hb2 (by simp)
  have HH := Lib.hid hH
  have hw2 := hb1.trans (hb2.mono hb1.size)
  clear hH hb1 hb2 HG
  go_wp2_with (first
    | (refine wpList_store_row rfl 24 (.tmp 2) (.tmp 7) rfl w.heap.size (bytesV e0H.b).toArray rfl rfl 24 z32.toArray (by exact HH.out) (by exact hv_row _) (by exact z32_old _) (by exact hv_one _) ?_)
    | fail)
  exact bodyPost_ret (v := hv e0H) (results_cell_row rfl _ _ w.heap.size 24 _ (0, 0) _ rfl (HH.out.setRow _) Tryd.underlying24 rfl (hv_row _)) rfl ⟨rfl, below_setRow hw2 (Nat.le_refl _) _⟩
set_option maxRecDepth 100000 in
set_option maxHeartbeats 400000 in
theorem refroot_one (v : Value) (x : H) (w : World) (hs : Hs w v [x]) :
    Calls Tryd.prog 29 #[v] w fun e w' => e = .returned (hv x) ∧ Below w.heap.size w w' := by
  obtain ⟨b, off, cap, rfl, _, hr, hbw⟩ := hs.pos (by simp)
  have hb1 : Below w.heap.size w (w.alloc (.cells z32.toArray 24)) := by (repeat (first | with_reducible assumption | with_reducible exact Below.refl _ _ | ((with_reducible refine Below.setCell ?_ ?_ _); rotate_left; focus (first | omega | (simp; done) | (simp; omega))) | ((with_reducible refine Below.alloc ?_ ?_ _); rotate_left; focus (first | omega | (simp; done) | (simp; omega))) | ((with_reducible refine below_setRow ?_ ?_ _); rotate_left; focus (first | omega | (simp; done) | (simp; omega))) | (with_reducible refine below_drewN ?_ _) | (with_reducible refine Below.drew ?_)))
  have hr1 : (w.alloc (.cells z32.toArray 24)).rangeAt b off (bytesV x.b) := by
    have h0 := Hs.elem hr (i := 0) (x := x) rfl
    rw [Nat.zero_mul, Nat.add_zero] at h0
    exact range_below h0 hb1
  have HR := Lib.hid hr1
  have HH := Lib.hid (Blk.newL w z32 24)
  clear hs hr hr1
  go_enter Tryd.func29, Tryd.ntmps29
  go_wp2_with (first
    | (refine wpList_load_mid rfl 24 (.tmp 12) rfl b off rfl (bytesV x.b) _ (by exact HR.out) Tryd.underlying24 rfl (by exact hv_info _) ?_)
    | (refine wpList_store_row rfl 24 (.tmp 2) (.tmp 13) rfl w.heap.size (bytesV x.b).toArray rfl rfl 24 z32.toArray (by exact HH.out) (by exact hv_row _) (by exact z32_old _) (by exact hv_one _) ?_)
    | fail)
  exact bodyPost_ret (v := hv x) (results_cell_row rfl _ _ w.heap.size 24 _ (0, 0) _ rfl (HH.out.setRow _) Tryd.underlying24 rfl (hv_row _)) rfl ⟨rfl, below_setRow hb1 (Nat.le_refl _) _⟩

set_option maxRecDepth 100000 in
set_option maxHeartbeats 1000000 in
theorem refroot_any : ∀ (n : Nat) (v : Value) (l : List H) (w : World), l.length = n → n ≤ 1099511627776 → Hs w v l → Glob w →
    Calls Tryd.prog 29 #[v] w fun e w' => e = .returned (hv (rootN ndH e0H l)) ∧ Below w.heap.size w w' := by
  intro n
  induction n using Nat.strongRecOn with
  | _ n ih =>
    intro v l w hn hle hs hg
    by_cases h0 : n = 0
    · subst h0
      have hl := List.eq_nil_of_length_eq_zero hn
      subst hl
      obtain ⟨xa, ca, rfl, _⟩ := hs.form
      rw [rootN_nil]
      exact refroot_empty _ _ w hg
    by_cases h1 : n = 1
    · obtain ⟨x, rfl⟩ := List.length_eq_one_iff.1 (hn.trans h1)
      rw [rootN_one]
      exact refroot_one v x w hs
    have h2 : 2 ≤ n := by omega
    obtain ⟨xa, ca, rfl, _⟩ := hs.form
    obtain ⟨k, hk⟩ : ∃ k, k = splitN n := ⟨_, rfl⟩
    have hlt := splitN_lt n h2
    have hpos := splitN_pos n h2
    rw [← hk] at hlt hpos
    rw [rootN_two _ _ l (by omega), hn, ← hk]
    obtain ⟨a1, c1, hs1, hh1⟩ := hs_head hs k (by omega)
    obtain ⟨a2, c2, hs2, hh2⟩ := hs_tail hs k (by omega)
    have hb1 : Below w.heap.size w (w.alloc (.cells z32.toArray 24)) := by (repeat (first | with_reducible assumption | with_reducible exact Below.refl _ _ | ((with_reducible refine Below.setCell ?_ ?_ _); rotate_left; focus (first | omega | (simp; done) | (simp; omega))) | ((with_reducible refine Below.alloc ?_ ?_ _); rotate_left; focus (first | omega | (simp; done) | (simp; omega))) | ((with_reducible refine below_setRow ?_ ?_ _); rotate_left; focus (first | omega | (simp; done) | (simp; omega))) | (with_reducible refine below_drewN ?_ _) | (with_reducible refine Below.drew ?_)))
    rw [hn] at hs1 hs2 hh2
    have HH := Lib.hid (Blk.newL w z32 24)
    have HG := Lib.hid (hg.below hb1)
    have H1 := Lib.hid (hh1.below hb1)
    have H2 := Lib.hid (hh2.below hb1)
    have HN := Lib.hid hn
    have HK := Lib.hid hk
    have hne : ((n : Int) == 0) = false := by rw [beq_eq_false_iff_ne]; omega
    have hne1 : ((n : Int) == 1) = false := by rw [beq_eq_false_iff_ne]; omega
    obtain ⟨R1, hR1⟩ : ∃ R1, R1 = rootN ndH e0H (l.take k) := ⟨_, rfl⟩
    obtain ⟨R2, hR2⟩ : ∃ R2, R2 = rootN ndH e0H (l.drop k) := ⟨_, rfl⟩
    rw [← hR1, ← hR2]
    have HR1 := Lib.hid hR1
    have HR2 := Lib.hid hR2
    clear hs hh1 hh2 hg hn hk hR1 hR2
    go_enter Tryd.func29, Tryd.ntmps29
    go_wp2_with (first
      | (go_at_call 23; refine (refsplit_any n _ (by omega)).mono ?_; rintro e w2 ⟨rfl, rfl⟩; rw [← HK.out])
      | fail)
    refine wp_region_mono 10 ((w.alloc (.cells z32.toArray 24)).heap.size) [(fun v _ => v = .slice xa n ca), (fun v _ => v = .int .i64 k), (fun v _ => v = .slice a1 k c1), (fun v _ => v = hv R1), (fun v _ => v = .slice xa n ca), (fun v _ => v = .int .i64 k), (fun v _ => v = .slice a2 (n - k) c2), (fun v _ => v = hv R2), (fun v w => Bytes w v (1 :: (R1.b ++ R2.b))), (fun v _ => v = hv (ndH R1 R2))] (by kernel_rfl) (by kernel_rfl) (Nat.le_refl _) ?mkept _ rfl ?mops ?mfin
    case mkept =>
      repeat (refine List.forall_mem_cons.2 ⟨by first | exact fun _ _ _ _ h => h | exact fun _ _ _ hb h => Parts.below h hb | exact fun _ _ _ hb h => IsSl.below h hb, ?_⟩)
      exact fun _ h => by cases h
    case mops =>
      simp only [List.take_succ_cons, List.take_zero, monoAll, List.getD_cons_zero, List.getD_cons_succ]
      iterate 10
      
       (refine ⟨fun x wr hb hd Qg hK => ?_, ?_⟩
        · as_aux_lemma =>
          simp only [fill, Act.put, List.setIfInBounds_toArray, List.set_cons_succ, List.set_cons_zero, needs, Region.binds, List.filter_cons, List.filter_nil, List.map_cons, List.map_nil, if_true, List.mem_cons, List.not_mem_nil, or_false, forall_eq_or_imp, forall_eq, List.getD_cons_zero, List.getD_cons_succ, false_implies, implies_true] at hd hK ⊢
          (try simp only [hd] at hK ⊢)
          first
          | (show wpList _ _ _ [⟨some 20, .call _, _, _, _, _⟩] _ _; go_wp2_with (go_at_call 29; refine (ih k hlt _ _ wr (by rw [List.length_take, HN.out]; omega) (by omega) (H1.out.below hb) (HG.out.below hb)).mono ?_; rintro e w5 ⟨rfl, hb5⟩); exact hK _ _ (by rw [HR1.out]) hb5)
          | (show wpList _ _ _ [⟨some 24, .call _, _, _, _, _⟩] _ _; go_wp2_with (go_at_call 29; refine (ih (n - k) (by omega) _ _ wr (by rw [List.length_drop, HN.out]) (by omega) (H2.out.below hb) (HG.out.below hb)).mono ?_; rintro e w5 ⟨rfl, hb5⟩); exact hK _ _ (by rw [HR2.out]) hb5)
          | (show wpList _ _ _ [⟨some 25, .call _, _, _, _, _⟩] _ _; go_wp2_with (go_at_call 21; refine (pair_any R1 R2 wr).mono ?_; rintro e w5 ⟨⟨v5, rfl, hv5⟩, hb5⟩); exact hK _ _ hv5 hb5)
          | (show wpList _ _ _ [⟨some 26, .call _, _, _, _, _⟩] _ _; go_wp2_with (go_at_call 20; refine (refsum_any (x 8) (1 :: (R1.b ++ R2.b)) wr hd.1 (by simp [H.len]) (HG.out.below hb)).mono ?_; rintro e w5 ⟨rfl, hb5⟩); exact hK _ _ (rfl) hb5)
          | (go_wp2_with fail; exact hK _ _ rfl (Below.refl _ _)))
      trivial
    case mfin =>
      intro x wr hb hR
      have x9 := hR 9 (by decide)
      simp only [List.getD_cons_zero, List.getD_cons_succ] at x9
      have HH2 := Lib.hid (HH.out.below hb (by simp))
      have hw2 := hb1.trans (hb.mono hb1.size)
      clear hR hb hb1 HH HG H1 H2 ih
      simp only [List.drop_succ_cons, List.drop_zero]
      generalize List.toArray _ = L0
      simp only [List.take_succ_cons, List.take_zero, List.map_cons, List.map_nil, fill, Act.put, List.setIfInBounds_toArray, List.set_cons_succ, List.set_cons_zero, x9]
      clear x9
      go_wp2_with (first
        | (refine wpList_store_row rfl 24 (.tmp 2) (.tmp 26) rfl w.heap.size (bytesV (ndH R1 R2).b).toArray rfl rfl 24 z32.toArray (by exact HH2.out) (by exact hv_row _) (by exact z32_old _) (by exact hv_one _) ?_)
        | fail)
      exact bodyPost_ret (v := hv (ndH R1 R2)) (results_cell_row rfl _ _ w.heap.size 24 _ (0, 0) _ rfl (HH2.out.setRow _) Tryd.underlying24 rfl (hv_row _)) rfl ⟨rfl, below_setRow hw2 (Nat.le_refl _) _⟩
end Go.Proofs.YtkfplliipogagaaDoor

/-! Ref5C: The walks of the reference's Same and Trees. Conditions: the lists can be read, at most 2^40 hashes; the package's tables read as they are laid. -/
namespace Go.Proofs.YtkfplliipogagaaDoor
open Go.RowKit

theorem ne_hash (w : World) (x y : H) (h : x ≠ y) : (Op.equalIn 10000 24 (.agg (bytesV x.b).toArray) (.agg (bytesV y.b).toArray)).run Tryd.prog w = .ok false w := by
  rw [eq_hash w x.b y.b x.len y.len, beq_eq_false_iff_ne.2 (fun e => h (H.ext e))]
theorem is_hash (w : World) (x : H) : (Op.equalIn 10000 24 (.agg (bytesV x.b).toArray) (.agg (bytesV x.b).toArray)).run Tryd.prog w = .ok true w := eq_hash_same w x.b x.len
set_option maxRecDepth 100000 in
set_option maxHeartbeats 1000000 in
theorem refsame_any (va vb : Value) (a b : List H) (w : World) (ha : Hs w va a) (hb : Hs w vb b) (hs : a.length ≤ 1099511627776) :
    Calls Tryd.prog 30 #[va, vb] w fun e w' => e = .returned (.bool (decide (a = b))) ∧ Below w.heap.size w w' := by
  by_cases hl : a.length = b.length
  · by_cases h0 : a.length = 0
    · have e1 : a = [] := List.eq_nil_of_length_eq_zero h0
      have e2 : b = [] := List.eq_nil_of_length_eq_zero (by omega)
      subst e1 e2
      obtain ⟨xa, ca, rfl, _⟩ := ha.form
      obtain ⟨xb, cb, rfl, _⟩ := hb.form
      clear ha hb hl h0
      go_enter Tryd.func30, Tryd.ntmps30
      go_wp2_with fail
      go_loopw [5] (fun i wr => i = .int .i64 0 ∧ Below w.heap.size w wr) (fun _ _ => 0)
      case atStart => exact ⟨rfl, by (repeat (first | with_reducible assumption | with_reducible exact Below.refl _ _ | ((with_reducible refine Below.setCell ?_ ?_ _); rotate_left; focus (first | omega | (simp; done) | (simp; omega))) | ((with_reducible refine Below.alloc ?_ ?_ _); rotate_left; focus (first | omega | (simp; done) | (simp; omega))) | ((with_reducible refine below_setRow ?_ ?_ _); rotate_left; focus (first | omega | (simp; done) | (simp; omega))) | (with_reducible refine below_drewN ?_ _) | (with_reducible refine Below.drew ?_)))⟩
      case round =>
        obtain ⟨rfl, hb⟩ := hrel
        go_wp2_with fail
        go_ret
        exact ⟨rfl, hb⟩
    · obtain ⟨b1, o1, c1, rfl, _, hr1, hw1⟩ := ha.pos (by omega)
      obtain ⟨b2, o2, c2, rfl, _, hr2, hw2⟩ := hb.pos (by omega)
      obtain ⟨n, hn⟩ : ∃ n, n = a.length := ⟨_, rfl⟩
      have hn2 : b.length = n := by omega
      rw [hn2, ← hn]
      have hns : n ≤ 1099511627776 := by omega
      have HN := Lib.hid hn
      have HN2 := Lib.hid hn2
      have H1 := Lib.hid hr1
      have H2 := Lib.hid hr2
      clear ha hb hr1 hr2 hn hn2 hl h0
      go_enter Tryd.func30, Tryd.ntmps30
      go_wp2_with fail
      go_loopw [5] (fun i wr => ∃ k : Nat, k ≤ n ∧ i = .int .i64 k ∧ a.take k = b.take k ∧ Below w.heap.size w wr) (fun i _ => n - (intOf i).toNat)
      case atStart => exact ⟨0, by omega, rfl, rfl, by (repeat (first | with_reducible assumption | with_reducible exact Below.refl _ _ | ((with_reducible refine Below.setCell ?_ ?_ _); rotate_left; focus (first | omega | (simp; done) | (simp; omega))) | ((with_reducible refine Below.alloc ?_ ?_ _); rotate_left; focus (first | omega | (simp; done) | (simp; omega))) | ((with_reducible refine below_setRow ?_ ?_ _); rotate_left; focus (first | omega | (simp; done) | (simp; omega))) | (with_reducible refine below_drewN ?_ _) | (with_reducible refine Below.drew ?_)))⟩
      case round =>
        obtain ⟨k, hk, rfl, ht, hb⟩ := hrel
        have HT := Lib.hid ht
        clear ht
        by_cases hkn : k < n
        · obtain ⟨p, hx⟩ : ∃ p, a[k]? = some p := ⟨_, List.getElem?_eq_getElem (by rw [← HN.out]; exact hkn)⟩
          obtain ⟨q, hy⟩ : ∃ q, b[k]? = some q := ⟨_, List.getElem?_eq_getElem (by rw [HN2.out]; exact hkn)⟩
          have hE1 : wr.rangeAt b1 (o1 + k * 32) (bytesV p.b) := fun j u hu => (hb.cell (p := ⟨b1, _, none⟩) hw1).trans (Hs.elem H1.out hx j u hu)
          have hE2 : wr.rangeAt b2 (o2 + k * 32) (bytesV q.b) := fun j u hu => (hb.cell (p := ⟨b2, _, none⟩) hw2).trans (Hs.elem H2.out hy j u hu)
          have HE1 := Lib.hid hE1
          have HE2 := Lib.hid hE2
          have HX := Lib.hid hx
          have HY := Lib.hid hy
          clear hx hy hE1 hE2
          have hix : (0 : Int) ≤ k ∧ (k : Int) < n := ⟨by omega, by omega⟩
          obtain ⟨d, hd⟩ : ∃ d : Bool, d = decide (p = q) := ⟨_, rfl⟩
          have heq : ∀ w, (Op.equalIn 10000 24 (.agg (bytesV p.b).toArray) (.agg (bytesV q.b).toArray)).run Tryd.prog w = .ok d w := fun w => by
            rw [hd]
            by_cases hxy : p = q
            · subst hxy; rw [is_hash, decide_eq_true rfl]
            · rw [ne_hash w p q hxy, decide_eq_false hxy]
          have HD := Lib.hid hd
          clear hd
          go_wp2_with fail
          refine wp_region_mono 9 (wr.heap.size) [(fun v _ => v = .slice (some ⟨b1, o1, none⟩) n c1), (fun v _ => v = .int .i64 k), (fun v _ => v = .pointer (some ⟨b1, o1 + k * 32, none⟩)), (fun v _ => v = .agg (bytesV p.b).toArray), (fun v _ => v = .slice (some ⟨b2, o2, none⟩) n c2), (fun v _ => v = .int .i64 k), (fun v _ => v = .pointer (some ⟨b2, o2 + k * 32, none⟩)), (fun v _ => v = .agg (bytesV q.b).toArray), (fun v _ => v = .bool (!d))] (by kernel_rfl) (by kernel_rfl) (Nat.le_refl _) ?mkept _ rfl ?mops ?mfin
          case mkept =>
            repeat (refine List.forall_mem_cons.2 ⟨by first | exact fun _ _ _ _ h => h | exact fun _ _ _ hb h => Parts.below h hb | exact fun _ _ _ hb h => IsSl.below h hb, ?_⟩)
            exact fun _ h => by cases h
          case mops =>
            simp only [List.take_succ_cons, List.take_zero, monoAll, List.getD_cons_zero, List.getD_cons_succ]
            iterate 9
            
             (refine ⟨fun x wr hb hd Qg hK => ?_, ?_⟩
              · as_aux_lemma =>
                simp only [fill, Act.put, List.setIfInBounds_toArray, List.set_cons_succ, List.set_cons_zero, needs, Region.binds, List.filter_cons, List.filter_nil, List.map_cons, List.map_nil, if_true, List.mem_cons, List.not_mem_nil, or_false, forall_eq_or_imp, forall_eq, List.getD_cons_zero, List.getD_cons_succ, false_implies, implies_true] at hd hK ⊢
                (try simp only [hd] at hK ⊢)
                first
                | ((refine wpList_load_midIf rfl 24 (.tmp 19) rfl b1 (o1 + k * 32) rfl (bytesV p.b) _ (range_below HE1.out hb) Tryd.underlying24 rfl (hv_info p) ?_; exact hK _ _ rfl (Below.refl _ _)))
                | ((refine wpList_load_midIf rfl 24 (.tmp 23) rfl b2 (o2 + k * 32) rfl (bytesV q.b) _ (range_below HE2.out hb) Tryd.underlying24 rfl (hv_info q) ?_; exact hK _ _ rfl (Below.refl _ _)))
                | (go_wp2_with fail; exact hK _ _ rfl (Below.refl _ _)))
            trivial
          case mfin =>
            intro z w3 hb3 hR
            have x8 := hR 8 (by decide)
            simp only [List.getD_cons_zero, List.getD_cons_succ] at x8
            have hb4 : Below w.heap.size w w3 := hb.trans (hb3.mono hb.size)
            clear hR hb3 hb HE1 HE2 heq
            simp only [List.drop_succ_cons, List.drop_zero]
            generalize List.toArray _ = L0
            simp only [List.take_succ_cons, List.take_zero, List.map_cons, List.map_nil, fill, Act.put, List.setIfInBounds_toArray, List.set_cons_succ, List.set_cons_zero, x8]
            clear x8
            cases d with
            | true =>
              have hxy : p = q := of_decide_eq_true HD.out.symm
              go_wp2_with fail
              refine ⟨⟨k + 1, by omega, by go_num, ?_, hb4⟩, by simp [intOf]; omega⟩
              rw [List.take_add_one, List.take_add_one, HX.out, HY.out, HT.out, hxy]
            | false =>
              have hxy : p ≠ q := of_decide_eq_false HD.out.symm
              have hab : decide (a = b) = false := decide_eq_false (fun e => by
                have h1 := HX.out
                rw [e, HY.out] at h1
                exact hxy (Option.some.inj h1).symm)
              have HAB := Lib.hid hab
              clear hab
              go_wp2_with fail
              go_ret
              exact ⟨by rw [HAB.out]; rfl, hb4⟩
        · obtain rfl : k = n := by omega
          have hab : decide (a = b) = true := decide_eq_true (by
            have h1 : a.take k = a := List.take_of_length_le (by rw [HN.out]; exact Nat.le_refl _)
            have h2 : b.take k = b := List.take_of_length_le (by rw [HN2.out]; exact Nat.le_refl _)
            have := HT.out
            rwa [h1, h2] at this)
          have HAB := Lib.hid hab
          clear hab
          go_wp2_with fail
          go_ret
          exact ⟨by rw [HAB.out]; rfl, hb⟩
  · have hab : decide (a = b) = false := decide_eq_false (fun e => hl (by rw [e]))
    obtain ⟨xa, ca, rfl, _⟩ := ha.form
    obtain ⟨xb, cb, rfl, _⟩ := hb.form
    rw [hab]
    clear ha hb hab
    have hne : ((a.length : Int) != (b.length : Int)) = true := by simp; omega
    go_enter Tryd.func30, Tryd.ntmps30
    go_wp2_with fail
    go_ret
    exact ⟨rfl, by (repeat (first | with_reducible assumption | with_reducible exact Below.refl _ _ | ((with_reducible refine Below.setCell ?_ ?_ _); rotate_left; focus (first | omega | (simp; done) | (simp; omega))) | ((with_reducible refine Below.alloc ?_ ?_ _); rotate_left; focus (first | omega | (simp; done) | (simp; omega))) | ((with_reducible refine below_setRow ?_ ?_ _); rotate_left; focus (first | omega | (simp; done) | (simp; omega))) | (with_reducible refine below_drewN ?_ _) | (with_reducible refine Below.drew ?_)))⟩

/-- The whole trees so far, and the list that is left. -/
structure TreesJ (w : World) (l done l' : List H) (lv ov : Value) (wr : World) : Prop where
  rest : Hs w lv l'
  own : wr.ownsRow w.heap.size 24 32 ov done.length (bytesV (hflat done))
  sum : done ++ treesN ndH e0H l' = treesN ndH e0H l
  few : done.length + l'.length ≤ l.length
  old : Below w.heap.size w wr
set_option maxRecDepth 100000 in
set_option maxHeartbeats 1000000 in
theorem reftrees_any (v : Value) (l : List H) (w : World) (hs : Hs w v l) (hl : l.length ≤ 1099511627776) (hg : Glob w) :
    Calls Tryd.prog 31 #[v] w fun e w' => (∃ v', e = .returned v' ∧ Hs w' v' (treesN ndH e0H l)) ∧ Below w.heap.size w w' := by
  obtain ⟨i0, hi, hz0, hz1, hz2⟩ := info_parts info_hash
  obtain ⟨xa, ca, rfl, _⟩ := hs.form
  have HS := Lib.hid hs
  have HG := Lib.hid hg
  have HI := Lib.hid hi
  clear hs hg hi
  go_enter Tryd.func31, Tryd.ntmps31
  go_wp2_with fail
  go_loopw [0, 3] (fun lv ov wr => ∃ (l' done : List H) (n c : Nat) (a : Option Addr), lv = .slice a n c ∧ n = l'.length ∧ TreesJ w l done l' lv ov wr) (fun lv _ _ => lenOf lv)
  case atStart => exact ⟨l, [], l.length, ca, xa, rfl, rfl, HS.out, World.ownsRow_nil _ _ _ _, rfl, by simp, Below.refl _ _⟩
  case round =>
    obtain ⟨l', done, n, c, a, rfl, hn, hj⟩ := hrel
    have HJ := Lib.hid hj
    have HN := Lib.hid hn
    have hfew := hj.few
    have hnl : n ≤ 1099511627776 := by omega
    have hsz := hj.old.size
    clear hn hj
    by_cases h0 : n = 0
    · have hgt : ¬ (0 : Int) < n := by omega
      have hT : treesN ndH e0H l = done := by
        have := HJ.out.sum
        rw [List.eq_nil_of_length_eq_zero (HN.out.symm.trans h0), treesN_nil, List.append_nil] at this
        exact this.symm
      obtain ⟨oa, oc, rfl⟩ := ownsRow_form HJ.out.own
      have HT := Lib.hid hT
      clear hT
      go_wp2_with fail
      go_ret
      refine ⟨⟨_, rfl, ?_⟩, HJ.out.old⟩
      rw [HT.out]
      exact ownsRow_isSl HJ.out.own (bytesV_one _)
    · have hgt : (0 : Int) < n := by omega
      go_wp2_with fail
      go_loopw [4] (fun kv w2 => ∃ (k j : Nat), kv = .int .i64 k ∧ k = 2 ^ j ∧ 1 ≤ k ∧ k ≤ n ∧ w2 = wr) (fun kv _ => n - (intOf kv).toNat)
      case atStart => exact ⟨1, 0, rfl, rfl, by omega, by omega, rfl⟩
      case round =>
        obtain ⟨k, j, rfl, hk, h1, hkn, rfl⟩ := hrel
        have HK := Lib.hid hk
        clear hk
        by_cases h2 : 2 * k ≤ n
        · have h2' : (2 : Int) * k ≤ n := by omega
          go_wp2_with fail
          exact ⟨⟨2 * k, j + 1, by go_num, by rw [HK.out, Nat.pow_succ]; omega, by omega, h2, by trivial⟩, by simp [intOf]; omega⟩
        · have h2' : ¬ (2 : Int) * k ≤ n := by omega
          have htop : topN n = k := by rw [topN_unique n j (by rw [← HK.out]; exact hkn) (by rw [Nat.pow_succ, ← HK.out]; omega), HK.out]
          obtain ⟨a1, c1, hs1, hh1⟩ := hs_head HJ.out.rest k (by rw [← HN.out]; exact hkn)
          obtain ⟨a2, c2, hs2, hh2⟩ := hs_tail HJ.out.rest k (by rw [← HN.out]; exact hkn)
          rw [← HN.out] at hs2 hh2
          obtain ⟨oa, oc, hov⟩ := ownsRow_form HJ.out.own
          subst hov
          obtain ⟨R, hR⟩ : ∃ R, R = rootN ndH e0H (l'.take k) := ⟨_, rfl⟩
          have hsum : treesN ndH e0H l' = R :: treesN ndH e0H (l'.drop k) := by rw [treesN_pos ndH e0H l' (by rw [← HN.out]; omega), ← HN.out, htop, hR]
          have HR := Lib.hid hR
          have HSUM := Lib.hid hsum
          have HH1 := Lib.hid hh1
          have HH2 := Lib.hid hh2
          clear hR hsum hh1 hh2 htop
          go_wp2_with (first
            | (go_at_call 29; refine (refroot_any k _ (l'.take k) _ (by rw [List.length_take, ← HN.out]; omega) (by omega) (HH1.out.below HJ.out.old) (HG.out.below HJ.out.old)).mono ?_; rintro e w5 ⟨rfl, hb5⟩; rw [← HR.out]; have hown5 := ownsRow_below HJ.out.own hb5 (ownsRow_block HJ.out.own); have HO5 := Lib.hid hown5; have hw5 := HJ.out.old.trans (hb5.mono hsz); have hsz5 := hw5.size; clear hown5 hb5)
            | (refine wpList_hashes rfl [R] 1 _ rfl rfl (by decide) (by decide) (by simp only [List.map_toArray, List.map_cons, List.map_nil]; rfl) ?_)
            | (at_builtin; refine wpList_app rfl (.tmp 15) (.tmp 20) 31 rfl w.heap.size 24 i0 (.agg z32.toArray) 32 32 Tryd.underlying31 HI.out hz0 hz1 hz2 rfl (by decide) (.slice oa done.length oc) done.length (bytesV (hflat done)) rfl (by exact ownsRow_below HO5.out ((Below.refl _ w5).alloc (Nat.le_refl _) _) (ownsRow_block HO5.out)) _ 1 (bytesV (hflat [R])) rfl (by exact hs_new w5 [R] _ rfl rfl) (by unfold maxLen; omega) (by omega) (by simp; omega) ?_; intro a6 cap6 w6 hown6 hgrow6 _;
               have hw6 := (hw5.alloc hsz5 (.cells (bytesV (hflat [R])).toArray 24)).grown hgrow6 (by simp; omega) (fun k hk => (HO5.out.lt k hk).1); have HO6 := Lib.hid hown6; clear hown6 hgrow6)
            | fail)
          refine ⟨⟨l'.drop k, done ++ [R], n - k, c2, a2, rfl, by rw [List.length_drop, HN.out], ⟨HH2.out, ?_, ?_, ?_, hw6⟩⟩, by simp [lenOf]; omega⟩
          · have := HO6.out
            rw [← bytesV_app, ← hflat_app] at this
            rw [List.length_append]
            exact this
          · rw [← HJ.out.sum, HSUM.out, List.append_assoc]
            rfl
          · rw [List.length_append, List.length_drop, List.length_singleton, ← HN.out]
            have := HN.out
            omega
end Go.Proofs.YtkfplliipogagaaDoor
