/- The walks of the reference's Leaf, Pair and Split. Conditions: the bytes can be read, at most 2^45; the package's tables read as they are laid. -/
import Derived.Test.YtkfplliipogagaaDoorTreeC
import Derived.Test.YtkfplliipogagaaDoorRefE
namespace Go.Proofs.YtkfplliipogagaaDoor
open Go.RowKit

set_option maxRecDepth 100000 in
set_option maxHeartbeats 400000 in
theorem refleaf_any (v : Value) (b : List UInt8) (w : World) (hb : Bytes w v b) (hl : b.length ≤ 35184372088832) (hg : Glob w) :
    Calls Tryd.prog 18 #[v] w fun e w' => e = .returned (hv (lfH b)) ∧ Below w.heap.size w w' := by
  obtain ⟨i0, hi, hz0, hz1, hz2⟩ := info_parts info_u8
  obtain ⟨xa, ca, rfl, _⟩ := hb.form
  obtain ⟨w1, hw1⟩ : ∃ w1, w1 = (w.alloc (.cells z32.toArray 24)).alloc (.cells (bytesV [0]).toArray 5) := ⟨_, rfl⟩
  have hb1 : Below w.heap.size w w1 := by rw [hw1]; (repeat (first | with_reducible assumption | with_reducible exact Below.refl _ _ | ((with_reducible refine Below.setCell ?_ ?_ _); rotate_left; focus (first | omega | (simp; done) | (simp; omega))) | ((with_reducible refine Below.alloc ?_ ?_ _); rotate_left; focus (first | omega | (simp; done) | (simp; omega))) | ((with_reducible refine below_setRow ?_ ?_ _); rotate_left; focus (first | omega | (simp; done) | (simp; omega))) | (with_reducible refine below_drewN ?_ _) | (with_reducible refine Below.drew ?_)))
  have hs1 : w1.heap.size = w.heap.size + 1 + 1 := by rw [hw1]; simp
  have hH1 : Blk w1 w.heap.size z32 24 := by rw [hw1]; exact (Blk.newL w z32 _).alloc _
  have hO1 : w1.ownsRow (w.heap.size + 1) 5 1 (.slice (some ⟨w.heap.size + 1, 0, none⟩) 1 1) 1 (bytesV [0]) := by
    have := World.ownsRow_lit (w.alloc (.cells z32.toArray 24)) (bytesV [0]).toArray (e := 5) (size := 1) (base := w.heap.size + 1) 1 (by simp) (by decide) rfl
    rw [hw1]
    rw [World.size_alloc] at this
    exact this
  have HB := Lib.hid (hb.below hb1)
  have HO := Lib.hid hO1
  have HH := Lib.hid hH1
  have HG := Lib.hid hg
  have HI := Lib.hid hi
  have HW := Lib.hid hw1
  clear hb hg hO1 hH1 hi hw1
  go_enter Tryd.func18, Tryd.ntmps18
  go_wp2_with (first
    | (at_builtin; refine wpList_app rfl (.tmp 3) (.tmp 4) 22 rfl (w.heap.size + 1) 5 i0 (.int .u8 0) 1 1 Tryd.underlying22 HI.out hz0 hz1 hz2 rfl (by decide) (.slice (some ⟨w.heap.size + 1, 0, none⟩) 1 1) 1 (bytesV [0]) rfl (by exact HW.out ▸ HO.out) _ b.length (bytesV b) rfl (by exact HW.out ▸ HB.out) (by unfold maxLen; omega) (by omega) (by simp) ?_; intro a3 cap3 w3 hown3 hgrow3 _)
    | fail)
  have hgrow3 : w1.grownBy w3 (Value.slice (some ⟨w.heap.size + 1, 0, none⟩) 1 1).ownBlock := by rw [HW.out]; exact hgrow3
  have hH3 := HH.out.grown hgrow3 (by simp [Value.ownBlock])
  have hw3 := hb1.grown hgrow3 (by omega) (fun k hk => by simp [Value.ownBlock] at hk; omega)
  have hV3 : Bytes w3 (.slice a3 (1 + b.length) cap3) (0 :: b) := by
    have := ownsRow_isSl hown3 (by intro u hu; rw [List.mem_append] at hu; rcases hu with h | h <;> exact bytesV_one _ _ h)
    unfold Bytes
    rw [List.length_cons, Nat.add_comm b.length 1]
    exact this
  have HH3 := Lib.hid hH3
  have hlt3 := hH3.lt
  refine (refsum_any _ (0 :: b) w3 hV3 (by simp; omega) (HG.out.below hw3)).mono ?_
  rintro e w4 ⟨rfl, hb4⟩
  have HH4 := Lib.hid (HH3.out.below hb4 hlt3)
  have hw4 := hw3.trans (hb4.mono hw3.size)
  clear hown3 hgrow3 hH3 hV3 HH3 hw3 hb4 hb1 HB HO HH
  go_wp2_with (first
    | (refine wpList_store_row rfl 24 (.tmp 2) (.tmp 6) rfl w.heap.size (bytesV (lfH b).b).toArray rfl rfl 24 z32.toArray (by exact HH4.out) (by exact hv_row _) (by exact z32_old _) (by exact hv_one _) ?_)
    | fail)
  exact bodyPost_ret (v := hv (lfH b)) (results_cell_row rfl _ _ w.heap.size 24 _ (0, 0) _ rfl (HH4.out.setRow _) Tryd.underlying24 rfl (hv_row _)) rfl ⟨rfl, below_setRow hw4 (Nat.le_refl _) _⟩

set_option maxRecDepth 100000 in
set_option maxHeartbeats 400000 in
theorem bytes_is {w : World} {b : Nat} {x : H} {e : TypeId} (h : Blk w b (bytesV x.b) e) : IsSl w (.slice (some ⟨b, 0, none⟩) 32 32) 1 32 (bytesV x.b) := by
  have := bytes_box h
  unfold Bytes at this
  rw [x.len] at this
  exact this
set_option maxRecDepth 100000 in
set_option maxHeartbeats 400000 in
theorem pair_any (l r : H) (w : World) :
    Calls Tryd.prog 21 #[hv l, hv r] w fun e w' => (∃ v, e = .returned v ∧ Bytes w' v (1 :: (l.b ++ r.b))) ∧ Below w.heap.size w w' := by
  obtain ⟨i0, hi, hz0, hz1, hz2⟩ := info_parts info_u8
  obtain ⟨w1, hw1⟩ : ∃ w1, w1 = (w.alloc (.cells (bytesV l.b).toArray 24)).alloc (.cells (bytesV r.b).toArray 24) := ⟨_, rfl⟩
  have hb1 : Below w.heap.size w w1 := by rw [hw1]; (repeat (first | with_reducible assumption | with_reducible exact Below.refl _ _ | ((with_reducible refine Below.setCell ?_ ?_ _); rotate_left; focus (first | omega | (simp; done) | (simp; omega))) | ((with_reducible refine Below.alloc ?_ ?_ _); rotate_left; focus (first | omega | (simp; done) | (simp; omega))) | ((with_reducible refine below_setRow ?_ ?_ _); rotate_left; focus (first | omega | (simp; done) | (simp; omega))) | (with_reducible refine below_drewN ?_ _) | (with_reducible refine Below.drew ?_)))
  have hs1 : w1.heap.size = w.heap.size + 1 + 1 := by rw [hw1]; simp
  have hL : Blk w1 w.heap.size (bytesV l.b) 24 := by rw [hw1]; exact (Blk.newL w _ _).alloc _
  have hR : Blk w1 (w.heap.size + 1) (bytesV r.b) 24 := by rw [hw1]; exact Blk.newL1 w _ _ _
  have HL := Lib.hid hL
  have HR := Lib.hid hR
  have HI := Lib.hid hi
  have HW := Lib.hid hw1
  clear hL hR hi
  go_enter Tryd.func21, Tryd.ntmps21
  unfold hv
  go_wp2_with fail
  refine wp_world hw1 ?_
  clear hw1
  refine wp_region_forced [1, 3] [0, 2, 4, 5] (by kernel_rfl) (by kernel_rfl) (fun _ _ _ d _ h => by cases d <;> exact h) _ _ rfl rfl ?_
  simp only [List.map_cons, List.map_nil, List.getD_cons_succ, List.getD_cons_zero]
  refine wpPure_run (.slice (some ⟨w.heap.size, 0, none⟩) 32 32) rfl (fun w' => ?_) ?_
  · simp [go_sem, execOp]
  refine wpPure_run (.slice (some ⟨w.heap.size + 1, 0, none⟩) 32 32) rfl (fun w' => ?_) ?_
  · simp [go_sem, execOp]
  refine wpPure_nil ?_
  intro nq
  obtain ⟨w2, hw2⟩ : ∃ w2, w2 = (w1.drewN nq).alloc (.cells (bytesV [1]).toArray 5) := ⟨_, rfl⟩
  have hb2 : Below w1.heap.size w1 w2 := by rw [hw2]; exact (below_drewN (Below.refl _ _) nq).alloc (by simp) _
  have hs2 : w2.heap.size = w1.heap.size + 1 := by rw [hw2]; simp
  have hO2 : w2.ownsRow (w.heap.size + 1 + 1) 5 1 (.slice (some ⟨w.heap.size + 1 + 1, 0, none⟩) 1 1) 1 (bytesV [1]) := by
    rw [hw2, ← hs1]
    exact World.ownsRow_lit (w1.drewN nq) (bytesV [1]).toArray (e := 5) (size := 1) (base := w1.heap.size) 1 (by simp) (by decide) rfl
  have HO2 := Lib.hid hO2
  have hL2 : IsSl w2 (.slice (some ⟨w.heap.size, 0, none⟩) 32 32) 1 32 (bytesV l.b) := by
    have := bytes_box (HL.out.below hb2 (by omega))
    unfold Bytes at this
    rw [l.len] at this
    exact this
  have HL2 := Lib.hid hL2
  have HR2 := Lib.hid (HR.out.below hb2 (by omega))
  have HW2 := Lib.hid hw2
  clear hO2 HL HR hL2 hw2
  have hll := l.len
  have hrl := r.len
  go_wp2_with (first
    | (at_builtin; refine wpList_app rfl (.tmp 5) (.tmp 6) 22 rfl (w.heap.size + 1 + 1) 5 i0 (.int .u8 0) 1 1 Tryd.underlying22 HI.out hz0 hz1 hz2 rfl (by decide) (.slice (some ⟨w.heap.size + 1 + 1, 0, none⟩) 1 1) 1 (bytesV [1]) rfl (by exact HW2.out ▸ HO2.out) _ 32 (bytesV l.b) rfl (by exact HW2.out ▸ HL2.out) (by unfold maxLen; omega) (by omega) (by simp <;> omega) ?_; intro a3 cap3 w3 hown3 hgrow3 _;
       have hgrow3 : w2.grownBy w3 (Value.slice (some ⟨w.heap.size + 1 + 1, 0, none⟩) 1 1).ownBlock := (by rw [HW2.out]; exact hgrow3);
       have hw3 := (hb1.trans (hb2.mono hb1.size)).grown hgrow3 (by omega) (fun k hk => (by simp [Value.ownBlock] at hk; omega)); have hr3 := HR2.out.grown hgrow3 (by simp [Value.ownBlock] <;> omega); have HR3 := Lib.hid (bytes_is hr3); have HO3 := Lib.hid hown3; have hs3 := hgrow3.size; clear hr3 hown3 hgrow3)
    | (at_builtin; refine wpList_app rfl (.tmp 7) (.tmp 8) 22 rfl (w.heap.size + 1 + 1) 5 i0 (.int .u8 0) 1 1 Tryd.underlying22 HI.out hz0 hz1 hz2 rfl (by decide) (.slice a3 33 cap3) 33 (bytesV [1] ++ bytesV l.b) rfl (by exact HO3.out) _ 32 (bytesV r.b) rfl (by exact HR3.out) (by unfold maxLen; omega) (by omega) (by omega) ?_; intro a4 cap4 w4 hown4 hgrow4 _;
       have hw4 := hw3.grown hgrow4 (by omega) (fun k hk => (by have := (HO3.out.lt k hk).1; omega)); have HO4 := Lib.hid hown4; clear hown4 hgrow4)
    | fail)
  go_ret
  refine ⟨⟨_, rfl, ?_⟩, hw4⟩
  have h4 := ownsRow_isSl HO4.out (by intro u hu; rw [List.mem_append, List.mem_append] at hu; rcases hu with (h | h) | h <;> exact bytesV_one _ _ h)
  rw [← bytesV_app, ← bytesV_app] at h4
  unfold Bytes
  rw [show (1 :: (l.b ++ r.b)).length = 65 by simp [hll, hrl]]
  exact h4
end Go.Proofs.YtkfplliipogagaaDoor
