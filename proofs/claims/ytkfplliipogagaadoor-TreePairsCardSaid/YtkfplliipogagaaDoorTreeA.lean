/- The walks of tree.Leaf and tree.Node. Conditions: the bytes can be read, at most 2^45; the package's tables read as they are laid. -/
import Derived.Test.YtkfplliipogagaaDoorHash
import Derived.Test.YtkfplliipogagaaDoorCommon
import Derived.Test.YtkfplliipogagaaDoorMono
import Derived.Test.YtkfplliipogagaaDoorForced
namespace Go.Proofs.YtkfplliipogagaaDoor
open Go.RowKit

theorem hv_one (x : H) : (bytesV x.b).toArray.all (·.oneCell') = true := hash_one _
theorem z32_old (x : H) : z32.toArray.size = (bytesV x.b).toArray.size := by simp [z32, bytesV, x.len]
theorem hv_row (x : H) : (Tryd.prog.info? 24).map (·.size) = some (bytesV x.b).toArray.size := hash_info _ x.len

set_option maxRecDepth 100000 in
set_option maxHeartbeats 400000 in
theorem leaf_any (v : Value) (b : List UInt8) (w : World) (hb : Bytes w v b) (hl : b.length ≤ 35184372088832) (hg : Glob w) :
    Calls Tryd.prog 17 #[v] w fun e w' => e = .returned (hv (lfH b)) ∧ Below w.heap.size w w' := by
  obtain ⟨xa, ca, rfl, _⟩ := hb.form
  have hb1 : Below w.heap.size w ((w.alloc (.cells z32.toArray 24)).alloc (.cells (bytesV [0]).toArray 5)) := by (repeat (first | with_reducible assumption | with_reducible exact Below.refl _ _ | ((with_reducible refine Below.setCell ?_ ?_ _); rotate_left; focus (first | omega | (simp; done) | (simp; omega))) | ((with_reducible refine Below.alloc ?_ ?_ _); rotate_left; focus (first | omega | (simp; done) | (simp; omega))) | ((with_reducible refine below_setRow ?_ ?_ _); rotate_left; focus (first | omega | (simp; done) | (simp; omega))) | (with_reducible refine below_drewN ?_ _) | (with_reducible refine Below.drew ?_)))
  have HB := Lib.hid (hb.below hb1)
  have HG := Lib.hid (hg.below hb1)
  have hT : Bytes ((w.alloc (.cells z32.toArray 24)).alloc (.cells (bytesV [0]).toArray 5)) (.slice (some ⟨w.heap.size + 1, 0, none⟩) 1 1) [0] := bytes_alloc _ [0] _ _ (by simp)
  have HT := Lib.hid hT
  clear hb hg hT
  go_enter Tryd.func17, Tryd.ntmps17
  go_wp2_with fail
  refine (sum_atB (n := 2) ((w.alloc (.cells z32.toArray 24)).alloc (.cells (bytesV [0]).toArray 5)) [_, _] [[0], b] _ (by simp) (.cons HT.out (.cons HB.out .nil)) rfl (0 :: b) (by simp [cat]) (by simp; omega) (by decide) HG.out).mono ?_
  rintro e w2 ⟨rfl, hb2⟩
  have hH : Blk w2 w.heap.size z32 24 := ((Blk.newL w z32 _).alloc _).below hb2 (by simp <;> omega)
  have HH := Lib.hid hH
  have hw2 := hb1.trans (hb2.mono hb1.size)
  clear hH hb1 hb2 HB HT HG
  go_wp2_with (first
    | (refine wpList_store_row rfl 24 (.tmp 2) (.tmp 6) rfl w.heap.size (bytesV (lfH b).b).toArray rfl rfl 24 z32.toArray (by exact HH.out) (by exact hv_row _) (by exact z32_old _) (by exact hv_one _) ?_)
    | fail)
  exact bodyPost_ret (v := hv (lfH b)) (results_cell_row rfl _ _ w.heap.size 24 _ (0, 0) _ rfl (HH.out.setRow _) Tryd.underlying24 rfl (hv_row _)) rfl ⟨rfl, below_setRow hw2 (Nat.le_refl _) _⟩

/-- Two hashes' boxes, and a third. -/
def nodeW (w : World) (l r : H) : World := ((w.alloc (.cells (bytesV l.b).toArray 24)).alloc (.cells (bytesV r.b).toArray 24)).alloc (.cells z32.toArray 24)
theorem bytes_box {w : World} {b : Nat} {x : H} {e : TypeId} (h : Blk w b (bytesV x.b) e) : Bytes w (.slice (some ⟨b, 0, none⟩) 32 32) x.b := by
  have := IsSl.of_range (w := w) (b := b) (off := 0) (n := 32) (cap := 32) (size := 1) (cs := bytesV x.b) (by rw [bytesV_len, x.len]) (bytesV_one _) (Nat.le_refl _) (fun i u hi => by rw [Nat.zero_add]; exact h.cell hi)
  unfold Bytes
  rw [x.len]
  exact this
set_option maxRecDepth 100000 in
set_option maxHeartbeats 400000 in
theorem node_any (l r : H) (w : World) (hg : Glob w) :
    Calls Tryd.prog 19 #[hv l, hv r] w fun e w' => e = .returned (hv (ndH l r)) ∧ Below w.heap.size w w' := by
  have hb1 : Below w.heap.size w (nodeW w l r) := by unfold nodeW; (repeat (first | with_reducible assumption | with_reducible exact Below.refl _ _ | ((with_reducible refine Below.setCell ?_ ?_ _); rotate_left; focus (first | omega | (simp; done) | (simp; omega))) | ((with_reducible refine Below.alloc ?_ ?_ _); rotate_left; focus (first | omega | (simp; done) | (simp; omega))) | ((with_reducible refine below_setRow ?_ ?_ _); rotate_left; focus (first | omega | (simp; done) | (simp; omega))) | (with_reducible refine below_drewN ?_ _) | (with_reducible refine Below.drew ?_)))
  have hL : Blk (nodeW w l r) w.heap.size (bytesV l.b) 24 := ((Blk.newL w _ _).alloc _).alloc _
  have hR : Blk (nodeW w l r) (w.heap.size + 1) (bytesV r.b) 24 := (Blk.newL1 w _ _ _).alloc _
  have hH : Blk (nodeW w l r) (w.heap.size + 1 + 1) z32 24 := Blk.newL2 w _ _ _ _
  have hs : (nodeW w l r).heap.size = w.heap.size + 1 + 1 + 1 := by simp [nodeW]
  have HL := Lib.hid hL
  have HR := Lib.hid hR
  have HH := Lib.hid hH
  have HG := Lib.hid (hg.below hb1)
  clear hL hR hH hg
  go_enter Tryd.func19, Tryd.ntmps19
  unfold hv
  go_wp2_with fail
  refine wp_region_forced [1, 2] [0, 3, 4, 5] (by kernel_rfl) (by kernel_rfl) (fun _ _ _ d _ h => by cases d <;> exact h) _ _ rfl rfl ?_
  simp only [List.map_cons, List.map_nil, List.getD_cons_succ, List.getD_cons_zero]
  refine wpPure_run (.slice (some ⟨w.heap.size, 0, none⟩) 32 32) rfl (fun w' => ?_) ?_
  · simp [go_sem, execOp]
  refine wpPure_run (.slice (some ⟨w.heap.size + 1, 0, none⟩) 32 32) rfl (fun w' => ?_) ?_
  · simp [go_sem, execOp]
  refine wpPure_nil ?_
  intro nq
  go_wp2_with fail
  obtain ⟨w1, hw1e⟩ : ∃ w1, w1 = ((nodeW w l r).drewN nq).alloc (.cells (bytesV [1]).toArray 5) := ⟨_, rfl⟩
  have hbn : Below (w.heap.size + 1 + 1 + 1) (nodeW w l r) w1 := by rw [hw1e]; exact (below_drewN (Below.refl _ _) nq).alloc (by simp [hs]) _
  have hT : Bytes w1 (.slice (some ⟨w.heap.size + 1 + 1 + 1, 0, none⟩) 1 1) [1] := by rw [hw1e]; exact bytes_alloc _ [1] _ _ (by simp [hs])
  have hL1 := bytes_box (HL.out.below hbn (by omega))
  have hR1 := bytes_box (HR.out.below hbn (by omega))
  have hG1 : Glob w1 := HG.out.below (hs ▸ hbn)
  have hs1 : w1.heap.size = w.heap.size + 1 + 1 + 1 + 1 := by rw [hw1e]; simp [hs]
  have hH1 := HH.out.below hbn (by omega)
  refine (sum_atB (n := 3) w1 [_, _, _] [[1], l.b, r.b] _ hs1 (.cons hT (.cons hL1 (.cons hR1 .nil))) rfl (1 :: (l.b ++ r.b)) (by simp [cat]) (by simp [l.len, r.len]) (by decide) hG1).mono ?_ |> (fun h => by rw [hw1e] at h; exact h)
  rintro e w2 ⟨rfl, hb2⟩
  have HH2 := Lib.hid (hH1.below hb2 (by omega))
  have hw2 := hb1.trans ((hbn.trans (hb2.mono (by omega))).mono (by omega))
  clear hb1 hb2 HL HR HH HG hbn hT hL1 hR1 hG1 hH1
  go_wp2_with (first
    | (refine wpList_store_row rfl 24 (.tmp 4) (.tmp 9) rfl (w.heap.size + 1 + 1) (bytesV (ndH l r).b).toArray rfl rfl 24 z32.toArray (by exact HH2.out) (by exact hv_row _) (by exact z32_old _) (by exact hv_one _) ?_)
    | fail)
  exact bodyPost_ret (v := hv (ndH l r)) (results_cell_row rfl _ _ (w.heap.size + 1 + 1) 24 _ (0, 0) _ rfl (HH2.out.setRow _) Tryd.underlying24 rfl (hv_row _)) rfl ⟨rfl, below_setRow hw2 (by omega) _⟩
end Go.Proofs.YtkfplliipogagaaDoor
