/- The walk of Both's inner closure where both numbers are one. Conditions: what each part says. -/
import Derived.Test.YtldokkbfahobgaaDoorComesW
import Derived.Test.YtldokkbfahobgaaDoorHashP
/-! BothA: The walk of Both's inner closure where both numbers are one. Conditions: what it has captured reads as told. -/
namespace Go.Proofs.YtldokkbfahobgaaDoor
open Go.RowKit

theorem pair_row (p q : H) : (Tryd.prog.info? 104).map (·.size) = some (bytesV (p.b ++ q.b)).toArray.size := by
  obtain ⟨it, hit, hz⟩ := Option.map_eq_some_iff.1 pair_zero
  rw [hit, List.size_toArray, bytesV_len, List.length_append, p.len, q.len]
  exact congrArg some (congrArg Prod.snd hz)
theorem zp64_old (p q : H) : zp64.toArray.size = (bytesV (p.b ++ q.b)).toArray.size := by simp [zp64, bytesV, p.len, q.len]
theorem pair_one (p q : H) : (bytesV (p.b ++ q.b)).toArray.all (·.oneCell') = true := hash_one _
theorem zp64_arr : zp64.toArray = #[.int .u8 0, .int .u8 0, .int .u8 0, .int .u8 0, .int .u8 0, .int .u8 0, .int .u8 0, .int .u8 0, .int .u8 0, .int .u8 0, .int .u8 0, .int .u8 0, .int .u8 0, .int .u8 0, .int .u8 0, .int .u8 0, .int .u8 0, .int .u8 0, .int .u8 0, .int .u8 0, .int .u8 0, .int .u8 0, .int .u8 0, .int .u8 0, .int .u8 0, .int .u8 0, .int .u8 0, .int .u8 0, .int .u8 0, .int .u8 0, .int .u8 0, .int .u8 0, .int .u8 0, .int .u8 0, .int .u8 0, .int .u8 0, .int .u8 0, .int .u8 0, .int .u8 0, .int .u8 0, .int .u8 0, .int .u8 0, .int .u8 0, .int .u8 0, .int .u8 0, .int .u8 0, .int .u8 0, .int .u8 0, .int .u8 0, .int .u8 0, .int .u8 0, .int .u8 0, .int .u8 0, .int .u8 0, .int .u8 0, .int .u8 0, .int .u8 0, .int .u8 0, .int .u8 0, .int .u8 0, .int .u8 0, .int .u8 0, .int .u8 0, .int .u8 0] := rfl
def upbV (ob nb ub : Nat) : Value := .func (.func 58) #[] #[.pointer (some ⟨ob, 0, none⟩), .pointer (some ⟨nb, 0, none⟩), .pointer (some ⟨ub, 0, none⟩)]
structure UpB (w0 w : World) (ob nb ub g q : Nat) (x : H) : Prop where
  tab : Glob w0
  old : Below w0.heap.size w0 w
  new : w0.heap.size ≤ g
  h : Blk w ob (bytesV x.b) 31
  next : w.cell? ⟨nb, 0, none⟩ = some (nextV g q)
  up : w.cell? ⟨ub, 0, none⟩ = some (upbV ob nb ub)
  hg : ob ≠ g
  ng : nb ≠ g
  ug : ub ≠ g
theorem UpB.but {w0 w w' : World} {hb nb ub g q : Nat} {x : H} (h : UpB w0 w hb nb ub g q x) (hw : But g w w') : UpB w0 w' hb nb ub g q x :=
  ⟨h.tab, h.old.trans (hw.below h.new h.old.size), h.new, hw.blk h.h h.hg, hw.cell h.next h.ng, hw.cell h.up h.ug, h.hg, h.ng, h.ug⟩
theorem UpB.glob {w0 w : World} {hb nb ub g q : Nat} {x : H} (h : UpB w0 w hb nb ub g q x) : Glob w := h.tab.below h.old
def BothPost (Z : Option ((H × H) × Nat)) (g q : Nat) (pv : Value) (P : List H) (e : Ending) (w' : World) : Prop :=
  match Z with
  | some (p, a') => e = .returned (pairV p.1 p.2) ∧ Tk w' g q pv P a'
  | none => e = .panicked [{ v := shortP, recovered := false }]
set_option maxRecDepth 100000 in
set_option maxHeartbeats 1000000 in
theorem upb_old (w0 : World) (ob nb ub g q : Nat) (x : H) (pv : Value) (P : List H) (n a : Nat) (w : World) (hU : UpB w0 w ob nb ub g q x) (hT : Tk w g q pv P a) :
    Calls Tryd.prog 58 #[.int .i64 n, .int .i64 n, .bool true, .pointer (some ⟨ob, 0, none⟩), .pointer (some ⟨nb, 0, none⟩), .pointer (some ⟨ub, 0, none⟩)] w fun e w' =>
      BothPost (some ((x, x), a)) g q pv P e w' ∧ But g w w' := by
  have hgl := hT.at_.lt
  have hql := hT.qlt
  have HPL := Lib.hid hT.plt
  have hb1 : Below w.heap.size w (w.alloc (.cells zp64.toArray 104)) := (Below.refl _ _).alloc (Nat.le_refl _) _
  have hb2 : Below w.heap.size w (((w.alloc (.cells zp64.toArray 104)).alloc (.cells z32.toArray 31)).setRow (w.heap.size + 1) (bytesV x.b).toArray) := below_setRow (hb1.alloc hb1.size _) (by omega) _
  have h1 : Blk (w.alloc (.cells zp64.toArray 104)) ob (bytesV x.b) 31 := hU.h.alloc _
  have h2 : Blk ((w.alloc (.cells zp64.toArray 104)).alloc (.cells z32.toArray 31)) (w.heap.size + 1) z32 31 := Blk.newL1 w _ _ _
  have h3 : Blk (((w.alloc (.cells zp64.toArray 104)).alloc (.cells z32.toArray 31)).setRow (w.heap.size + 1) (bytesV x.b).toArray) w.heap.size zp64 104 := ((Blk.newL w zp64 _).alloc _).setRow_other (by omega) _
  have h4 : Blk (((w.alloc (.cells zp64.toArray 104)).alloc (.cells z32.toArray 31)).setRow (w.heap.size + 1) (bytesV x.b).toArray) (w.heap.size + 1) (bytesV x.b) 31 := h2.setRow _
  have HT := Lib.hid hT
  have H1 := Lib.hid h1
  have H2 := Lib.hid h2
  have H3 := Lib.hid h3
  have H4 := Lib.hid h4
  clear hU hT h1 h2 h3 h4
  go_enter Tryd.func58, Tryd.ntmps58
  go_wp2_with (first
    | (refine wpList_load_row rfl 31 (.tmp 3) rfl ob rfl 31 (bytesV x.b).toArray (0, 0) _ (by exact H1.out) Tryd.underlying31 rfl (by exact hv_row _) ?_)
    | (refine wpList_store_row rfl 31 (.tmp 10) (.tmp 18) rfl (w.heap.size + 1) (bytesV x.b).toArray rfl rfl 31 z32.toArray (by exact H2.out) (by exact hv_row _) (by exact z32_old _) (by exact hv_one _) ?_)
    | (refine wpList_load_row rfl 31 (.tmp 10) rfl (w.heap.size + 1) rfl 31 (bytesV x.b).toArray (0, 0) _ (by exact H4.out) Tryd.underlying31 rfl (by exact hv_row _) ?_)
    | (refine wpList_pair rfl x x (.tmp 23) (.tmp 24) rfl rfl rfl ?_; unfold pairV)
    | (refine wpList_store_row rfl 104 (.tmp 9) (.tmp 25) rfl w.heap.size (bytesV (x.b ++ x.b)).toArray rfl rfl 104 zp64.toArray (by exact H3.out) (by exact pair_row _ _) (by exact zp64_old _ _) (by exact pair_one _ _) ?_)
    | fail)
  exact bodyPost_ret (v := pairV x x) (results_cell_row rfl _ _ w.heap.size 104 _ (0, 0) _ rfl (H3.out.setRow _) Tryd.underlying104 rfl (pair_row _ _)) rfl ⟨⟨rfl, HT.out.past (below_setRow hb2 (Nat.le_refl _) _) hgl hql HPL.out⟩, But.of (below_setRow hb2 (Nat.le_refl _) _)⟩
set_option maxRecDepth 100000 in
set_option maxHeartbeats 1000000 in
theorem upb_end0 (w0 : World) (ob nb ub g q : Nat) (x : H) (pv : Value) (P : List H) (n : Nat) (w : World) (hU : UpB w0 w ob nb ub g q x) (hT : Tk w g q pv P 0) :
    Calls Tryd.prog 58 #[.int .i64 n, .int .i64 n, .bool false, .pointer (some ⟨ob, 0, none⟩), .pointer (some ⟨nb, 0, none⟩), .pointer (some ⟨ub, 0, none⟩)] w fun e w' =>
      BothPost none g q pv P e w' ∧ But g w w' := by
  have hgl := hT.at_.lt
  have hql := hT.qlt
  have HPL := Lib.hid hT.plt
  have hb1 : Below w.heap.size w (w.alloc (.cells zp64.toArray 104)) := (Below.refl _ _).alloc (Nat.le_refl _) _
  have hb2 : Below w.heap.size w (((w.alloc (.cells zp64.toArray 104)).alloc (.cells z32.toArray 31)).setRow (w.heap.size + 1) (bytesV x.b).toArray) := below_setRow (hb1.alloc hb1.size _) (by omega) _
  have h1 : Blk (w.alloc (.cells zp64.toArray 104)) ob (bytesV x.b) 31 := hU.h.alloc _
  have h2 : Blk ((w.alloc (.cells zp64.toArray 104)).alloc (.cells z32.toArray 31)) (w.heap.size + 1) z32 31 := Blk.newL1 w _ _ _
  have h3 : Blk (((w.alloc (.cells zp64.toArray 104)).alloc (.cells z32.toArray 31)).setRow (w.heap.size + 1) (bytesV x.b).toArray) w.heap.size zp64 104 := ((Blk.newL w zp64 _).alloc _).setRow_other (by omega) _
  have h4 : Blk (((w.alloc (.cells zp64.toArray 104)).alloc (.cells z32.toArray 31)).setRow (w.heap.size + 1) (bytesV x.b).toArray) (w.heap.size + 1) (bytesV x.b) 31 := h2.setRow _
  have hU3 := hU.but (But.of hb2)
  have c3 := hU3.next
  rw [zp64_arr, z32_arr] at c3
  unfold nextV at c3
  have HT3 := Lib.hid (hT.below hb2)
  have HT := Lib.hid hT
  have H1 := Lib.hid h1
  have H2 := Lib.hid h2
  have H3 := Lib.hid h3
  have H4 := Lib.hid h4
  clear hU hU3 hT h1 h2 h3 h4
  go_enter Tryd.func58, Tryd.ntmps58
  go_wp2_with (first
    | (refine wpList_load_row rfl 31 (.tmp 3) rfl ob rfl 31 (bytesV x.b).toArray (0, 0) _ (by exact H1.out) Tryd.underlying31 rfl (by exact hv_row _) ?_)
    | (refine wpList_store_row rfl 31 (.tmp 10) (.tmp 18) rfl (w.heap.size + 1) (bytesV x.b).toArray rfl rfl 31 z32.toArray (by exact H2.out) (by exact hv_row _) (by exact z32_old _) (by exact hv_one _) ?_)
    | (go_at_call 73; refine (next_none _ g q pv P (by exact HT3.out)).mono ?_; rintro e w5 ⟨rfl, hb5⟩)
    | fail)
  exact ⟨rfl, rfl, (But.of hb2).trans (But.of hb5)⟩
set_option maxRecDepth 100000 in
set_option maxHeartbeats 1000000 in
theorem upb_end (w0 : World) (ob nb ub g q : Nat) (x : H) (pv : Value) (P : List H) (n a : Nat) (o : H) (w : World) (ho : P[a]? = some o) (hU : UpB w0 w ob nb ub g q x) (hT : Tk w g q pv P (a + 1)) :
    Calls Tryd.prog 58 #[.int .i64 n, .int .i64 n, .bool false, .pointer (some ⟨ob, 0, none⟩), .pointer (some ⟨nb, 0, none⟩), .pointer (some ⟨ub, 0, none⟩)] w fun e w' =>
      BothPost (some ((o, o), a)) g q pv P e w' ∧ But g w w' := by
  have hgl := hT.at_.lt
  have hql := hT.qlt
  have HPL := Lib.hid hT.plt
  have hb1 : Below w.heap.size w (w.alloc (.cells zp64.toArray 104)) := (Below.refl _ _).alloc (Nat.le_refl _) _
  have hb2 : Below w.heap.size w (((w.alloc (.cells zp64.toArray 104)).alloc (.cells z32.toArray 31)).setRow (w.heap.size + 1) (bytesV x.b).toArray) := below_setRow (hb1.alloc hb1.size _) (by omega) _
  have h1 : Blk (w.alloc (.cells zp64.toArray 104)) ob (bytesV x.b) 31 := hU.h.alloc _
  have h2 : Blk ((w.alloc (.cells zp64.toArray 104)).alloc (.cells z32.toArray 31)) (w.heap.size + 1) z32 31 := Blk.newL1 w _ _ _
  have h3 : Blk (((w.alloc (.cells zp64.toArray 104)).alloc (.cells z32.toArray 31)).setRow (w.heap.size + 1) (bytesV x.b).toArray) w.heap.size zp64 104 := ((Blk.newL w zp64 _).alloc _).setRow_other (by omega) _
  have h4 : Blk (((w.alloc (.cells zp64.toArray 104)).alloc (.cells z32.toArray 31)).setRow (w.heap.size + 1) (bytesV x.b).toArray) (w.heap.size + 1) (bytesV x.b) 31 := h2.setRow _
  have hU3 := hU.but (But.of hb2)
  have c3 := hU3.next
  rw [zp64_arr, z32_arr] at c3
  unfold nextV at c3
  have HT3 := Lib.hid (hT.below hb2)
  have HT := Lib.hid hT
  have H1 := Lib.hid h1
  have H2 := Lib.hid h2
  have H3 := Lib.hid h3
  have H4 := Lib.hid h4
  clear hU hU3 hT h1 h2 h3 h4
  go_enter Tryd.func58, Tryd.ntmps58
  go_wp2_with (first
    | (refine wpList_load_row rfl 31 (.tmp 3) rfl ob rfl 31 (bytesV x.b).toArray (0, 0) _ (by exact H1.out) Tryd.underlying31 rfl (by exact hv_row _) ?_)
    | (refine wpList_store_row rfl 31 (.tmp 10) (.tmp 18) rfl (w.heap.size + 1) (bytesV x.b).toArray rfl rfl 31 z32.toArray (by exact H2.out) (by exact hv_row _) (by exact z32_old _) (by exact hv_one _) ?_)
    | (go_at_call 73; refine (next_some _ g q pv P a o (by exact HT3.out) ho).mono ?_; rintro e w5 ⟨rfl, hT5, hb5⟩; have HT5 := Lib.hid hT5; have H35 := Lib.hid (hb5.blk H3.out (by omega)); have H45 := Lib.hid (hb5.blk H4.out (by omega)); have hB5 := (But.of hb2).trans hb5; have hs5 := hB5.size; unfold hv; clear hT5 hb5)
    | (refine wpList_store_row rfl 31 (.tmp 10) (.tmp 22) rfl (w.heap.size + 1) (bytesV o.b).toArray rfl rfl 31 (bytesV x.b).toArray (by exact H45.out) (by exact hv_row _) (by simp only [List.size_toArray, bytesV_len, H.len]) (by exact hv_one _) ?_)
    | (refine wpList_load_row rfl 31 (.tmp 10) rfl (w.heap.size + 1) rfl 31 (bytesV o.b).toArray (0, 0) _ (by exact H45.out.setRow _) Tryd.underlying31 rfl (by exact hv_row _) ?_)
    | (refine wpList_pair rfl o o (.tmp 23) (.tmp 24) rfl rfl rfl ?_; unfold pairV)
    | (refine wpList_store_row rfl 104 (.tmp 9) (.tmp 25) rfl w.heap.size (bytesV (o.b ++ o.b)).toArray rfl rfl 104 zp64.toArray (by exact H35.out.setRow_other (by omega) _) (by exact pair_row _ _) (by exact zp64_old _ _) (by exact pair_one _ _) ?_)
    | fail)
  have hbe : Below w.heap.size w5 ((w5.setRow (w.heap.size + 1) (bytesV o.b).toArray).setRow w.heap.size (bytesV (o.b ++ o.b)).toArray) := below_setRow (below_setRow (Below.refl _ _) (by omega) _) (Nat.le_refl _) _
  exact bodyPost_ret (v := pairV o o) (results_cell_row rfl _ _ w.heap.size 104 _ (0, 0) _ rfl ((H35.out.setRow_other (by omega) _).setRow _) Tryd.underlying104 rfl (pair_row _ _)) rfl ⟨⟨rfl, HT5.out.past hbe hgl hql HPL.out⟩, hB5.then hbe⟩
end Go.Proofs.YtldokkbfahobgaaDoor
