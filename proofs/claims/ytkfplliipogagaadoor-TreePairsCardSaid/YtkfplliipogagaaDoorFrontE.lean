/- The walk of a frontier's Root. Conditions: the frontier lies as told, with at most 2^40 leaves; the package's tables read as they are laid. -/
import Derived.Test.YtkfplliipogagaaDoorFrontD
namespace Go.Proofs.YtkfplliipogagaaDoor
open Go.RowKit Go.Shelf
attribute [local go_sem] Oper.semAt_some

theorem rootS_next (S : List H) (i : Nat) (x : H) (h : S[i]? = some x) (hi : 0 < i) : rootS ndH e0H (S.take (i + 1)) = ndH x (rootS ndH e0H (S.take i)) := by
  cases S with
  | nil => simp at h
  | cons t S =>
    obtain ⟨j, rfl⟩ : ∃ j, i = j + 1 := ⟨i - 1, by omega⟩
    rw [List.getElem?_cons_succ] at h
    rw [List.take_succ_cons, List.take_succ_cons]
    unfold rootS
    simp only
    rw [List.take_add_one, h]
    simp
theorem rootS_first (S : List H) (x : H) (h : S[0]? = some x) : rootS ndH e0H (S.take 1) = x := by
  cases S with
  | nil => simp at h
  | cons t S => simpa [rootS] using h
def outV (S : List H) (i : Nat) : List Value := if i = 0 then z32 else bytesV (rootS ndH e0H (S.take i)).b
theorem outV_pos (S : List H) (i : Nat) (h : i ≠ 0) : outV S i = bytesV (rootS ndH e0H (S.take i)).b := by unfold outV; rw [if_neg h]
structure RootJ (S : List H) (w : World) (b : Nat) (rec : LoopState → Option Code → Loop) (i : Nat) (W : World) : Prop where
  loop : W.heap[w.heap.size + 5]? = some (.loop (rec .ready none))
  defs : W.heap[w.heap.size + 4]? = some (.deferred (some []))
  out : Blk W (w.heap.size + 1) (outV S i) 24
  first : Blk W (w.heap.size + 2) [.bool (decide (i = 0))] 4
  box : Blk W (w.heap.size + 3) [.pointer (some ⟨b, 0, none⟩)] 88
  res : Blk W w.heap.size z32 24
  old : Below w.heap.size w W

set_option maxRecDepth 100000 in
set_option maxHeartbeats 400000 in
theorem froot_none (v : Value) (w : World) (hg : Glob w) (hv0 : v = .pointer none ∨ ∃ b V, v = .pointer (some ⟨b, 0, none⟩) ∧ Fr w b V []) :
    Calls Tryd.prog 26 #[v] w fun e w' => e = .returned (hv e0H) ∧ Below w.heap.size w w' := by
  have hb1 : Below w.heap.size w (w.alloc (.cells z32.toArray 24)) := by (repeat (first | with_reducible assumption | with_reducible exact Below.refl _ _ | ((with_reducible refine Below.setCell ?_ ?_ _); rotate_left; focus (first | omega | (simp; done) | (simp; omega))) | ((with_reducible refine Below.alloc ?_ ?_ _); rotate_left; focus (first | omega | (simp; done) | (simp; omega))) | ((with_reducible refine below_setRow ?_ ?_ _); rotate_left; focus (first | omega | (simp; done) | (simp; omega))) | (with_reducible refine below_drewN ?_ _) | (with_reducible refine Below.drew ?_)))
  have hsz : Calls Tryd.prog 25 #[v] (w.alloc (.cells z32.toArray 24)) fun e w' => e = .returned (.int .i64 0) ∧ w' = (w.alloc (.cells z32.toArray 24)) := by
    rcases hv0 with rfl | ⟨b, V, rfl, hF⟩
    · exact size_none _
    · exact size_any _ b V [] (St.keep hF hb1)
  have HSZ := Lib.hid hsz
  have HG := Lib.hid (hg.below hb1)
  clear hg hsz hv0
  refine (callsIn_wide (n := 4)).1 ?_
  refine callsIn_of_wp_marks Tryd.func26 rfl trivial ?_ rfl
  simp only [Tryd.ntmps26, List.size_toArray, List.length_cons, List.length_nil, Nat.reduceAdd, Nat.reduceSub, Array.replicate_succ, Array.replicate_zero, List.push_toArray, List.append_toArray, List.nil_append, List.cons_append]
  gi_wp2_with fail
  refine ⟨trivial, callsIn_wide.2 (HSZ.out.mono ?_)⟩
  rintro e w1 ⟨rfl, rfl⟩
  gi_wp2_with fail
  refine ⟨trivial, callsIn_wide.2 ((sum_any (.slice none 0 0) [] [] (w.alloc (.cells z32.toArray 24)) (Parts.nil _) (by decide) (by decide) HG.out).mono ?_)⟩
  rintro e w2 ⟨rfl, hb2⟩
  rw [sum_nat, show cat [] = [] from rfl]
  have hH : Blk w2 w.heap.size z32 24 := (Blk.newL w z32 _).below hb2 (by simp)
  have HH := Lib.hid hH
  have hw2 := hb1.trans (hb2.mono hb1.size)
  clear hH hb1 hb2 HG
  gi_wp2_with (first
    | (refine wpListIn_store_row rfl 24 (.tmp 2) (.tmp 9) rfl w.heap.size (bytesV e0H.b).toArray rfl rfl 24 z32.toArray (by exact HH.out) (by exact hv_row _) (by exact z32_old _) (by exact hv_one _) ?_)
    | fail)
  exact ⟨hv e0H, results_cell_row rfl _ _ w.heap.size 24 _ (0, 0) _ rfl (HH.out.setRow _) Tryd.underlying24 rfl (hv_row _), rfl, below_setRow hw2 (Nat.le_refl _) _⟩

/-- What lies there when the loop begins. -/
def rootW (w : World) (b : Nat) : World := (((w.alloc (.cells z32.toArray 24)).alloc (.cells z32.toArray 24)).alloc (.cells #[.bool true] 4)).alloc (.cells #[.pointer (some ⟨b, 0, none⟩)] 88)
theorem rootW_size (w : World) (b : Nat) : (rootW w b).heap.size = w.heap.size + 4 := by simp [rootW]
theorem rootJ_start (S : List H) (w : World) (b : Nat) (rec : LoopState → Option Code → Loop) : RootJ S w b rec 0 (((rootW w b).alloc (.deferred (some []))).alloc (.loop (rec .ready none))) := by
  have hs := rootW_size w b
  refine ⟨?_, ?_, ?_, ?_, ?_, ?_, ?_⟩
  · have := heap_alloc_new ((rootW w b).alloc (.deferred (some []))) (.loop (rec .ready none))
    rw [World.size_alloc, hs] at this
    exact this
  · have := heap_alloc2_old (rootW w b) (.deferred (some [])) (.loop (rec .ready none))
    rw [hs] at this
    exact this
  · exact ((((Blk.newL1 w _ z32 _).alloc _).alloc _).alloc _).alloc _
  · exact (((Blk.newL2 w _ _ [.bool true] _).alloc _).alloc _).alloc _
  · have h3 := Blk.newL (((w.alloc (.cells z32.toArray 24)).alloc (.cells z32.toArray 24)).alloc (.cells #[.bool true] 4)) [.pointer (some ⟨b, 0, none⟩)] 88
    rw [World.size_alloc, World.size_alloc, World.size_alloc] at h3
    exact (h3.alloc _).alloc _
  · exact (((((Blk.newL w z32 _).alloc _).alloc _).alloc _).alloc _).alloc _
  · unfold rootW
    (repeat (first | with_reducible assumption | with_reducible exact Below.refl _ _ | ((with_reducible refine Below.setCell ?_ ?_ _); rotate_left; focus (first | omega | (simp; done) | (simp; omega))) | ((with_reducible refine Below.alloc ?_ ?_ _); rotate_left; focus (first | omega | (simp; done) | (simp; omega))) | ((with_reducible refine below_setRow ?_ ?_ _); rotate_left; focus (first | omega | (simp; done) | (simp; omega))) | (with_reducible refine below_drewN ?_ _) | (with_reducible refine Below.drew ?_)))
/-- What lies there in a round. -/
structure RootB (S : List H) (w : World) (b : Nat) (rec : LoopState → Option Code → Loop) (i : Nat) (x : H) (T : Nat) (W : World) : Prop where
  loop : W.heap[w.heap.size + 5]? = some (.loop (rec .busy none))
  defs : W.heap[w.heap.size + 4]? = some (.deferred (some []))
  out : Blk W (w.heap.size + 1) (outV S i) 24
  first : Blk W (w.heap.size + 2) [.bool (decide (i = 0))] 4
  box : Blk W (w.heap.size + 3) [.pointer (some ⟨b, 0, none⟩)] 88
  res : Blk W w.heap.size z32 24
  tmp : Blk W T (bytesV x.b) 24
  late : w.heap.size + 5 < T
  old : Below w.heap.size w W
def roundW (W : World) (x : H) : World := (W.alloc (.cells z32.toArray 24)).setRow W.heap.size (bytesV x.b).toArray
theorem round_old {W : World} {r : Nat} {l : List Value} {e : TypeId} (h : Blk W r l e) (x : H) : Blk (roundW W x) r l e := (h.alloc _).setRow_other (Nat.ne_of_lt h.lt) _
theorem round_obj {W : World} {r : Nat} {o : Obj} (h : W.heap[r]? = some o) (x : H) : (roundW W x).heap[r]? = some o := by
  have hr : r < W.heap.size := (Array.getElem?_eq_some_iff.1 h).1
  exact (Go.setRow_other _ _ _ _ (by omega)).trans ((heap_alloc_old W _ r hr).trans h)
theorem RootJ.round {S : List H} {w W : World} {b i : Nat} {rec : LoopState → Option Code → Loop} (hj : RootJ S w b rec i W) (x : H) :
    RootB S w b rec i x W.heap.size ((roundW W x).putObj (w.heap.size + 5) (.loop (rec .busy none))) := by
  have hlW : w.heap.size + 5 < W.heap.size := (Array.getElem?_eq_some_iff.1 hj.loop).1
  refine ⟨World.putObj_heap_same ?_, (World.putObj_heap_other (by omega)).trans (round_obj hj.defs x), (round_old hj.out x).putObj (by omega) _, (round_old hj.first x).putObj (by omega) _, (round_old hj.box x).putObj (by omega) _, (round_old hj.res x).putObj (by omega) _, ?_, hlW, ?_⟩
  · have := round_obj hj.loop x
    exact (Array.getElem?_eq_some_iff.1 this).1
  · exact ((Blk.newL W z32 _).setRow _).putObj (by omega) _
  · exact below_putObj (below_setRow (hj.old.alloc hj.old.size _) hj.old.size _) (by omega) _
/-- Behind a round: the loop's state again, out of what the round has left. -/
theorem RootB.done {S : List H} {w W : World} {b i T : Nat} {x : H} {rec : LoopState → Option Code → Loop} (h : RootB S w b rec i x T W) (_hx : S[i]? = some x) (v : H) (hv0 : v = rootS ndH e0H (S.take (i + 1))) (W2 : World)
    (h1 : Blk W2 (w.heap.size + 1) (bytesV v.b) 24) (h2 : Blk W2 (w.heap.size + 2) [.bool false] 4) (h3 : ∀ k, k ≠ w.heap.size + 1 → k ≠ w.heap.size + 2 → k < W.heap.size → W2.heap[k]? = W.heap[k]?) (h4 : Below w.heap.size w W2) :
    W2.heap[w.heap.size + 5]? = some (.loop (rec .busy none)) ∧ RootJ S w b rec (i + 1) (W2.putObj (w.heap.size + 5) (.loop (rec .ready none))) := by
  have hl : w.heap.size + 5 < W.heap.size := (Array.getElem?_eq_some_iff.1 h.loop).1
  have hl2 := (h3 _ (by omega) (by omega) hl).trans h.loop
  have hb3 := (h3 (w.heap.size + 3) (by omega) (by omega) (by omega)).trans h.box
  have hb0 := (h3 w.heap.size (by omega) (by omega) (by omega)).trans h.res
  refine ⟨hl2, World.putObj_heap_same (Array.getElem?_eq_some_iff.1 hl2).1, (World.putObj_heap_other (by omega)).trans ((h3 _ (by omega) (by omega) (by omega)).trans h.defs), ?_, h2.putObj (by omega) _, Blk.putObj hb3 (by omega) _, Blk.putObj hb0 (by omega) _, below_putObj h4 (by omega) _⟩
  rw [outV_pos _ _ (by omega), ← hv0]
  exact h1.putObj (by omega) _
set_option maxRecDepth 100000 in
set_option maxHeartbeats 1000000 in
theorem froot_some (w : World) (b V : Nat) (l : List H) (hF : Fr w b V l) (h0 : l ≠ []) (hl : l.length ≤ 1099511627776) (hg : Glob w) :
    Calls Tryd.prog 26 #[.pointer (some ⟨b, 0, none⟩)] w fun e w' => e = .returned (hv (rootN ndH e0H l)) ∧ Below w.heap.size w w' := by
  have hpos := List.length_pos_iff.2 h0
  have hroot := rootS_stack ndH e0H _ l rfl
  obtain ⟨S, hS⟩ : ∃ S, S = stackN ndH l := ⟨_, rfl⟩
  obtain ⟨N, hN⟩ : ∃ N, N = S.length := ⟨_, rfl⟩
  have hNpos : 0 < N := by
    rcases Nat.eq_zero_or_pos N with e | e
    · exfalso
      have h1 := stackN_trees ndH e0H _ l rfl
      rw [treesN_pos ndH e0H l hpos, ← hS, List.eq_nil_of_length_eq_zero (hN.symm.trans e)] at h1
      cases h1
    · exact e
  have hNle : N ≤ 1099511627776 := by rw [hN, hS]; have := stackN_few ndH _ l rfl; omega
  have hb1 : Below w.heap.size w (w.alloc (.cells z32.toArray 24)) := by (repeat (first | with_reducible assumption | with_reducible exact Below.refl _ _ | ((with_reducible refine Below.setCell ?_ ?_ _); rotate_left; focus (first | omega | (simp; done) | (simp; omega))) | ((with_reducible refine Below.alloc ?_ ?_ _); rotate_left; focus (first | omega | (simp; done) | (simp; omega))) | ((with_reducible refine below_setRow ?_ ?_ _); rotate_left; focus (first | omega | (simp; done) | (simp; omega))) | (with_reducible refine below_drewN ?_ _) | (with_reducible refine Below.drew ?_)))
  have hsz := size_any _ b V l (St.keep hF hb1)
  have hF' := hF
  obtain ⟨_, _, sv, hB, hO⟩ := hF'
  rw [← hS] at hO hroot
  have hlen : S.reverse.length = N := by rw [List.length_reverse, hN]
  rw [hlen] at hO
  obtain ⟨g, off, cap, rfl, hcap, hr, hgw⟩ := (ownsRow_isSl hO (bytesV_one _)).pos hNpos (by decide)
  have hlt := hB.lt
  have HSZ := Lib.hid hsz
  have HG := Lib.hid hg
  have HB := Lib.hid hB
  have HR := Lib.hid hr
  have HN := Lib.hid hN
  have HROOT := Lib.hid hroot
  have HLEN := Lib.hid hlen
  have hne : ((l.length : Int) == 0) = false := by rw [beq_eq_false_iff_ne]; omega
  clear hg hsz hF hO hB hr hN hS hroot hlen
  refine (callsIn_wide (n := 4)).1 ?_
  refine callsIn_of_wp_marks Tryd.func26 rfl trivial ?_ rfl
  simp only [Tryd.ntmps26, List.size_toArray, List.length_cons, List.length_nil, Nat.reduceAdd, Nat.reduceSub, Array.replicate_succ, Array.replicate_zero, List.push_toArray, List.append_toArray, List.nil_append, List.cons_append]
  gi_wp2_with fail
  refine ⟨trivial, callsIn_wide.2 (HSZ.out.mono ?_)⟩
  rintro e w1 ⟨rfl, rfl⟩
  gi_wp2_with fail
  refine ⟨trivial, callsIn_wide.2 ((down_any b _).mono ?_)⟩
  rintro e w4 ⟨rfl, rfl⟩
  gi_wp2
  refine rangeFunc_plain (m := 3) rfl (enters_of Tryd.func66 (by kernel_rfl) rfl) ?_
  intro fn rec hrec
  simp only [World.size_alloc, List.append_toArray, List.cons_append, List.nil_append]
  refine (down_iter 3 (w.heap.size + 5) b (w.heap.size + 3) g off cap N S.reverse HLEN.out hNpos hNle (RootJ S w b rec) ?hY ?hC _ (rootJ_start S w b rec)).mono ?_
  case hC =>
    intro i W hj
    exact ⟨hj.box.cell rfl, (hj.old.cell (p := ⟨b, 0, none⟩) hlt).trans (HB.out.cell rfl), fun j u hu => (hj.old.cell (p := ⟨g, _, none⟩) hgw).trans (HR.out j u hu)⟩
  case hY =>
    intro i x W hi hx hj
    have hSx : S[i]? = some x := by
      rw [List.getElem?_reverse (by have := HN.out; omega)] at hx
      rw [← hx]
      congr 1
      have := HN.out
      omega
    refine yield_plain hrec hj.loop rfl ?_
    have hlW : w.heap.size + 5 < W.heap.size := (Array.getElem?_eq_some_iff.1 hj.loop).1
    have HX := Lib.hid hSx
    have HJ := Lib.hid hj
    have HRC := Lib.hid hrec
    clear hrec hSx hx hj
    gi_wp2_with (first
      | (refine wpListIn_store_row rfl 24 (.tmp 5) (.tmp 14) rfl W.heap.size (bytesV x.b).toArray rfl rfl 24 z32.toArray (by exact Blk.newL W z32 _) (by exact hv_row _) (by exact z32_old _) (by exact hv_one _) ?_)
      | fail)
    refine ⟨(Array.getElem?_eq_some_iff.1 (round_obj HJ.out.loop x)).2, ?_⟩
    obtain ⟨Wb, hWb⟩ : ∃ Wb, Wb = (roundW W x).putObj (w.heap.size + 5) (.loop (rec .busy none)) := ⟨_, rfl⟩
    have hRB : RootB S w b rec i x W.heap.size Wb := by rw [hWb]; exact HJ.out.round x
    obtain ⟨T, hT⟩ : ∃ T, T = W.heap.size := ⟨_, rfl⟩
    show Code.wpIn _ _ _ _ _ _ ((roundW W x).putObj (w.heap.size + 5) (.loop (rec .busy none)))
    rw [← hWb]
    rw [← hT] at hRB ⊢
    have HRB := Lib.hid hRB
    have hlate := hRB.late
    have hlb := hRB.tmp.lt
    clear hRB hWb hT HJ hlW
    by_cases hi0 : i = 0
    · have c0 : Wb.cell? ⟨w.heap.size + 2, 0, none⟩ = some (.bool true) := by
        have := HRB.out.first.cell (i := 0) rfl
        rw [hi0] at this
        exact this
      have f0 : Wb.frozen? ⟨w.heap.size + 2, 0, none⟩ = false := HRB.out.first.frozen 0
      have ho : Blk Wb (w.heap.size + 1) z32 24 := by
        have := HRB.out.out
        rw [hi0] at this
        exact this
      have hf1 : Blk (Wb.setRow (w.heap.size + 1) (bytesV x.b).toArray) (w.heap.size + 2) [.bool true] 4 := by
        have := HRB.out.first
        rw [hi0] at this
        exact this.setRow_other (by omega) _
      have c1 : (Wb.setRow (w.heap.size + 1) (bytesV x.b).toArray).cell? ⟨w.heap.size + 2, 0, none⟩ = some (.bool true) := hf1.cell rfl
      have f1 : (Wb.setRow (w.heap.size + 1) (bytesV x.b).toArray).frozen? ⟨w.heap.size + 2, 0, none⟩ = false := hf1.frozen 0
      have HO := Lib.hid ho
      have HF1 := Lib.hid hf1
      clear ho hf1
      gi_wp2_with (first
        | (refine wpListIn_load_row rfl 24 (.tmp 5) rfl T rfl 24 (bytesV x.b).toArray (0, 0) _ (by exact HRB.out.tmp) Tryd.underlying24 rfl (by exact hv_row _) ?_)
        | (refine wpListIn_store_row rfl 24 (.tmp 3) (.tmp 16) rfl (w.heap.size + 1) (bytesV x.b).toArray rfl rfl 24 z32.toArray (by exact HO.out) (by exact hv_row _) (by exact z32_old _) (by exact hv_one _) ?_)
        | fail)
      have hS0 : S[0]? = some x := by rw [← hi0]; exact HX.out
      obtain ⟨g1, g2⟩ := HRB.out.done HX.out x (by rw [hi0, rootS_first S x hS0]) ((Wb.setRow (w.heap.size + 1) (bytesV x.b).toArray).setCell ⟨w.heap.size + 2, 0, none⟩ (.bool false)) ((HO.out.setRow _).set_other (by simp) _) (HF1.out.set 0 _)
        (fun k h1 h2 _ => (Below.heap_setCell _ _ _ _ h2).trans (Go.setRow_other _ _ _ _ h1)) ((below_setRow HRB.out.old (by omega) _).setCell (by simp <;> omega) _)
      first
        | exact ⟨g1, trivial, g2⟩
        | exact ⟨g1, rfl, g2⟩
        | exact ⟨g1, g2⟩
    · have c0 : Wb.cell? ⟨w.heap.size + 2, 0, none⟩ = some (.bool false) := by
        have := HRB.out.first.cell (i := 0) rfl
        rw [decide_eq_false hi0] at this
        exact this
      obtain ⟨R, hR⟩ : ∃ R, R = rootS ndH e0H (S.take i) := ⟨_, rfl⟩
      have ho : Blk Wb (w.heap.size + 1) (bytesV R.b) 24 := by
        have := HRB.out.out
        rw [outV_pos _ _ hi0, ← hR] at this
        exact this
      have HO := Lib.hid ho
      have HRR := Lib.hid hR
      have hgb : Glob Wb := HG.out.below HRB.out.old
      have HGB := Lib.hid hgb
      clear ho hR hgb
      gi_wp2_with (first
        | (refine wpListIn_load_row rfl 24 (.tmp 5) rfl T rfl 24 (bytesV x.b).toArray (0, 0) _ (by exact HRB.out.tmp) Tryd.underlying24 rfl (by exact hv_row _) ?_)
        | (refine wpListIn_load_row rfl 24 (.tmp 3) rfl (w.heap.size + 1) rfl 24 (bytesV R.b).toArray (0, 0) _ (by exact HO.out) Tryd.underlying24 rfl (by exact hv_row _) ?_)
        | fail)
      refine ⟨trivial, CallsIn.inRound _ (callsIn_wide.2 ((node_any x R Wb HGB.out).mono ?_))⟩
      rintro e W5 ⟨rfl, hb5⟩
      have HO5 := Lib.hid (HO.out.below hb5 HO.out.lt)
      gi_wp2_with (first
        | (refine wpListIn_store_row rfl 24 (.tmp 3) (.tmp 19) rfl (w.heap.size + 1) (bytesV (ndH x R).b).toArray rfl rfl 24 (bytesV R.b).toArray (by exact HO5.out) (by exact hv_row _) (by simp [bytesV_len, H.len]) (by exact hv_one _) ?_)
        | fail)
      have hf2 : Blk Wb (w.heap.size + 2) [.bool false] 4 := by
        have := HRB.out.first
        rw [decide_eq_false hi0] at this
        exact this
      obtain ⟨g1, g2⟩ := HRB.out.done HX.out (ndH x R) (by rw [HRR.out, rootS_next S i x HX.out (by omega)]) (W5.setRow (w.heap.size + 1) (bytesV (ndH x R).b).toArray) (HO5.out.setRow _) ((hf2.below hb5 hf2.lt).setRow_other (by omega) _)
        (fun k h1 _ h3 => (Go.setRow_other _ _ _ _ h1).trans (hb5.block k h3)) (below_setRow (HRB.out.old.trans (hb5.mono HRB.out.old.size)) (by omega) _)
      first
        | exact ⟨g1, trivial, g2⟩
        | exact ⟨g1, rfl, g2⟩
        | exact ⟨g1, g2⟩
  · rintro e W2 ⟨hv0, hj⟩
    refine ⟨hv0, hj.loop, ?_⟩
    clear hrec
    have hlW : w.heap.size + 5 < W2.heap.size := (Array.getElem?_eq_some_iff.1 hj.loop).1
    obtain ⟨W, hWe⟩ : ∃ W, W = W2.putObj (w.heap.size + 5) (.loop (rec .exhausted none)) := ⟨_, rfl⟩
    have hO : Blk W (w.heap.size + 1) (bytesV (rootN ndH e0H l).b) 24 := by
      have := hj.out
      rw [outV_pos _ _ (by omega), List.take_of_length_le (by have := HN.out; omega), HROOT.out] at this
      rw [hWe]
      exact this.putObj (by omega) _
    have hRs : Blk W w.heap.size z32 24 := by rw [hWe]; exact hj.res.putObj (by omega) _
    have hD : W.heap[w.heap.size + 4]? = some (.deferred (some [])) := by rw [hWe]; exact (World.putObj_heap_other (by omega)).trans hj.defs
    have hW : Below w.heap.size w W := by rw [hWe]; exact below_putObj hj.old (by omega) _
    rw [← hWe]
    clear hWe hj hlW
    have HO := Lib.hid hO
    have HRS := Lib.hid hRs
    have HD := Lib.hid hD
    clear hO hRs hD
    gi_wp2_with (first
      | (refine wpListIn_load_row rfl 24 (.tmp 3) rfl (w.heap.size + 1) rfl 24 (bytesV (rootN ndH e0H l).b).toArray (0, 0) _ (by exact HO.out) Tryd.underlying24 rfl (by exact hv_row _) ?_)
      | (refine wpListIn_store_row rfl 24 (.tmp 2) (.tmp 20) rfl w.heap.size (bytesV (rootN ndH e0H l).b).toArray rfl rfl 24 z32.toArray (by exact HRS.out) (by exact hv_row _) (by exact z32_old _) (by exact hv_one _) ?_)
      | fail)
    have hK : (W.setRow w.heap.size (bytesV (rootN ndH e0H l).b).toArray).heap[w.heap.size + 4]? = some (.deferred (some [])) := (Go.setRow_other _ _ _ _ (by omega)).trans HD.out
    refine ⟨by simp, .inl ⟨_, _, rfl, run_takeDeferred hK, ?_⟩⟩
    exact ⟨_, results_cell_row rfl _ _ w.heap.size 24 (bytesV (rootN ndH e0H l).b).toArray (0, 0) _ rfl ((HRS.out.setRow _).putObj (by omega) _) Tryd.underlying24 rfl (hv_row _), rfl, below_putObj (below_setRow hW (Nat.le_refl _) _) (by omega) _⟩
theorem froot_any (w : World) (b V : Nat) (l : List H) (hF : Fr w b V l) (hl : l.length ≤ 1099511627776) (hg : Glob w) :
    Calls Tryd.prog 26 #[.pointer (some ⟨b, 0, none⟩)] w fun e w' => e = .returned (hv (rootN ndH e0H l)) ∧ Below w.heap.size w w' := by
  by_cases h0 : l = []
  · subst h0
    rw [rootN_nil]
    exact froot_none _ w hg (.inr ⟨b, V, rfl, hF⟩)
  · exact froot_some w b V l hF h0 hl hg
end Go.Proofs.YtkfplliipogagaaDoor
