/- Witnesses and signatures as values; the walks of witness.New, of the reference's New, and of Last. The walks of the reference's New and of Last. A part of a block turned. The walk of a witness's Ask. Conditions: what each part says. -/
import Derived.Test.YtldokkbfahobgaaDoorWitV
import Derived.Test.YtldokkbfahobgaaDoorTreeW
import Derived.Test.YtldokkbfahobgaaDoorRef5
import Derived.Test.YtldokkbfahobgaaDoorRef6V
import Derived.Test.YtldokkbfahobgaaDoorPathW
/-! WitF: Witnesses and signatures as values; the walks of witness.New, of the reference's New, and of Last. Conditions: the keys can be read; the package's tables read as they are laid. -/
namespace Go.Proofs.YtldokkbfahobgaaDoor
open Go.RowKit

/-- A witness's cells; a signature's. -/
def witC (pv wv : Value) (need n size : Int) (r : H) : List Value := [pv, wv, .int .i64 need, .int .i64 n, .int .i64 size] ++ bytesV r.b
def sigC (wit : Int) (t : H) : List Value := .int .i64 wit :: bytesV t.b
def sigV (wit : Int) (t : H) : Value := .agg (sigC wit t).toArray
theorem witC_len (pv wv : Value) (need n size : Int) (r : H) : (witC pv wv need n size r).length = 37 := by simp [witC, bytesV_len, r.len]
theorem sigC_len (wit : Int) (t : H) : (sigC wit t).length = 33 := by simp [sigC, bytesV_len, t.len]
theorem wit_root {w : World} {b : Nat} {pv wv : Value} {need n size : Int} {r : H} {e : TypeId} (h : Blk w b (witC pv wv need n size r) e) : w.rangeAt b 5 (bytesV r.b) := range_sub (l := [pv, wv, .int .i64 need, .int .i64 n, .int .i64 size]) (k := []) (by rw [List.append_nil]; exact h)
theorem wit_keys {w : World} {b : Nat} {pv wv : Value} {need n size : Int} {r : H} {e : TypeId} (h : Blk w b (witC pv wv need n size r) e) : w.rangeAt b 0 [pv, wv, .int .i64 need] := range_sub (l := []) (m := [pv, wv, .int .i64 need]) (k := [.int .i64 n, .int .i64 size] ++ bytesV r.b) h
theorem wit_n {w : World} {b : Nat} {pv wv : Value} {need n size : Int} {r : H} {e : TypeId} (h : Blk w b (witC pv wv need n size r) e) : w.cell? ⟨b, 3, none⟩ = some (.int .i64 n) := h.cell rfl
theorem wit_size {w : World} {b : Nat} {pv wv : Value} {need n size : Int} {r : H} {e : TypeId} (h : Blk w b (witC pv wv need n size r) e) : w.cell? ⟨b, 4, none⟩ = some (.int .i64 size) := h.cell rfl
theorem built_wit (pv wv : Value) (need n : Int) (r : H) : Tryd.prog.built 67 [(0, .agg #[pv, wv, .int .i64 need]), (1, .int .i64 n), (3, hv r)] = some (witC pv wv need n 0 r).toArray := by
  obtain ⟨b, hb⟩ := r
  match b, hb with
  | [b0, b1, b2, b3, b4, b5, b6, b7, b8, b9, b10, b11, b12, b13, b14, b15, b16, b17, b18, b19, b20, b21, b22, b23, b24, b25, b26, b27, b28, b29, b30, b31], _ => change Tryd.prog.built _ _ = some _; kernel_rfl
theorem built_refwit (pv wv : Value) (need n : Int) (r : H) : Tryd.prog.built 46 [(0, .agg #[pv, wv, .int .i64 need]), (1, .int .i64 n), (3, hv r)] = some (witC pv wv need n 0 r).toArray := by
  obtain ⟨b, hb⟩ := r
  match b, hb with
  | [b0, b1, b2, b3, b4, b5, b6, b7, b8, b9, b10, b11, b12, b13, b14, b15, b16, b17, b18, b19, b20, b21, b22, b23, b24, b25, b26, b27, b28, b29, b30, b31], _ => change Tryd.prog.built _ _ = some _; kernel_rfl
theorem built_sig (n : Int) (r : H) : Tryd.prog.built 35 [(0, .int .i64 n), (1, hv r)] = some (sigC n r).toArray := by
  obtain ⟨b, hb⟩ := r
  match b, hb with
  | [b0, b1, b2, b3, b4, b5, b6, b7, b8, b9, b10, b11, b12, b13, b14, b15, b16, b17, b18, b19, b20, b21, b22, b23, b24, b25, b26, b27, b28, b29, b30, b31], _ => change Tryd.prog.built _ _ = some _; kernel_rfl
theorem built_point (n : Int) (r : H) : Tryd.prog.built 40 [(0, .int .i64 n), (1, hv r)] = some (pointC n r (.slice none 0 0)).toArray := by
  obtain ⟨b, hb⟩ := r
  match b, hb with
  | [b0, b1, b2, b3, b4, b5, b6, b7, b8, b9, b10, b11, b12, b13, b14, b15, b16, b17, b18, b19, b20, b21, b22, b23, b24, b25, b26, b27, b28, b29, b30, b31], _ => change Tryd.prog.built _ _ = some _; kernel_rfl
theorem wpList_built2 {P : Program} {ops : Array Oper} {rest : List Oper} {o : Oper} {a : Act} {w : World} {Q : Exit → Act → World → Prop} (hg : o.guard = none) (t : TypeId) (i j : Nat) (x y : Operand) (u v : Value) (cells : Array Value) (ho : o.op = .build t #[(i, x), (j, y)])
    (hx : a.eval x = u) (hy : a.eval y = v) (hb : P.built t [(i, u), (j, v)] = some cells) (h : wpList P ops Q rest (a.put o.dst (.agg cells)) w) : wpList P ops Q (o :: rest) a w := by
  have e : (P.built t ((#[(i, x), (j, y)] : Array (Nat × Operand)).map fun (i, x) => (i, a.eval x)).toList) = some cells := by
    rw [← hb, ← hx, ← hy]
    simp
  refine wpList_build hg t _ ho (by rw [e]; rfl) ?_
  rw [e]
  exact h
theorem wpList_built3 {P : Program} {ops : Array Oper} {rest : List Oper} {o : Oper} {a : Act} {w : World} {Q : Exit → Act → World → Prop} (hg : o.guard = none) (t : TypeId) (i j k : Nat) (x y z : Operand) (u v s : Value) (cells : Array Value) (ho : o.op = .build t #[(i, x), (j, y), (k, z)])
    (hx : a.eval x = u) (hy : a.eval y = v) (hz : a.eval z = s) (hb : P.built t [(i, u), (j, v), (k, s)] = some cells) (h : wpList P ops Q rest (a.put o.dst (.agg cells)) w) : wpList P ops Q (o :: rest) a w := by
  have e : (P.built t ((#[(i, x), (j, y), (k, z)] : Array (Nat × Operand)).map fun (i, x) => (i, a.eval x)).toList) = some cells := by
    rw [← hb, ← hx, ← hy, ← hz]
    simp
  refine wpList_build hg t _ ho (by rw [e]; rfl) ?_
  rw [e]
  exact h
theorem keys_row (pv wv : Value) (need : Int) : (Tryd.prog.info? 24).map (·.size) = some ([pv, wv, .int .i64 need].toArray).size := by
  have h : (Tryd.prog.info? 24).map (·.size) = some 3 := by kernel_rfl
  rw [h]
  rfl
theorem root_nil : rootN ndH e0H [] = e0H := by rw [rootN]; rfl
theorem results_tmp_row {P : Program} {fn : Func} {p u : Tmp} {ty : TypeId} (h : fn.results = #[.tmp u, .cell p ty]) (tmps : Array Value) (w : World) (g : Nat) (t : TypeId) (cs : Array Value) (fr : Nat × Nat) (d : TypeDesc)
    (hp : tmps.getD p undef = .pointer (some ⟨g, 0, none⟩)) (hg : w.heap[g]? = some (.cells cs t fr))
    (hu : P.underlying ty = some d) (hd : (match d with | .struct _ | .array _ _ => true | _ => false) = true) (hi : (P.info? ty).map (·.size) = some cs.size) :
    (results fn tmps).run P w = .ok (.tuple #[tmps.getD u undef, .agg cs]) w := by
  have hp' : tmps[p]?.getD undef = .pointer (some ⟨g, 0, none⟩) := by simpa using hp
  simp only [results, h]
  simp [Result.andThen, hp', asAddr, run_loadVar_row w g t ty cs fr d hg hu hd hi]
/-- Whether there is a witness of keys. -/
def newB (np nw : Nat) (need n : Int) : Bool := mayB np nw need && decide (0 ≤ n ∧ n < nw)
set_option maxRecDepth 100000 in
set_option maxHeartbeats 2000000 in
theorem new_no (pv wv : Value) (ps ws : List H) (need n : Int) (w : World) (hp : Hs w pv ps) (hw : Hs w wv ws) (hno : newB ps.length ws.length need n = false) :
    Calls Tryd.prog 9 #[keysV pv wv need, .int .i64 n] w fun e w' => e = .returned (.pointer none) ∧ Below w.heap.size w w' := by
  obtain ⟨xp, cp, rfl, _⟩ := hp.form
  obtain ⟨xw, cw, rfl, _⟩ := hw.form
  have hb : Below w.heap.size w (w.alloc (.cells #[.slice xp ps.length cp, .slice xw ws.length cw, .int .i64 need] 24)) := (Below.refl _ _).alloc (Nat.le_refl _) _
  obtain ⟨W, hW⟩ : ∃ W, W = w.alloc (.cells #[.slice xp ps.length cp, .slice xw ws.length cw, .int .i64 need] 24) := ⟨_, rfl⟩
  have hB0 : Blk W w.heap.size [.slice xp ps.length cp, .slice xw ws.length cw, .int .i64 need] 24 := by rw [hW]; exact Blk.newL w [_, _, _] _
  rw [← hW] at hb
  have HP := Lib.hid (hp.below hb)
  have HWs := Lib.hid (hw.below hb)
  have HB0 := Lib.hid hB0
  have HW := Lib.hid hW
  obtain ⟨A, hA⟩ : ∃ A, A = mayB ps.length ws.length need := ⟨_, rfl⟩
  unfold newB at hno
  rw [← hA] at hno
  have HA := Lib.hid hA
  have hcase : A = false ∨ (A = true ∧ n < 0) ∨ (A = true ∧ ¬ n < 0 ∧ (ws.length : Int) ≤ n) := by
    cases A
    · exact .inl rfl
    · simp only [Bool.true_and, decide_eq_false_iff_not] at hno
      by_cases h1 : n < 0
      · exact .inr (.inl ⟨rfl, h1⟩)
      · exact .inr (.inr ⟨rfl, h1, by omega⟩)
  clear hp hw hB0 hA hW hno
  unfold keysV
  rcases hcase with rfl | ⟨rfl, h1⟩ | ⟨rfl, h1, h2⟩
  all_goals
    (try have d1 := decide_eq_true h1)
    (try have d1 := decide_eq_false h1)
    (try have d2 := decide_eq_true h2)
    go_enter Tryd.func9, Tryd.ntmps9
    go_wp2_with (first
      | (go_at_call 18; refine calls_eq HW.out ((may_any _ _ ps ws need W HP.out HWs.out).mono ?_); rintro e w2 ⟨rfl, hb2⟩; rw [← HA.out]; have k1 := (HB0.out.below hb2 HB0.out.lt).cell (i := 1) rfl; have hw2 := hb.trans (hb2.mono hb.size); clear hb2)
      | fail)
    go_ret
    exact ⟨rfl, hw2⟩
set_option maxRecDepth 100000 in
set_option maxHeartbeats 2000000 in
theorem new_yes (pv wv : Value) (ps ws : List H) (need : Int) (n : Nat) (w : World) (hp : Hs w pv ps) (hw : Hs w wv ws) (hm : mayB ps.length ws.length need = true) (hn : n < ws.length) (hg : Glob w) :
    Calls Tryd.prog 9 #[keysV pv wv need, .int .i64 n] w fun e w' => (∃ g, e = .returned (.pointer (some ⟨g, 0, none⟩)) ∧ w.heap.size ≤ g ∧ Blk w' g (witC pv wv need n 0 e0H) 67) ∧ Below w.heap.size w w' := by
  obtain ⟨xp, cp, rfl, _⟩ := hp.form
  obtain ⟨xw, cw, rfl, _⟩ := hw.form
  have hb : Below w.heap.size w (w.alloc (.cells #[.slice xp ps.length cp, .slice xw ws.length cw, .int .i64 need] 24)) := (Below.refl _ _).alloc (Nat.le_refl _) _
  obtain ⟨W, hW⟩ : ∃ W, W = w.alloc (.cells #[.slice xp ps.length cp, .slice xw ws.length cw, .int .i64 need] 24) := ⟨_, rfl⟩
  have hB0 : Blk W w.heap.size [.slice xp ps.length cp, .slice xw ws.length cw, .int .i64 need] 24 := by rw [hW]; exact Blk.newL w [_, _, _] _
  rw [← hW] at hb
  have HP := Lib.hid (hp.below hb)
  have HWs := Lib.hid (hw.below hb)
  have HB0 := Lib.hid hB0
  have HG := Lib.hid (hg.below hb)
  have HW := Lib.hid hW
  have HM := Lib.hid hm
  have h1 : ¬ (n : Int) < 0 := by omega
  have h2 : ¬ (ws.length : Int) ≤ (n : Int) := by omega
  have d1 := decide_eq_false h1
  have d2 := decide_eq_false h2
  have d3 : decide (ws.length ≤ n) = false := decide_eq_false (by omega)
  obtain ⟨E, hE⟩ : ∃ E, E = e0H := ⟨_, rfl⟩
  have HE := Lib.hid (root_nil.trans hE.symm)
  rw [← hE]
  clear hp hw hB0 hg hW hm hE
  unfold keysV
  go_enter Tryd.func9, Tryd.ntmps9
  go_wp2_with (first
    | (go_at_call 18; refine calls_eq HW.out ((may_any _ _ ps ws need W HP.out HWs.out).mono ?_); rintro e w2 ⟨rfl, hb2⟩; rw [HM.out]; have HB02 := Lib.hid (HB0.out.below hb2 HB0.out.lt); have k1 := HB02.out.cell (i := 1) rfl; have HG2 := Lib.hid (HG.out.below hb2); have hw2 := hb.trans (hb2.mono hb.size); clear hb2)
    | fail)
  have hl02 := HB02.out.lt
  have hs2 := hw2.size
  clear k1
  refine wp_region_mono 5 (w2.heap.size) [(fun v _ => v = .agg [.slice xp ps.length cp, .slice xw ws.length cw, .int .i64 need].toArray), (fun v _ => v = .int .i64 n), (fun v _ => v = .agg (bytesV E.b).toArray), (fun v _ => v = .agg (witC (.slice xp ps.length cp) (.slice xw ws.length cw) need n 0 E).toArray), RowAt (witC (.slice xp ps.length cp) (.slice xw ws.length cw) need n 0 E) 67 w2.heap.size] (by kernel_rfl) (by kernel_rfl) (Nat.le_refl _) ?mkept _ rfl ?mops ?mfin
  case mkept =>
    repeat (refine List.forall_mem_cons.2 ⟨by first | exact fun _ _ _ _ h => h | exact fun _ _ _ hb h => RowAt.below h hb | exact fun _ _ _ hb h => Parts.below h hb | exact fun _ _ _ hb h => IsSl.below h hb, ?_⟩)
    exact fun _ h => by cases h
  case mops =>
    simp only [List.take_succ_cons, List.take_zero, monoAll, List.getD_cons_zero, List.getD_cons_succ]
    iterate 5
    
     (refine ⟨fun x wr hb hd Qg hK => ?_, ?_⟩
      · as_aux_lemma =>
        simp only [fill, Act.put, List.setIfInBounds_toArray, List.set_cons_succ, List.set_cons_zero, needs, Region.binds, List.filter_cons, List.filter_nil, List.map_cons, List.map_nil, if_true, List.mem_cons, List.not_mem_nil, or_false, forall_eq_or_imp, forall_eq, List.getD_cons_zero, List.getD_cons_succ, false_implies, implies_true] at hd hK ⊢
        (try simp only [hd] at hK ⊢)
        first
        | (have hBr := HB02.out.below hb (hl02); refine wpList_load_rowIf rfl 24 (.tmp 2) rfl _ rfl 24 ([Value.slice xp ps.length cp, Value.slice xw ws.length cw, Value.int .i64 need]).toArray (0, 0) _ (by exact hBr) Tryd.underlying24 rfl (keys_row _ _ _) ?_; exact hK _ _ rfl (Below.refl _ _))
        | (show wpList _ _ _ [⟨some 21, .call _, _, _, _, _⟩] _ _; go_wp2_with (go_at_call 19; refine (root_any 0 _ [] wr rfl (by decide) (Hs.nil wr) (HG2.out.below hb)).mono ?_; rintro e w5 ⟨rfl, hb5⟩); exact hK _ _ (by rw [HE.out]; rfl) hb5)
        | (refine wpList_built3 rfl 67 0 1 3 (.tmp 19) (.tmp 20) (.tmp 21) (.agg #[.slice xp ps.length cp, .slice xw ws.length cw, .int .i64 need]) (.int .i64 n) (hv E) _ rfl rfl rfl rfl (built_wit _ _ need n E) ?_; exact hK _ _ rfl (Below.refl _ _))
        | (show wpList _ _ _ [⟨some 23, .box _ _, _, _, _, _⟩] _ _; go_wp2_with fail; exact hK _ _ ⟨_, rfl, hb.size, Blk.newL wr (witC (.slice xp ps.length cp) (.slice xw ws.length cw) need n 0 E) _⟩ ((Below.refl _ _).alloc (Nat.le_refl _) _))
        | (go_wp2_with fail; exact hK _ _ rfl (Below.refl _ _)))
    trivial
  case mfin =>
    intro z w3 hb3 hR3
    have x4 := hR3 4 (by decide)
    simp only [List.getD_cons_zero, List.getD_cons_succ] at x4
    obtain ⟨g, x4, hgg, hBg⟩ := x4
    have HBg := Lib.hid hBg
    have hw3 := hw2.trans (hb3.mono hw2.size)
    clear hR3 hb3 hBg
    simp only [List.drop_succ_cons, List.drop_zero]
    generalize List.toArray _ = L0
    simp only [List.take_succ_cons, List.take_zero, List.map_cons, List.map_nil, fill, Act.put, List.setIfInBounds_toArray, List.set_cons_succ, List.set_cons_zero, x4]
    clear x4
    go_wp2_with fail
    go_ret
    exact ⟨⟨g, rfl, by omega, HBg.out⟩, hw3⟩
end Go.Proofs.YtldokkbfahobgaaDoor

/-! WitG: The walks of the reference's New and of Last. Conditions: the keys can be read; the package's tables read as they are laid. -/
namespace Go.Proofs.YtldokkbfahobgaaDoor
open Go.RowKit

set_option maxRecDepth 100000 in
set_option maxHeartbeats 2000000 in
theorem refnew_any (pv wv : Value) (ps ws : List H) (need n : Int) (w : World) (hp : Hs w pv ps) (hw : Hs w wv ws) (hg : Glob w) :
    Calls Tryd.prog 13 #[keysV pv wv need, .int .i64 n] w fun e w' => (∃ g, e = .returned (.pointer (some ⟨g, 0, none⟩)) ∧ w.heap.size ≤ g ∧ Blk w' g (witC pv wv need n 0 e0H) 46) ∧ Below w.heap.size w w' := by
  obtain ⟨xp, cp, rfl, _⟩ := hp.form
  obtain ⟨xw, cw, rfl, _⟩ := hw.form
  have hb : Below w.heap.size w (w.alloc (.cells #[.slice xp ps.length cp, .slice xw ws.length cw, .int .i64 need] 24)) := (Below.refl _ _).alloc (Nat.le_refl _) _
  obtain ⟨W, hW⟩ : ∃ W, W = w.alloc (.cells #[.slice xp ps.length cp, .slice xw ws.length cw, .int .i64 need] 24) := ⟨_, rfl⟩
  have hB0 : Blk W w.heap.size [.slice xp ps.length cp, .slice xw ws.length cw, .int .i64 need] 24 := by rw [hW]; exact Blk.newL w [_, _, _] _
  rw [← hW] at hb
  have HB0 := Lib.hid hB0
  have hl0 := hB0.lt
  have HG := Lib.hid (hg.below hb)
  have hs := hb.size
  obtain ⟨E, hE⟩ : ∃ E, E = e0H := ⟨_, rfl⟩
  have HE := Lib.hid (root_nil.trans hE.symm)
  rw [← hE]
  clear hp hw hB0 hg hE
  unfold keysV
  go_enter Tryd.func13, Tryd.ntmps13
  go_wp2_with fail
  refine wp_world hW ?_
  clear hW
  refine wp_region_mono 5 (W.heap.size) [(fun v _ => v = .agg [.slice xp ps.length cp, .slice xw ws.length cw, .int .i64 need].toArray), (fun v _ => v = .int .i64 n), (fun v _ => v = .agg (bytesV E.b).toArray), (fun v _ => v = .agg (witC (.slice xp ps.length cp) (.slice xw ws.length cw) need n 0 E).toArray), RowAt (witC (.slice xp ps.length cp) (.slice xw ws.length cw) need n 0 E) 46 W.heap.size] (by kernel_rfl) (by kernel_rfl) (Nat.le_refl _) ?mkept _ rfl ?mops ?mfin
  case mkept =>
    repeat (refine List.forall_mem_cons.2 ⟨by first | exact fun _ _ _ _ h => h | exact fun _ _ _ hb h => RowAt.below h hb | exact fun _ _ _ hb h => Parts.below h hb | exact fun _ _ _ hb h => IsSl.below h hb, ?_⟩)
    exact fun _ h => by cases h
  case mops =>
    simp only [List.take_succ_cons, List.take_zero, monoAll, List.getD_cons_zero, List.getD_cons_succ]
    iterate 5
    
     (refine ⟨fun x wr hb hd Qg hK => ?_, ?_⟩
      · as_aux_lemma =>
        simp only [fill, Act.put, List.setIfInBounds_toArray, List.set_cons_succ, List.set_cons_zero, needs, Region.binds, List.filter_cons, List.filter_nil, List.map_cons, List.map_nil, if_true, List.mem_cons, List.not_mem_nil, or_false, forall_eq_or_imp, forall_eq, List.getD_cons_zero, List.getD_cons_succ, false_implies, implies_true] at hd hK ⊢
        (try simp only [hd] at hK ⊢)
        first
        | (have hBr := HB0.out.below hb (hl0); refine wpList_load_rowIf rfl 24 (.tmp 2) rfl _ rfl 24 ([Value.slice xp ps.length cp, Value.slice xw ws.length cw, Value.int .i64 need]).toArray (0, 0) _ (by exact hBr) Tryd.underlying24 rfl (keys_row _ _ _) ?_; exact hK _ _ rfl (Below.refl _ _))
        | (show wpList _ _ _ [⟨some 7, .call _, _, _, _, _⟩] _ _; go_wp2_with (go_at_call 25; refine (refroot_any 0 _ [] wr rfl (by decide) (Hs.nil wr) (HG.out.below hb)).mono ?_; rintro e w5 ⟨rfl, hb5⟩); exact hK _ _ (by rw [HE.out]; rfl) hb5)
        | (refine wpList_built3 rfl 46 0 1 3 (.tmp 5) (.tmp 6) (.tmp 7) (.agg #[.slice xp ps.length cp, .slice xw ws.length cw, .int .i64 need]) (.int .i64 n) (hv E) _ rfl rfl rfl rfl (built_refwit _ _ need n E) ?_; exact hK _ _ rfl (Below.refl _ _))
        | (show wpList _ _ _ [⟨some 9, .box _ _, _, _, _, _⟩] _ _; go_wp2_with fail; exact hK _ _ ⟨_, rfl, hb.size, Blk.newL wr (witC (.slice xp ps.length cp) (.slice xw ws.length cw) need n 0 E) _⟩ ((Below.refl _ _).alloc (Nat.le_refl _) _))
        | (go_wp2_with fail; exact hK _ _ rfl (Below.refl _ _)))
    trivial
  case mfin =>
    intro z w3 hb3 hR3
    have x4 := hR3 4 (by decide)
    simp only [List.getD_cons_zero, List.getD_cons_succ] at x4
    obtain ⟨g, x4, hgg, hBg⟩ := x4
    have HBg := Lib.hid hBg
    have hw3 := hb.trans (hb3.mono hb.size)
    clear hR3 hb3 hBg
    simp only [List.drop_succ_cons, List.drop_zero]
    generalize List.toArray _ = L0
    simp only [List.take_succ_cons, List.take_zero, List.map_cons, List.map_nil, fill, Act.put, List.setIfInBounds_toArray, List.set_cons_succ, List.set_cons_zero, x4]
    clear x4
    go_wp2_with fail
    go_ret
    exact ⟨⟨g, rfl, by omega, HBg.out⟩, hw3⟩
set_option maxRecDepth 100000 in
set_option maxHeartbeats 1000000 in
theorem last_nil (w : World) :
    Calls Tryd.prog 11 #[.pointer none] w fun e w' => e = .returned (.tuple #[.int .i64 0, hv z0H]) ∧ Below w.heap.size w w' := by
  have hb : Below w.heap.size w (w.alloc (.cells z32.toArray 31)) := (Below.refl _ _).alloc (Nat.le_refl _) _
  have HX := Lib.hid (Blk.newL w z32 31)
  go_enter Tryd.func11, Tryd.ntmps11
  go_wp2_with (first
    | (refine wpList_store_row rfl 31 (.tmp 3) (.tmp 6) rfl w.heap.size z32.toArray rfl (by rw [z32_arr]; rfl) 31 z32.toArray (by exact HX.out) (by exact z32_row) (by exact z32_old z0H) (by exact hv_one z0H) ?_)
    | fail)
  exact bodyPost_ret (v := .tuple #[.int .i64 0, hv z0H]) (results_tmp_row (u := 2) (p := 3) rfl _ _ w.heap.size 31 _ (0, 0) _ rfl (HX.out.setRow _) Tryd.underlying31 rfl z32_row) rfl ⟨rfl, below_setRow hb (Nat.le_refl _) _⟩
set_option maxRecDepth 100000 in
set_option maxHeartbeats 1000000 in
theorem last_any (g : Nat) (pv wv : Value) (need n size : Int) (r : H) (w : World) (hB : Blk w g (witC pv wv need n size r) 67) :
    Calls Tryd.prog 11 #[.pointer (some ⟨g, 0, none⟩)] w fun e w' => e = .returned (.tuple #[.int .i64 size, hv r]) ∧ Below w.heap.size w w' := by
  obtain ⟨w1, hw1⟩ : ∃ w1, w1 = w.alloc (.cells z32.toArray 31) := ⟨_, rfl⟩
  have hb : Below w.heap.size w w1 := by rw [hw1]; (repeat (first | with_reducible assumption | with_reducible exact Below.refl _ _ | ((with_reducible refine Below.setCell ?_ ?_ _); rotate_left; focus (first | omega | (simp; done) | (simp; omega))) | ((with_reducible refine Below.alloc ?_ ?_ _); rotate_left; focus (first | omega | (simp; done) | (simp; omega))) | ((with_reducible refine below_setRow ?_ ?_ _); rotate_left; focus (first | omega | (simp; done) | (simp; omega))) | (with_reducible refine below_drewN ?_ _) | (with_reducible refine Below.drew ?_)))
  have hX : Blk w1 w.heap.size z32 31 := by rw [hw1]; exact Blk.newL w z32 _
  have hB1 := hB.below hb hB.lt
  have HX := Lib.hid hX
  have HB := Lib.hid hB1
  have hl := hB1.lt
  clear hB hB1 hX
  go_enter Tryd.func11, Tryd.ntmps11
  go_wp2_with fail
  refine wp_world hw1 ?_
  clear hw1
  refine wp_region_mono 9 (w1.heap.size) [(fun v _ => v = .pointer (some ⟨g, 0, none⟩)), (fun v _ => v = .pointer (some ⟨g, 0, none⟩)), (fun v _ => v = .pointer (some ⟨g, 4, none⟩)), (fun v _ => v = .int .i64 size), (fun v _ => v = .pointer (some ⟨g, 0, none⟩)), (fun v _ => v = .pointer (some ⟨g, 0, none⟩)), (fun v _ => v = .pointer (some ⟨g, 5, none⟩)), (fun v _ => v = .agg (bytesV r.b).toArray), (fun v _ => v = .int .i64 size)] (by kernel_rfl) (by kernel_rfl) (Nat.le_refl _) ?mkept _ rfl ?mops ?mfin
  case mkept =>
    repeat (refine List.forall_mem_cons.2 ⟨by first | exact fun _ _ _ _ h => h | exact fun _ _ _ hb h => Parts.below h hb | exact fun _ _ _ hb h => IsSl.below h hb, ?_⟩)
    exact fun _ h => by cases h
  case mops =>
    simp only [List.take_succ_cons, List.take_zero, monoAll, List.getD_cons_zero, List.getD_cons_succ]
    iterate 9
    
     (refine ⟨fun x wr hb hd Qg hK => ?_, ?_⟩
      · as_aux_lemma =>
        simp only [fill, Act.put, List.setIfInBounds_toArray, List.set_cons_succ, List.set_cons_zero, needs, Region.binds, List.filter_cons, List.filter_nil, List.map_cons, List.map_nil, if_true, List.mem_cons, List.not_mem_nil, or_false, forall_eq_or_imp, forall_eq, List.getD_cons_zero, List.getD_cons_succ, false_implies, implies_true] at hd hK ⊢
        (try simp only [hd] at hK ⊢)
        first
        | (show wpList _ _ _ [⟨some 10, .load _ _, _, _, _, _⟩] _ _; have c0 := wit_size (HB.out.below hb hl); go_wp2_with fail; exact hK _ _ rfl (Below.refl _ _))
        | (show wpList _ _ _ [⟨some 14, .load _ _, _, _, _, _⟩] _ _; refine wpList_load_mid rfl 31 (.tmp 13) rfl g 5 rfl (bytesV r.b) _ (wit_root (HB.out.below hb hl)) Tryd.underlying31 rfl (by exact hv_info _) ?_; exact hK _ _ rfl (Below.refl _ _))
        | (go_wp2_with fail; exact hK _ _ rfl (Below.refl _ _)))
    trivial
  case mfin =>
    intro z w3 hb3 hR3
    have x7 := hR3 7 (by decide)
    have x8 := hR3 8 (by decide)
    simp only [List.getD_cons_zero, List.getD_cons_succ] at x7 x8
    have HX3 := Lib.hid (HX.out.below hb3 HX.out.lt)
    have hw3 := hb.trans (hb3.mono hb.size)
    clear hR3 hb3
    simp only [List.drop_succ_cons, List.drop_zero]
    generalize List.toArray _ = L0
    simp only [List.take_succ_cons, List.take_zero, List.map_cons, List.map_nil, fill, Act.put, List.setIfInBounds_toArray, List.set_cons_succ, List.set_cons_zero, x7, x8]
    clear x7 x8
    go_wp2_with (first
      | (refine wpList_store_row rfl 31 (.tmp 3) (.tmp 14) rfl w.heap.size (bytesV r.b).toArray rfl rfl 31 z32.toArray (by exact HX3.out) (by exact hv_row _) (by exact z32_old _) (by exact hv_one _) ?_)
      | fail)
    exact bodyPost_ret (v := .tuple #[.int .i64 size, hv r]) (results_tmp_row (u := 2) (p := 3) rfl _ _ w.heap.size 31 _ (0, 0) _ rfl (HX3.out.setRow _) Tryd.underlying31 rfl (hv_row r)) rfl ⟨rfl, below_setRow hw3 (Nat.le_refl _) _⟩
end Go.Proofs.YtldokkbfahobgaaDoor

/-! WitH: A part of a block turned. The walk of a witness's Ask. Conditions: the keys and the proof can be read; the package's tables read as they are laid. -/
namespace Go.Proofs.YtldokkbfahobgaaDoor
open Go.RowKit

def setL : List Value → Nat → List Value → List Value
  | l, _, [] => l
  | l, o, v :: r => setL (l.set o v) (o + 1) r
theorem setL_app : ∀ (m' m l k : List Value), m'.length = m.length → setL (l ++ m ++ k) l.length m' = l ++ m' ++ k
  | [], m, l, k, h => by
    obtain rfl := List.eq_nil_of_length_eq_zero h.symm
    rfl
  | v :: r, [], l, k, h => by cases h
  | v :: r, u :: m, l, k, h => by
    have e : (l ++ (u :: m) ++ k).set l.length v = (l ++ [v]) ++ m ++ k := by
      rw [List.append_assoc, List.set_append_right _ _ (Nat.le_refl _), Nat.sub_self]
      simp
    unfold setL
    rw [e]
    have := setL_app r m (l ++ [v]) k (by simpa using h)
    rw [List.length_append, List.length_singleton] at this
    rw [this]
    simp
theorem Blk.setCells {b : Nat} {e : TypeId} : ∀ (vs : List Value) (o : Nat) (w : World) (l : List Value), Blk w b l e → Blk (w.setCells b o vs) b (setL l o vs) e
  | [], _, _, _, h => h
  | v :: r, o, w, l, h => by
    unfold World.setCells setL
    exact Blk.setCells r (o + 1) _ _ (h.set o v)
theorem But.setCells (g : Nat) : ∀ (vs : List Value) (o : Nat) (w : World), g < w.heap.size → But g w (w.setCells g o vs)
  | [], _, w, _ => But.refl g w
  | v :: r, o, w, h => by
    unfold World.setCells
    have h1 : But g w (w.setCell ⟨g, o, none⟩ v) := But.set (Below.refl _ _) h o v
    exact h1.trans (But.setCells g r (o + 1) _ (Nat.lt_of_lt_of_le h h1.size))
theorem there_blk {w : World} {b o n : Nat} {l : List Value} {e : TypeId} (h : Blk w b l e) (hn : o + n ≤ l.length) : w.there b o n := fun j hj => by
  refine ⟨?_, h.frozen _⟩
  rw [h.cell (List.getElem?_eq_getElem (h := show o + j < l.length by omega))]
  rfl
theorem wit_turn {w : World} {g : Nat} {pv wv : Value} {need n size : Int} {r s : H} {e : TypeId} (h : Blk w g (witC pv wv need n size r) e) : Blk (w.setCells g 5 (bytesV s.b)) g (witC pv wv need n size s) e := by
  have h1 := Blk.setCells (bytesV s.b) 5 w _ h
  have h2 := setL_app (bytesV s.b) (bytesV r.b) [pv, wv, .int .i64 need, .int .i64 n, .int .i64 size] [] (by simp [bytesV_len, H.len])
  rw [List.append_nil, List.append_nil] at h2
  unfold witC at h1 ⊢
  rw [show ([pv, wv, .int .i64 need, .int .i64 n, .int .i64 size] : List Value).length = 5 from rfl] at h2
  rw [h2] at h1
  exact h1
def zsigC : List Value := sigC 0 z0H
theorem sig_info : (Tryd.prog.info? 35).map (·.size) = some 33 := by kernel_rfl
theorem sig_row (n : Int) (t : H) : (Tryd.prog.info? 35).map (·.size) = some (sigC n t).toArray.size := by rw [sig_info, List.size_toArray, sigC_len]
theorem sig_one (n : Int) (t : H) : (sigC n t).toArray.all (·.oneCell') = true := by simp [sigC, bytesV, Value.oneCell']
theorem zsig_arr : zsigC.toArray = #[.int .i64 0, .int .u8 0, .int .u8 0, .int .u8 0, .int .u8 0, .int .u8 0, .int .u8 0, .int .u8 0, .int .u8 0, .int .u8 0, .int .u8 0, .int .u8 0, .int .u8 0, .int .u8 0, .int .u8 0, .int .u8 0, .int .u8 0, .int .u8 0, .int .u8 0, .int .u8 0, .int .u8 0, .int .u8 0, .int .u8 0, .int .u8 0, .int .u8 0, .int .u8 0, .int .u8 0, .int .u8 0, .int .u8 0, .int .u8 0, .int .u8 0, .int .u8 0, .int .u8 0] := rfl
/-- Whether a witness signs. -/
def askB (size s : Int) (root r : H) (P : List H) : Bool := decide (s ≤ 400) && begR size s root r P
def askW (w : World) (s : Int) (r : H) (sv : Value) : World := (w.alloc (.cells (pointC s r sv).toArray 40)).alloc (.cells zsigC.toArray 35)
theorem askW_parts (w : World) (s : Int) (r : H) (sv : Value) : Below w.heap.size w (askW w s r sv) ∧ Blk (askW w s r sv) w.heap.size (pointC s r sv) 40 ∧ Blk (askW w s r sv) (w.heap.size + 1) zsigC 35 := by
  unfold askW
  exact ⟨by (repeat (first | with_reducible assumption | with_reducible exact Below.refl _ _ | ((with_reducible refine Below.setCell ?_ ?_ _); rotate_left; focus (first | omega | (simp; done) | (simp; omega))) | ((with_reducible refine Below.alloc ?_ ?_ _); rotate_left; focus (first | omega | (simp; done) | (simp; omega))) | ((with_reducible refine below_setRow ?_ ?_ _); rotate_left; focus (first | omega | (simp; done) | (simp; omega))) | (with_reducible refine below_drewN ?_ _) | (with_reducible refine Below.drew ?_))), (Blk.newL w _ _).alloc _, Blk.newL1 w _ _ _⟩
set_option maxRecDepth 100000 in
set_option maxHeartbeats 2000000 in
theorem ask_nil (s : Int) (r : H) (sv lv : Value) (w : World) :
    Calls Tryd.prog 12 #[.pointer none, pointV s r sv, lv] w fun e w' => e = .returned (.tuple #[sigV 0 z0H, .bool false]) ∧ Below w.heap.size w w' := by
  obtain ⟨hb, hB, hX⟩ := askW_parts w s r sv
  obtain ⟨W, hW⟩ : ∃ W, W = askW w s r sv := ⟨_, rfl⟩
  rw [← hW] at hb hB hX
  have HX := Lib.hid hX
  clear hB hX
  unfold pointV
  go_enter Tryd.func12, Tryd.ntmps12
  go_wp2_with fail
  refine wp_world hW ?_
  refine wp_region_mono 24 (W.heap.size) [(fun v _ => v = .pointer none), (fun v _ => v = .bool true), (fun v _ => v = .bool true), (fun _ _ => True), (fun _ _ => True), (fun _ _ => True), (fun v _ => v = .bool true), (fun v _ => v = .bool true), (fun _ _ => True), (fun _ _ => True), (fun _ _ => True), (fun _ _ => True), (fun _ _ => True), (fun _ _ => True), (fun _ _ => True), (fun _ _ => True), (fun _ _ => True), (fun _ _ => True), (fun _ _ => True), (fun _ _ => True), (fun _ _ => True), (fun _ _ => True), (fun _ _ => True), (fun v _ => v = .bool true)] (by kernel_rfl) (by kernel_rfl) (Nat.le_refl _) ?mkept _ rfl ?mops ?mfin
  case mkept =>
    repeat (refine List.forall_mem_cons.2 ⟨by first | exact fun _ _ _ _ h => h | exact fun _ _ _ hb h => Parts.below h hb | exact fun _ _ _ hb h => IsSl.below h hb, ?_⟩)
    exact fun _ h => by cases h
  case mops =>
    simp only [List.take_succ_cons, List.take_zero, monoAll, List.getD_cons_zero, List.getD_cons_succ]
    iterate 24
    
     (refine ⟨fun x wr hb hd Qg hK => ?_, ?_⟩
      · as_aux_lemma =>
        simp only [fill, Act.put, List.setIfInBounds_toArray, List.set_cons_succ, List.set_cons_zero, needs, Region.binds, List.filter_cons, List.filter_nil, List.map_cons, List.map_nil, if_true, List.mem_cons, List.not_mem_nil, or_false, forall_eq_or_imp, forall_eq, List.getD_cons_zero, List.getD_cons_succ, false_implies, implies_true] at hd hK ⊢
        (try simp only [hd] at hK ⊢)
        first
        | (go_wp2_with fail; exact hK _ _ trivial (Below.refl _ _))
        | (go_wp2_with fail; exact hK _ _ rfl (Below.refl _ _)))
    trivial
  case mfin =>
    intro z w3 hb3 hR3
    have x23 := hR3 23 (by decide)
    simp only [List.getD_cons_zero, List.getD_cons_succ] at x23
    have HX3 := Lib.hid (HX.out.below hb3 HX.out.lt)
    have hw3 := hb.trans (hb3.mono hb.size)
    clear hR3 hb3
    simp only [List.drop_succ_cons, List.drop_zero]
    generalize List.toArray _ = L0
    simp only [List.take_succ_cons, List.take_zero, List.map_cons, List.map_nil, fill, Act.put, List.setIfInBounds_toArray, List.set_cons_succ, List.set_cons_zero, x23]
    clear x23
    go_wp2_with (first
      | (refine wpList_store_row rfl 35 (.tmp 6) (.tmp 32) rfl (w.heap.size + 1) zsigC.toArray rfl (by rw [zsig_arr]; rfl) 35 zsigC.toArray (by exact HX3.out) (by exact sig_row 0 z0H) rfl (by exact sig_one 0 z0H) ?_)
      | fail)
    exact bodyPost_ret (v := .tuple #[sigV 0 z0H, .bool false]) (results_row_tmp (p := 6) (u := 7) rfl _ _ (w.heap.size + 1) 35 zsigC.toArray (0, 0) _ rfl (HX3.out.setRow _) Tryd.underlying35 rfl (sig_row 0 z0H)) rfl ⟨rfl, below_setRow hw3 (by omega) _⟩
theorem keys_info (pv wv : Value) (need : Int) : (Tryd.prog.info? 24).map (·.size) = some ([pv, wv, .int .i64 need] : List Value).length := by
  have h : (Tryd.prog.info? 24).map (·.size) = some 3 := by kernel_rfl
  rw [h]
  rfl
/-- A slice that does not lie in a block. -/
def ApartV (g : Nat) (v : Value) : Prop := ∀ a k c, v = .slice (some a) k c → a.block ≠ g
theorem hs_but {w w' : World} {g : Nat} {v : Value} {l : List H} (h : Hs w v l) (hb : But g w w') (ha : ApartV g v) : Hs w' v l := hb.isSl h (fun _ a k c e => ha a k c e)
theorem glob_but {w w' : World} {g : Nat} {pv wv : Value} {need n size : Int} {r : H} {e : TypeId} (h : Glob w) (hb : But g w w') (hB : Blk w g (witC pv wv need n size r) e) (hp : ∃ a k c, pv = .slice a k c) : Glob w' := by
  obtain ⟨a, k, c, rfl⟩ := hp
  have hc := hB.cell (i := 0) (v := .slice a k c) rfl
  have ne : ∀ (G : Nat) (cs : List Value) (x : Int), w.rangeAt G 0 cs → cs[0]? = some (.int .u32 x) → G ≠ g := by
    rintro G cs x hr h0 rfl
    have := hr 0 _ h0
    rw [show (0 : Nat) + 0 = 0 from rfl, hc] at this
    cases this
  have hk := ne _ kvals _ h.k rfl
  have hf := ne _ fvals _ h.f rfl
  exact ⟨fun j u hj => hb.cell (h.k j u hj) hk, fun j u hj => hb.cell (h.f j u hj) hf, trivial⟩
end Go.Proofs.YtldokkbfahobgaaDoor
