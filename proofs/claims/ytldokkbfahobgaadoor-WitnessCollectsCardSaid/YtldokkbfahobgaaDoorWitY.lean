/- What stays so in Collect's rounds; one signature appended, inside a fence. No walk. The walk of witness.Collect. Collect of one witness that has signed a beginning of the list. Conditions: what each part says. -/
import Derived.Test.YtldokkbfahobgaaDoorWitX
import Derived.Test.YtldokkbfahobgaaDoorAskU
/-! WitM: What stays so in Collect's rounds; one signature appended, inside a fence. No walk. -/
namespace Go.Proofs.YtldokkbfahobgaaDoor
open Go.RowKit Go.Shelf

theorem wpIn_world {F : Fence} {m : Nat} {P : Program} {c : Code} {Q : Exit → Act → World → Prop} {a : Act} {w w' : World} (e : w' = w) (h : c.wpIn F m P Q a w') : c.wpIn F m P Q a w := e ▸ h
theorem wpListIn_built2 {F : Fence} {m : Nat} {P : Program} {ops : Array Oper} {rest : List Oper} {o : Oper} {a : Act} {w : World} {Q : Exit → Act → World → Prop} (hg : o.guard = none) (t : TypeId) (i j : Nat) (x y : Operand) (u v : Value) (cells : Array Value) (ho : o.op = .build t #[(i, x), (j, y)])
    (hx : a.eval x = u) (hy : a.eval y = v) (hb : P.built t [(i, u), (j, v)] = some cells) (h : wpListIn F m P ops Q rest (a.put o.dst (.agg cells)) w) : wpListIn F m P ops Q (o :: rest) a w := by
  have e : (P.built t ((#[(i, x), (j, y)] : Array (Nat × Operand)).map fun (i, x) => (i, a.eval x)).toList) = some cells := by
    rw [← hb, ← hx, ← hy]
    simp
  refine wpListIn_plain hg fun K hK' => ?_
  unfold Oper.wpIn
  refine ⟨by simp [Oper.about, ho], ?_⟩
  rw [Oper.semAt_plain F _ _ (by rw [ho]; intro c hc'; cases hc')]
  unfold execOp
  simp only [ho, Sem.run_bind, run_build w t _ cells e, Result.andThen_ok]
  exact hK' _ _ h
def zpointC : List Value := pointC 0 z0H (.slice none 0 0)
theorem point_set (s : Int) (r : H) (sv v : Value) : (pointC s r sv).set 33 v = pointC s r v := by
  obtain ⟨b, hb⟩ := r
  match b, hb with
  | [b0, b1, b2, b3, b4, b5, b6, b7, b8, b9, b10, b11, b12, b13, b14, b15, b16, b17, b18, b19, b20, b21, b22, b23, b24, b25, b26, b27, b28, b29, b30, b31], _ => rfl
theorem info_sig : (Tryd.prog.info? 35).map (fun i => (i.zero, i.size, i.bytes)) = some (some (.agg zsigC.toArray), 33, 40) := by kernel_rfl
theorem sig_fill (n : Int) (r : H) : Instr.fill (fun i => some (i * 33, 33)) ((Array.range (1 * 33)).map ((Value.agg zsigC.toArray).cells[· % (Value.agg zsigC.toArray).cells.size]!)) [(0, .agg (sigC n r).toArray)] = some (sigC n r).toArray := by
  obtain ⟨b, hb⟩ := r
  match b, hb with
  | [b0, b1, b2, b3, b4, b5, b6, b7, b8, b9, b10, b11, b12, b13, b14, b15, b16, b17, b18, b19, b20, b21, b22, b23, b24, b25, b26, b27, b28, b29, b30, b31], _ => change Instr.fill _ _ _ = some _; kernel_rfl
theorem wpListIn_sig {F : Fence} {m : Nat} {ops : Array Oper} {rest : List Oper} {o : Oper} {a : Act} {w : World} {Q : Exit → Act → World → Prop} (hg : o.guard = none) (x : Operand) (ho : o.op = .buildSlice 38 1 #[(0, x)]) (n : Int) (r : H) (hx : a.eval x = .agg (sigC n r).toArray)
    (h : wpListIn F m Tryd.prog ops Q rest (a.put o.dst (.slice (some ⟨w.heap.size, 0, none⟩) 1 1)) (w.alloc (.cells (sigC n r).toArray 35))) : wpListIn F m Tryd.prog ops Q (o :: rest) a w := by
  obtain ⟨i0, hi, hz0, hz1, hz2⟩ := info_parts info_sig
  refine wpListIn_plain hg fun K hK' => ?_
  unfold Oper.wpIn
  refine ⟨by simp [Oper.about, ho], ?_⟩
  rw [Oper.semAt_plain F _ _ (by rw [ho]; intro c hc'; cases hc')]
  have e : ((#[(0, x)] : Array (Nat × Operand)).map fun (i, x) => (i, a.eval x)) = #[(0, .agg (sigC n r).toArray)] := by rw [← hx]; simp
  have hr := run_buildSlice w 38 35 1 #[(0, .agg (sigC n r).toArray)] (sigC n r).toArray i0 _ Tryd.underlying38 hi hz0 (by rw [hz1]; omega) (by rw [hz1]; omega) (by rw [hz1]; exact sig_fill n r)
  unfold execOp
  simp only [ho, Sem.run_bind, e, hr, Result.andThen_ok]
  exact hK' _ _ h
theorem sig_isSl (w : World) (n : Int) (r : H) : IsSl (w.alloc (.cells (sigC n r).toArray 35)) (.slice (some ⟨w.heap.size, 0, none⟩) 1 1) 33 1 (sigsL [(n, r)]) := by
  have e : sigsL [(n, r)] = sigC n r := by simp [sigsL]
  rw [e]
  exact IsSl.of_range (by rw [sigC_len]) (fun u hu => sigsL_one [(n, r)] u (by rw [e]; exact hu)) (Nat.le_refl _) (fun j u hu => by rw [Nat.zero_add]; exact (Blk.newL w (sigC n r) 35).cell hu)
theorem wpListIn_sigs {F : Fence} {m : Nat} {ops : Array Oper} {rest : List Oper} {o : Oper} {a : Act} {w : World} {Q : Exit → Act → World → Prop} (hgd : o.guard = none) (s x : Operand)
    (ho : o.op = .call { callee := .builtin .append, args := #[s, x], argTypes := #[38, 38] }) (base : Nat) (v xv : Value) (l m' : List (Int × H)) (hs : a.eval s = v) (hO : w.ownsRow base 35 33 v l.length (sigsL l))
    (hx : a.eval x = xv) (hX : IsSl w xv 33 m'.length (sigsL m')) (hlen : l.length + m'.length ≤ 4096) (hb : base ≤ w.heap.size)
    (h : ∀ a' c' w', w'.ownsRow base 35 33 (.slice a' (l ++ m').length c') (l ++ m').length (sigsL (l ++ m')) → Below base w w' → wpListIn F m Tryd.prog ops Q rest (a.put o.dst (.slice a' (l ++ m').length c')) w') : wpListIn F m Tryd.prog ops Q (o :: rest) a w := by
  obtain ⟨i0, hi, hz0, hz1, hz2⟩ := info_parts info_sig
  refine wpListIn_app hgd s x 38 ho base 35 i0 (.agg zsigC.toArray) 33 40 Tryd.underlying38 hi hz0 hz1 hz2 (by simp [Value.cells, zsigC, sigC_len]) (by decide) v l.length _ hs hO xv m'.length (sigsL m') hx hX (by unfold maxLen; omega) (by omega) hb ?_
  intro a' c' w' hown hgrow _
  rw [← List.length_append, ← sigsL_app] at hown
  rw [← List.length_append]
  exact h _ _ _ hown ((Below.refl base w).grown hgrow hb (fun k hk => (hO.lt k hk).1))
/-- What Collect keeps in its rounds: B the point's block, Z the first of the iterator's own. -/
structure CollK (pv wv hsv lv : Value) (hs : List H) (need mask : Int) (gs : List Nat) (num : Nat → Int) (w : World) (B Z : Nat) (L : Loop) (S : Nat → Int × H) (sl : List (Int × H)) (W : World) : Prop where
  lo : w.heap.size + 2 ≤ B
  hi : B < Z
  gl : ∀ g ∈ gs, g < w.heap.size
  loop : W.heap[Z + 3]? = some (.loop L)
  defs : W.heap[Z + 2]? = some (.deferred (some []))
  bl : Blk W Z [lv] 49
  bm : Blk W (Z + 1) [.int .i64 mask] 3
  box : Blk W w.heap.size [hsv] 22
  out : Blk W (w.heap.size + 1) zpointC 40
  pt : ∃ a c, Blk W B (pointC hs.length (rootN ndH e0H hs) (.slice a sl.length c)) 40 ∧ W.ownsRow (Z + 4) 35 33 (.slice a sl.length c) sl.length (sigsL sl)
  wit : ∀ g ∈ gs, Blk W g (witC pv wv need (num g) (S g).1 (S g).2) 67
  old : ButS gs w W
section
variable {pv wv hsv lv : Value} {hs : List H} {need mask : Int} {gs : List Nat} {num : Nat → Int} {w : World} {B Z : Nat} {L : Loop} {S : Nat → Int × H} {sl : List (Int × H)} {W W' : World}
theorem CollK.lt (h : CollK pv wv hsv lv hs need mask gs num w B Z L S sl W) : Z + 4 ≤ W.heap.size := (Array.getElem?_eq_some_iff.1 h.loop).1
theorem CollK.below (h : CollK pv wv hsv lv hs need mask gs num w B Z L S sl W) (hb : Below W.heap.size W W') : CollK pv wv hsv lv hs need mask gs num w B Z L S sl W' where
  lo := h.lo
  hi := h.hi
  gl := h.gl
  loop := (hb.block _ (by have := h.lt; omega)).trans h.loop
  defs := (hb.block _ (by have := h.lt; omega)).trans h.defs
  bl := h.bl.below hb h.bl.lt
  bm := h.bm.below hb h.bm.lt
  box := h.box.below hb h.box.lt
  out := h.out.below hb h.out.lt
  pt := by
    obtain ⟨a, c, h1, h2⟩ := h.pt
    exact ⟨a, c, h1.below hb h1.lt, ownsRow_below h2 hb (ownsRow_block h2)⟩
  wit := fun g hg => (h.wit g hg).below hb (h.wit g hg).lt
  old := h.old.then hb h.old.size
theorem CollK.put (L' : Loop) (h : CollK pv wv hsv lv hs need mask gs num w B Z L S sl W) : CollK pv wv hsv lv hs need mask gs num w B Z L' S sl (W.putObj (Z + 3) (.loop L')) where
  lo := h.lo
  hi := h.hi
  gl := h.gl
  loop := World.putObj_heap_same (by have := h.lt; omega)
  defs := (World.putObj_heap_other (by omega)).trans h.defs
  bl := h.bl.putObj (by omega) _
  bm := h.bm.putObj (by omega) _
  box := h.box.putObj (by have := h.lo; have := h.hi; omega) _
  out := h.out.putObj (by have := h.lo; have := h.hi; omega) _
  pt := by
    obtain ⟨a, c, h1, h2⟩ := h.pt
    refine ⟨a, c, h1.putObj (by have := h.hi; omega) _, h2.1, ?_⟩
    rcases h2.2 with hn | ⟨k, cap, cur, e1, hk, hg', rest⟩
    · exact .inl hn
    · exact .inr ⟨k, cap, cur, e1, hk, (World.putObj_heap_other (by omega)).trans hg', rest⟩
  wit := fun g hg => (h.wit g hg).putObj (by have := h.gl g hg; have := h.lo; have := h.hi; omega) _
  old := h.old.then (below_putObj (Below.refl w.heap.size W) (by have := h.lo; have := h.hi; omega) _) (Nat.le_refl _)
theorem CollK.but {g : Nat} (h : CollK pv wv hsv lv hs need mask gs num w B Z L S sl W) (hb : But g W W') (hg : g ∈ gs) (x : Int × H) (hw : Blk W' g (witC pv wv need (num g) x.1 x.2) 67) : CollK pv wv hsv lv hs need mask gs num w B Z L (updS S g x) sl W' := by
  have h1 := h.gl g hg
  have h2 := h.lo
  have h3 := h.hi
  have h4 := h.lt
  exact {
    lo := h.lo
    hi := h.hi
    gl := h.gl
    loop := (hb.block _ (by omega) (by omega)).trans h.loop
    defs := (hb.block _ (by omega) (by omega)).trans h.defs
    bl := hb.blk h.bl (by omega)
    bm := hb.blk h.bm (by omega)
    box := hb.blk h.box (by omega)
    out := hb.blk h.out (by omega)
    pt := by
      obtain ⟨a, c, h5, h6⟩ := h.pt
      refine ⟨a, c, hb.blk h5 (by omega), h6.1, ?_⟩
      rcases h6.2 with hn | ⟨k, cap, cur, e1, hk, hg', rest⟩
      · exact .inl hn
      · exact .inr ⟨k, cap, cur, e1, hk, (hb.block k (Array.getElem?_eq_some_iff.1 hg').1 (by omega)).trans hg', rest⟩
    wit := fun k hk => by
      unfold updS
      by_cases e : k = g
      · rw [if_pos e, e]
        exact hw
      · rw [if_neg e]
        exact hb.blk (h.wit k hk) e
    old := h.old.but hb hg }
/-- The signature appended and stored. -/
theorem CollK.more (h : CollK pv wv hsv lv hs need mask gs num w B Z L S sl W) (hb : Below (Z + 4) W W') (x : Int × H) (a : Option Addr) (c : Nat) (hO : W'.ownsRow (Z + 4) 35 33 (.slice a (sl ++ [x]).length c) (sl ++ [x]).length (sigsL (sl ++ [x]))) :
    CollK pv wv hsv lv hs need mask gs num w B Z L S (sl ++ [x]) (W'.setCell ⟨B, 33, none⟩ (.slice a (sl ++ [x]).length c)) := by
  have h2 := h.lo
  have h3 := h.hi
  obtain ⟨a0, c0, h5, _⟩ := h.pt
  have h6 := (h5.below hb (by omega)).set 33 (.slice a (sl ++ [x]).length c)
  rw [point_set] at h6
  have hX : ∀ k, k < Z + 4 → k ≠ B → (W'.setCell ⟨B, 33, none⟩ (.slice a (sl ++ [x]).length c)).heap[k]? = W.heap[k]? := fun k hk hn => (Below.heap_setCell _ _ _ _ hn).trans (hb.block k hk)
  have hY : ∀ {k : Nat} {l : List Value} {e : TypeId}, Blk W k l e → k < Z + 4 → k ≠ B → Blk (W'.setCell ⟨B, 33, none⟩ (.slice a (sl ++ [x]).length c)) k l e := fun hk h1 h2 => (hX _ h1 h2).trans hk
  exact {
    lo := h.lo
    hi := h.hi
    gl := h.gl
    loop := (hX _ (by omega) (by omega)).trans h.loop
    defs := (hX _ (by omega) (by omega)).trans h.defs
    bl := hY h.bl (by omega) (by omega)
    bm := hY h.bm (by omega) (by omega)
    box := hY h.box (by omega) (by omega)
    out := hY h.out (by omega) (by omega)
    pt := ⟨a, c, h6, by
      refine ⟨hO.1, ?_⟩
      rcases hO.2 with hn | ⟨k, cap, cur, e1, hk, hg', rest⟩
      · exact .inl hn
      · exact .inr ⟨k, cap, cur, e1, hk, (Below.heap_setCell _ _ _ _ (show k ≠ B by omega)).trans hg', rest⟩⟩
    wit := fun g hg => hY (h.wit g hg) (by have := h.gl g hg; omega) (by have := h.gl g hg; omega)
    old := (h.old.then (hb.mono (B' := w.heap.size) (by omega)) (Nat.le_refl _)).then ((Below.refl w.heap.size W').setCell (p := ⟨B, 33, none⟩) (show w.heap.size ≤ B by omega) _) (Nat.le_refl _) }
end
end Go.Proofs.YtldokkbfahobgaaDoor

/-! WitN: The walk of witness.Collect. Conditions: the keys, the list (at most 400 hashes) and the witnesses can be read; nothing of these lies in a witness's block. -/
namespace Go.Proofs.YtldokkbfahobgaaDoor
open Go.RowKit Go.Shelf
attribute [local go_sem] Oper.semAt_some

theorem wpListIn_world {F : Fence} {m : Nat} {P : Program} {ops : Array Oper} {l : List Oper} {Q : Exit → Act → World → Prop} {a : Act} {w w' : World} (e : w' = w) (h : wpListIn F m P ops Q l a w') : wpListIn F m P ops Q l a w := e ▸ h
set_option maxRecDepth 100000 in
set_option maxHeartbeats 2000000 in
theorem collect_any (pv wv hsv lv : Value) (ps ws hs : List H) (need mask : Int) (gs : List Nat) (num : Nat → Int) (st : Nat → Int × H) (w : World) (hE : WEnv w pv wv hsv lv ps ws hs need gs num st 67) (hwl : ws.length ≤ 1000) (hl : hs.length ≤ 400) (hgl : gs.length ≤ 1000) :
    Calls Tryd.prog 15 #[lv, hsv, .int .i64 mask] w fun e w' => ∃ sv, e = .returned (pointV hs.length (rootN ndH e0H hs) sv) ∧ w'.ownsRow w.heap.size 35 33 sv (collI hs mask ps.length ws need num gs st gs.length).2.length (sigsL (collI hs mask ps.length ws need num gs st gs.length).2) ∧
      (∀ g ∈ gs, Blk w' g (witC pv wv need (num g) ((collI hs mask ps.length ws need num gs st gs.length).1 g).1 ((collI hs mask ps.length ws need num gs st gs.length).1 g).2) 67) ∧ ButS gs w w' := by
  obtain ⟨ha, kh, hform, _⟩ := hE.hk.form
  obtain ⟨la, kl, lform, _⟩ := hE.sl.form
  have HE := Lib.hid hE
  have HF := Lib.hid hform
  have HLF := Lib.hid lform
  subst hform
  subst lform
  clear hE
  refine (callsIn_wide (n := 4)).1 ?_
  refine callsIn_of_wp_marks Tryd.func15 rfl trivial ?_ rfl
  simp only [Tryd.ntmps15, List.size_toArray, List.length_cons, List.length_nil, Nat.reduceAdd, Nat.reduceSub, Array.replicate_succ, Array.replicate_zero, List.push_toArray, List.append_toArray, List.nil_append, List.cons_append]
  obtain ⟨W, hW⟩ : ∃ W, W = (w.alloc (.cells #[.slice ha hs.length kh] 22)).alloc (.cells zpointC.toArray 40) := ⟨_, rfl⟩
  have hWb : Below w.heap.size w W := by rw [hW]; (repeat (first | with_reducible assumption | with_reducible exact Below.refl _ _ | ((with_reducible refine Below.setCell ?_ ?_ _); rotate_left; focus (first | omega | (simp; done) | (simp; omega))) | ((with_reducible refine Below.alloc ?_ ?_ _); rotate_left; focus (first | omega | (simp; done) | (simp; omega))) | ((with_reducible refine below_setRow ?_ ?_ _); rotate_left; focus (first | omega | (simp; done) | (simp; omega))) | (with_reducible refine below_drewN ?_ _) | (with_reducible refine Below.drew ?_)))
  have hWs : W.heap.size = w.heap.size + 2 := by rw [hW]; simp
  have hA : Blk W w.heap.size [.slice ha hs.length kh] 22 := by rw [hW]; exact (Blk.newL w _ _).alloc _
  have hP : Blk W (w.heap.size + 1) zpointC 40 := by rw [hW]; exact Blk.newL1 w _ _ _
  have HEW := Lib.hid (HE.out.below hWb)
  have HA := Lib.hid hA
  have HP := Lib.hid hP
  have HWB := Lib.hid hWb
  clear hA hP hWb
  gi_wp2_with fail
  refine wpIn_world hW ?_
  clear hW
  refine wpIn_region_mono 6 (W.heap.size) [(fun v _ => v = .slice ha hs.length kh), (fun v _ => v = .int .i64 hs.length), (fun v _ => v = .slice ha hs.length kh), (fun v _ => v = hv (rootN ndH e0H hs)), (fun v _ => v = .agg (pointC hs.length (rootN ndH e0H hs) (.slice none 0 0)).toArray), (fun v u => ∃ g, v = .pointer (some ⟨g, 0, none⟩) ∧ W.heap.size ≤ g ∧ Blk u g zpointC 40)] (by kernel_rfl) (by kernel_rfl) (Nat.le_refl _) ?mkept _ rfl ?mops ?mfin
  case mkept =>
    repeat (refine List.forall_mem_cons.2 ⟨by first | exact fun _ _ _ _ h => h | exact fun _ _ _ hb ⟨g, e1, e2, h⟩ => ⟨g, e1, e2, Blk.below h hb h.lt⟩ | exact fun _ _ _ hb h => Parts.below h hb | exact fun _ _ _ hb h => IsSl.below h hb, ?_⟩)
    exact fun _ h => by cases h
  case mops =>
    simp only [List.take_succ_cons, List.take_zero, monoAllIn, List.getD_cons_zero, List.getD_cons_succ]
    iterate 6
    
     (refine ⟨fun x wr hb hd Qg hK => ?_, ?_⟩
      · as_aux_lemma =>
        simp only [fill, Act.put, List.setIfInBounds_toArray, List.set_cons_succ, List.set_cons_zero, needs, Region.binds, List.filter_cons, List.filter_nil, List.map_cons, List.map_nil, if_true, List.mem_cons, List.not_mem_nil, or_false, forall_eq_or_imp, forall_eq, List.getD_cons_zero, List.getD_cons_succ, false_implies, implies_true] at hd hK ⊢
        (try simp only [hd] at hK ⊢)
        first
        | (show wpListIn _ _ _ _ _ [⟨some 16, .load _ _, _, _, _, _⟩] _ _; have c0 := (HA.out.below hb HA.out.lt).cell (i := 0) rfl; gi_wp2_with fail; exact hK _ _ rfl (Below.refl _ _))
        | (show wpListIn _ _ _ _ _ [⟨some 18, .load _ _, _, _, _, _⟩] _ _; have c0 := (HA.out.below hb HA.out.lt).cell (i := 0) rfl; gi_wp2_with fail; exact hK _ _ rfl (Below.refl _ _))
        | (show wpListIn _ _ _ _ _ [⟨some 19, .call _, _, _, _, _⟩] _ _; gi_wp2_with (first | (refine ⟨trivial, callsIn_wide.2 ((root_any _ (.slice ha hs.length kh) hs wr rfl (by omega) (HEW.out.below hb).hk (HEW.out.below hb).glob).mono ?_)⟩; rintro e w5 ⟨rfl, hb5⟩) | fail); exact hK _ _ rfl hb5)
        | (show wpListIn _ _ _ _ _ [⟨some 20, .build _ _, _, _, _, _⟩] _ _; refine wpListIn_built2 rfl 40 0 1 (.tmp 17) (.tmp 19) (.int .i64 hs.length) (hv (rootN ndH e0H hs)) _ rfl rfl rfl (built_point hs.length (rootN ndH e0H hs)) ?_; exact hK _ _ rfl (Below.refl _ _))
        | (show wpListIn _ _ _ _ _ [⟨some 7, .alloc _, _, _, _, _⟩] _ _; gi_wp2_with fail; exact hK _ _ ⟨_, rfl, hb.size, Blk.newL wr zpointC _⟩ ((Below.refl _ _).alloc (Nat.le_refl _) _))
        | (gi_wp2_with fail; exact hK _ _ rfl (Below.refl _ _)))
    trivial
  case mfin =>
    intro z w3 hb3 hR3
    have x4 := hR3 4 (by decide)
    have x5 := hR3 5 (by decide)
    simp only [List.getD_cons_zero, List.getD_cons_succ] at x4 x5
    obtain ⟨B, x5, hBs, hB3⟩ := x5
    have HA3 := Lib.hid (HA.out.below hb3 HA.out.lt)
    have HP3 := Lib.hid (HP.out.below hb3 HP.out.lt)
    have HB3 := Lib.hid hB3
    have HWB3 := Lib.hid (HWB.out.trans (hb3.mono (by omega)))
    clear hR3 hb3 hB3 HA HP HWB HEW
    simp only [List.drop_succ_cons, List.drop_zero]
    generalize List.toArray _ = L0
    simp only [List.take_succ_cons, List.take_zero, List.map_cons, List.map_nil, fill, Act.put, List.setIfInBounds_toArray, List.set_cons_succ, List.set_cons_zero, x4, x5]
    clear x4 x5
    gi_wp2_with (first
      | (refine wpListIn_store_row rfl 40 (.tmp 7) (.tmp 20) rfl B (pointC hs.length (rootN ndH e0H hs) (.slice none 0 0)).toArray rfl rfl 40 zpointC.toArray (by exact HB3.out) (by exact point_row _ _ _) (by simp [zpointC, pointC_len]) (by exact point_one _ _ _ rfl) ?_)
      | fail)
    obtain ⟨w4, hw4⟩ : ∃ w4, w4 = w3.setRow B (pointC hs.length (rootN ndH e0H hs) (.slice none 0 0)).toArray := ⟨_, rfl⟩
    have hB4 : Blk w4 B (pointC hs.length (rootN ndH e0H hs) (.slice none 0 0)) 40 := by rw [hw4]; exact HB3.out.setRow _
    have hA4 : Blk w4 w.heap.size [.slice ha hs.length kh] 22 := by rw [hw4]; exact HA3.out.setRow_other (by omega) _
    have hP4 : Blk w4 (w.heap.size + 1) zpointC 40 := by rw [hw4]; exact HP3.out.setRow_other (by omega) _
    have hWB4 : Below w.heap.size w w4 := by rw [hw4]; exact below_setRow HWB3.out (by omega) _
    have hs4 : w3.heap.size = w4.heap.size := by rw [hw4]; simp
    have HB4 := Lib.hid hB4
    have HA4 := Lib.hid hA4
    have HP4 := Lib.hid hP4
    have HWB4 := Lib.hid hWB4
    have hlB := hB4.lt
    rw [← hw4]
    clear hB4 hA4 hP4 hWB4 HB3 HA3 HP3 HWB3 hw4
    refine ⟨trivial, callsIn_wide.2 ((asked_any _ _ _ ⟨_, _, _, rfl⟩).mono ?_)⟩
    rintro e w5 ⟨rfl, rfl⟩
    gi_wp2_with fail
    refine rangeFunc_plain (m := 3) rfl (enters_of Tryd.func47 (by kernel_rfl) rfl) ?_
    intro fn rec hrec
    simp only [World.size_alloc, List.append_toArray, List.cons_append, List.nil_append, Nat.add_assoc, Nat.reduceAdd]
    refine (asked_iter 3 (w4.heap.size + 3) w4.heap.size (w4.heap.size + 1) la kl gs.length mask gs rfl (by omega) (fun i W' => CollK pv wv (.slice ha hs.length kh) (.slice la gs.length kl) hs need mask gs num w B w4.heap.size (rec .ready none) (collI hs mask ps.length ws need num gs st i).1 (collI hs mask ps.length ws need num gs st i).2 W') ?hS ?hY ?hC ?hE _ ?h0).mono ?_
    case hS =>
      intro i W' _ hb hj
      simp only [collI, hb, Bool.false_and, Bool.false_eq_true, if_false]
      exact hj
    case hC => exact fun i W' hj => ⟨hj.bl.cell (i := 0) rfl, hj.bm.cell (i := 0) rfl⟩
    case hE =>
      intro i j x W' hj hx
      have h1 := hj.old.isSl HE.out.sl (fun _ => HE.out.la)
      have hjl := (List.getElem?_eq_some_iff.1 hx).1
      obtain ⟨b, off, cap, hsv, _, hr, _⟩ := h1.pos (by omega) (by decide)
      cases hsv
      exact ⟨b, off, rfl, hr j _ (by rw [List.getElem?_map, hx]; rfl)⟩
    case h0 =>
      obtain ⟨w5, hw5⟩ : ∃ w5, w5 = (w4.alloc (.cells #[.slice la gs.length kl] 49)).alloc (.cells #[.int .i64 mask] 3) := ⟨_, rfl⟩
      have hz : w5.heap.size = w4.heap.size + 2 := by rw [hw5]; simp
      have hb5 : Below w4.heap.size w4 w5 := by rw [hw5]; (repeat (first | with_reducible assumption | with_reducible exact Below.refl _ _ | ((with_reducible refine Below.setCell ?_ ?_ _); rotate_left; focus (first | omega | (simp; done) | (simp; omega))) | ((with_reducible refine Below.alloc ?_ ?_ _); rotate_left; focus (first | omega | (simp; done) | (simp; omega))) | ((with_reducible refine below_setRow ?_ ?_ _); rotate_left; focus (first | omega | (simp; done) | (simp; omega))) | (with_reducible refine below_drewN ?_ _) | (with_reducible refine Below.drew ?_)))
      have hd := heap_alloc2_old (w5) (.deferred (some [])) (.loop (rec .ready none))
      have hl := heap_alloc_new (w5.alloc (.deferred (some []))) (.loop (rec .ready none))
      rw [World.size_alloc, hz] at hl
      rw [hz] at hd
      have hb6 : Below w5.heap.size w5 ((w5.alloc (.deferred (some []))).alloc (.loop (rec .ready none))) := by (repeat (first | with_reducible assumption | with_reducible exact Below.refl _ _ | ((with_reducible refine Below.setCell ?_ ?_ _); rotate_left; focus (first | omega | (simp; done) | (simp; omega))) | ((with_reducible refine Below.alloc ?_ ?_ _); rotate_left; focus (first | omega | (simp; done) | (simp; omega))) | ((with_reducible refine below_setRow ?_ ?_ _); rotate_left; focus (first | omega | (simp; done) | (simp; omega))) | (with_reducible refine below_drewN ?_ _) | (with_reducible refine Below.drew ?_)))
      have hbl : Blk w5 w4.heap.size [.slice la gs.length kl] 49 := by rw [hw5]; exact (Blk.newL w4 _ _).alloc _
      have hbm : Blk w5 (w4.heap.size + 1) [.int .i64 mask] 3 := by rw [hw5]; exact Blk.newL1 w4 _ _ _
      rw [← hw5]
      generalize (w5.alloc (.deferred (some []))).alloc (.loop (rec .ready none)) = w6 at hd hl hb6 ⊢
      have hb46 : Below w4.heap.size w4 w6 := hb5.trans (hb6.mono (by omega))
      have hbw6 : Below w.heap.size w w6 := HWB4.out.trans (hb46.mono (by have := HWB4.out.size; omega))
      exact {
        lo := by omega
        hi := by omega
        gl := fun g hg => HE.out.lt hg
        loop := hl
        defs := hd
        bl := hbl.below hb6 hbl.lt
        bm := hbm.below hb6 hbm.lt
        box := HA4.out.below hb46 HA4.out.lt
        out := HP4.out.below hb46 HP4.out.lt
        pt := ⟨none, 0, HB4.out.below hb46 HB4.out.lt, World.ownsRow_nil _ _ _ _⟩
        wit := fun g hg => (HE.out.wit g hg).below hbw6 (HE.out.lt hg)
        old := ButS.of hbw6 }
    case hY =>
      intro i g W2 hi hg hbit hj
      have hgm : g ∈ gs := List.mem_of_getElem? hg
      have hgd : gs.getD i 0 = g := by rw [List.getD_eq_getElem?_getD, hg]; rfl
      obtain ⟨S, hS⟩ : ∃ S, S = (collI hs mask ps.length ws need num gs st i).1 := ⟨_, rfl⟩
      obtain ⟨sl, hsl⟩ : ∃ sl, sl = (collI hs mask ps.length ws need num gs st i).2 := ⟨_, rfl⟩
      have hsll : sl.length ≤ 1000 := by rw [hsl]; have := collI_len hs mask ps.length ws need num gs st i; omega
      have hstep : collI hs mask ps.length ws need num gs st (i + 1) = if askedB hs (S g) then (updS S g ((hs.length : Int), rootN ndH e0H hs), sl ++ [(num g, signH ps.length ws need (num g) hs.length (rootN ndH e0H hs))]) else (S, sl) := by
        simp only [collI, hbit, Bool.true_and, hgd, ← hS, ← hsl]
        simp only [hS, hsl]
      rw [← hS, ← hsl] at hj
      refine yield_plain hrec hj.loop rfl ?_
      have HST := Lib.hid hstep
      have hj1 := hj.put (rec .busy none)
      have HJ1 := Lib.hid hj1
      have hj0 := hj.loop
      have HJ := Lib.hid hj
      clear hj hj1 hstep hS hsl hrec hg hgd hbit HB4 HA4 HP4
      gi_wp2_with fail
      refine ⟨hj0, ?_⟩
      clear hj0 HJ
      generalize W2.putObj (w4.heap.size + 3) (.loop (rec .busy none)) = Wb at HJ1 ⊢
      obtain ⟨s, hsz⟩ : ∃ s, (S g).1 = s := ⟨_, rfl⟩
      obtain ⟨r, hrt⟩ : ∃ r, (S g).2 = r := ⟨_, rfl⟩
      have hw1 := HJ1.out.wit g hgm
      rw [hsz, hrt] at hw1
      have HW1 := Lib.hid hw1
      clear hw1
      gi_wp2_with fail
      refine ⟨trivial, CallsIn.inRound _ (callsIn_wide.2 ((last_any g pv wv need (num g) s r Wb HW1.out).mono ?_))⟩
      rintro e W6 ⟨rfl, hb6⟩
      have HJ6 := Lib.hid (HJ1.out.below hb6)
      clear HJ1 HW1 hb6
      obtain ⟨W7, hW7⟩ : ∃ W7, W7 = (W6.alloc (.cells z32.toArray 31)).setRow W6.heap.size (bytesV r.b).toArray := ⟨_, rfl⟩
      have hb7 : Below W6.heap.size W6 W7 := by rw [hW7]; exact below_setRow ((Below.refl _ _).alloc (Nat.le_refl _) _) (Nat.le_refl _) _
      have HJ7 := Lib.hid (HJ6.out.below hb7)
      have c0 : W7.cell? ⟨w.heap.size, 0, none⟩ = some (.slice ha hs.length kh) := HJ7.out.box.cell (i := 0) rfl
      have HW7 := Lib.hid hW7
      clear hb7 HJ6 hW7
      gi_wp2_with (first
        | (refine wpListIn_store_row rfl 31 (.tmp 11) (.tmp 31) rfl W6.heap.size (bytesV r.b).toArray rfl rfl 31 z32.toArray (by exact Blk.newL W6 z32 _) (by exact hv_row r) (by exact z32_old _) (by exact hv_one r) ?_; refine wpListIn_world (w' := W7) HW7.out ?_)
        | fail)
      have HE7 := Lib.hid (HE.out.turn HJ7.out.old HJ7.out.wit)
      refine ⟨trivial, CallsIn.inRound _ (callsIn_wide.2 ((prove_i (.slice ha hs.length kh) hs s W7 (by omega) HE7.out.hk HE7.out.glob).mono ?_))⟩
      rintro e W8 ⟨⟨xv, rfl, hxs⟩, hb8⟩
      have HJ8 := Lib.hid (HJ7.out.below hb8)
      have HXS := Lib.hid hxs
      clear HJ7 HE7 hb8 c0 HW7 hxs
      obtain ⟨a0, c0, hB8, _⟩ := HJ8.out.pt
      have HB8 := Lib.hid hB8
      clear hB8
      gi_wp2_with (first
        | (refine wpListIn_load_row rfl 40 (.tmp 7) rfl B rfl 40 (pointC hs.length (rootN ndH e0H hs) (.slice a0 sl.length c0)).toArray (0, 0) _ (by exact HB8.out) Tryd.underlying40 rfl (by exact point_row _ _ _) ?_)
        | fail)
      have HE8 := Lib.hid (HE.out.turn HJ8.out.old HJ8.out.wit)
      have hw8 := HJ8.out.wit g hgm
      rw [hsz, hrt] at hw8
      have HW8 := Lib.hid hw8
      have hlx : (subR hs s).length ≤ 4096 := by have := refprove_len hs s (by omega); omega
      have hSg : S g = (s, r) := by rw [← hsz, ← hrt]
      have hask : askedB hs (S g) = begR s hs.length r (rootN ndH e0H hs) (subR hs s) := by
        rw [hSg]
        unfold askedB askB
        have : decide (((hs.length : Nat) : Int) ≤ 400) = true := decide_eq_true (by omega)
        rw [this, Bool.true_and]
      cases hk : begR s hs.length r (rootN ndH e0H hs) (subR hs s) with
      | false =>
        have HASK := Lib.hid (hask.trans hk)
        refine ⟨trivial, CallsIn.inRound _ (callsIn_wide.2 ((ask_not g pv wv ps ws need (num g) s hs.length r (rootN ndH e0H hs) (.slice a0 sl.length c0) xv (subR hs s) W8 HW8.out HE8.out.pk HE8.out.wk hwl HXS.out hlx HE8.out.glob (HE8.out.pa.one hgm) (HE8.out.wa.one hgm) (by omega) hk).mono ?_))⟩
        rintro e W9 ⟨rfl, hb9⟩
        have HJ9 := Lib.hid (HJ8.out.below hb9)
        clear HJ8 HE8 HW8 hb9 HB8 HXS hask
        obtain ⟨W10, hW10⟩ : ∃ W10, W10 = (W9.alloc (.cells zsigC.toArray 35)).setRow W9.heap.size zsigC.toArray := ⟨_, rfl⟩
        have hb10 : Below W9.heap.size W9 W10 := by rw [hW10]; exact below_setRow ((Below.refl _ _).alloc (Nat.le_refl _) _) (Nat.le_refl _) _
        have hj10 := HJ9.out.below hb10
        have hl10 := hj10.loop
        have HJ10 := Lib.hid hj10
        have HW10 := Lib.hid hW10
        clear hb10 HJ9 hW10 hj10
        gi_wp2_with (first
          | (refine wpListIn_store_row rfl 35 (.tmp 14) (.tmp 43) rfl W9.heap.size zsigC.toArray rfl rfl 35 zsigC.toArray (by exact Blk.newL W9 zsigC _) (by exact sig_row 0 z0H) rfl (by exact sig_one 0 z0H) ?_; refine wpListIn_world (w' := W10) HW10.out ?_)
          | fail)
        refine ⟨hl10, trivial, ?_⟩
        rw [HST.out, HASK.out, if_neg Bool.false_ne_true]
        exact HJ10.out.put _
      | true =>
        have HASK := Lib.hid (hask.trans hk)
        obtain ⟨sg, hsg⟩ : ∃ sg, sg = signH ps.length ws need (num g) hs.length (rootN ndH e0H hs) := ⟨_, rfl⟩
        refine ⟨trivial, CallsIn.inRound _ (callsIn_wide.2 ((ask_yes g pv wv ps ws need (num g) s hs.length r (rootN ndH e0H hs) (.slice a0 sl.length c0) xv (subR hs s) W8 HW8.out HE8.out.pk HE8.out.wk hwl HXS.out hlx HE8.out.glob (HE8.out.pa.one hgm) (HE8.out.wa.one hgm) (by omega) hk).mono ?_))⟩
        rintro e W9 ⟨rfl, hw9, hb9⟩
        have HJ9 := Lib.hid (HJ8.out.but hb9 hgm (hs.length, rootN ndH e0H hs) hw9)
        rw [← hsg]
        have HSG := Lib.hid hsg
        clear HJ8 HE8 HW8 hb9 HB8 HXS hask hw9 hsg
        obtain ⟨W10, hW10⟩ : ∃ W10, W10 = (W9.alloc (.cells zsigC.toArray 35)).setRow W9.heap.size (sigC (num g) sg).toArray := ⟨_, rfl⟩
        have hb10 : Below W9.heap.size W9 W10 := by rw [hW10]; exact below_setRow ((Below.refl _ _).alloc (Nat.le_refl _) _) (Nat.le_refl _) _
        have hx10 : Blk W10 W9.heap.size (sigC (num g) sg) 35 := by rw [hW10]; exact Blk.setRow (l := zsigC) (Blk.newL W9 zsigC _) _
        have hj10 := HJ9.out.below hb10
        obtain ⟨a1, c1, hB10, hO10⟩ := hj10.pt
        have c33 := point_sigs hB10
        have hj11 := hj10.below ((Below.refl W10.heap.size W10).alloc (Nat.le_refl _) (.cells (sigC (num g) sg).toArray 35))
        have hB11 := hB10.alloc (.cells (sigC (num g) sg).toArray 35)
        have HO11 := Lib.hid (ownsRow_below hO10 ((Below.refl W10.heap.size W10).alloc (Nat.le_refl _) (.cells (sigC (num g) sg).toArray 35)) (ownsRow_block hO10))
        have hlt10 := hj10.lt
        have hhi := hj10.hi
        have HJ11 := Lib.hid hj11
        have HB11 := Lib.hid hB11
        have HX10 := Lib.hid hx10
        have HW10 := Lib.hid hW10
        clear hb10 HJ9 hW10 hj10 hB10 hO10 hj11 hB11 hx10
        gi_wp2_with (first
          | (refine wpListIn_store_row rfl 35 (.tmp 14) (.tmp 43) rfl W9.heap.size (sigC (num g) sg).toArray rfl rfl 35 zsigC.toArray (by exact Blk.newL W9 zsigC _) (by exact sig_row _ _) (by simp [zsigC, sigC_len]) (by exact sig_one _ _) ?_; refine wpListIn_world (w' := W10) HW10.out ?_)
          | (refine wpListIn_load_row rfl 35 (.tmp 14) rfl W9.heap.size rfl 35 (sigC (num g) sg).toArray (0, 0) _ (by exact HX10.out) Tryd.underlying35 rfl (by exact sig_row _ _) ?_)
          | (refine wpListIn_sig rfl (.tmp 48) rfl (num g) sg rfl ?_)
          | (gi_at_builtin; refine wpListIn_sigs rfl (.tmp 47) (.tmp 49) rfl (w4.heap.size + 4) (.slice a1 sl.length c1) (.slice (some ⟨W10.heap.size, 0, none⟩) 1 1) sl [(num g, sg)] rfl (by exact HO11.out) rfl (by exact sig_isSl W10 (num g) sg) (by simp; omega) (by rw [World.size_alloc]; omega) ?_; intro a2 c2 W12 hown hb12; have hB12 := HB11.out.below hb12 (by omega); have c34 := point_sigs hB12; have f34 := hB12.frozen 33; have HJ13 := Lib.hid (HJ11.out.more hb12 (num g, sg) a2 c2 hown); clear hown hb12 hB12)
          | fail)
        have h13 := HJ13.out
        simp only [List.length_append, List.length_cons, List.length_nil, Nat.zero_add] at h13
        refine ⟨h13.loop, trivial, ?_⟩
        rw [HST.out, HASK.out, if_pos rfl, ← HSG.out]
        exact h13.put _
    · rintro e W2 ⟨hv, hj⟩
      refine ⟨hv, hj.loop, ?_⟩
      obtain ⟨S, hS⟩ : ∃ S, S = (collI hs mask ps.length ws need num gs st gs.length).1 := ⟨_, rfl⟩
      obtain ⟨sl, hsl⟩ : ∃ sl, sl = (collI hs mask ps.length ws need num gs st gs.length).2 := ⟨_, rfl⟩
      rw [← hS, ← hsl] at hj
      have HS := Lib.hid hS
      have HSL := Lib.hid hsl
      have hj1 := hj.put (rec .exhausted none)
      clear hj hrec hS hsl HB4 HA4 HP4 hv
      generalize W2.putObj (w4.heap.size + 3) (.loop (rec .exhausted none)) = W3 at hj1 ⊢
      obtain ⟨a1, c1, hB3, hO3⟩ := hj1.pt
      have hlo := hj1.lo
      have HJ3 := Lib.hid hj1
      have HB3 := Lib.hid hB3
      have HO3 := Lib.hid hO3
      clear hj1 hB3 hO3
      gi_wp2_with (first
        | (refine wpListIn_load_row rfl 40 (.tmp 7) rfl B rfl 40 (pointC hs.length (rootN ndH e0H hs) (.slice a1 sl.length c1)).toArray (0, 0) _ (by exact HB3.out) Tryd.underlying40 rfl (by exact point_row _ _ _) ?_)
        | (refine wpListIn_store_row rfl 40 (.tmp 6) (.tmp 52) rfl (w.heap.size + 1) (pointC hs.length (rootN ndH e0H hs) (.slice a1 sl.length c1)).toArray rfl rfl 40 zpointC.toArray (by exact HJ3.out.out) (by exact point_row _ _ _) (by simp [zpointC, pointC_len]) (by exact point_one _ _ _ rfl) ?_)
        | fail)
      have hK : (W3.setRow (w.heap.size + 1) (pointC hs.length (rootN ndH e0H hs) (.slice a1 sl.length c1)).toArray).heap[w4.heap.size + 2]? = some (.deferred (some [])) := (Go.setRow_other _ _ _ _ (by have := HJ3.out.hi; omega)).trans HJ3.out.defs
      refine ⟨by simp, .inl ⟨_, _, rfl, run_takeDeferred hK, ?_⟩⟩
      refine ⟨_, results_cell_row rfl _ _ (w.heap.size + 1) 40 (pointC hs.length (rootN ndH e0H hs) (.slice a1 sl.length c1)).toArray (0, 0) _ rfl ((HJ3.out.out.setRow _).putObj (by have := HJ3.out.hi; omega) _) Tryd.underlying40 rfl (point_row _ _ _), ?_⟩
      rw [← HS.out, ← HSL.out]
      have hhi := HJ3.out.hi
      have hX : ∀ {k : Nat} {l : List Value} {e : TypeId}, Blk W3 k l e → k ≠ w.heap.size + 1 → k ≠ w4.heap.size + 2 → Blk ((W3.setRow (w.heap.size + 1) (pointC hs.length (rootN ndH e0H hs) (.slice a1 sl.length c1)).toArray).putObj (w4.heap.size + 2) (.deferred none)) k l e := fun h h1 h2 => (h.setRow_other h1 _).putObj h2 _
      refine ⟨_, rfl, ?_, fun g hg => hX (HJ3.out.wit g hg) (by have := HJ3.out.gl g hg; omega) (by have := HJ3.out.gl g hg; omega), ?_⟩
      · refine ⟨HO3.out.1, ?_⟩
        rcases HO3.out.2 with hn | ⟨k, cap, cur, e1, hk, hg', rest⟩
        · exact .inl hn
        · exact .inr ⟨k, cap, cur, e1, by omega, (World.putObj_heap_other (by omega)).trans ((Go.setRow_other _ _ _ _ (by omega)).trans hg'), rest⟩
      · exact HJ3.out.old.then (below_putObj (below_setRow (Below.refl w.heap.size W3) (by omega) _) (by omega) _) (Nat.le_refl _)
end Go.Proofs.YtldokkbfahobgaaDoor

/-! WitQ: Collect of one witness that has signed a beginning of the list. Conditions as of Collect. -/
namespace Go.Proofs.YtldokkbfahobgaaDoor
open Go.RowKit

theorem bit_one : bitB 1 0 = true := by decide +kernel
theorem bit_two : bitB 1 1 = false := by decide +kernel
theorem collI_one (hs : List H) (np : Nat) (nw : List H) (need : Int) (num : Nat → Int) (g : Nat) (gs : List Nat) (st : Nat → Int × H) (hgs : gs = [g] ∨ gs = [g, g]) :
    collI hs 1 np nw need num gs st gs.length = if askedB hs (st g) then (updS st g ((hs.length : Int), rootN ndH e0H hs), [(num g, signH np nw need (num g) hs.length (rootN ndH e0H hs))]) else (st, []) := by
  rcases hgs with rfl | rfl
  · show collI hs 1 np nw need num [g] st 1 = _
    simp only [collI, bit_one, Bool.true_and, List.getD_cons_zero, List.nil_append]
  · show collI hs 1 np nw need num [g, g] st 2 = _
    simp only [collI, bit_one, bit_two, Bool.true_and, Bool.false_and, Bool.false_eq_true, if_false, List.getD_cons_zero, List.nil_append]
/-- What one witness signs. -/
def oneSig (np : Nat) (nw : List H) (need n : Int) (h : List H) (m k : Nat) : List (Int × H) := if m ≤ k then [(n, signH np nw need n k (rootN ndH e0H (h.take k)))] else []
def oneUp (m k : Nat) : Nat := if m ≤ k then k else m
theorem collect_one (pv wv hsv lv : Value) (ps ws h : List H) (need n : Int) (g m k : Nat) (gs : List Nat) (w : World) (hgs : gs = [g] ∨ gs = [g, g]) (hp : Hs w pv ps) (hw : Hs w wv ws) (hk : Hs w hsv (h.take k)) (hl : IsSl w lv 1 gs.length (gs.map ptrV))
    (hB : Blk w g (witC pv wv need n (upto h m).1 (upto h m).2) 67) (hg : Glob w) (pa : ApartV g pv) (wa : ApartV g wv) (ha : 0 < (h.take k).length → ApartV g hsv) (la : ApartV g lv) (hwl : ws.length ≤ 1000) (hll : h.length ≤ 400) (hkl : k ≤ h.length) :
    Calls Tryd.prog 15 #[lv, hsv, .int .i64 1] w fun e w' => ∃ sv, e = .returned (pointV k (rootN ndH e0H (h.take k)) sv) ∧ w'.ownsRow w.heap.size 35 33 sv (oneSig ps.length ws need n h m k).length (sigsL (oneSig ps.length ws need n h m k)) ∧
      Blk w' g (witC pv wv need n (upto h (oneUp m k)).1 (upto h (oneUp m k)).2) 67 ∧ But g w w' := by
  have hmem : ∀ x ∈ gs, x = g := by rcases hgs with rfl | rfl <;> simp
  have hin : g ∈ gs := by rcases hgs with rfl | rfl <;> simp
  have hlen : (h.take k).length = k := by rw [List.length_take, Nat.min_eq_left hkl]
  have up : ∀ {v : Value}, ApartV g v → ApartS gs v := fun hv a k c e hm => hv a k c e (hmem _ hm)
  have hE : WEnv w pv wv hsv lv ps ws (h.take k) need gs (fun _ => n) (fun _ => upto h m) 67 :=
    { pk := hp, wk := hw, hk := hk, sl := hl, wit := fun x hx => by rw [hmem x hx]; exact hB, glob := hg, pa := up pa, wa := up wa, ha := fun h0 => up (ha h0), la := up la }
  have hgl : gs.length ≤ 1000 := by rcases hgs with rfl | rfl <;> simp
  refine (collect_any pv wv hsv lv ps ws (h.take k) need 1 gs (fun _ => n) (fun _ => upto h m) w hE hwl (by omega) hgl).mono ?_
  rintro e w' ⟨sv, rfl, ho, hw', hbs⟩
  have hbut : But g w w' := ⟨hbs.os, hbs.tape, hbs.output, hbs.size, fun j hj hn => hbs.block j hj (fun hm => hn (hmem j hm))⟩
  have hask := asked_take h m k hll hkl
  have hc := collI_one (h.take k) ps.length ws need (fun _ => n) g gs (fun _ => upto h m) hgs
  rw [hask] at hc
  have hwg := hw' g hin
  rw [hc] at ho hwg
  rw [hlen] at ho hwg ⊢
  refine ⟨sv, rfl, ?_, ?_, hbut⟩
  · unfold oneSig
    by_cases hm : m ≤ k
    · rw [decide_eq_true hm, if_pos rfl] at ho
      rw [if_pos hm]
      exact ho
    · rw [decide_eq_false hm, if_neg Bool.false_ne_true] at ho
      rw [if_neg hm]
      exact ho
  · unfold oneUp
    by_cases hm : m ≤ k
    · rw [decide_eq_true hm, if_pos rfl] at hwg
      rw [if_pos hm]
      simp only [updS, if_pos] at hwg
      exact hwg
    · rw [decide_eq_false hm, if_neg Bool.false_ne_true] at hwg
      rw [if_neg hm]
      exact hwg
end Go.Proofs.YtldokkbfahobgaaDoor
