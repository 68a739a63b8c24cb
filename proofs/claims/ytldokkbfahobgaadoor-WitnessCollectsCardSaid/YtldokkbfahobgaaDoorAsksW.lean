/- Signatures compared: the same one. No condition. The law WitnessAsks, walked. Conditions: what each part says. -/
import Derived.Test.YtldokkbfahobgaaDoorAskW
import Derived.Test.YtldokkbfahobgaaDoorRef5
import Derived.Test.YtldokkbfahobgaaDoorAliveU
import Derived.Test.YtldokkbfahobgaaDoorOpenB
/-! EqSig: Signatures compared: the same one. No condition. -/
namespace Go.Proofs.YtldokkbfahobgaaDoor
open Go.RowKit

theorem sig_tag (n : Int) (t : H) : List.take 32 (sigC n t).tail = bytesV t.b := List.take_of_length_le (by rw [show (sigC n t).tail = bytesV t.b from rfl, bytesV_len, t.len]; decide)
theorem eq_sig_same (w : World) (n : Int) (t : H) : (Op.equalIn 10000 35 (.agg (sigC n t).toArray) (.agg (sigC n t).toArray)).run Tryd.prog w = .ok true w := by
  have hu := Tryd.underlying35
  have ht : Tryd.prog.underlying 35 = some (.struct (Tryd.prog.fieldsOf 35)) := by unfold Program.fieldsOf; rw [hu]
  rw [run_equalIn_struct w 9999 35 _ _ ht (by kernel_rfl)]
  simp only [Program.fieldsOf, hu]
  have p0 : ∀ w, (part 3 (sigC n t).toArray 0).run Tryd.prog w = .ok (.int .i64 n) w := fun w => by
    simp [part, isAgg, run_underlying Tryd.underlying3, sigC]
  have p1 : ∀ w, (part 31 (sigC n t).toArray 1).run Tryd.prog w = .ok (.agg (bytesV t.b).toArray) w := fun w => by
    have := sig_tag n t
    simp [part, isAgg, run_underlying Tryd.underlying31, this]
  have e0 : ∀ w, (Op.equalIn 9999 3 (.int .i64 n) (.int .i64 n)).run Tryd.prog w = .ok true w := fun w => by
    rw [run_equalIn_int w 9998 3 _ _ _ _ Tryd.underlying3, beq_self_eq_true]
  have e1 : ∀ w, (Op.equalIn 9999 31 (.agg (bytesV t.b).toArray) (.agg (bytesV t.b).toArray)).run Tryd.prog w = .ok true w := fun w => by
    exact (run_equalIn_bytes w 9997 31 5 32 Tryd.underlying31 Tryd.underlying5 size_u8 t.b t.b t.len t.len).trans (by rw [beq_self_eq_true])
  simp [Op.eqFields, p0, p1, e0, e1]
end Go.Proofs.YtldokkbfahobgaaDoor

/-! LawWAsks: The law WitnessAsks, walked. Conditions: the keys and the list can be read; the package's tables read as they are laid. -/
namespace Go.Proofs.YtldokkbfahobgaaDoor
open Go.RowKit

theorem wpList_built0 {P : Program} {ops : Array Oper} {rest : List Oper} {o : Oper} {a : Act} {w : World} {Q : Exit → Act → World → Prop} (hw : Region.wanted o (yielded ops a.tmps) = true) (t : TypeId) (cells : Array Value) (ho : o.op = .build t #[])
    (hb : P.built t [] = some cells) (h : wpList P ops Q rest (a.put o.dst (.agg cells)) w) : wpList P ops Q (o :: rest) a w := by
  have e : P.built t ((#[] : Array (Nat × Operand)).map fun (i, x) => (i, a.eval x)).toList = some cells := by simpa using hb
  simp only [wpList]
  rw [if_pos hw]
  exact .inl (wp_build t #[] ho (by rw [e]; rfl) (by rw [e]; exact h))
theorem zero_point : Tryd.prog.built 40 [] = some (pointC 0 z0H (.slice none 0 0)).toArray := by kernel_rfl
theorem zero_hash : Tryd.prog.built 31 [] = some (bytesV z0H.b).toArray := by kernel_rfl
theorem zero_sig : Tryd.prog.built 35 [] = some (sigC 0 z0H).toArray := by kernel_rfl
theorem point_len (s : Int) (r : H) (sv : Value) : (Tryd.prog.info? 40).map (·.size) = some (pointC s r sv).length := by rw [point_info, pointC_len]
/-- What the i-th ask reads as. -/
theorem asks_elem {w : World} {xa : Option Addr} {ca : Nat} {l : List AskA} {i : Nat} {a : AskA} (h : Asks w (.slice xa l.length ca) l) (ha : l[i]? = some a) :
    ∃ b off, xa = some ⟨b, off, none⟩ ∧ b < w.heap.size ∧ w.rangeAt b (off + i * 35) (pointC a.s a.r a.sv) ∧ w.cell? ⟨b, off + i * 35 + 34, none⟩ = some a.lv := by
  have hi := (List.getElem?_eq_some_iff.1 ha).1
  obtain ⟨b, off, cap, e, _, hr, hb⟩ := h.sl.pos (by omega) (by decide)
  cases e
  have hall : ∀ j u, (askC a)[j]? = some u → w.cell? ⟨b, off + i * 35 + j, none⟩ = some u := fun j u hu => by
    have hj : j < 35 := by
      have := (List.getElem?_eq_some_iff.1 hu).1
      rw [askC_len] at this
      exact this
    have := hr (i * 35 + j) u (by
      rw [asksL_at, show (i * 35 + j) / 35 = i by omega, show (i * 35 + j) % 35 = j by omega, ha]
      exact hu)
    rw [← Nat.add_assoc] at this
    exact this
  refine ⟨b, off, rfl, hb, fun j u hu => hall j u ?_, hall 34 _ ?_⟩
  · unfold askC
    rw [List.getElem?_append_left (List.getElem?_eq_some_iff.1 hu).1]
    exact hu
  · unfold askC
    rw [List.getElem?_append_right (by rw [pointC_len]; exact Nat.le_refl _), pointC_len]
    rfl
/-- What the law is given. -/
structure AArg (w0 : World) (pv wv : Value) (xa : Option Addr) (ca : Nat) (ps ws : List H) (l : List AskA) (need : Int) : Prop where
  hp : Hs w0 pv ps
  hw : Hs w0 wv ws
  hl : Asks w0 (.slice xa l.length ca) l
  hg : Glob w0
  hm : mayB ps.length ws.length need = true
theorem AArg.apart {w0 : World} {pv wv : Value} {xa : Option Addr} {ca g : Nat} {ps ws : List H} {l : List AskA} {need : Int} (a : AArg w0 pv wv xa ca ps ws l need) (hg : w0.heap.size ≤ g) : ApartV g pv ∧ ApartV g wv ∧ ws.length ≤ 1000 := by
  obtain ⟨h1, h2, h3, h4, _, _⟩ := may_true a.hm
  exact ⟨apart_pos a.hp (by omega) (by decide) hg, apart_pos a.hw (by omega) (by decide) hg, by omega⟩
set_option maxRecDepth 100000 in
set_option maxHeartbeats 4000000 in
theorem wasks_no (pv wv : Value) (xa : Option Addr) (ca N : Nat) (ps ws : List H) (need n : Int) (w : World) (hp : Hs w pv ps) (hw : Hs w wv ws) (hg : Glob w) (hno : ps.length ≤ 20 → ws.length ≤ 20 → N ≤ 30 → False) :
    Calls Tryd.prog 3 #[keysV pv wv need, .int .i64 n, .slice xa N ca] w fun e w' => e = .returned (.bool true) ∧ Below w.heap.size w w' := by
  obtain ⟨xp, cp, rfl, _⟩ := hp.form
  obtain ⟨xw, cw, rfl, _⟩ := hw.form
  obtain ⟨W, hW⟩ : ∃ W, W = w.alloc (.cells #[.slice xp ps.length cp, .slice xw ws.length cw, .int .i64 need] 24) := ⟨_, rfl⟩
  have hb : Below w.heap.size w W := by rw [hW]; (repeat (first | with_reducible assumption | with_reducible exact Below.refl _ _ | ((with_reducible refine Below.setCell ?_ ?_ _); rotate_left; focus (first | omega | (simp; done) | (simp; omega))) | ((with_reducible refine Below.alloc ?_ ?_ _); rotate_left; focus (first | omega | (simp; done) | (simp; omega))) | ((with_reducible refine below_setRow ?_ ?_ _); rotate_left; focus (first | omega | (simp; done) | (simp; omega))) | (with_reducible refine below_drewN ?_ _) | (with_reducible refine Below.drew ?_)))
  have hK : Blk W w.heap.size [.slice xp ps.length cp, .slice xw ws.length cw, .int .i64 need] 24 := by rw [hW]; exact Blk.newL w [_, _, _] _
  have HK := Lib.hid hK
  have HG := Lib.hid hg
  have HW := Lib.hid hW
  have hcase : (20 : Int) < ps.length ∨ (¬ (20 : Int) < ps.length ∧ (20 : Int) < ws.length) ∨ (¬ (20 : Int) < ps.length ∧ ¬ (20 : Int) < ws.length ∧ (30 : Int) < N) := by
    by_cases h1 : (20 : Int) < ps.length
    · exact .inl h1
    by_cases h2 : (20 : Int) < ws.length
    · exact .inr (.inl ⟨h1, h2⟩)
    by_cases h3 : (30 : Int) < N
    · exact .inr (.inr ⟨h1, h2, h3⟩)
    exact (hno (by omega) (by omega) (by omega)).elim
  clear hp hw hg hK hW hno
  unfold keysV
  rcases hcase with h1 | ⟨h1, h2⟩ | ⟨h1, h2, h3⟩
  all_goals
    (try have d1 := decide_eq_true h1)
    (try have d1 := decide_eq_false h1)
    (try have d2 := decide_eq_true h2)
    (try have d2 := decide_eq_false h2)
    (try have d3 := decide_eq_true h3)
    go_enter Tryd.func3, Tryd.ntmps3
    go_wp2_with (first
      | (go_at_call 8; refine calls_eq HW.out ((alive16_any W (HG.out.below hb)).mono ?_); rintro e w1 ⟨rfl, hb1⟩; have hw1 := hb.trans (hb1.mono hb.size); have hK1 := HK.out.below hb1 HK.out.lt; have c0 := hK1.cell (i := 0) rfl; have c1 := hK1.cell (i := 1) rfl; have HK1 := Lib.hid hK1; clear hb1 hK1)
      | fail)
    go_ret
    exact ⟨rfl, hw1⟩
set_option maxRecDepth 100000 in
set_option maxHeartbeats 4000000 in
theorem wasks_nil (pv wv : Value) (xa : Option Addr) (ca N : Nat) (ps ws : List H) (need n : Int) (w : World) (hp : Hs w pv ps) (hw : Hs w wv ws) (hg : Glob w) (h1 : ps.length ≤ 20) (h2 : ws.length ≤ 20) (h3 : N ≤ 30) (hnew : newB ps.length ws.length need n = false) :
    Calls Tryd.prog 3 #[keysV pv wv need, .int .i64 n, .slice xa N ca] w fun e w' => e = .returned (.bool true) ∧ Below w.heap.size w w' := by
  obtain ⟨xp, cp, rfl, _⟩ := hp.form
  obtain ⟨xw, cw, rfl, _⟩ := hw.form
  obtain ⟨W, hW⟩ : ∃ W, W = w.alloc (.cells #[.slice xp ps.length cp, .slice xw ws.length cw, .int .i64 need] 24) := ⟨_, rfl⟩
  have hb : Below w.heap.size w W := by rw [hW]; (repeat (first | with_reducible assumption | with_reducible exact Below.refl _ _ | ((with_reducible refine Below.setCell ?_ ?_ _); rotate_left; focus (first | omega | (simp; done) | (simp; omega))) | ((with_reducible refine Below.alloc ?_ ?_ _); rotate_left; focus (first | omega | (simp; done) | (simp; omega))) | ((with_reducible refine below_setRow ?_ ?_ _); rotate_left; focus (first | omega | (simp; done) | (simp; omega))) | (with_reducible refine below_drewN ?_ _) | (with_reducible refine Below.drew ?_)))
  have hK : Blk W w.heap.size [.slice xp ps.length cp, .slice xw ws.length cw, .int .i64 need] 24 := by rw [hW]; exact Blk.newL w [_, _, _] _
  have HK := Lib.hid hK
  have HG := Lib.hid hg
  have HW := Lib.hid hW
  have HP := Lib.hid hp
  have HWs := Lib.hid hw
  have HN := Lib.hid hnew
  have g1 : ¬ (20 : Int) < ps.length := by omega
  have g2 : ¬ (20 : Int) < ws.length := by omega
  have g3 : ¬ (30 : Int) < N := by omega
  have d1 := decide_eq_false g1
  have d2 := decide_eq_false g2
  have d3 := decide_eq_false g3
  obtain ⟨A, hA⟩ : ∃ A, A = mayB ps.length ws.length need := ⟨_, rfl⟩
  unfold newB at hnew
  rw [← hA] at hnew
  have HA := Lib.hid hA
  obtain ⟨Z, hZ⟩ : ∃ Z, Z = z0H := ⟨_, rfl⟩
  have HZ := Lib.hid hZ
  have HQ := fun w => is_hash w Z
  have HQS := fun w => eq_sig_same w 0 Z
  have hnil : ∀ (w : World), (binOp .eql 27 (.pointer none) (.pointer none)).run Tryd.prog w = .ok (.bool true) w := fun _ => rfl
  have hcase : A = false ∨ (A = true ∧ n < 0) ∨ (A = true ∧ ¬ n < 0 ∧ (ws.length : Int) ≤ n) := by
    cases A
    · exact .inl rfl
    · simp only [Bool.true_and, decide_eq_false_iff_not] at hnew
      by_cases h1 : n < 0
      · exact .inr (.inl ⟨rfl, h1⟩)
      · exact .inr (.inr ⟨rfl, h1, by omega⟩)
  clear hp hw hg hK hW hA hZ hnew h1 h2 h3
  unfold keysV
  rcases hcase with rfl | ⟨rfl, h1⟩ | ⟨rfl, h1, h2⟩
  all_goals
    (try have d4 := decide_eq_true h1)
    (try have d4 := decide_eq_false h1)
    (try have d5 := decide_eq_true h2)
    go_enter Tryd.func3, Tryd.ntmps3
    go_wp2_with (first
      | (go_at_call 8; refine calls_eq HW.out ((alive16_any W (HG.out.below hb)).mono ?_); rintro e w1 ⟨rfl, hb1⟩; have hw1 := hb.trans (hb1.mono hb.size); have hK1 := HK.out.below hb1 HK.out.lt; have c0 := hK1.cell (i := 0) rfl; have c1 := hK1.cell (i := 1) rfl; have HK1 := Lib.hid hK1; clear hb1 hK1)
      | (refine wpList_load_row rfl 24 (.tmp 3) rfl w.heap.size rfl 24 #[.slice xp ps.length cp, .slice xw ws.length cw, .int .i64 need] (0, 0) _ (by exact HK1.out) Tryd.underlying24 rfl (by exact keys_row _ _ _) ?_)
      | fail)
    refine (new_no _ _ ps ws need n w1 (HP.out.below hw1) (HWs.out.below hw1) HN.out).mono ?_
    rintro e w2 ⟨rfl, hb2⟩
    have hw2 := hw1.trans (hb2.mono hw1.size)
    have HK2 := Lib.hid (HK1.out.below hb2 HK1.out.lt)
    clear hb2 c0 c1
    go_wp2_with (first
      | (refine wpList_load_row rfl 24 (.tmp 3) rfl w.heap.size rfl 24 #[.slice xp ps.length cp, .slice xw ws.length cw, .int .i64 need] (0, 0) _ (by exact HK2.out) Tryd.underlying24 rfl (by exact keys_row _ _ _) ?_)
      | fail)
    refine (refmay_any _ _ ps ws need w2 (HP.out.below hw2) (HWs.out.below hw2)).mono ?_
    rintro e w3 ⟨rfl, hb3⟩
    rw [← HA.out]
    have hw3 := hw2.trans (hb3.mono hw2.size)
    have k1 := (HK2.out.below hb3 HK2.out.lt).cell (i := 1) rfl
    clear hb3
    go_wp2_with fail
    refine (last_nil w3).mono ?_
    rintro e w4 ⟨rfl, hb4⟩
    rw [← HZ.out]
    have hw4 := hw3.trans (hb4.mono hw3.size)
    obtain ⟨hbl4, hpt4, hsz4⟩ := lay_all w4 z32 (bytesV Z.b) 31
    obtain ⟨x4, hx4⟩ : ∃ X, X = layW w4 z32 (bytesV Z.b) 31 := ⟨_, rfl⟩
    rw [← hx4] at hbl4 hpt4 hsz4
    have hx4w := hw4.trans (hbl4.mono hw4.size)
    have HX4 := Lib.hid hx4
    have HP4 := Lib.hid hpt4
    clear hb4 hbl4 hpt4 hsz4 hx4 k1
    go_wp2_with (first
      | (refine wpList_store_row rfl 31 (.tmp 9) (.tmp 58) rfl w4.heap.size (bytesV Z.b).toArray rfl rfl 31 z32.toArray (by exact Blk.newL w4 z32 _) (by exact hv_row _) (by exact z32_old _) (by exact hv_one _) ?_; refine wpList_world (w' := x4) HX4.out ?_)
      | (refine wpList_built0 rfl 40 (pointC 0 Z (.slice none 0 0)).toArray rfl (by rw [HZ.out]; exact zero_point) ?_)
      | fail)
    refine (ask_nil 0 Z (.slice none 0 0) (.slice none 0 0) x4).mono ?_
    rintro e w5 ⟨rfl, hb5⟩
    rw [← HZ.out]
    unfold sigV
    have hw5 := hx4w.trans (hb5.mono hx4w.size)
    have HP5 := Lib.hid (HP4.out.below hb5 HP4.out.lt)
    obtain ⟨hbl5, hpt5, hsz5⟩ := lay_all w5 zsigC (sigC 0 Z) 35
    obtain ⟨x5, hx5⟩ : ∃ X, X = layW w5 zsigC (sigC 0 Z) 35 := ⟨_, rfl⟩
    rw [← hx5] at hbl5 hpt5 hsz5
    have hx5w := hw5.trans (hbl5.mono hw5.size)
    have HX5 := Lib.hid hx5
    have HP6 := Lib.hid hpt5
    have HP7 := Lib.hid (HP5.out.below hbl5 HP5.out.lt)
    clear hb5 hbl5 hpt5 hsz5 hx5 HP4 HP5
    go_wp2_with (first
      | (refine wpList_store_row rfl 35 (.tmp 10) (.tmp 63) rfl w5.heap.size (sigC 0 Z).toArray rfl rfl 35 zsigC.toArray (by exact Blk.newL w5 zsigC _) (by exact sig_row _ _) (by simp [zsigC, sigC_len]) (by exact sig_one _ _) ?_; refine wpList_world (w' := x5) HX5.out ?_)
      | (refine wpList_load_rowIf rfl 31 (.tmp 9) rfl w4.heap.size rfl 31 (bytesV Z.b).toArray (0, 0) _ (by exact HP7.out) Tryd.underlying31 rfl (by exact hv_row _) ?_)
      | (refine wpList_load_rowIf rfl 35 (.tmp 10) rfl w5.heap.size rfl 35 (sigC 0 Z).toArray (0, 0) _ (by exact HP6.out) Tryd.underlying35 rfl (by exact sig_row _ _) ?_)
      | (refine wpList_built0 rfl 31 (bytesV Z.b).toArray rfl (by rw [HZ.out]; exact zero_hash) ?_)
      | (refine wpList_built0 rfl 35 (sigC 0 Z).toArray rfl (by rw [HZ.out]; exact zero_sig) ?_)
      | fail)
    go_ret
    exact ⟨rfl, hx5w⟩
set_option maxRecDepth 100000 in
set_option maxHeartbeats 8000000 in
theorem wasks_yes (pv wv : Value) (xa : Option Addr) (ca n : Nat) (ps ws : List H) (l : List AskA) (need : Int) (w : World) (hp : Hs w pv ps) (hw : Hs w wv ws) (hl : Asks w (.slice xa l.length ca) l) (hg : Glob w) (h3 : l.length ≤ 30) (hm : mayB ps.length ws.length need = true) (hn : n < ws.length) :
    Calls Tryd.prog 3 #[keysV pv wv need, .int .i64 n, .slice xa l.length ca] w fun e w' => e = .returned (.bool true) ∧ Below w.heap.size w w' := by
  obtain ⟨xp, cp, rfl, _⟩ := hp.form
  obtain ⟨xw, cw, rfl, _⟩ := hw.form
  obtain ⟨W, hW⟩ : ∃ W, W = w.alloc (.cells #[.slice xp ps.length cp, .slice xw ws.length cw, .int .i64 need] 24) := ⟨_, rfl⟩
  have hb : Below w.heap.size w W := by rw [hW]; (repeat (first | with_reducible assumption | with_reducible exact Below.refl _ _ | ((with_reducible refine Below.setCell ?_ ?_ _); rotate_left; focus (first | omega | (simp; done) | (simp; omega))) | ((with_reducible refine Below.alloc ?_ ?_ _); rotate_left; focus (first | omega | (simp; done) | (simp; omega))) | ((with_reducible refine below_setRow ?_ ?_ _); rotate_left; focus (first | omega | (simp; done) | (simp; omega))) | (with_reducible refine below_drewN ?_ _) | (with_reducible refine Below.drew ?_)))
  have hK : Blk W w.heap.size [.slice xp ps.length cp, .slice xw ws.length cw, .int .i64 need] 24 := by rw [hW]; exact Blk.newL w [_, _, _] _
  obtain ⟨_, mp, _, mw, _, _⟩ := may_true hm
  have hA : AArg w (.slice xp ps.length cp) (.slice xw ws.length cw) xa ca ps ws l need := ⟨hp, hw, hl, hg, hm⟩
  have HA := Lib.hid hA
  have HK := Lib.hid hK
  have HG := Lib.hid hg
  have HW := Lib.hid hW
  have HP := Lib.hid hp
  have HWs := Lib.hid hw
  have HM := Lib.hid hm
  have HN := Lib.hid hn
  have g1 : ¬ (20 : Int) < ps.length := by omega
  have g2 : ¬ (20 : Int) < ws.length := by omega
  have g3 : ¬ (30 : Int) < l.length := by omega
  have g4 : ¬ (n : Int) < 0 := by omega
  have g5 : ¬ (ws.length : Int) ≤ n := by omega
  have g5' : ¬ ws.length ≤ n := by omega
  have d1 := decide_eq_false g1
  have d2 := decide_eq_false g2
  have d3 := decide_eq_false g3
  have d4 := decide_eq_false g4
  have d5 := decide_eq_false g5
  have d5' := decide_eq_false g5'
  obtain ⟨E, hE⟩ : ∃ E, E = e0H := ⟨_, rfl⟩
  have HE := Lib.hid hE
  clear hp hw hl hg hK hW hm hn mp mw g1 g2 g3 g4 g5 hE hA
  unfold keysV
  go_enter Tryd.func3, Tryd.ntmps3
  go_wp2_with (first
    | (go_at_call 8; refine calls_eq HW.out ((alive16_any W (HG.out.below hb)).mono ?_); rintro e w1 ⟨rfl, hb1⟩; have hw1 := hb.trans (hb1.mono hb.size); have hK1 := HK.out.below hb1 HK.out.lt; have c0 := hK1.cell (i := 0) rfl; have c1 := hK1.cell (i := 1) rfl; have HK1 := Lib.hid hK1; clear hb1 hK1)
    | (refine wpList_load_row rfl 24 (.tmp 3) rfl w.heap.size rfl 24 #[.slice xp ps.length cp, .slice xw ws.length cw, .int .i64 need] (0, 0) _ (by exact HK1.out) Tryd.underlying24 rfl (by exact keys_row _ _ _) ?_)
    | fail)
  refine (new_yes _ _ ps ws need n w1 (HP.out.below hw1) (HWs.out.below hw1) HM.out HN.out (HG.out.below hw1)).mono ?_
  rintro e w2 ⟨⟨g, rfl, hgs, hB2⟩, hb2⟩
  have hw2 := hw1.trans (hb2.mono hw1.size)
  have HK2 := Lib.hid (HK1.out.below hb2 HK1.out.lt)
  have HB2 := Lib.hid hB2
  have hgw : w.heap.size ≤ g := Nat.le_trans hw1.size hgs
  have hg2 := hB2.lt
  clear hb2 c0 c1 hB2
  go_wp2_with (first
    | (refine wpList_load_row rfl 24 (.tmp 3) rfl w.heap.size rfl 24 #[.slice xp ps.length cp, .slice xw ws.length cw, .int .i64 need] (0, 0) _ (by exact HK2.out) Tryd.underlying24 rfl (by exact keys_row _ _ _) ?_)
    | fail)
  refine (refmay_any _ _ ps ws need w2 (HP.out.below hw2) (HWs.out.below hw2)).mono ?_
  rintro e w3 ⟨rfl, hb3⟩
  rw [HM.out]
  have hw3 := hw2.trans (hb3.mono hw2.size)
  have hK3 := HK2.out.below hb3 HK2.out.lt
  have k1 := hK3.cell (i := 1) rfl
  have HK3 := Lib.hid hK3
  have HB3 := Lib.hid (HB2.out.below hb3 hg2)
  have hg3 := HB3.out.lt
  clear hb3 hK3
  go_wp2_with (first
    | (refine wpList_load_row rfl 24 (.tmp 3) rfl w.heap.size rfl 24 #[.slice xp ps.length cp, .slice xw ws.length cw, .int .i64 need] (0, 0) _ (by exact HK3.out) Tryd.underlying24 rfl (by exact keys_row _ _ _) ?_)
    | fail)
  refine (refnew_any _ _ ps ws need n w3 (HP.out.below hw3) (HWs.out.below hw3) (HG.out.below hw3)).mono ?_
  rintro e w4 ⟨⟨g', rfl, hgs', hB4⟩, hb4⟩
  have hw4 := hw3.trans (hb4.mono hw3.size)
  have HB4 := Lib.hid (HB3.out.below hb4 hg3)
  have HR4 := Lib.hid hB4
  have hgw' : w.heap.size ≤ g' := Nat.le_trans hw3.size hgs'
  have hgg : g < g' := by omega
  have HW4 := Lib.hid hw4
  clear hb4 hB4 hw1 hw2 hw3 hw4 hb k1 HK1 HK2 HK3 HB2 HB3 HK HW d1 d2 d3 d4 d5 d5' g5' hgs hgs' hg2 hg3
  go_wp2_with fail
  go_loopw [13] (fun iv wr => ∃ (i : Nat) (S : Int) (R : H), iv = .int .i64 i ∧ i ≤ l.length ∧ Blk wr g (witC (.slice xp ps.length cp) (.slice xw ws.length cw) need n S R) 67 ∧ Blk wr g' (witC (.slice xp ps.length cp) (.slice xw ws.length cw) need n S R) 46 ∧ Below w.heap.size w wr) (fun iv _ => l.length - (intOf iv).toNat)
  case atStart => exact ⟨0, 0, e0H, rfl, by omega, HB4.out, HR4.out, HW4.out⟩
  case round =>
    obtain ⟨i, S, R, rfl, hi, hwit, href, hold⟩ := hrel
    clear HB4 HR4 HW4
    by_cases hlt : i < l.length
    · have hlt' : (i : Int) < l.length := by omega
      have hix : (0 : Int) ≤ i ∧ (i : Int) < l.length := ⟨by omega, hlt'⟩
      obtain ⟨a, ha⟩ : ∃ a, l[i]? = some a := ⟨_, List.getElem?_eq_getElem hlt⟩
      obtain ⟨lb, lo, rfl, hlb, hrg, hlv⟩ := asks_elem HA.out.hl ha
      obtain ⟨_, hP, _, sp, sk, sc, hsv⟩ := HA.out.hl.each a (List.mem_of_getElem? ha)
      obtain ⟨P, hPe⟩ : ∃ P, P = a.P := ⟨_, rfl⟩
      rw [← hPe] at hP
      obtain ⟨pa, pc, hlve, _⟩ := hP.form
      rw [hlve] at hlv hP
      have c7 := (hold.cell (p := ⟨lb, lo + i * 35 + 34, none⟩) hlb).trans hlv
      have HLB := Lib.hid hlb
      have HRG := Lib.hid hrg
      have HLV := Lib.hid hlv
      have HPP := Lib.hid hP
      have HWI := Lib.hid hwit
      have HRI := Lib.hid href
      have HOLD := Lib.hid hold
      have HGL := Lib.hid hgw
      have lgr := hwit.lt
      have lgr' := href.lt
      have HAA := Lib.hid (show a.lv = .slice pa P.length pc from hlve)
      have HSVF := Lib.hid hsv
      have hwr := hold.size
      clear hwit href hold hrg hlv hP ha hsv hlve hPe hlb
      by_cases h60 : (60 : Int) < P.length
      · go_wp2_with fail
        go_ret
        exact ⟨rfl, HOLD.out⟩
      · have hd60 := decide_eq_false h60
        go_wp2_with fail
        obtain ⟨ok, hok⟩ : ∃ b, b = askB S a.s R a.r P := ⟨_, rfl⟩
        obtain ⟨kk, hkk⟩ : ∃ k, k = ansN ok n := ⟨_, rfl⟩
        obtain ⟨tt, htt⟩ : ∃ t, t = ansH ok (signH ps.length ws need n a.s a.r) := ⟨_, rfl⟩
        obtain ⟨S', hS'⟩ : ∃ s, s = nowS ok a.s S := ⟨_, rfl⟩
        obtain ⟨R', hR'⟩ : ∃ r, r = nowR ok a.r R := ⟨_, rfl⟩
        have hP60 : P.length ≤ 4096 := by omega
        have HASK := Lib.hid (show ∀ wr' : World, But g wr wr' → Blk wr' g (witC (.slice xp ps.length cp) (.slice xw ws.length cw) need n S R) 67 → Calls Tryd.prog 12 #[.pointer (some ⟨g, 0, none⟩), .agg (pointC a.s a.r a.sv).toArray, .slice pa P.length pc] wr' fun e w' => e = .returned (.tuple #[.agg (sigC kk tt).toArray, .bool ok]) ∧ Blk w' g (witC (.slice xp ps.length cp) (.slice xw ws.length cw) need n S' R') 67 ∧ But g wr' w' from fun wr' hbt hB => by
          have hww := HOLD.out.trans (hbt.below hgw HOLD.out.size)
          obtain ⟨pa', wa', hwl⟩ := HA.out.apart hgw
          have := ask_all g (.slice xp ps.length cp) (.slice xw ws.length cw) ps ws need n S a.s R a.r a.sv (.slice pa P.length pc) P wr' hB (HA.out.hp.below hww) (HA.out.hw.below hww) hwl (HPP.out.below hww) hP60 (HA.out.hg.below hww) pa' wa'
          rw [← hok] at this
          unfold ansV at this
          rw [← hkk, ← htt, ← hS', ← hR'] at this
          exact this)
        have HASK2 := Lib.hid (show ∀ u wr' : World, Below w.heap.size w u → But g' u wr' → Blk wr' g' (witC (.slice xp ps.length cp) (.slice xw ws.length cw) need n S R) 46 → Calls Tryd.prog 14 #[.pointer (some ⟨g', 0, none⟩), .agg (pointC a.s a.r a.sv).toArray, .slice pa P.length pc] wr' fun e w' => e = .returned (.tuple #[.agg (sigC kk tt).toArray, .bool ok]) ∧ Blk w' g' (witC (.slice xp ps.length cp) (.slice xw ws.length cw) need n S' R') 46 ∧ But g' wr' w' from fun u wr' hu hbt hB => by
          have hww := hu.trans (hbt.below hgw' hu.size)
          obtain ⟨pa', wa', hwl⟩ := HA.out.apart hgw'
          have := refask_all g' (.slice xp ps.length cp) (.slice xw ws.length cw) ps ws need n S a.s R a.r a.sv (.slice pa P.length pc) P wr' hB (HA.out.hp.below hww) (HA.out.hw.below hww) hwl (HPP.out.below hww) hP60 (HA.out.hg.below hww) pa' wa'
          rw [← hok] at this
          unfold ansV at this
          rw [← hkk, ← htt, ← hS', ← hR'] at this
          exact this)
        have HQ := fun w => is_hash w R'
        have HQS := fun w => eq_sig_same w kk tt
        clear hok hkk htt hS' hR' hP60 c7 hd60 h60
        refine wp_region_rowsG 18 (g) 11 (witC (.slice xp ps.length cp) (.slice xw ws.length cw) need n S R) (witC (.slice xp ps.length cp) (.slice xw ws.length cw) need n S' R') 67 [(fun v => v = .pointer (some ⟨g, 0, none⟩)), (fun v => v = .slice (some ⟨lb, lo, none⟩) l.length ca), (fun v => v = .int .i64 i), (fun v => v = .pointer (some ⟨lb, lo + i * 35, none⟩)), (fun v => v = .pointer (some ⟨lb, lo + i * 35, none⟩)), (fun v => v = .agg (pointC a.s a.r a.sv).toArray), (fun v => v = .slice (some ⟨lb, lo, none⟩) l.length ca), (fun v => v = .int .i64 i), (fun v => v = .pointer (some ⟨lb, lo + i * 35, none⟩)), (fun v => v = .pointer (some ⟨lb, lo + i * 35 + 34, none⟩)), (fun v => v = .slice pa P.length pc), (fun v => v = .tuple #[.agg (sigC kk tt).toArray, .bool ok]), (fun v => v = .tuple #[.agg (sigC kk tt).toArray, .bool ok]), (fun v => v = .agg (sigC kk tt).toArray), (fun v => v = .bool ok), (fun _ => True), (fun _ => True), (fun v => v = .bool ok)] [⟨15, 16, zsigC, sigC kk tt, 35⟩] (by kernel_rfl) (by kernel_rfl) (by decide) (by exact HWI.out) (by rfl) (by rfl) _ rfl ?rops ?rfin
        case rops =>
          simp only [List.take_succ_cons, List.take_zero, rowsAllG]
          iterate 18
          
           (refine ⟨fun L x wr hL0 hL hd hJ Qg hK => ?_, ?_⟩
            · simp only [fill, Act.put, List.setIfInBounds_toArray, List.set_cons_succ, List.set_cons_zero, needs, Region.binds, List.filter_cons, List.filter_nil, List.map_cons, List.map_nil, if_true, List.mem_cons, List.not_mem_nil, or_false, forall_eq_or_imp, forall_eq, List.getD_cons_zero, List.getD_cons_succ, false_implies, implies_true] at hd hL hK ⊢
              (try simp only [hd] at hK ⊢)
              first
              | (show wpList _ _ _ [⟨some 107, .load _ _, _, _, _, _⟩] _ _; refine wpList_load_mid rfl 40 (.tmp 106) rfl lb (lo + i * 35) rfl (pointC a.s a.r a.sv) _ (by exact range_below HRG.out (HOLD.out.trans (hJ.old.below HGL.out HOLD.out.size))) Tryd.underlying40 rfl (by exact point_len _ _ _) ?_; exact hK _ _ (hJ.const rfl rfl (Below.refl _ _)) trivial)
              | (show wpList _ _ _ [⟨some 112, .load _ _, _, _, _, _⟩] _ _; have c7 := ((HOLD.out.trans (hJ.old.below HGL.out HOLD.out.size)).cell (p := ⟨lb, lo + i * 35 + 34, none⟩) HLB.out).trans HLV.out; go_wp2_with fail; exact hK _ _ (hJ.const rfl rfl (Below.refl _ _)) trivial)
              | (show wpList _ _ _ [⟨some 113, .call _, _, _, _, _⟩] _ _; have hwas := hJ.was hL0; go_wp2_with (go_at_call 12; refine (HASK.out wr hJ.old hwas).mono ?_; rintro e w5 ⟨rfl, hB5, hb5⟩); exact hK _ _ (hJ.turn rfl hb5 hB5) trivial)
              | (show wpList _ _ _ [⟨some 14, .alloc _, _, _, _, _⟩] _ _; go_wp2_with fail; exact hK _ _ (hJ.alloc (List.mem_cons_self) rfl rfl hL0 rfl rfl) trivial)
              | (show wpList _ _ _ [⟨none, .store _ (.tmp 14) _, _, _, _, _⟩] _ _; obtain ⟨p, e1, e2, e3⟩ := hJ.fresh (List.mem_cons_self) (by simp only [hL]) hL0; refine wpList_store_row rfl 35 (.tmp 14) (.tmp 114) rfl p (sigC kk tt).toArray (by exact e1) (by first | rfl | simp only [hd]) 35 (zsigC).toArray (by exact e3) (by exact sig_row _ _) (by simp [zsigC, sigC_len]) (by exact sig_one _ _) ?_; exact hK undef _ (hJ.store (List.mem_cons_self) rfl rfl (by simp only [hL]) e1 rfl rfl) trivial)
              | (go_wp2_with fail; exact hK _ _ (hJ.const rfl rfl (Below.refl _ _)) trivial))
          trivial
        case rfin =>
          intro q u1 hbt hwg hR hrows hne
          obtain ⟨p1, e1, hp1, hB1⟩ := hrows _ List.mem_cons_self
          have e15 : q 15 = .pointer (some ⟨p1, 0, none⟩) := e1
          have x17 := hR 17 (by decide)
          simp only [List.getD_cons_zero, List.getD_cons_succ] at x17
          have hu1 := HOLD.out.trans (hbt.below hgw HOLD.out.size)
          have HU1 := Lib.hid hu1
          have HB1 := Lib.hid (show Blk u1 p1 (sigC kk tt) 35 from hB1)
          have HWG := Lib.hid hwg
          have HRI1 := Lib.hid (hbt.blk HRI.out (by omega))
          have lp1 := hB1.lt
          have lg1 := hwg.lt
          have lg1' := HRI1.out.lt
          have np1 : p1 ≠ g' := by omega
          have np2 : p1 ≠ g := by omega
          clear hR hrows hne hbt hwg hB1 e1 hu1 hp1 HASK HWI HRI
          simp only [List.drop_succ_cons, List.drop_zero]
          generalize List.toArray _ = L0
          simp only [List.take_succ_cons, List.take_zero, List.map_cons, List.map_nil, fill, Act.put, List.setIfInBounds_toArray, List.set_cons_succ, List.set_cons_zero, e15, x17]
          clear e15 x17
          go_wp2_with fail
          refine wp_region_rowsG 18 (g') 11 (witC (.slice xp ps.length cp) (.slice xw ws.length cw) need n S R) (witC (.slice xp ps.length cp) (.slice xw ws.length cw) need n S' R') 46 [(fun v => v = .pointer (some ⟨g', 0, none⟩)), (fun v => v = .slice (some ⟨lb, lo, none⟩) l.length ca), (fun v => v = .int .i64 i), (fun v => v = .pointer (some ⟨lb, lo + i * 35, none⟩)), (fun v => v = .pointer (some ⟨lb, lo + i * 35, none⟩)), (fun v => v = .agg (pointC a.s a.r a.sv).toArray), (fun v => v = .slice (some ⟨lb, lo, none⟩) l.length ca), (fun v => v = .int .i64 i), (fun v => v = .pointer (some ⟨lb, lo + i * 35, none⟩)), (fun v => v = .pointer (some ⟨lb, lo + i * 35 + 34, none⟩)), (fun v => v = .slice pa P.length pc), (fun v => v = .tuple #[.agg (sigC kk tt).toArray, .bool ok]), (fun v => v = .tuple #[.agg (sigC kk tt).toArray, .bool ok]), (fun v => v = .agg (sigC kk tt).toArray), (fun v => v = .bool ok), (fun _ => True), (fun _ => True), (fun v => v = .bool ok)] [⟨15, 16, zsigC, sigC kk tt, 35⟩] (by kernel_rfl) (by kernel_rfl) (by decide) (by exact HRI1.out) (by rfl) (by rfl) _ rfl ?rops ?rfin
          case rops =>
            simp only [List.take_succ_cons, List.take_zero, rowsAllG]
            iterate 18
            
             (refine ⟨fun L x wr hL0 hL hd hJ Qg hK => ?_, ?_⟩
              · simp only [fill, Act.put, List.setIfInBounds_toArray, List.set_cons_succ, List.set_cons_zero, needs, Region.binds, List.filter_cons, List.filter_nil, List.map_cons, List.map_nil, if_true, List.mem_cons, List.not_mem_nil, or_false, forall_eq_or_imp, forall_eq, List.getD_cons_zero, List.getD_cons_succ, false_implies, implies_true] at hd hL hK ⊢
                (try simp only [hd] at hK ⊢)
                first
                | (show wpList _ _ _ [⟨some 122, .load _ _, _, _, _, _⟩] _ _; refine wpList_load_mid rfl 40 (.tmp 121) rfl lb (lo + i * 35) rfl (pointC a.s a.r a.sv) _ (by exact range_below HRG.out (HU1.out.trans (hJ.old.below hgw' HU1.out.size))) Tryd.underlying40 rfl (by exact point_len _ _ _) ?_; exact hK _ _ (hJ.const rfl rfl (Below.refl _ _)) trivial)
                | (show wpList _ _ _ [⟨some 127, .load _ _, _, _, _, _⟩] _ _; have c7 := ((HU1.out.trans (hJ.old.below hgw' HU1.out.size)).cell (p := ⟨lb, lo + i * 35 + 34, none⟩) HLB.out).trans HLV.out; go_wp2_with fail; exact hK _ _ (hJ.const rfl rfl (Below.refl _ _)) trivial)
                | (show wpList _ _ _ [⟨some 128, .call _, _, _, _, _⟩] _ _; have hwas := hJ.was hL0; go_wp2_with (go_at_call 14; refine (HASK2.out _ wr HU1.out hJ.old hwas).mono ?_; rintro e w5 ⟨rfl, hB5, hb5⟩); exact hK _ _ (hJ.turn rfl hb5 hB5) trivial)
                | (show wpList _ _ _ [⟨some 16, .alloc _, _, _, _, _⟩] _ _; go_wp2_with fail; exact hK _ _ (hJ.alloc (List.mem_cons_self) rfl rfl hL0 rfl rfl) trivial)
                | (show wpList _ _ _ [⟨none, .store _ (.tmp 16) _, _, _, _, _⟩] _ _; obtain ⟨p, e1, e2, e3⟩ := hJ.fresh (List.mem_cons_self) (by simp only [hL]) hL0; refine wpList_store_row rfl 35 (.tmp 16) (.tmp 129) rfl p (sigC kk tt).toArray (by exact e1) (by first | rfl | simp only [hd]) 35 (zsigC).toArray (by exact e3) (by exact sig_row _ _) (by simp [zsigC, sigC_len]) (by exact sig_one _ _) ?_; exact hK undef _ (hJ.store (List.mem_cons_self) rfl rfl (by simp only [hL]) e1 rfl rfl) trivial)
                | (go_wp2_with fail; exact hK _ _ (hJ.const rfl rfl (Below.refl _ _)) trivial))
            trivial
          case rfin =>
            intro q2 u2 hbt hwg hR hrows hne
            obtain ⟨p2, e2, hp2, hB2⟩ := hrows _ List.mem_cons_self
            have e15 : q2 15 = .pointer (some ⟨p2, 0, none⟩) := e2
            have x17 := hR 17 (by decide)
            simp only [List.getD_cons_zero, List.getD_cons_succ] at x17
            have hu2 := HU1.out.trans (hbt.below hgw' HU1.out.size)
            have HU2 := Lib.hid hu2
            have HB12 := Lib.hid (hbt.blk HB1.out np1)
            have HB2 := Lib.hid (show Blk u2 p2 (sigC kk tt) 35 from hB2)
            have HWG2 := Lib.hid (hbt.blk HWG.out (by omega))
            have HRG2 := Lib.hid hwg
            clear hR hrows hne hbt hwg hB2 e2 hu2 hp2 HASK2 HRI1 HWG HB1 lp1 lg1 lg1' np1 np2
            simp only [List.drop_succ_cons, List.drop_zero]
            generalize List.toArray _ = L0
            simp only [List.take_succ_cons, List.take_zero, List.map_cons, List.map_nil, fill, Act.put, List.setIfInBounds_toArray, List.set_cons_succ, List.set_cons_zero, e15, x17]
            clear e15 x17
            go_wp2_with fail
            refine (last_any g _ _ need n S' R' u2 HWG2.out).mono ?_
            rintro e w8 ⟨rfl, hb8⟩
            obtain ⟨hbl8, hpt8, hsz8⟩ := lay_all w8 z32 (bytesV R'.b) 31
            obtain ⟨x8, hx8⟩ : ∃ X, X = layW w8 z32 (bytesV R'.b) 31 := ⟨_, rfl⟩
            rw [← hx8] at hbl8 hpt8 hsz8
            have hbb : Below u2.heap.size u2 x8 := hb8.trans (hbl8.mono hb8.size)
            have HX8 := Lib.hid hx8
            have HP8 := Lib.hid hpt8
            have HB13 := Lib.hid (HB12.out.below hbb HB12.out.lt)
            have HB23 := Lib.hid (HB2.out.below hbb HB2.out.lt)
            have HWG3 := Lib.hid (HWG2.out.below hbb HWG2.out.lt)
            have HRG3 := Lib.hid (HRG2.out.below hbb HRG2.out.lt)
            have HU3 := Lib.hid (HU2.out.trans (hbb.mono HU2.out.size))
            have l8 := hpt8.lt
            have l13 := HB13.out.lt
            have l23 := HB23.out.lt
            have lrg := HRG3.out.lt
            clear hb8 hbl8 hpt8 hx8 hsz8 hbb HB12 HB2 HWG2 HRG2 HU2 HU1
            go_wp2_with (first
              | (refine wpList_store_row rfl 31 (.tmp 19) (.tmp 135) rfl w8.heap.size (bytesV R'.b).toArray rfl rfl 31 z32.toArray (by exact Blk.newL w8 z32 _) (by exact hv_row _) (by exact z32_old _) (by exact hv_one _) ?_; refine wpList_world (w' := x8) HX8.out ?_)
              | fail)
            refine wp_region_mono 24 (x8.heap.size) [(fun v _ => v = .agg (sigC kk tt).toArray), (fun v _ => v = .agg (sigC kk tt).toArray), (fun v _ => v = .bool false), (fun v _ => v = .bool false), (fun v _ => v = .bool ok), (fun v _ => v = .bool ok), (fun v _ => v = .bool false), (fun v _ => v = .bool false), (fun v _ => v = .bool false), (fun v _ => v = .int .i64 S'), (fun v _ => v = .pointer (some ⟨g', 0, none⟩)), (fun v _ => v = .pointer (some ⟨g', 0, none⟩)), (fun v _ => v = .pointer (some ⟨g', 4, none⟩)), (fun v _ => v = .int .i64 S'), (fun v _ => v = .bool false), (fun v _ => v = .bool false), (fun v _ => v = .bool false), (fun v _ => v = .agg (bytesV R'.b).toArray), (fun v _ => v = .pointer (some ⟨g', 0, none⟩)), (fun v _ => v = .pointer (some ⟨g', 0, none⟩)), (fun v _ => v = .pointer (some ⟨g', 5, none⟩)), (fun v _ => v = .agg (bytesV R'.b).toArray), (fun v _ => v = .bool false), (fun v _ => v = .bool false)] (by kernel_rfl) (by kernel_rfl) (Nat.le_refl _) ?mkept _ rfl ?mops ?mfin
            case mkept =>
              repeat (refine List.forall_mem_cons.2 ⟨by first | exact fun _ _ _ _ h => h | exact fun _ _ _ hb h => Parts.below h hb | exact fun _ _ _ hb h => IsSl.below h hb, ?_⟩)
              exact fun _ h => by cases h
            case mops =>
              simp only [List.take_succ_cons, List.take_zero, monoAll, List.getD_cons_zero, List.getD_cons_succ]
              iterate 24
              
               (refine ⟨fun x wr hb hd Qg hK => ?_, ?_⟩
                · as_aux_lemma =>
                  simp only [fill, Act.put, List.setIfInBounds_toArray, List.set_cons_succ, List.set_cons_zero, needs, Region.binds, List.filter_cons, List.filter_nil, List.map_cons, List.map_nil, if_true, List.mem_cons, List.not_mem_nil, or_false, forall_eq_or_imp, forall_eq, List.getD_cons_zero, List.getD_cons_succ, false_implies, implies_true] at hd hK ⊢
                  (try simp only [hd] at hK ⊢)
                  first
                  | (have hBr := HB13.out.below hb (l13); refine wpList_load_rowIf rfl 35 (.tmp 14) rfl _ rfl 35 (sigC kk tt).toArray (0, 0) _ (by exact hBr) Tryd.underlying35 rfl (by exact sig_row _ _) ?_; exact hK _ _ rfl (Below.refl _ _))
                  | (have hBr := HB23.out.below hb (l23); refine wpList_load_rowIf rfl 35 (.tmp 16) rfl _ rfl 35 (sigC kk tt).toArray (0, 0) _ (by exact hBr) Tryd.underlying35 rfl (by exact sig_row _ _) ?_; exact hK _ _ rfl (Below.refl _ _))
                  | (have hBr := HP8.out.below hb (l8); refine wpList_load_rowIf rfl 31 (.tmp 19) rfl _ rfl 31 (bytesV R'.b).toArray (0, 0) _ (by exact hBr) Tryd.underlying31 rfl (by exact hv_row _) ?_; exact hK _ _ rfl (Below.refl _ _))
                  | (show wpList _ _ _ [⟨some 149, .load _ _, _, _, _, _⟩] _ _; have c0 := wit_size (HRG3.out.below hb lrg); go_wp2_with fail; exact hK _ _ rfl (Below.refl _ _))
                  | (show wpList _ _ _ [⟨some 157, .load _ _, _, _, _, _⟩] _ _; refine wpList_load_midIf rfl 31 (.tmp 156) rfl g' 5 rfl (bytesV R'.b) _ (wit_root (HRG3.out.below hb lrg)) Tryd.underlying31 rfl (hv_info R') ?_; exact hK _ _ rfl (Below.refl _ _))
                  | (go_wp2_with fail; exact hK _ _ rfl (Below.refl _ _)))
              trivial
            case mfin =>
              intro z w9 hb9 hR9
              have x23 := hR9 23 (by decide)
              simp only [List.getD_cons_zero, List.getD_cons_succ] at x23
              have HU4 := Lib.hid (HU3.out.trans (hb9.mono HU3.out.size))
              have HW4 := Lib.hid (HWG3.out.below hb9 HWG3.out.lt)
              have HR4 := Lib.hid (HRG3.out.below hb9 HRG3.out.lt)
              clear hR9 hb9 HQ HQS
              simp only [List.drop_succ_cons, List.drop_zero]
              generalize List.toArray _ = L0
              simp only [List.take_succ_cons, List.take_zero, List.map_cons, List.map_nil, fill, Act.put, List.setIfInBounds_toArray, List.set_cons_succ, List.set_cons_zero, x23]
              clear x23
              go_wp2_with fail
              exact ⟨⟨i + 1, S', R', by go_num, by omega, HW4.out, HR4.out, HU4.out⟩, by simp [intOf]; omega⟩
    · obtain rfl : i = l.length := by omega
      have hlt' : ¬ (l.length : Int) < l.length := by omega
      have HOLD := Lib.hid hold
      clear hwit href hold
      go_wp2_with fail
      go_ret
      exact ⟨rfl, HOLD.out⟩
end Go.Proofs.YtldokkbfahobgaaDoor
