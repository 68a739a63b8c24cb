/- The law WitnessGrows, walked. Conditions: what each part says. -/
import Derived.Test.YtldokkbfahobgaaDoorAliveU
import Derived.Test.YtldokkbfahobgaaDoorAskW
/-! LawWGrows: The law WitnessGrows, walked. Conditions: the keys and the list can be read; the package's tables read as they are laid. -/
namespace Go.Proofs.YtldokkbfahobgaaDoor
open Go.RowKit

/-- A list's beginning, of any length. -/
theorem hs_cut0 {w : World} {xa : Option Addr} {ca : Nat} {l : List H} (h : Hs w (.slice xa l.length ca) l) (n : Nat) (hl : n ≤ l.length) : Hs w (.slice xa n ca) (l.take n) := by
  rcases Nat.eq_zero_or_pos n with rfl | h0
  · rw [List.take_zero]
    obtain ⟨_, _, h3⟩ := h
    refine ⟨rfl, (fun u hu => by cases hu), ?_⟩
    rcases h3 with ⟨e, _⟩ | ⟨ad, cap, e, hc, _⟩
    · injection e with e1 _ e3
      subst e1 e3
      exact .inl ⟨rfl, rfl⟩
    · cases e
      exact .inr ⟨ad, ca, rfl, by simp, fun j u hu => by simp [bytesV, hflat] at hu⟩
  · exact hs_cut h n h0 hl
set_option maxRecDepth 100000 in
set_option maxHeartbeats 4000000 in
theorem wgrows_no (pv wv hsv : Value) (ps ws h : List H) (need n : Int) (a b : Int) (o : H) (w : World) (hp : Hs w pv ps) (hw : Hs w wv ws) (hh : Hs w hsv h) (hg : Glob w) (hno : ps.length ≤ 20 → ws.length ≤ 20 → h.length ≤ 60 → newB ps.length ws.length need n = false) :
    Calls Tryd.prog 5 #[keysV pv wv need, .int .i64 n, hsv, .int .u8 a, .int .u8 b, hv o] w fun e w' => e = .returned (.bool true) ∧ Below w.heap.size w w' := by
  obtain ⟨xp, cp, rfl, _⟩ := hp.form
  obtain ⟨xw, cw, rfl, _⟩ := hw.form
  obtain ⟨xh, ch, rfl, _⟩ := hh.form
  obtain ⟨W, hW⟩ : ∃ W, W = (w.alloc (.cells #[.slice xp ps.length cp, .slice xw ws.length cw, .int .i64 need] 24)).alloc (.cells (bytesV o.b).toArray 31) := ⟨_, rfl⟩
  have hb : Below w.heap.size w W := by rw [hW]; (repeat (first | with_reducible assumption | with_reducible exact Below.refl _ _ | ((with_reducible refine Below.setCell ?_ ?_ _); rotate_left; focus (first | omega | (simp; done) | (simp; omega))) | ((with_reducible refine Below.alloc ?_ ?_ _); rotate_left; focus (first | omega | (simp; done) | (simp; omega))) | ((with_reducible refine below_setRow ?_ ?_ _); rotate_left; focus (first | omega | (simp; done) | (simp; omega))) | (with_reducible refine below_drewN ?_ _) | (with_reducible refine Below.drew ?_)))
  have hK : Blk W w.heap.size [.slice xp ps.length cp, .slice xw ws.length cw, .int .i64 need] 24 := by rw [hW]; exact (Blk.newL w [_, _, _] _).alloc _
  have HP := Lib.hid (hp.below hb)
  have HWs := Lib.hid (hw.below hb)
  have HK := Lib.hid hK
  have HG := Lib.hid (hg.below hb)
  have HW := Lib.hid hW
  obtain ⟨A, hA⟩ : ∃ A, A = mayB ps.length ws.length need := ⟨_, rfl⟩
  unfold newB at hno
  rw [← hA] at hno
  have HA := Lib.hid hA
  have hcase : (20 : Int) < ps.length ∨ (¬ (20 : Int) < ps.length ∧ (20 : Int) < ws.length) ∨ (¬ (20 : Int) < ps.length ∧ ¬ (20 : Int) < ws.length ∧ (60 : Int) < h.length) ∨ (¬ (20 : Int) < ps.length ∧ ¬ (20 : Int) < ws.length ∧ ¬ (60 : Int) < h.length ∧ A = false) ∨ (¬ (20 : Int) < ps.length ∧ ¬ (20 : Int) < ws.length ∧ ¬ (60 : Int) < h.length ∧ A = true ∧ n < 0) ∨ (¬ (20 : Int) < ps.length ∧ ¬ (20 : Int) < ws.length ∧ ¬ (60 : Int) < h.length ∧ A = true ∧ ¬ n < 0 ∧ (ws.length : Int) ≤ n) := by
    by_cases h1 : (20 : Int) < ps.length
    · exact .inl h1
    by_cases h2 : (20 : Int) < ws.length
    · exact .inr (.inl ⟨h1, h2⟩)
    by_cases h3 : (60 : Int) < h.length
    · exact .inr (.inr (.inl ⟨h1, h2, h3⟩))
    have hno := hno (by omega) (by omega) (by omega)
    cases A
    · exact .inr (.inr (.inr (.inl ⟨h1, h2, h3, rfl⟩)))
    · simp only [Bool.true_and, decide_eq_false_iff_not] at hno
      by_cases h4 : n < 0
      · exact .inr (.inr (.inr (.inr (.inl ⟨h1, h2, h3, rfl, h4⟩))))
      · exact .inr (.inr (.inr (.inr (.inr ⟨h1, h2, h3, rfl, h4, by omega⟩))))
  clear hp hw hh hg hK hA hW hno
  unfold keysV hv
  rcases hcase with h1 | ⟨h1, h2⟩ | ⟨h1, h2, h3⟩ | ⟨h1, h2, h3, rfl⟩ | ⟨h1, h2, h3, rfl, h4⟩ | ⟨h1, h2, h3, rfl, h4, h5⟩
  all_goals
    (try have d1 := decide_eq_true h1)
    (try have d1 := decide_eq_false h1)
    (try have d2 := decide_eq_true h2)
    (try have d2 := decide_eq_false h2)
    (try have d3 := decide_eq_true h3)
    (try have d3 := decide_eq_false h3)
    (try have d4 := decide_eq_true h4)
    (try have d4 := decide_eq_false h4)
    (try have d5 := decide_eq_true h5)
    go_enter Tryd.func5, Tryd.ntmps5
    go_wp2_with (first
      | (go_at_call 8; refine calls_eq HW.out ((alive16_any W HG.out).mono ?_); rintro e w1 ⟨rfl, hb1⟩; have hw1 := hb.trans (hb1.mono hb.size); have hK1 := HK.out.below hb1 HK.out.lt; have c0 := hK1.cell (i := 0) rfl; have c1 := hK1.cell (i := 1) rfl; have HK1 := Lib.hid hK1; have HP1 := Lib.hid (HP.out.below hb1); have HW1 := Lib.hid (HWs.out.below hb1); clear hb1 hK1)
      | (refine wpList_load_rowIf rfl 24 (.tmp 6) rfl w.heap.size rfl 24 #[.slice xp ps.length cp, .slice xw ws.length cw, .int .i64 need] (0, 0) _ (by exact HK1.out) Tryd.underlying24 rfl (by exact keys_row _ _ _) ?_)
      | (go_at_call 18; refine (may_any _ _ ps ws need w1 HP1.out HW1.out).mono ?_; rintro e w2 ⟨rfl, hb2⟩; rw [← HA.out]; have k1 := (HK1.out.below hb2 HK1.out.lt).cell (i := 1) rfl; have hw2 := hw1.trans (hb2.mono hw1.size); clear hb2)
      | fail)
    go_ret
    first
      | exact ⟨rfl, hw2⟩
      | exact ⟨rfl, hw1⟩
theorem ptr_sl {w : World} {b g : Nat} {e : TypeId} (h : Blk w b [ptrV g] e) : IsSl w (.slice (some ⟨b, 0, none⟩) 1 1) 1 1 [ptrV g] :=
  IsSl.of_range (w := w) (b := b) (off := 0) (n := 1) (cap := 1) (size := 1) (cs := [ptrV g]) rfl (fun u hu => by obtain rfl := List.mem_singleton.1 hu; rfl) (Nat.le_refl _) (fun j u hu => by rw [Nat.zero_add]; exact h.cell hu)
/-- What the law keeps: the other root's block ob, the list's block lb, the witness g. -/
structure GEnv (w0 : World) (g ob lb : Nat) (pv wv : Value) (h : List H) (need n : Int) (o : H) (m : Nat) (W : World) : Prop where
  oth : Blk W ob (bytesV o.b) 31
  lst : Blk W lb [ptrV g] 27
  wit : Blk W g (witC pv wv need n (upto h m).1 (upto h m).2) 67
  old : Below w0.heap.size w0 W
  gl : w0.heap.size ≤ g
  og : ob < g
  gb : g < lb
theorem GEnv.below {w0 W W' : World} {g ob lb m : Nat} {pv wv : Value} {h : List H} {need n : Int} {o : H} (e : GEnv w0 g ob lb pv wv h need n o m W) (hb : Below W.heap.size W W') : GEnv w0 g ob lb pv wv h need n o m W' :=
  { oth := e.oth.below hb e.oth.lt, lst := e.lst.below hb e.lst.lt, wit := e.wit.below hb e.wit.lt, old := e.old.trans (hb.mono e.old.size), gl := e.gl, og := e.og, gb := e.gb }
theorem GEnv.but {w0 W W' : World} {g ob lb m m' : Nat} {pv wv : Value} {h : List H} {need n : Int} {o : H} (e : GEnv w0 g ob lb pv wv h need n o m W) (hb : But g W W') (hw : Blk W' g (witC pv wv need n (upto h m').1 (upto h m').2) 67) : GEnv w0 g ob lb pv wv h need n o m' W' :=
  { oth := hb.blk e.oth (by have := e.og; omega), lst := hb.blk e.lst (by have := e.gb; omega), wit := hw, old := e.old.trans (hb.below e.gl e.old.size), gl := e.gl, og := e.og, gb := e.gb }
/-- What the law is given. -/
structure GArg (w0 : World) (pv wv : Value) (xh : Option Addr) (ch : Nat) (ps ws h : List H) (need : Int) : Prop where
  hp : Hs w0 pv ps
  hw : Hs w0 wv ws
  hh : Hs w0 (.slice xh h.length ch) h
  hg : Glob w0
  hm : mayB ps.length ws.length need = true
  hl : h.length ≤ 60
theorem GArg.apart {w0 : World} {pv wv : Value} {xh : Option Addr} {ch g : Nat} {ps ws h : List H} {need : Int} (a : GArg w0 pv wv xh ch ps ws h need) (hg : w0.heap.size ≤ g) : ApartV g pv ∧ ApartV g wv ∧ (0 < h.length → ApartV g (.slice xh h.length ch)) := by
  obtain ⟨h1, h2, h3, h4, _, _⟩ := may_true a.hm
  exact ⟨apart_pos a.hp (by omega) (by decide) hg, apart_pos a.hw (by omega) (by decide) hg, fun h0 => apart_pos a.hh h0 (by decide) hg⟩
theorem GEnv.collect {w0 W : World} {g ob lb m : Nat} {pv wv : Value} {xh : Option Addr} {ch : Nat} {ps ws h : List H} {need n : Int} {o : H} (e : GEnv w0 g ob lb pv wv h need n o m W) (a : GArg w0 pv wv xh ch ps ws h need) (k K M : Nat) (R : H) (hk : k ≤ h.length) (hK : K = if m ≤ k then 1 else 0) (hM : M = oneUp m k) (hR : R = rootN ndH e0H (h.take k)) :
    Calls Tryd.prog 15 #[.slice (some ⟨lb, 0, none⟩) 1 1, .slice xh k ch, .int .i64 1] W fun e w' => ∃ a c, e = .returned (pointV k R (.slice a K c)) ∧ GEnv w0 g ob lb pv wv h need n o M w' ∧ But g W w' := by
  obtain ⟨pa, wa, ha⟩ := a.apart e.gl
  obtain ⟨_, _, h3, h4, _, _⟩ := may_true a.hm
  have hl := a.hl
  subst hM hR
  refine (collect_one pv wv (.slice xh k ch) (.slice (some ⟨lb, 0, none⟩) 1 1) ps ws h need n g m k [g] W (.inl rfl) (a.hp.below e.old) (a.hw.below e.old) ((hs_cut0 a.hh k hk).below e.old) (ptr_sl e.lst) e.wit (a.hg.below e.old) pa wa (fun h0 b k' c' e' => ?_) (fun b k' c' e' => ?_) (by omega) (by omega) hk).mono ?_
  · cases e'
    refine ha ?_ b _ _ rfl
    rw [List.length_take] at h0
    omega
  · cases e'
    have := e.gb
    show lb ≠ g
    omega
  · rintro e1 w' ⟨sv, rfl, ho, hw, hb⟩
    obtain ⟨b, c, hs⟩ := ownsRow_form ho
    have hlen : (oneSig ps.length ws need n h m k).length = K := by
      rw [hK]
      unfold oneSig
      split <;> rfl
    rw [hlen] at hs
    subst hs
    exact ⟨b, c, rfl, e.but hb hw, hb⟩
theorem sub_whole (h : List H) (M : Nat) (hM : M ≤ h.length) : subR (h.take M) M = [] := by
  unfold subR
  have hl : (h.take M).length = M := by rw [List.length_take, Nat.min_eq_left hM]
  by_cases h1 : 1 ≤ (M : Int) ∧ (M : Int) ≤ (h.take M).length
  · rw [if_pos h1, Int.toNat_natCast]
    have := sub_self (h.take M)
    rw [hl] at this
    exact this
  · rw [if_neg h1]
/-- Whether a witness that has signed a list signs it again with another root. -/
theorem ask_whole (h : List H) (M : Nat) (o : H) (hM : M ≤ h.length) (hl : h.length ≤ 60) : (∃ b, askB M M (rootN ndH e0H (h.take M)) o [] = b ∧ (o.b == (rootN ndH e0H (h.take M)).b) = b) ∨ (M = 0 ∧ askB M M (rootN ndH e0H (h.take M)) o [] = true ∧ (o.b == (rootN ndH e0H (h.take M)).b) = false) := by
  have h4 : decide ((M : Int) ≤ 400) = true := decide_eq_true (by omega)
  unfold askB
  rw [h4, Bool.true_and]
  rcases Nat.eq_zero_or_pos M with rfl | h0
  · have e : begR ((0 : Nat) : Int) ((0 : Nat) : Int) (rootN ndH e0H (h.take 0)) o [] = true := by
      rw [List.take_zero, root_nil]
      have := beg_none o 0 [] (by omega)
      simpa using this
    rw [e]
    cases hc : (o.b == (rootN ndH e0H (h.take 0)).b) with
    | false => exact .inr ⟨rfl, rfl, rfl⟩
    | true => exact .inl ⟨true, rfl, rfl⟩
  · have := beg_self (rootN ndH e0H (h.take M)) o M h0 (by omega)
    exact .inl ⟨_, this, Bool.beq_comm⟩
set_option maxRecDepth 100000 in
set_option maxHeartbeats 8000000 in
theorem wgrows_yes (pv wv hsv : Value) (ps ws h : List H) (need : Int) (n a b : Nat) (o : H) (w : World) (hp : Hs w pv ps) (hw : Hs w wv ws) (hh : Hs w hsv h) (hg : Glob w) (ha : a < 256) (hb256 : b < 256) (hl : h.length ≤ 60) (hm : mayB ps.length ws.length need = true) (hn : n < ws.length) :
    Calls Tryd.prog 5 #[keysV pv wv need, .int .i64 n, hsv, .int .u8 a, .int .u8 b, hv o] w fun e w' => e = .returned (.bool true) ∧ Below w.heap.size w w' := by
  obtain ⟨xp, cp, rfl, _⟩ := hp.form
  obtain ⟨xw, cw, rfl, _⟩ := hw.form
  obtain ⟨xh, ch, rfl, hch⟩ := hh.form
  obtain ⟨W, hW⟩ : ∃ W, W = (w.alloc (.cells #[.slice xp ps.length cp, .slice xw ws.length cw, .int .i64 need] 24)).alloc (.cells (bytesV o.b).toArray 31) := ⟨_, rfl⟩
  have hb : Below w.heap.size w W := by rw [hW]; (repeat (first | with_reducible assumption | with_reducible exact Below.refl _ _ | ((with_reducible refine Below.setCell ?_ ?_ _); rotate_left; focus (first | omega | (simp; done) | (simp; omega))) | ((with_reducible refine Below.alloc ?_ ?_ _); rotate_left; focus (first | omega | (simp; done) | (simp; omega))) | ((with_reducible refine below_setRow ?_ ?_ _); rotate_left; focus (first | omega | (simp; done) | (simp; omega))) | (with_reducible refine below_drewN ?_ _) | (with_reducible refine Below.drew ?_)))
  have hK : Blk W w.heap.size [.slice xp ps.length cp, .slice xw ws.length cw, .int .i64 need] 24 := by rw [hW]; exact (Blk.newL w [_, _, _] _).alloc _
  have hO : Blk W (w.heap.size + 1) (bytesV o.b) 31 := by rw [hW]; exact Blk.newL1 w _ _ _
  obtain ⟨_, mp, _, mw, _, _⟩ := may_true hm
  have HA := Lib.hid (show GArg w (.slice xp ps.length cp) (.slice xw ws.length cw) xh ch ps ws h need from ⟨hp, hw, hh, hg, hm, hl⟩)
  have HK := Lib.hid hK
  have HO := Lib.hid hO
  have HW := Lib.hid hW
  have HM := Lib.hid hm
  have HN := Lib.hid hn
  have g1 : ¬ (20 : Int) < ps.length := by omega
  have g2 : ¬ (20 : Int) < ws.length := by omega
  have g3 : ¬ (60 : Int) < h.length := by omega
  have g4 : ¬ (n : Int) < 0 := by omega
  have g5 : ¬ (ws.length : Int) ≤ n := by omega
  have d1 := decide_eq_false g1
  have d2 := decide_eq_false g2
  have d3 := decide_eq_false g3
  have d4 := decide_eq_false g4
  have d5 := decide_eq_false g5
  have g5' : ¬ ws.length ≤ n := by omega
  have d5' := decide_eq_false g5'
  obtain ⟨x, hx⟩ : ∃ x, x = a % (h.length + 1) := ⟨_, rfl⟩
  obtain ⟨y, hy⟩ : ∃ y, y = b % (h.length + 1) := ⟨_, rfl⟩
  have hxl : x ≤ h.length := by have := Nat.mod_lt a (show 0 < h.length + 1 by omega); omega
  have hyl : y ≤ h.length := by have := Nat.mod_lt b (show 0 < h.length + 1 by omega); omega
  have r1 : (a : Int).tmod ((h.length : Int) + 1) = x := by rw [hx, Int.tmod_eq_emod_of_nonneg (by omega)]; rfl
  have r1' : (a : Int) % ((h.length : Int) + 1) = x := by rw [hx]; rfl
  have r2 : (b : Int).tmod ((h.length : Int) + 1) = y := by rw [hy, Int.tmod_eq_emod_of_nonneg (by omega)]; rfl
  have r2' : (b : Int) % ((h.length : Int) + 1) = y := by rw [hy]; rfl
  have r0 : ¬ ((h.length : Int) + 1 = 0) := by omega
  obtain ⟨Rx, hRx⟩ : ∃ R, R = rootN ndH e0H (h.take x) := ⟨_, rfl⟩
  obtain ⟨Ry, hRy⟩ : ∃ R, R = rootN ndH e0H (h.take y) := ⟨_, rfl⟩
  obtain ⟨M, hM⟩ : ∃ M, M = oneUp x y := ⟨_, rfl⟩
  obtain ⟨RM, hRM⟩ : ∃ R, R = rootN ndH e0H (h.take M) := ⟨_, rfl⟩
  have hMl : M ≤ h.length := by rw [hM]; unfold oneUp; split <;> omega
  have hxc : x ≤ ch := by omega
  have hyc : y ≤ ch := by omega
  have hMc : M ≤ ch := by omega
  have HRx := Lib.hid hRx
  have HRy := Lib.hid hRy
  have HRM := Lib.hid hRM
  have HM2 := Lib.hid hM
  have HXL := Lib.hid hxl
  have HYL := Lib.hid hyl
  have HML := Lib.hid hMl
  have HQ := fun w => is_hash w RM
  clear hp hw hh hg hK hO hW hm hn hx hy hRx hRy hRM mp mw g1 g2 g3 g4 g5
  unfold keysV hv
  go_enter Tryd.func5, Tryd.ntmps5
  go_wp2_with (first
    | (go_at_call 8; refine calls_eq HW.out ((alive16_any W (HA.out.hg.below hb)).mono ?_); rintro e w1 ⟨rfl, hb1⟩; have hw1 := hb.trans (hb1.mono hb.size); have hK1 := HK.out.below hb1 HK.out.lt; have c0 := hK1.cell (i := 0) rfl; have c1 := hK1.cell (i := 1) rfl; have HK1 := Lib.hid hK1; have HO1 := Lib.hid (HO.out.below hb1 HO.out.lt); clear hb1 hK1)
    | (refine wpList_load_rowIf rfl 24 (.tmp 6) rfl w.heap.size rfl 24 #[.slice xp ps.length cp, .slice xw ws.length cw, .int .i64 need] (0, 0) _ (by exact HK1.out) Tryd.underlying24 rfl (by exact keys_row _ _ _) ?_)
    | (go_at_call 18; refine (may_any _ _ ps ws need w1 (HA.out.hp.below hw1) (HA.out.hw.below hw1)).mono ?_; rintro e w2 ⟨rfl, hb2⟩; rw [HM.out]; have k1 := (HK1.out.below hb2 HK1.out.lt).cell (i := 1) rfl; have hw2 := hw1.trans (hb2.mono hw1.size); have HK2 := Lib.hid (HK1.out.below hb2 HK1.out.lt); have HO2 := Lib.hid (HO1.out.below hb2 HO1.out.lt); clear hb2)
    | fail)
  have HO3 := Lib.hid HO2.out
  have HK3 := Lib.hid HK2.out
  have HW2 := Lib.hid hw2
  clear c0 c1 k1 hw1 hw2 hb HK HO HW HK1 HO1 HO2 d1 d2 d3 d4 d5 d5' g5'
  refine wp_region_mono 14 (w2.heap.size) [(fun v _ => v = .int .u8 a), (fun v _ => v = .int .i64 a), (fun v _ => v = .slice xh h.length ch), (fun v _ => v = .int .i64 h.length), (fun v _ => v = .int .i64 (h.length + 1)), (fun v _ => v = .int .i64 x), (fun v _ => v = .int .u8 b), (fun v _ => v = .int .i64 b), (fun v _ => v = .slice xh h.length ch), (fun v _ => v = .int .i64 h.length), (fun v _ => v = .int .i64 (h.length + 1)), (fun v _ => v = .int .i64 y), (fun v _ => v = .int .i64 x), (fun v _ => v = .int .i64 y)] (by kernel_rfl) (by kernel_rfl) (Nat.le_refl _) ?mkept _ rfl ?mops ?mfin
  case mkept =>
    repeat (refine List.forall_mem_cons.2 ⟨by first | exact fun _ _ _ _ h => h | exact fun _ _ _ hb h => Parts.below h hb | exact fun _ _ _ hb h => IsSl.below h hb, ?_⟩)
    exact fun _ h => by cases h
  case mops =>
    simp only [List.take_succ_cons, List.take_zero, monoAll, List.getD_cons_zero, List.getD_cons_succ]
    iterate 14
     (refine ⟨fun x wr hb hd Qg hK => ?_, ?_⟩
      · as_aux_lemma =>
        simp only [fill, Act.put, List.setIfInBounds_toArray, List.set_cons_succ, List.set_cons_zero, needs, Region.binds, List.filter_cons, List.filter_nil, List.map_cons, List.map_nil, if_true, List.mem_cons, List.not_mem_nil, or_false, forall_eq_or_imp, forall_eq, List.getD_cons_zero, List.getD_cons_succ, false_implies, implies_true] at hd hK ⊢
        (try simp only [hd] at hK ⊢)
        first
        | (fail)
        | (go_wp2_with fail; exact hK _ _ rfl (Below.refl _ _)))
    trivial
  case mfin =>
    intro z w3 hb3 hR3
    have x12 := hR3 12 (by decide)
    have x13 := hR3 13 (by decide)
    simp only [List.getD_cons_zero, List.getD_cons_succ] at x12 x13
    have HW3 := Lib.hid (HW2.out.trans (hb3.mono HW2.out.size))
    have HO4 := Lib.hid (HO3.out.below hb3 HO3.out.lt)
    have HK4 := Lib.hid (HK3.out.below hb3 HK3.out.lt)
    have ob3 := HO4.out.lt
    clear hR3 hb3 HO3 HK3 HW2 r0 r1 r1' r2 r2'
    simp only [List.drop_succ_cons, List.drop_zero]
    generalize List.toArray _ = L0
    simp only [List.take_succ_cons, List.take_zero, List.map_cons, List.map_nil, fill, Act.put, List.setIfInBounds_toArray, List.set_cons_succ, List.set_cons_zero, x12, x13]
    clear x12 x13
    go_wp2_with (first
      | (refine wpList_load_row rfl 24 (.tmp 6) rfl w.heap.size rfl 24 #[.slice xp ps.length cp, .slice xw ws.length cw, .int .i64 need] (0, 0) _ (by exact HK4.out) Tryd.underlying24 rfl (by exact keys_row _ _ _) ?_)
      | fail)
    refine (new_yes _ _ ps ws need n w3 (HA.out.hp.below HW3.out) (HA.out.hw.below HW3.out) HM.out HN.out (HA.out.hg.below HW3.out)).mono ?_
    rintro e w4 ⟨⟨g, rfl, hgs, hB4⟩, hb4⟩
    obtain ⟨w5, hw5⟩ : ∃ w5, w5 = w4.alloc (.cells [ptrV g].toArray 27) := ⟨_, rfl⟩
    have hb5 : Below w4.heap.size w4 w5 := by rw [hw5]; (repeat (first | with_reducible assumption | with_reducible exact Below.refl _ _ | ((with_reducible refine Below.setCell ?_ ?_ _); rotate_left; focus (first | omega | (simp; done) | (simp; omega))) | ((with_reducible refine Below.alloc ?_ ?_ _); rotate_left; focus (first | omega | (simp; done) | (simp; omega))) | ((with_reducible refine below_setRow ?_ ?_ _); rotate_left; focus (first | omega | (simp; done) | (simp; omega))) | (with_reducible refine below_drewN ?_ _) | (with_reducible refine Below.drew ?_)))
    have hlst : Blk w5 w4.heap.size [ptrV g] 27 := by rw [hw5]; exact Blk.newL w4 [ptrV g] _
    have hg4 := hB4.lt
    have hb45 := hb4.trans (hb5.mono hb4.size)
    have HE5 := Lib.hid (show GEnv w g (w.heap.size + 1) w4.heap.size (.slice xp ps.length cp) (.slice xw ws.length cw) h need n o 0 w5 from
      { oth := HO4.out.below hb45 ob3, lst := hlst, wit := by rw [upto_zero]; exact hB4.below hb5 hg4, old := HW3.out.trans (hb45.mono HW3.out.size), gl := by have := HW3.out.size; omega, og := by omega, gb := hg4 })
    have HW5 := Lib.hid hw5
    obtain ⟨K, c1, u1, u2, u3, hc0, hcase⟩ : ∃ (K : Nat) (c1 : Bool) (u1 u2 u3 : Value), K = (if x ≤ y then 1 else 0) ∧ ((K = 1 ∧ decide ((x : Int) ≤ y) = true ∧ decide (x ≤ y) = true ∧ c1 = true ∧ ((M : Int) == x) = false ∧ ((M : Int) == y) = true ∧ u1 = .int .i64 M ∧ u2 = .int .i64 y ∧ u3 = .bool false) ∨ (K = 1 ∧ decide ((x : Int) ≤ y) = true ∧ decide (x ≤ y) = true ∧ c1 = false ∧ ((M : Int) == x) = true ∧ True ∧ u1 = undef ∧ u2 = undef ∧ u3 = undef) ∨ (K = 0 ∧ decide ((x : Int) ≤ y) = false ∧ decide (x ≤ y) = false ∧ c1 = false ∧ ((M : Int) == x) = true ∧ True ∧ u1 = undef ∧ u2 = undef ∧ u3 = undef)) := by
      have hM2 := HM2.out
      unfold oneUp at hM2
      by_cases h1 : x ≤ y
      · rw [if_pos h1] at hM2
        by_cases h2 : x = y
        · exact ⟨1, false, undef, undef, undef, by rw [if_pos h1], .inr (.inl ⟨rfl, decide_eq_true (by omega), decide_eq_true h1, rfl, beq_iff_eq.2 (by omega), trivial, rfl, rfl, rfl⟩)⟩
        · exact ⟨1, true, _, _, _, by rw [if_pos h1], .inl ⟨rfl, decide_eq_true (by omega), decide_eq_true h1, rfl, beq_eq_false_iff_ne.2 (by omega), beq_iff_eq.2 (by omega), rfl, rfl, rfl⟩⟩
      · rw [if_neg h1] at hM2
        exact ⟨0, false, undef, undef, undef, by rw [if_neg h1], .inr (.inr ⟨rfl, decide_eq_false (by omega), decide_eq_false h1, rfl, beq_iff_eq.2 (by omega), trivial, rfl, rfl, rfl⟩)⟩
    have hMx : ¬ (M : Int) < x := by have hM2 := HM2.out; unfold oneUp at hM2; split at hM2 <;> omega
    have hMx' : ¬ M < x := by omega
    have HC0 := Lib.hid hc0
    have HCASE := Lib.hid hcase
    have HMX := Lib.hid hMx
    have HMX' := Lib.hid hMx'
    clear hw5 hb5 hlst hB4 hb4 hb45 HO4 HK4 HW3 hxl hyl hM hMl hc0 hcase hMx hMx' ob3
    go_wp2_with fail
    refine calls_world HW5.out ?_
    refine (HE5.out.collect HA.out x 1 x Rx HXL.out rfl (by unfold oneUp; rfl) HRx.out).mono ?_
    rintro e w6 ⟨a6, k6, rfl, he6, hbt6⟩
    obtain ⟨hbl6, hpt6, hsz6⟩ := lay_all w6 zpointC (pointC x Rx (.slice a6 1 k6)) 40
    obtain ⟨x6, hx6⟩ : ∃ X, X = layW w6 zpointC (pointC x Rx (.slice a6 1 k6)) 40 := ⟨_, rfl⟩
    rw [← hx6] at hbl6 hpt6 hsz6
    have HX6 := Lib.hid hx6
    have HE6 := Lib.hid (he6.below hbl6)
    have c6 := point_sigs hpt6
    clear hx6 he6 hbl6 hpt6 hsz6 hbt6 HE5 HW5
    go_wp2_with (first
      | (refine wpList_store_row rfl 40 (.tmp 16) (.tmp 77) rfl w6.heap.size (pointC x Rx (.slice a6 1 k6)).toArray rfl rfl 40 zpointC.toArray (by exact Blk.newL w6 zpointC _) (by exact point_row _ _ _) (by simp [zpointC, pointC_len]) (by exact point_one _ _ _ rfl) ?_; refine wpList_world (w' := x6) HX6.out ?_)
      | fail)
    refine (HE6.out.collect HA.out y K M Ry HYL.out HC0.out HM2.out HRy.out).mono ?_
    rintro e w7 ⟨a7, k7, rfl, he7, hbt7⟩
    obtain ⟨hbl7, hpt7, hsz7⟩ := lay_all w7 zpointC (pointC y Ry (.slice a7 K k7)) 40
    obtain ⟨x7, hx7⟩ : ∃ X, X = layW w7 zpointC (pointC y Ry (.slice a7 K k7)) 40 := ⟨_, rfl⟩
    rw [← hx7] at hbl7 hpt7 hsz7
    have HX7 := Lib.hid hx7
    have HE7 := Lib.hid (he7.below hbl7)
    have c7 := point_sigs hpt7
    have c8 : x7.cell? ⟨w4.heap.size, 0, none⟩ = some (.pointer (some ⟨g, 0, none⟩)) := HE7.out.lst.cell (i := 0) rfl
    have lg7 := HE7.out.wit.lt
    clear hx7 he7 hbl7 hpt7 hsz7 hbt7 HE6 c6
    obtain ⟨rfl, f1, f1', rfl, f2, f3, rfl, rfl, rfl⟩ | ⟨rfl, f1, f1', rfl, f2, f3, rfl, rfl, rfl⟩ | ⟨rfl, f1, f1', rfl, f2, f3, rfl, rfl, rfl⟩ := HCASE.out
    · clear HCASE
      go_wp2_with (first
        | (refine wpList_store_row rfl 40 (.tmp 17) (.tmp 86) rfl w7.heap.size (pointC y Ry (.slice a7 _ k7)).toArray rfl rfl 40 zpointC.toArray (by exact Blk.newL w7 zpointC _) (by exact point_row _ _ _) (by simp [zpointC, pointC_len]) (by exact point_one _ _ _ rfl) ?_; refine wpList_world (w' := x7) HX7.out ?_)
        | fail)
      refine (last_any g _ _ need n M RM x7 (by have h1 := HE7.out.wit; rw [show upto h M = (((M : Nat) : Int), RM) by unfold upto; rw [HRM.out]] at h1; exact h1)).mono ?_
      rintro e w8 ⟨rfl, hb8⟩
      obtain ⟨hbl8, hpt8, hsz8⟩ := lay_all w8 z32 (bytesV RM.b) 31
      obtain ⟨x8, hx8⟩ : ∃ X, X = layW w8 z32 (bytesV RM.b) 31 := ⟨_, rfl⟩
      rw [← hx8] at hbl8 hpt8 hsz8
      have hbb : Below x7.heap.size x7 x8 := hb8.trans (hbl8.mono hb8.size)
      have he8 := HE7.out.below hbb
      have HX8 := Lib.hid hx8
      have HE8 := Lib.hid he8
      have HP8 := Lib.hid hpt8
      have l8 := hpt8.lt
      have g8 := he8.gb
      have l48 := he8.lst.lt
      have HSM := Lib.hid ((hs_cut0 HA.out.hh M HML.out).below he8.old)
      have HGM := Lib.hid (HA.out.hg.below he8.old)
      have HLM := Lib.hid (show (h.take M).length = M by rw [List.length_take, Nat.min_eq_left HML.out])
      have HM60 := Lib.hid (show M ≤ 60 from Nat.le_trans HML.out HA.out.hl)
      have hMx := HMX.out
      have hMx' := HMX'.out
      have f2' : ((M : Int) != x) = !((M : Int) == x) := rfl
      rw [f2] at f2'
      have f3' : ((M : Int) != y) = false := by rw [bne, f3]; rfl
      have g78 : g < w8.heap.size := Nat.lt_of_lt_of_le lg7 hb8.size
      clear hb8 hbl8 hpt8 hx8 hsz8 hbb he8 HE7 c7 c8 lg7 HMX HMX'
      go_wp2_with (first
        | (refine wpList_store_row rfl 31 (.tmp 19) (.tmp 101) rfl w8.heap.size (bytesV RM.b).toArray rfl rfl 31 z32.toArray (by exact Blk.newL w8 z32 _) (by exact hv_row _) (by exact z32_old _) (by exact hv_one _) ?_; refine wpList_world (w' := x8) HX8.out ?_)
        | fail)
      refine wp_region_mono 21 (x8.heap.size) [(fun v _ => v = .int .i64 M), (fun v _ => v = .int .i64 x), (fun v _ => v = .bool true), (fun v _ => v = .bool true), (fun v _ => v = .int .i64 M), (fun v _ => v = .int .i64 y), (fun v _ => v = .bool false), (fun v _ => v = .bool false), (fun v _ => v = .bool false), (fun v _ => v = .int .i64 M), (fun v _ => v = .int .i64 x), (fun v _ => v = .bool false), (fun v _ => v = .bool false), (fun v _ => v = .bool false), (fun v _ => v = .agg (bytesV RM.b).toArray), (fun v _ => v = .slice xh h.length ch), (fun v _ => v = .int .i64 M), (fun v _ => v = .slice xh M ch), (fun v _ => v = .agg (bytesV RM.b).toArray), (fun v _ => v = .bool false), (fun v _ => v = .bool false)] (by kernel_rfl) (by kernel_rfl) (Nat.le_refl _) ?mkept _ rfl ?mops ?mfin
      case mkept =>
        repeat (refine List.forall_mem_cons.2 ⟨by first | exact fun _ _ _ _ h => h | exact fun _ _ _ hb h => Parts.below h hb | exact fun _ _ _ hb h => IsSl.below h hb, ?_⟩)
        exact fun _ h => by cases h
      case mops =>
        simp only [List.take_succ_cons, List.take_zero, monoAll, List.getD_cons_zero, List.getD_cons_succ]
        iterate 21
        
         (refine ⟨fun x wr hb hd Qg hK => ?_, ?_⟩
          · as_aux_lemma =>
            simp only [fill, Act.put, List.setIfInBounds_toArray, List.set_cons_succ, List.set_cons_zero, needs, Region.binds, List.filter_cons, List.filter_nil, List.map_cons, List.map_nil, if_true, List.mem_cons, List.not_mem_nil, or_false, forall_eq_or_imp, forall_eq, List.getD_cons_zero, List.getD_cons_succ, false_implies, implies_true] at hd hK ⊢
            (try simp only [hd] at hK ⊢)
            first
            | (have hBr := HP8.out.below hb (l8); refine wpList_load_rowIf rfl 31 (.tmp 19) rfl _ rfl 31 (bytesV RM.b).toArray (0, 0) _ (by exact hBr) Tryd.underlying31 rfl (hv_row RM) ?_; exact hK _ _ rfl (Below.refl _ _))
            | (show wpList _ _ _ [⟨some 120, .call _, _, _, _, _⟩] _ _; go_wp2_with (go_at_call 19; refine (root_any M _ (h.take M) wr HLM.out (by have := HM60.out; omega) (HSM.out.below hb) (HGM.out.below hb)).mono ?_; rintro e w5 ⟨rfl, hb5⟩); exact hK _ _ (by rw [← HRM.out]; rfl) hb5)
            | (go_wp2_with fail; exact hK _ _ rfl (Below.refl _ _)))
        trivial
      case mfin =>
        intro q w9 hb9 hR9
        have x20 := hR9 20 (by decide)
        simp only [List.getD_cons_zero, List.getD_cons_succ] at x20
        have HE9 := Lib.hid (HE8.out.below hb9)
        have HP9 := Lib.hid (HP8.out.below hb9 l8)
        have HSM9 := Lib.hid (HSM.out.below hb9)
        have HGM9 := Lib.hid (HGM.out.below hb9)
        clear hR9 hb9 HQ HE8 HP8 HSM HGM HX8 hMx hMx' f1 f1' f2 f3 f2' f3'
        simp only [List.drop_succ_cons, List.drop_zero]
        generalize List.toArray _ = L0
        simp only [List.take_succ_cons, List.take_zero, List.map_cons, List.map_nil, fill, Act.put, List.setIfInBounds_toArray, List.set_cons_succ, List.set_cons_zero, x20]
        clear x20
        go_wp2_with fail
        refine (prove_i (.slice xh M ch) (h.take M) M w9 (by have := HM60.out; rw [HLM.out]; omega) HSM9.out HGM9.out).mono ?_
        rintro e w10 ⟨⟨lv, rfl, hlv⟩, hb10⟩
        generalize decide (1 ≤ (M : Int) ∧ (M : Int) ≤ (h.take M).length) = dd
        rw [sub_whole h M HML.out] at hlv
        obtain ⟨pa, pc, hpe, _⟩ := hlv.form
        have hpe' : lv = .slice pa 0 pc := hpe
        subst hpe'
        have he10 := HE9.out.below hb10
        have HP10 := Lib.hid (HP9.out.below hb10 HP9.out.lt)
        have hwit := he10.wit
        rw [show upto h M = (((M : Nat) : Int), RM) by unfold upto; rw [HRM.out]] at hwit
        obtain ⟨ok, hok⟩ : ∃ b, b = askB M M RM o [] := ⟨_, rfl⟩
        obtain ⟨kk, hkk⟩ : ∃ k, k = ansN ok n := ⟨_, rfl⟩
        obtain ⟨tt, htt⟩ : ∃ t, t = ansH ok (signH ps.length ws need n M o) := ⟨_, rfl⟩
        obtain ⟨C9, hC9⟩ : ∃ C, C = witC (.slice xp ps.length cp) (.slice xw ws.length cw) need n (nowS ok M M) (nowR ok o RM) := ⟨_, rfl⟩
        obtain ⟨cc, hcc⟩ : ∃ c, c = (o.b == RM.b) := ⟨_, rfl⟩
        have hcases : (∃ b, ok = b ∧ cc = b) ∨ (M = 0 ∧ ok = true ∧ cc = false) := by
          have := ask_whole h M o HML.out HA.out.hl
          rw [← HRM.out, ← hok, ← hcc] at this
          exact this
        have HASK := Lib.hid (show ∀ wr : World, But g w10 wr → Blk wr g (witC (.slice xp ps.length cp) (.slice xw ws.length cw) need n M RM) 67 → Calls Tryd.prog 12 #[.pointer (some ⟨g, 0, none⟩), .agg (pointC M o (.slice none 0 0)).toArray, .slice pa 0 pc] wr fun e w' => e = .returned (.tuple #[.agg (sigC kk tt).toArray, .bool ok]) ∧ Blk w' g C9 67 ∧ But g wr w' from fun wr hbt hB => by
          have hwr := he10.old.trans (hbt.below he10.gl he10.old.size)
          obtain ⟨pa', wa', _⟩ := HA.out.apart he10.gl
          obtain ⟨_, _, _, m4, _, _⟩ := may_true HA.out.hm
          have := ask_all g (.slice xp ps.length cp) (.slice xw ws.length cw) ps ws need n M M RM o (.slice none 0 0) (.slice pa 0 pc) [] wr hB (HA.out.hp.below hwr) (HA.out.hw.below hwr) (by omega) hlv.any0 (by simp) (HA.out.hg.below hwr) pa' wa'
          rw [← hok] at this
          unfold ansV at this
          rw [← hkk, ← htt, ← hC9] at this
          exact this)
        have heq : ∀ w, (Op.equalIn 10000 31 (.agg (bytesV o.b).toArray) (.agg (bytesV RM.b).toArray)).run Tryd.prog w = .ok cc w := fun w => by rw [eq_hash w o.b RM.b o.len RM.len, hcc]
        have HWI := Lib.hid hwit
        have HLST := Lib.hid he10.lst
        have HOTH := Lib.hid he10.oth
        have hog := he10.og
        have hgb := he10.gb
        have HOLD := Lib.hid he10.old
        have HGL := Lib.hid he10.gl
        have HCS := Lib.hid hcases
        have l10 : w8.heap.size < w10.heap.size := HP10.out.lt
        have n8 : w8.heap.size ≠ g := by omega
        clear hlv hb10 he10 hwit hok hkk htt hC9 hcc hcases HE9 HP9 HSM9 HGM9 hpe HLM
        go_wp2_with fail
        refine wp_region_rowsG 14 (g) 7 (witC (.slice xp ps.length cp) (.slice xw ws.length cw) need n M RM) (C9) 67 [(fun v => v = .slice (some ⟨w4.heap.size, 0, none⟩) 1 1), (fun v => v = .pointer (some ⟨w4.heap.size, 0, none⟩)), (fun v => v = .pointer (some ⟨g, 0, none⟩)), (fun v => v = .int .i64 M), (fun v => v = .agg (bytesV o.b).toArray), (fun v => v = .agg (pointC M o (.slice none 0 0)).toArray), (fun v => v = .slice pa 0 pc), (fun v => v = .tuple #[.agg (sigC kk tt).toArray, .bool ok]), (fun v => v = .tuple #[.agg (sigC kk tt).toArray, .bool ok]), (fun v => v = .agg (sigC kk tt).toArray), (fun v => v = .bool ok), (fun _ => True), (fun _ => True), (fun v => v = .bool ok)] [⟨11, 12, zsigC, sigC kk tt, 35⟩] (by kernel_rfl) (by kernel_rfl) (by decide) (by exact HWI.out) (by rfl) (by rfl) _ rfl ?rops ?rfin
        case rops =>
          simp only [List.take_succ_cons, List.take_zero, rowsAllG]
          iterate 14
          
           (refine ⟨fun L x wr hL0 hL hd hJ Qg hK => ?_, ?_⟩
            · simp only [fill, Act.put, List.setIfInBounds_toArray, List.set_cons_succ, List.set_cons_zero, needs, Region.binds, List.filter_cons, List.filter_nil, List.map_cons, List.map_nil, if_true, List.mem_cons, List.not_mem_nil, or_false, forall_eq_or_imp, forall_eq, List.getD_cons_zero, List.getD_cons_succ, false_implies, implies_true] at hd hL hK ⊢
              (try simp only [hd] at hK ⊢)
              first
              | (show wpList _ _ _ [⟨some 134, .load _ _, _, _, _, _⟩] _ _; have c8 := (hJ.old.blk HLST.out (by omega)).cell (i := 0) rfl; unfold ptrV at c8; go_wp2_with fail; exact hK _ _ (hJ.const rfl rfl (Below.refl _ _)) trivial)
              | (show wpList _ _ _ [⟨some 136, .load _ _, _, _, _, _⟩] _ _; have hBr := hJ.old.blk HOTH.out (by omega); refine wpList_load_rowIf rfl 31 (.tmp 11) rfl _ rfl 31 (bytesV o.b).toArray (0, 0) _ (by exact hBr) Tryd.underlying31 rfl (hv_row o) ?_; exact hK _ _ (hJ.const rfl rfl (Below.refl _ _)) trivial)
              | (show wpList _ _ _ [⟨some 137, .build _ _, _, _, _, _⟩] _ _; refine wpList_built2 rfl 40 0 1 (.tmp 135) (.tmp 136) (.int .i64 M) (hv o) _ rfl rfl rfl (built_point M o) ?_; exact hK _ _ (hJ.const rfl rfl (Below.refl _ _)) trivial)
              | (show wpList _ _ _ [⟨some 139, .call _, _, _, _, _⟩] _ _; have hwas := hJ.was hL0; go_wp2_with (go_at_call 12; refine (HASK.out wr hJ.old hwas).mono ?_; rintro e w5 ⟨rfl, hB5, hb5⟩); exact hK _ _ (hJ.turn rfl hb5 hB5) trivial)
              | (show wpList _ _ _ [⟨some 22, .alloc _, _, _, _, _⟩] _ _; go_wp2_with fail; exact hK _ _ (hJ.alloc (List.mem_cons_self) rfl rfl hL0 rfl rfl) trivial)
              | (show wpList _ _ _ [⟨none, .store _ (.tmp 22) _, _, _, _, _⟩] _ _; obtain ⟨p, e1, e2, e3⟩ := hJ.fresh (List.mem_cons_self) (by simp only [hL]) hL0; refine wpList_store_row rfl 35 (.tmp 22) (.tmp 140) rfl p (sigC kk tt).toArray (by exact e1) (by first | rfl | simp only [hd]) 35 (zsigC).toArray (by exact e3) (by exact sig_row _ _) (by simp [zsigC, sigC_len]) (by exact sig_one _ _) ?_; exact hK undef _ (hJ.store (List.mem_cons_self) rfl rfl (by simp only [hL]) e1 rfl rfl) trivial)
              | (go_wp2_with fail; exact hK _ _ (hJ.const rfl rfl (Below.refl _ _)) trivial))
          trivial
        case rfin =>
          intro q w11 hbt hwg hR hrows hne
          have x13 := hR 13 (by decide)
          simp only [List.getD_cons_zero, List.getD_cons_succ] at x13
          have HP11 := Lib.hid (hbt.blk HP10.out n8)
          have HOT11 := Lib.hid (hbt.blk HOTH.out (by omega))
          have hwf := HOLD.out.trans (hbt.below HGL.out HOLD.out.size)
          clear hR hrows hne hwg hbt HASK HWI HLST HOTH
          simp only [List.drop_succ_cons, List.drop_zero]
          generalize List.toArray _ = L0
          simp only [List.take_succ_cons, List.take_zero, List.map_cons, List.map_nil, fill, Act.put, List.setIfInBounds_toArray, List.set_cons_succ, List.set_cons_zero, x13]
          clear x13
          rcases HCS.out with ⟨b, e1, e2⟩ | ⟨m0, e1, e2⟩
          · cases b
            all_goals
              subst e1 e2
              go_wp2_with (first
                | (refine wpList_load_row rfl 31 (.tmp 11) rfl (w.heap.size + 1) rfl 31 (bytesV o.b).toArray (0, 0) _ (by exact HOT11.out) Tryd.underlying31 rfl (by exact hv_row o) ?_)
                | (refine wpList_load_row rfl 31 (.tmp 19) rfl w8.heap.size rfl 31 (bytesV RM.b).toArray (0, 0) _ (by exact HP11.out) Tryd.underlying31 rfl (by exact hv_row RM) ?_)
                | fail)
              go_ret
              exact ⟨rfl, hwf⟩
          · have m0' : ((M : Int) == 0) = true := by rw [beq_iff_eq]; omega
            subst e1 e2
            clear m0
            go_wp2_with (first
              | (refine wpList_load_row rfl 31 (.tmp 11) rfl (w.heap.size + 1) rfl 31 (bytesV o.b).toArray (0, 0) _ (by exact HOT11.out) Tryd.underlying31 rfl (by exact hv_row o) ?_)
              | (refine wpList_load_row rfl 31 (.tmp 19) rfl w8.heap.size rfl 31 (bytesV RM.b).toArray (0, 0) _ (by exact HP11.out) Tryd.underlying31 rfl (by exact hv_row RM) ?_)
              | fail)
            go_ret
            exact ⟨rfl, hwf⟩
    · clear HCASE
      go_wp2_with (first
        | (refine wpList_store_row rfl 40 (.tmp 17) (.tmp 86) rfl w7.heap.size (pointC y Ry (.slice a7 _ k7)).toArray rfl rfl 40 zpointC.toArray (by exact Blk.newL w7 zpointC _) (by exact point_row _ _ _) (by simp [zpointC, pointC_len]) (by exact point_one _ _ _ rfl) ?_; refine wpList_world (w' := x7) HX7.out ?_)
        | fail)
      refine (last_any g _ _ need n M RM x7 (by have h1 := HE7.out.wit; rw [show upto h M = (((M : Nat) : Int), RM) by unfold upto; rw [HRM.out]] at h1; exact h1)).mono ?_
      rintro e w8 ⟨rfl, hb8⟩
      obtain ⟨hbl8, hpt8, hsz8⟩ := lay_all w8 z32 (bytesV RM.b) 31
      obtain ⟨x8, hx8⟩ : ∃ X, X = layW w8 z32 (bytesV RM.b) 31 := ⟨_, rfl⟩
      rw [← hx8] at hbl8 hpt8 hsz8
      have hbb : Below x7.heap.size x7 x8 := hb8.trans (hbl8.mono hb8.size)
      have he8 := HE7.out.below hbb
      have HX8 := Lib.hid hx8
      have HE8 := Lib.hid he8
      have HP8 := Lib.hid hpt8
      have l8 := hpt8.lt
      have g8 := he8.gb
      have l48 := he8.lst.lt
      have HSM := Lib.hid ((hs_cut0 HA.out.hh M HML.out).below he8.old)
      have HGM := Lib.hid (HA.out.hg.below he8.old)
      have HLM := Lib.hid (show (h.take M).length = M by rw [List.length_take, Nat.min_eq_left HML.out])
      have HM60 := Lib.hid (show M ≤ 60 from Nat.le_trans HML.out HA.out.hl)
      have hMx := HMX.out
      have hMx' := HMX'.out
      have f2' : ((M : Int) != x) = !((M : Int) == x) := rfl
      rw [f2] at f2'
      have f3' := trivial
      have g78 : g < w8.heap.size := Nat.lt_of_lt_of_le lg7 hb8.size
      clear hb8 hbl8 hpt8 hx8 hsz8 hbb he8 HE7 c7 c8 lg7 HMX HMX'
      go_wp2_with (first
        | (refine wpList_store_row rfl 31 (.tmp 19) (.tmp 101) rfl w8.heap.size (bytesV RM.b).toArray rfl rfl 31 z32.toArray (by exact Blk.newL w8 z32 _) (by exact hv_row _) (by exact z32_old _) (by exact hv_one _) ?_; refine wpList_world (w' := x8) HX8.out ?_)
        | fail)
      refine wp_region_mono 21 (x8.heap.size) [(fun v _ => v = .int .i64 M), (fun v _ => v = .int .i64 x), (fun v _ => v = .bool false), (fun v _ => v = .bool false), (fun v _ => v = undef), (fun v _ => v = undef), (fun v _ => v = undef), (fun v _ => v = .bool false), (fun v _ => v = .bool false), (fun v _ => v = .int .i64 M), (fun v _ => v = .int .i64 x), (fun v _ => v = .bool false), (fun v _ => v = .bool false), (fun v _ => v = .bool false), (fun v _ => v = .agg (bytesV RM.b).toArray), (fun v _ => v = .slice xh h.length ch), (fun v _ => v = .int .i64 M), (fun v _ => v = .slice xh M ch), (fun v _ => v = .agg (bytesV RM.b).toArray), (fun v _ => v = .bool false), (fun v _ => v = .bool false)] (by kernel_rfl) (by kernel_rfl) (Nat.le_refl _) ?mkept _ rfl ?mops ?mfin
      case mkept =>
        repeat (refine List.forall_mem_cons.2 ⟨by first | exact fun _ _ _ _ h => h | exact fun _ _ _ hb h => Parts.below h hb | exact fun _ _ _ hb h => IsSl.below h hb, ?_⟩)
        exact fun _ h => by cases h
      case mops =>
        simp only [List.take_succ_cons, List.take_zero, monoAll, List.getD_cons_zero, List.getD_cons_succ]
        iterate 21
        
         (refine ⟨fun x wr hb hd Qg hK => ?_, ?_⟩
          · as_aux_lemma =>
            simp only [fill, Act.put, List.setIfInBounds_toArray, List.set_cons_succ, List.set_cons_zero, needs, Region.binds, List.filter_cons, List.filter_nil, List.map_cons, List.map_nil, if_true, List.mem_cons, List.not_mem_nil, or_false, forall_eq_or_imp, forall_eq, List.getD_cons_zero, List.getD_cons_succ, false_implies, implies_true] at hd hK ⊢
            (try simp only [hd] at hK ⊢)
            first
            | (have hBr := HP8.out.below hb (l8); refine wpList_load_rowIf rfl 31 (.tmp 19) rfl _ rfl 31 (bytesV RM.b).toArray (0, 0) _ (by exact hBr) Tryd.underlying31 rfl (hv_row RM) ?_; exact hK _ _ rfl (Below.refl _ _))
            | (show wpList _ _ _ [⟨some 120, .call _, _, _, _, _⟩] _ _; go_wp2_with (go_at_call 19; refine (root_any M _ (h.take M) wr HLM.out (by have := HM60.out; omega) (HSM.out.below hb) (HGM.out.below hb)).mono ?_; rintro e w5 ⟨rfl, hb5⟩); exact hK _ _ (by rw [← HRM.out]; rfl) hb5)
            | (go_wp2_with fail; exact hK _ _ rfl (Below.refl _ _)))
        trivial
      case mfin =>
        intro q w9 hb9 hR9
        have x20 := hR9 20 (by decide)
        simp only [List.getD_cons_zero, List.getD_cons_succ] at x20
        have HE9 := Lib.hid (HE8.out.below hb9)
        have HP9 := Lib.hid (HP8.out.below hb9 l8)
        have HSM9 := Lib.hid (HSM.out.below hb9)
        have HGM9 := Lib.hid (HGM.out.below hb9)
        clear hR9 hb9 HQ HE8 HP8 HSM HGM HX8 hMx hMx' f1 f1' f2 f3 f2' f3'
        simp only [List.drop_succ_cons, List.drop_zero]
        generalize List.toArray _ = L0
        simp only [List.take_succ_cons, List.take_zero, List.map_cons, List.map_nil, fill, Act.put, List.setIfInBounds_toArray, List.set_cons_succ, List.set_cons_zero, x20]
        clear x20
        go_wp2_with fail
        refine (prove_i (.slice xh M ch) (h.take M) M w9 (by have := HM60.out; rw [HLM.out]; omega) HSM9.out HGM9.out).mono ?_
        rintro e w10 ⟨⟨lv, rfl, hlv⟩, hb10⟩
        generalize decide (1 ≤ (M : Int) ∧ (M : Int) ≤ (h.take M).length) = dd
        rw [sub_whole h M HML.out] at hlv
        obtain ⟨pa, pc, hpe, _⟩ := hlv.form
        have hpe' : lv = .slice pa 0 pc := hpe
        subst hpe'
        have he10 := HE9.out.below hb10
        have HP10 := Lib.hid (HP9.out.below hb10 HP9.out.lt)
        have hwit := he10.wit
        rw [show upto h M = (((M : Nat) : Int), RM) by unfold upto; rw [HRM.out]] at hwit
        obtain ⟨ok, hok⟩ : ∃ b, b = askB M M RM o [] := ⟨_, rfl⟩
        obtain ⟨kk, hkk⟩ : ∃ k, k = ansN ok n := ⟨_, rfl⟩
        obtain ⟨tt, htt⟩ : ∃ t, t = ansH ok (signH ps.length ws need n M o) := ⟨_, rfl⟩
        obtain ⟨C9, hC9⟩ : ∃ C, C = witC (.slice xp ps.length cp) (.slice xw ws.length cw) need n (nowS ok M M) (nowR ok o RM) := ⟨_, rfl⟩
        obtain ⟨cc, hcc⟩ : ∃ c, c = (o.b == RM.b) := ⟨_, rfl⟩
        have hcases : (∃ b, ok = b ∧ cc = b) ∨ (M = 0 ∧ ok = true ∧ cc = false) := by
          have := ask_whole h M o HML.out HA.out.hl
          rw [← HRM.out, ← hok, ← hcc] at this
          exact this
        have HASK := Lib.hid (show ∀ wr : World, But g w10 wr → Blk wr g (witC (.slice xp ps.length cp) (.slice xw ws.length cw) need n M RM) 67 → Calls Tryd.prog 12 #[.pointer (some ⟨g, 0, none⟩), .agg (pointC M o (.slice none 0 0)).toArray, .slice pa 0 pc] wr fun e w' => e = .returned (.tuple #[.agg (sigC kk tt).toArray, .bool ok]) ∧ Blk w' g C9 67 ∧ But g wr w' from fun wr hbt hB => by
          have hwr := he10.old.trans (hbt.below he10.gl he10.old.size)
          obtain ⟨pa', wa', _⟩ := HA.out.apart he10.gl
          obtain ⟨_, _, _, m4, _, _⟩ := may_true HA.out.hm
          have := ask_all g (.slice xp ps.length cp) (.slice xw ws.length cw) ps ws need n M M RM o (.slice none 0 0) (.slice pa 0 pc) [] wr hB (HA.out.hp.below hwr) (HA.out.hw.below hwr) (by omega) hlv.any0 (by simp) (HA.out.hg.below hwr) pa' wa'
          rw [← hok] at this
          unfold ansV at this
          rw [← hkk, ← htt, ← hC9] at this
          exact this)
        have heq : ∀ w, (Op.equalIn 10000 31 (.agg (bytesV o.b).toArray) (.agg (bytesV RM.b).toArray)).run Tryd.prog w = .ok cc w := fun w => by rw [eq_hash w o.b RM.b o.len RM.len, hcc]
        have HWI := Lib.hid hwit
        have HLST := Lib.hid he10.lst
        have HOTH := Lib.hid he10.oth
        have hog := he10.og
        have hgb := he10.gb
        have HOLD := Lib.hid he10.old
        have HGL := Lib.hid he10.gl
        have HCS := Lib.hid hcases
        have l10 : w8.heap.size < w10.heap.size := HP10.out.lt
        have n8 : w8.heap.size ≠ g := by omega
        clear hlv hb10 he10 hwit hok hkk htt hC9 hcc hcases HE9 HP9 HSM9 HGM9 hpe HLM
        go_wp2_with fail
        refine wp_region_rowsG 14 (g) 7 (witC (.slice xp ps.length cp) (.slice xw ws.length cw) need n M RM) (C9) 67 [(fun v => v = .slice (some ⟨w4.heap.size, 0, none⟩) 1 1), (fun v => v = .pointer (some ⟨w4.heap.size, 0, none⟩)), (fun v => v = .pointer (some ⟨g, 0, none⟩)), (fun v => v = .int .i64 M), (fun v => v = .agg (bytesV o.b).toArray), (fun v => v = .agg (pointC M o (.slice none 0 0)).toArray), (fun v => v = .slice pa 0 pc), (fun v => v = .tuple #[.agg (sigC kk tt).toArray, .bool ok]), (fun v => v = .tuple #[.agg (sigC kk tt).toArray, .bool ok]), (fun v => v = .agg (sigC kk tt).toArray), (fun v => v = .bool ok), (fun _ => True), (fun _ => True), (fun v => v = .bool ok)] [⟨11, 12, zsigC, sigC kk tt, 35⟩] (by kernel_rfl) (by kernel_rfl) (by decide) (by exact HWI.out) (by rfl) (by rfl) _ rfl ?rops ?rfin
        case rops =>
          simp only [List.take_succ_cons, List.take_zero, rowsAllG]
          iterate 14
          
           (refine ⟨fun L x wr hL0 hL hd hJ Qg hK => ?_, ?_⟩
            · simp only [fill, Act.put, List.setIfInBounds_toArray, List.set_cons_succ, List.set_cons_zero, needs, Region.binds, List.filter_cons, List.filter_nil, List.map_cons, List.map_nil, if_true, List.mem_cons, List.not_mem_nil, or_false, forall_eq_or_imp, forall_eq, List.getD_cons_zero, List.getD_cons_succ, false_implies, implies_true] at hd hL hK ⊢
              (try simp only [hd] at hK ⊢)
              first
              | (show wpList _ _ _ [⟨some 134, .load _ _, _, _, _, _⟩] _ _; have c8 := (hJ.old.blk HLST.out (by omega)).cell (i := 0) rfl; unfold ptrV at c8; go_wp2_with fail; exact hK _ _ (hJ.const rfl rfl (Below.refl _ _)) trivial)
              | (show wpList _ _ _ [⟨some 136, .load _ _, _, _, _, _⟩] _ _; have hBr := hJ.old.blk HOTH.out (by omega); refine wpList_load_rowIf rfl 31 (.tmp 11) rfl _ rfl 31 (bytesV o.b).toArray (0, 0) _ (by exact hBr) Tryd.underlying31 rfl (hv_row o) ?_; exact hK _ _ (hJ.const rfl rfl (Below.refl _ _)) trivial)
              | (show wpList _ _ _ [⟨some 137, .build _ _, _, _, _, _⟩] _ _; refine wpList_built2 rfl 40 0 1 (.tmp 135) (.tmp 136) (.int .i64 M) (hv o) _ rfl rfl rfl (built_point M o) ?_; exact hK _ _ (hJ.const rfl rfl (Below.refl _ _)) trivial)
              | (show wpList _ _ _ [⟨some 139, .call _, _, _, _, _⟩] _ _; have hwas := hJ.was hL0; go_wp2_with (go_at_call 12; refine (HASK.out wr hJ.old hwas).mono ?_; rintro e w5 ⟨rfl, hB5, hb5⟩); exact hK _ _ (hJ.turn rfl hb5 hB5) trivial)
              | (show wpList _ _ _ [⟨some 22, .alloc _, _, _, _, _⟩] _ _; go_wp2_with fail; exact hK _ _ (hJ.alloc (List.mem_cons_self) rfl rfl hL0 rfl rfl) trivial)
              | (show wpList _ _ _ [⟨none, .store _ (.tmp 22) _, _, _, _, _⟩] _ _; obtain ⟨p, e1, e2, e3⟩ := hJ.fresh (List.mem_cons_self) (by simp only [hL]) hL0; refine wpList_store_row rfl 35 (.tmp 22) (.tmp 140) rfl p (sigC kk tt).toArray (by exact e1) (by first | rfl | simp only [hd]) 35 (zsigC).toArray (by exact e3) (by exact sig_row _ _) (by simp [zsigC, sigC_len]) (by exact sig_one _ _) ?_; exact hK undef _ (hJ.store (List.mem_cons_self) rfl rfl (by simp only [hL]) e1 rfl rfl) trivial)
              | (go_wp2_with fail; exact hK _ _ (hJ.const rfl rfl (Below.refl _ _)) trivial))
          trivial
        case rfin =>
          intro q w11 hbt hwg hR hrows hne
          have x13 := hR 13 (by decide)
          simp only [List.getD_cons_zero, List.getD_cons_succ] at x13
          have HP11 := Lib.hid (hbt.blk HP10.out n8)
          have HOT11 := Lib.hid (hbt.blk HOTH.out (by omega))
          have hwf := HOLD.out.trans (hbt.below HGL.out HOLD.out.size)
          clear hR hrows hne hwg hbt HASK HWI HLST HOTH
          simp only [List.drop_succ_cons, List.drop_zero]
          generalize List.toArray _ = L0
          simp only [List.take_succ_cons, List.take_zero, List.map_cons, List.map_nil, fill, Act.put, List.setIfInBounds_toArray, List.set_cons_succ, List.set_cons_zero, x13]
          clear x13
          rcases HCS.out with ⟨b, e1, e2⟩ | ⟨m0, e1, e2⟩
          · cases b
            all_goals
              subst e1 e2
              go_wp2_with (first
                | (refine wpList_load_row rfl 31 (.tmp 11) rfl (w.heap.size + 1) rfl 31 (bytesV o.b).toArray (0, 0) _ (by exact HOT11.out) Tryd.underlying31 rfl (by exact hv_row o) ?_)
                | (refine wpList_load_row rfl 31 (.tmp 19) rfl w8.heap.size rfl 31 (bytesV RM.b).toArray (0, 0) _ (by exact HP11.out) Tryd.underlying31 rfl (by exact hv_row RM) ?_)
                | fail)
              go_ret
              exact ⟨rfl, hwf⟩
          · have m0' : ((M : Int) == 0) = true := by rw [beq_iff_eq]; omega
            subst e1 e2
            clear m0
            go_wp2_with (first
              | (refine wpList_load_row rfl 31 (.tmp 11) rfl (w.heap.size + 1) rfl 31 (bytesV o.b).toArray (0, 0) _ (by exact HOT11.out) Tryd.underlying31 rfl (by exact hv_row o) ?_)
              | (refine wpList_load_row rfl 31 (.tmp 19) rfl w8.heap.size rfl 31 (bytesV RM.b).toArray (0, 0) _ (by exact HP11.out) Tryd.underlying31 rfl (by exact hv_row RM) ?_)
              | fail)
            go_ret
            exact ⟨rfl, hwf⟩
    · clear HCASE
      go_wp2_with (first
        | (refine wpList_store_row rfl 40 (.tmp 17) (.tmp 86) rfl w7.heap.size (pointC y Ry (.slice a7 _ k7)).toArray rfl rfl 40 zpointC.toArray (by exact Blk.newL w7 zpointC _) (by exact point_row _ _ _) (by simp [zpointC, pointC_len]) (by exact point_one _ _ _ rfl) ?_; refine wpList_world (w' := x7) HX7.out ?_)
        | fail)
      refine (last_any g _ _ need n M RM x7 (by have h1 := HE7.out.wit; rw [show upto h M = (((M : Nat) : Int), RM) by unfold upto; rw [HRM.out]] at h1; exact h1)).mono ?_
      rintro e w8 ⟨rfl, hb8⟩
      obtain ⟨hbl8, hpt8, hsz8⟩ := lay_all w8 z32 (bytesV RM.b) 31
      obtain ⟨x8, hx8⟩ : ∃ X, X = layW w8 z32 (bytesV RM.b) 31 := ⟨_, rfl⟩
      rw [← hx8] at hbl8 hpt8 hsz8
      have hbb : Below x7.heap.size x7 x8 := hb8.trans (hbl8.mono hb8.size)
      have he8 := HE7.out.below hbb
      have HX8 := Lib.hid hx8
      have HE8 := Lib.hid he8
      have HP8 := Lib.hid hpt8
      have l8 := hpt8.lt
      have g8 := he8.gb
      have l48 := he8.lst.lt
      have HSM := Lib.hid ((hs_cut0 HA.out.hh M HML.out).below he8.old)
      have HGM := Lib.hid (HA.out.hg.below he8.old)
      have HLM := Lib.hid (show (h.take M).length = M by rw [List.length_take, Nat.min_eq_left HML.out])
      have HM60 := Lib.hid (show M ≤ 60 from Nat.le_trans HML.out HA.out.hl)
      have hMx := HMX.out
      have hMx' := HMX'.out
      have f2' : ((M : Int) != x) = !((M : Int) == x) := rfl
      rw [f2] at f2'
      have f3' := trivial
      have g78 : g < w8.heap.size := Nat.lt_of_lt_of_le lg7 hb8.size
      clear hb8 hbl8 hpt8 hx8 hsz8 hbb he8 HE7 c7 c8 lg7 HMX HMX'
      go_wp2_with (first
        | (refine wpList_store_row rfl 31 (.tmp 19) (.tmp 101) rfl w8.heap.size (bytesV RM.b).toArray rfl rfl 31 z32.toArray (by exact Blk.newL w8 z32 _) (by exact hv_row _) (by exact z32_old _) (by exact hv_one _) ?_; refine wpList_world (w' := x8) HX8.out ?_)
        | fail)
      refine wp_region_mono 21 (x8.heap.size) [(fun v _ => v = .int .i64 M), (fun v _ => v = .int .i64 x), (fun v _ => v = .bool false), (fun v _ => v = .bool false), (fun v _ => v = undef), (fun v _ => v = undef), (fun v _ => v = undef), (fun v _ => v = .bool false), (fun v _ => v = .bool false), (fun v _ => v = .int .i64 M), (fun v _ => v = .int .i64 x), (fun v _ => v = .bool false), (fun v _ => v = .bool false), (fun v _ => v = .bool false), (fun v _ => v = .agg (bytesV RM.b).toArray), (fun v _ => v = .slice xh h.length ch), (fun v _ => v = .int .i64 M), (fun v _ => v = .slice xh M ch), (fun v _ => v = .agg (bytesV RM.b).toArray), (fun v _ => v = .bool false), (fun v _ => v = .bool false)] (by kernel_rfl) (by kernel_rfl) (Nat.le_refl _) ?mkept _ rfl ?mops ?mfin
      case mkept =>
        repeat (refine List.forall_mem_cons.2 ⟨by first | exact fun _ _ _ _ h => h | exact fun _ _ _ hb h => Parts.below h hb | exact fun _ _ _ hb h => IsSl.below h hb, ?_⟩)
        exact fun _ h => by cases h
      case mops =>
        simp only [List.take_succ_cons, List.take_zero, monoAll, List.getD_cons_zero, List.getD_cons_succ]
        iterate 21
        
         (refine ⟨fun x wr hb hd Qg hK => ?_, ?_⟩
          · as_aux_lemma =>
            simp only [fill, Act.put, List.setIfInBounds_toArray, List.set_cons_succ, List.set_cons_zero, needs, Region.binds, List.filter_cons, List.filter_nil, List.map_cons, List.map_nil, if_true, List.mem_cons, List.not_mem_nil, or_false, forall_eq_or_imp, forall_eq, List.getD_cons_zero, List.getD_cons_succ, false_implies, implies_true] at hd hK ⊢
            (try simp only [hd] at hK ⊢)
            first
            | (have hBr := HP8.out.below hb (l8); refine wpList_load_rowIf rfl 31 (.tmp 19) rfl _ rfl 31 (bytesV RM.b).toArray (0, 0) _ (by exact hBr) Tryd.underlying31 rfl (hv_row RM) ?_; exact hK _ _ rfl (Below.refl _ _))
            | (show wpList _ _ _ [⟨some 120, .call _, _, _, _, _⟩] _ _; go_wp2_with (go_at_call 19; refine (root_any M _ (h.take M) wr HLM.out (by have := HM60.out; omega) (HSM.out.below hb) (HGM.out.below hb)).mono ?_; rintro e w5 ⟨rfl, hb5⟩); exact hK _ _ (by rw [← HRM.out]; rfl) hb5)
            | (go_wp2_with fail; exact hK _ _ rfl (Below.refl _ _)))
        trivial
      case mfin =>
        intro q w9 hb9 hR9
        have x20 := hR9 20 (by decide)
        simp only [List.getD_cons_zero, List.getD_cons_succ] at x20
        have HE9 := Lib.hid (HE8.out.below hb9)
        have HP9 := Lib.hid (HP8.out.below hb9 l8)
        have HSM9 := Lib.hid (HSM.out.below hb9)
        have HGM9 := Lib.hid (HGM.out.below hb9)
        clear hR9 hb9 HQ HE8 HP8 HSM HGM HX8 hMx hMx' f1 f1' f2 f3 f2' f3'
        simp only [List.drop_succ_cons, List.drop_zero]
        generalize List.toArray _ = L0
        simp only [List.take_succ_cons, List.take_zero, List.map_cons, List.map_nil, fill, Act.put, List.setIfInBounds_toArray, List.set_cons_succ, List.set_cons_zero, x20]
        clear x20
        go_wp2_with fail
        refine (prove_i (.slice xh M ch) (h.take M) M w9 (by have := HM60.out; rw [HLM.out]; omega) HSM9.out HGM9.out).mono ?_
        rintro e w10 ⟨⟨lv, rfl, hlv⟩, hb10⟩
        generalize decide (1 ≤ (M : Int) ∧ (M : Int) ≤ (h.take M).length) = dd
        rw [sub_whole h M HML.out] at hlv
        obtain ⟨pa, pc, hpe, _⟩ := hlv.form
        have hpe' : lv = .slice pa 0 pc := hpe
        subst hpe'
        have he10 := HE9.out.below hb10
        have HP10 := Lib.hid (HP9.out.below hb10 HP9.out.lt)
        have hwit := he10.wit
        rw [show upto h M = (((M : Nat) : Int), RM) by unfold upto; rw [HRM.out]] at hwit
        obtain ⟨ok, hok⟩ : ∃ b, b = askB M M RM o [] := ⟨_, rfl⟩
        obtain ⟨kk, hkk⟩ : ∃ k, k = ansN ok n := ⟨_, rfl⟩
        obtain ⟨tt, htt⟩ : ∃ t, t = ansH ok (signH ps.length ws need n M o) := ⟨_, rfl⟩
        obtain ⟨C9, hC9⟩ : ∃ C, C = witC (.slice xp ps.length cp) (.slice xw ws.length cw) need n (nowS ok M M) (nowR ok o RM) := ⟨_, rfl⟩
        obtain ⟨cc, hcc⟩ : ∃ c, c = (o.b == RM.b) := ⟨_, rfl⟩
        have hcases : (∃ b, ok = b ∧ cc = b) ∨ (M = 0 ∧ ok = true ∧ cc = false) := by
          have := ask_whole h M o HML.out HA.out.hl
          rw [← HRM.out, ← hok, ← hcc] at this
          exact this
        have HASK := Lib.hid (show ∀ wr : World, But g w10 wr → Blk wr g (witC (.slice xp ps.length cp) (.slice xw ws.length cw) need n M RM) 67 → Calls Tryd.prog 12 #[.pointer (some ⟨g, 0, none⟩), .agg (pointC M o (.slice none 0 0)).toArray, .slice pa 0 pc] wr fun e w' => e = .returned (.tuple #[.agg (sigC kk tt).toArray, .bool ok]) ∧ Blk w' g C9 67 ∧ But g wr w' from fun wr hbt hB => by
          have hwr := he10.old.trans (hbt.below he10.gl he10.old.size)
          obtain ⟨pa', wa', _⟩ := HA.out.apart he10.gl
          obtain ⟨_, _, _, m4, _, _⟩ := may_true HA.out.hm
          have := ask_all g (.slice xp ps.length cp) (.slice xw ws.length cw) ps ws need n M M RM o (.slice none 0 0) (.slice pa 0 pc) [] wr hB (HA.out.hp.below hwr) (HA.out.hw.below hwr) (by omega) hlv.any0 (by simp) (HA.out.hg.below hwr) pa' wa'
          rw [← hok] at this
          unfold ansV at this
          rw [← hkk, ← htt, ← hC9] at this
          exact this)
        have heq : ∀ w, (Op.equalIn 10000 31 (.agg (bytesV o.b).toArray) (.agg (bytesV RM.b).toArray)).run Tryd.prog w = .ok cc w := fun w => by rw [eq_hash w o.b RM.b o.len RM.len, hcc]
        have HWI := Lib.hid hwit
        have HLST := Lib.hid he10.lst
        have HOTH := Lib.hid he10.oth
        have hog := he10.og
        have hgb := he10.gb
        have HOLD := Lib.hid he10.old
        have HGL := Lib.hid he10.gl
        have HCS := Lib.hid hcases
        have l10 : w8.heap.size < w10.heap.size := HP10.out.lt
        have n8 : w8.heap.size ≠ g := by omega
        clear hlv hb10 he10 hwit hok hkk htt hC9 hcc hcases HE9 HP9 HSM9 HGM9 hpe HLM
        go_wp2_with fail
        refine wp_region_rowsG 14 (g) 7 (witC (.slice xp ps.length cp) (.slice xw ws.length cw) need n M RM) (C9) 67 [(fun v => v = .slice (some ⟨w4.heap.size, 0, none⟩) 1 1), (fun v => v = .pointer (some ⟨w4.heap.size, 0, none⟩)), (fun v => v = .pointer (some ⟨g, 0, none⟩)), (fun v => v = .int .i64 M), (fun v => v = .agg (bytesV o.b).toArray), (fun v => v = .agg (pointC M o (.slice none 0 0)).toArray), (fun v => v = .slice pa 0 pc), (fun v => v = .tuple #[.agg (sigC kk tt).toArray, .bool ok]), (fun v => v = .tuple #[.agg (sigC kk tt).toArray, .bool ok]), (fun v => v = .agg (sigC kk tt).toArray), (fun v => v = .bool ok), (fun _ => True), (fun _ => True), (fun v => v = .bool ok)] [⟨11, 12, zsigC, sigC kk tt, 35⟩] (by kernel_rfl) (by kernel_rfl) (by decide) (by exact HWI.out) (by rfl) (by rfl) _ rfl ?rops ?rfin
        case rops =>
          simp only [List.take_succ_cons, List.take_zero, rowsAllG]
          iterate 14
          
           (refine ⟨fun L x wr hL0 hL hd hJ Qg hK => ?_, ?_⟩
            · simp only [fill, Act.put, List.setIfInBounds_toArray, List.set_cons_succ, List.set_cons_zero, needs, Region.binds, List.filter_cons, List.filter_nil, List.map_cons, List.map_nil, if_true, List.mem_cons, List.not_mem_nil, or_false, forall_eq_or_imp, forall_eq, List.getD_cons_zero, List.getD_cons_succ, false_implies, implies_true] at hd hL hK ⊢
              (try simp only [hd] at hK ⊢)
              first
              | (show wpList _ _ _ [⟨some 134, .load _ _, _, _, _, _⟩] _ _; have c8 := (hJ.old.blk HLST.out (by omega)).cell (i := 0) rfl; unfold ptrV at c8; go_wp2_with fail; exact hK _ _ (hJ.const rfl rfl (Below.refl _ _)) trivial)
              | (show wpList _ _ _ [⟨some 136, .load _ _, _, _, _, _⟩] _ _; have hBr := hJ.old.blk HOTH.out (by omega); refine wpList_load_rowIf rfl 31 (.tmp 11) rfl _ rfl 31 (bytesV o.b).toArray (0, 0) _ (by exact hBr) Tryd.underlying31 rfl (hv_row o) ?_; exact hK _ _ (hJ.const rfl rfl (Below.refl _ _)) trivial)
              | (show wpList _ _ _ [⟨some 137, .build _ _, _, _, _, _⟩] _ _; refine wpList_built2 rfl 40 0 1 (.tmp 135) (.tmp 136) (.int .i64 M) (hv o) _ rfl rfl rfl (built_point M o) ?_; exact hK _ _ (hJ.const rfl rfl (Below.refl _ _)) trivial)
              | (show wpList _ _ _ [⟨some 139, .call _, _, _, _, _⟩] _ _; have hwas := hJ.was hL0; go_wp2_with (go_at_call 12; refine (HASK.out wr hJ.old hwas).mono ?_; rintro e w5 ⟨rfl, hB5, hb5⟩); exact hK _ _ (hJ.turn rfl hb5 hB5) trivial)
              | (show wpList _ _ _ [⟨some 22, .alloc _, _, _, _, _⟩] _ _; go_wp2_with fail; exact hK _ _ (hJ.alloc (List.mem_cons_self) rfl rfl hL0 rfl rfl) trivial)
              | (show wpList _ _ _ [⟨none, .store _ (.tmp 22) _, _, _, _, _⟩] _ _; obtain ⟨p, e1, e2, e3⟩ := hJ.fresh (List.mem_cons_self) (by simp only [hL]) hL0; refine wpList_store_row rfl 35 (.tmp 22) (.tmp 140) rfl p (sigC kk tt).toArray (by exact e1) (by first | rfl | simp only [hd]) 35 (zsigC).toArray (by exact e3) (by exact sig_row _ _) (by simp [zsigC, sigC_len]) (by exact sig_one _ _) ?_; exact hK undef _ (hJ.store (List.mem_cons_self) rfl rfl (by simp only [hL]) e1 rfl rfl) trivial)
              | (go_wp2_with fail; exact hK _ _ (hJ.const rfl rfl (Below.refl _ _)) trivial))
          trivial
        case rfin =>
          intro q w11 hbt hwg hR hrows hne
          have x13 := hR 13 (by decide)
          simp only [List.getD_cons_zero, List.getD_cons_succ] at x13
          have HP11 := Lib.hid (hbt.blk HP10.out n8)
          have HOT11 := Lib.hid (hbt.blk HOTH.out (by omega))
          have hwf := HOLD.out.trans (hbt.below HGL.out HOLD.out.size)
          clear hR hrows hne hwg hbt HASK HWI HLST HOTH
          simp only [List.drop_succ_cons, List.drop_zero]
          generalize List.toArray _ = L0
          simp only [List.take_succ_cons, List.take_zero, List.map_cons, List.map_nil, fill, Act.put, List.setIfInBounds_toArray, List.set_cons_succ, List.set_cons_zero, x13]
          clear x13
          rcases HCS.out with ⟨b, e1, e2⟩ | ⟨m0, e1, e2⟩
          · cases b
            all_goals
              subst e1 e2
              go_wp2_with (first
                | (refine wpList_load_row rfl 31 (.tmp 11) rfl (w.heap.size + 1) rfl 31 (bytesV o.b).toArray (0, 0) _ (by exact HOT11.out) Tryd.underlying31 rfl (by exact hv_row o) ?_)
                | (refine wpList_load_row rfl 31 (.tmp 19) rfl w8.heap.size rfl 31 (bytesV RM.b).toArray (0, 0) _ (by exact HP11.out) Tryd.underlying31 rfl (by exact hv_row RM) ?_)
                | fail)
              go_ret
              exact ⟨rfl, hwf⟩
          · have m0' : ((M : Int) == 0) = true := by rw [beq_iff_eq]; omega
            subst e1 e2
            clear m0
            go_wp2_with (first
              | (refine wpList_load_row rfl 31 (.tmp 11) rfl (w.heap.size + 1) rfl 31 (bytesV o.b).toArray (0, 0) _ (by exact HOT11.out) Tryd.underlying31 rfl (by exact hv_row o) ?_)
              | (refine wpList_load_row rfl 31 (.tmp 19) rfl w8.heap.size rfl 31 (bytesV RM.b).toArray (0, 0) _ (by exact HP11.out) Tryd.underlying31 rfl (by exact hv_row RM) ?_)
              | fail)
            go_ret
            exact ⟨rfl, hwf⟩
end Go.Proofs.YtldokkbfahobgaaDoor
