/- The law WitnessCollects, walked. Conditions: what each part says. -/
import Derived.Test.YtldokkbfahobgaaDoorNoneW
import Derived.Test.YtldokkbfahobgaaDoorPairL
import Derived.Test.YtldokkbfahobgaaDoorHashP
/-! LawWCollects: The law WitnessCollects, walked. Conditions: the keys, the list and the bytes can be read; the package's tables read as they are laid. -/
namespace Go.Proofs.YtldokkbfahobgaaDoor
open Go.RowKit

theorem hs_cut1 {w : World} {xa : Option Addr} {ca : Nat} {l : List H} (h : Hs w (.slice xa l.length ca) l) (n : Nat) (hl : n ≤ l.length) : Hs w (.slice xa n ca) (l.take n) := by
  rcases Nat.eq_zero_or_pos n with rfl | h0
  · rw [List.take_zero]
    obtain ⟨_, _, h3⟩ := h
    refine ⟨rfl, (fun u hu => by cases hu), ?_⟩
    rcases h3 with ⟨e, _⟩ | ⟨ad, cap, e, hc, _⟩
    · injection e with e1 _ e3
      subst e1 e3
      exact .inl ⟨rfl, rfl⟩
    · cases e
      exact .inr ⟨ad, ca, rfl, by simp, fun j u hu => by simp [bytesV, hflat] at hu⟩
  · exact hs_cut h n h0 hl
theorem info_refwit : (Tryd.prog.info? 41).map (fun i => (i.zero, i.size, i.bytes)) = some (some (.pointer none), 1, 8) := by kernel_rfl
/-- The other list beside one that grows. -/
theorem Made.beside {w0 W W1 W3 : World} {pv wv : Value} {need : Int} {eP eW eP' eW' : TypeId} {lv rv : Value} {gs gr : List Nat} {g : Nat} (h : Made w0 W pv wv need eP eW lv gs) (h' : Made w0 W pv wv need eP' eW' rv gr) (h1 : eP ≠ eP') (h2 : eP ≠ eW') (hb : Below W.heap.size W W1) (hgr : (W1.alloc (.cells [ptrV g].toArray eP)).grownBy W3 lv.ownBlock) : Made w0 W3 pv wv need eP' eW' rv gr := by
  have k := (h.below hb).below (W' := W1.alloc (.cells [ptrV g].toArray eP)) ((Below.refl _ _).alloc (Nat.le_refl _) _)
  have k' := (h'.below hb).below (W' := W1.alloc (.cells [ptrV g].toArray eP)) ((Below.refl _ _).alloc (Nat.le_refl _) _)
  refine k'.grown hgr h.base (own_two k.own k'.own h1) (fun x hx => ?_)
  obtain ⟨j, hj⟩ := List.mem_iff_getElem?.1 hx
  exact own_ne k.own (k'.wit j x hj).2 h2
/-- A byte of a text. -/
theorem byte_elem {w : World} {a : Option Addr} {n c i : Nat} {l : List UInt8} {x : UInt8} (h : IsSl w (.slice a n c) 1 n (bytesV l)) (hi : i < n) (hx : l[i]? = some x) : ∃ b off, a = some ⟨b, off, none⟩ ∧ b < w.heap.size ∧ w.cell? ⟨b, off + i, none⟩ = some (.int .u8 x.toNat) := by
  obtain ⟨b, off, cap, e, _, hr, hb⟩ := h.pos (by omega) (by decide)
  cases e
  exact ⟨b, off, rfl, hb, hr i _ (by unfold bytesV; rw [List.getElem?_map, hx]; rfl)⟩
set_option maxRecDepth 100000 in
set_option maxHeartbeats 4000000 in
theorem wcoll_no (pv wv hsv : Value) (ps ws h : List H) (need : Int) (xs xm : Option Addr) (N cs M cm : Nat) (w : World) (hp : Hs w pv ps) (hw : Hs w wv ws) (hh : Hs w hsv h) (hg : Glob w) (hno : ps.length ≤ 20 → ws.length ≤ 20 → h.length ≤ 60 → N ≤ 12 → mayB ps.length ws.length need = true → False) :
    Calls Tryd.prog 4 #[keysV pv wv need, hsv, .slice xs N cs, .slice xm M cm] w fun e w' => e = .returned (.bool true) ∧ Below w.heap.size w w' := by
  obtain ⟨xp, cp, rfl, _⟩ := hp.form
  obtain ⟨xw, cw, rfl, _⟩ := hw.form
  obtain ⟨xh, ch, rfl, _⟩ := hh.form
  obtain ⟨W, hW⟩ : ∃ W, W = w.alloc (.cells #[.slice xp ps.length cp, .slice xw ws.length cw, .int .i64 need] 24) := ⟨_, rfl⟩
  have hb : Below w.heap.size w W := by rw [hW]; (repeat (first | with_reducible assumption | with_reducible exact Below.refl _ _ | ((with_reducible refine Below.setCell ?_ ?_ _); rotate_left; focus (first | omega | (simp; done) | (simp; omega))) | ((with_reducible refine Below.alloc ?_ ?_ _); rotate_left; focus (first | omega | (simp; done) | (simp; omega))) | ((with_reducible refine below_setRow ?_ ?_ _); rotate_left; focus (first | omega | (simp; done) | (simp; omega))) | (with_reducible refine below_drewN ?_ _) | (with_reducible refine Below.drew ?_)))
  have hK : Blk W w.heap.size [.slice xp ps.length cp, .slice xw ws.length cw, .int .i64 need] 24 := by rw [hW]; exact Blk.newL w [_, _, _] _
  have HP := Lib.hid (hp.below hb)
  have HWs := Lib.hid (hw.below hb)
  have HK := Lib.hid hK
  have HG := Lib.hid (hg.below hb)
  have HW := Lib.hid hW
  obtain ⟨A, hA⟩ : ∃ A, A = mayB ps.length ws.length need := ⟨_, rfl⟩
  rw [← hA] at hno
  have HA := Lib.hid hA
  have hcase : (20 : Int) < ps.length ∨ (¬ (20 : Int) < ps.length ∧ (20 : Int) < ws.length) ∨ (¬ (20 : Int) < ps.length ∧ ¬ (20 : Int) < ws.length ∧ (60 : Int) < h.length) ∨ (¬ (20 : Int) < ps.length ∧ ¬ (20 : Int) < ws.length ∧ ¬ (60 : Int) < h.length ∧ (12 : Int) < N) ∨ (¬ (20 : Int) < ps.length ∧ ¬ (20 : Int) < ws.length ∧ ¬ (60 : Int) < h.length ∧ ¬ (12 : Int) < N ∧ A = false) := by
    by_cases h1 : (20 : Int) < ps.length
    · exact .inl h1
    by_cases h2 : (20 : Int) < ws.length
    · exact .inr (.inl ⟨h1, h2⟩)
    by_cases h3 : (60 : Int) < h.length
    · exact .inr (.inr (.inl ⟨h1, h2, h3⟩))
    by_cases h4 : (12 : Int) < N
    · exact .inr (.inr (.inr (.inl ⟨h1, h2, h3, h4⟩)))
    have hno := hno (by omega) (by omega) (by omega) (by omega)
    cases A
    · exact .inr (.inr (.inr (.inr ⟨h1, h2, h3, h4, rfl⟩)))
    · exact (hno rfl).elim
  clear hp hw hh hg hK hA hW hno
  unfold keysV
  rcases hcase with h1 | ⟨h1, h2⟩ | ⟨h1, h2, h3⟩ | ⟨h1, h2, h3, h4⟩ | ⟨h1, h2, h3, h4, rfl⟩
  all_goals
    (try have d1 := decide_eq_true h1)
    (try have d1 := decide_eq_false h1)
    (try have d2 := decide_eq_true h2)
    (try have d2 := decide_eq_false h2)
    (try have d3 := decide_eq_true h3)
    (try have d3 := decide_eq_false h3)
    (try have d4 := decide_eq_true h4)
    (try have d4 := decide_eq_false h4)
    go_enter Tryd.func4, Tryd.ntmps4
    go_wp2_with (first
      | (go_at_call 8; refine calls_eq HW.out ((alive16_any W HG.out).mono ?_); rintro e w1 ⟨rfl, hb1⟩; have hw1 := hb.trans (hb1.mono hb.size); have hK1 := HK.out.below hb1 HK.out.lt; have c0 := hK1.cell (i := 0) rfl; have c1 := hK1.cell (i := 1) rfl; have HK1 := Lib.hid hK1; have HP1 := Lib.hid (HP.out.below hb1); have HW1 := Lib.hid (HWs.out.below hb1); clear hb1 hK1)
      | (refine wpList_load_rowIf rfl 24 (.tmp 4) rfl w.heap.size rfl 24 #[.slice xp ps.length cp, .slice xw ws.length cw, .int .i64 need] (0, 0) _ (by exact HK1.out) Tryd.underlying24 rfl (by exact keys_row _ _ _) ?_)
      | (go_at_call 10; refine (refmay_any _ _ ps ws need w1 HP1.out HW1.out).mono ?_; rintro e w2 ⟨rfl, hb2⟩; rw [← HA.out]; have hw2 := hw1.trans (hb2.mono hw1.size); clear hb2)
      | fail)
    go_ret
    first
      | exact ⟨rfl, hw2⟩
      | exact ⟨rfl, hw1⟩
set_option maxRecDepth 100000 in
set_option maxHeartbeats 8000000 in
theorem wcoll_yes (pv wv hsv : Value) (ps ws h : List H) (need : Int) (xs xm : Option Addr) (cs cm : Nat) (sl ml : List UInt8) (w : World) (hp : Hs w pv ps) (hw : Hs w wv ws) (hh : Hs w hsv h) (hg : Glob w) (hsz : Bytes w (.slice xs sl.length cs) sl) (hmk : Bytes w (.slice xm ml.length cm) ml) (hl : h.length ≤ 60) (hs12 : sl.length ≤ 12) (hm : mayB ps.length ws.length need = true) :
    Calls Tryd.prog 4 #[keysV pv wv need, hsv, .slice xs sl.length cs, .slice xm ml.length cm] w fun e w' => e = .returned (.bool true) ∧ Below w.heap.size w w' := by
  obtain ⟨xp, cp, rfl, _⟩ := hp.form
  obtain ⟨xw, cw, rfl, _⟩ := hw.form
  obtain ⟨xh, ch, rfl, hch⟩ := hh.form
  obtain ⟨W, hW⟩ : ∃ W, W = w.alloc (.cells #[.slice xp ps.length cp, .slice xw ws.length cw, .int .i64 need] 24) := ⟨_, rfl⟩
  have hb : Below w.heap.size w W := by rw [hW]; (repeat (first | with_reducible assumption | with_reducible exact Below.refl _ _ | ((with_reducible refine Below.setCell ?_ ?_ _); rotate_left; focus (first | omega | (simp; done) | (simp; omega))) | ((with_reducible refine Below.alloc ?_ ?_ _); rotate_left; focus (first | omega | (simp; done) | (simp; omega))) | ((with_reducible refine below_setRow ?_ ?_ _); rotate_left; focus (first | omega | (simp; done) | (simp; omega))) | (with_reducible refine below_drewN ?_ _) | (with_reducible refine Below.drew ?_)))
  have hK : Blk W w.heap.size [.slice xp ps.length cp, .slice xw ws.length cw, .int .i64 need] 24 := by rw [hW]; exact Blk.newL w [_, _, _] _
  obtain ⟨mp0, mp, mw0, mw, _, _⟩ := may_true hm
  obtain ⟨i0, hi, hz0, hz1, hz2⟩ := info_parts info_wit
  obtain ⟨i1, hi1, hy0, hy1, hy2⟩ := info_parts info_refwit
  have HP := Lib.hid hp
  have HWs := Lib.hid hw
  have HH := Lib.hid hh
  have HG := Lib.hid hg
  have HK := Lib.hid hK
  have HW := Lib.hid hW
  have HM := Lib.hid hm
  have HSZ := Lib.hid hsz
  have HMK := Lib.hid hmk
  have HL60 := Lib.hid hl
  have g1 : ¬ (20 : Int) < ps.length := by omega
  have g2 : ¬ (20 : Int) < ws.length := by omega
  have g3 : ¬ (60 : Int) < h.length := by omega
  have g4 : ¬ (12 : Int) < sl.length := by omega
  have d1 := decide_eq_false g1
  have d2 := decide_eq_false g2
  have d3 := decide_eq_false g3
  have d4 := decide_eq_false g4
  clear hp hw hh hg hK hW hm hsz hmk
  unfold keysV
  go_enter Tryd.func4, Tryd.ntmps4
  go_wp2_with (first
    | (go_at_call 8; refine calls_eq HW.out ((alive16_any W (HG.out.below hb)).mono ?_); rintro e w1 ⟨rfl, hb1⟩; have hw1 := hb.trans (hb1.mono hb.size); have hK1 := HK.out.below hb1 HK.out.lt; have c0 := hK1.cell (i := 0) rfl; have c1 := hK1.cell (i := 1) rfl; have HK1 := Lib.hid hK1; clear hb1 hK1)
    | (refine wpList_load_rowIf rfl 24 (.tmp 4) rfl w.heap.size rfl 24 #[.slice xp ps.length cp, .slice xw ws.length cw, .int .i64 need] (0, 0) _ (by exact HK1.out) Tryd.underlying24 rfl (by exact keys_row _ _ _) ?_)
    | (go_at_call 10; refine (refmay_any _ _ ps ws need w1 (HP.out.below hw1) (HWs.out.below hw1)).mono ?_; rintro e w2 ⟨rfl, hb2⟩; rw [HM.out]; have hw2 := hw1.trans (hb2.mono hw1.size); have HK2 := Lib.hid (HK1.out.below hb2 HK1.out.lt); clear hb2)
    | fail)
  have HW2 := Lib.hid hw2
  clear c0 c1 hw1 hw2 HK1 hb HK HW d1 d2 d3 d4 g1 g2 g3 g4
  go_loopw [9, 10, 11] (fun lv rv iv wr => ∃ (n : Nat) (gs gr : List Nat) (la ra : Option Addr) (lc rc : Nat), iv = .int .i64 n ∧ n ≤ ws.length ∧ gs.length = n ∧ gr.length = n ∧ lv = .slice la n lc ∧ rv = .slice ra n rc ∧ Made w wr (.slice xp ps.length cp) (.slice xw ws.length cw) need 27 67 (.slice la n lc) gs ∧ Made w wr (.slice xp ps.length cp) (.slice xw ws.length cw) need 41 46 (.slice ra n rc) gr ∧ Blk wr w.heap.size [.slice xp ps.length cp, .slice xw ws.length cw, .int .i64 need] 24) (fun _ _ iv _ => ws.length - (intOf iv).toNat)
  case atStart => exact ⟨0, [], [], none, none, 0, 0, rfl, by omega, rfl, rfl, rfl, rfl, Made.nil HW2.out, Made.nil HW2.out, HK2.out⟩
  case round =>
    obtain ⟨n, gs, gr, la, ra, lc, rc, rfl, hnw, hn1, hn2, rfl, rfl, hmade, hmader, hky⟩ := hrel
    have k1 := hky.cell (i := 1) rfl
    have HMADE := Lib.hid hmade
    have HMADER := Lib.hid hmader
    have HKY := Lib.hid hky
    have HN1 := Lib.hid hn1
    have HN2 := Lib.hid hn2
    have hold := hmade.old.size
    clear hmade hmader hky HK2 hn1 hn2
    by_cases hlt : n < ws.length
    · have hlt' : (n : Int) < ws.length := by omega
      go_wp2_with (first
        | (refine wpList_load_row rfl 24 (.tmp 4) rfl w.heap.size rfl 24 #[.slice xp ps.length cp, .slice xw ws.length cw, .int .i64 need] (0, 0) _ (by exact HKY.out) Tryd.underlying24 rfl (by exact keys_row _ _ _) ?_)
        | fail)
      refine (new_yes _ _ ps ws need n wr (HP.out.below HMADE.out.old) (HWs.out.below HMADE.out.old) HM.out hlt (HG.out.below HMADE.out.old)).mono ?_
      rintro e w5 ⟨⟨g, rfl, hgs, hB5⟩, hb5⟩
      have hb6 : Below w5.heap.size w5 (w5.alloc (.cells [ptrV g].toArray 27)) := by (repeat (first | with_reducible assumption | with_reducible exact Below.refl _ _ | ((with_reducible refine Below.setCell ?_ ?_ _); rotate_left; focus (first | omega | (simp; done) | (simp; omega))) | ((with_reducible refine Below.alloc ?_ ?_ _); rotate_left; focus (first | omega | (simp; done) | (simp; omega))) | ((with_reducible refine below_setRow ?_ ?_ _); rotate_left; focus (first | omega | (simp; done) | (simp; omega))) | (with_reducible refine below_drewN ?_ _) | (with_reducible refine Below.drew ?_)))
      have hown : (w5.alloc (.cells [ptrV g].toArray 27)).ownsRow w.heap.size 27 1 (.slice la n lc) n (gs.map ptrV) := by
        have := ((HMADE.out.below hb5).below hb6).own
        rw [HN1.out] at this
        exact this
      have OWN := Lib.hid hown
      have SRC := Lib.hid (ptrs_new w5 [g] 27 rfl rfl)
      have HB5 := Lib.hid hB5
      have HB := Lib.hid hb5
      have h5s : w.heap.size ≤ w5.heap.size := Nat.le_trans hold hb5.size
      clear hb6 hB5 hb5 hown k1
      go_wp2_with (first
        | (at_builtin; refine wpList_app rfl (.tmp 49) (.tmp 53) 49 rfl w.heap.size 27 i0 (.pointer none) 1 8 Tryd.underlying49 hi hz0 hz1 hz2 rfl (by decide) (.slice la n lc) n (gs.map ptrV) rfl (by exact OWN.out) _ 1 [ptrV g] rfl (by exact SRC.out) (by unfold maxLen; omega) (by omega) (by simp; omega) ?_; intro a6 c6 w6 hown6 hgrow6 _; rw [← HN1.out] at hown6; have hmore := HMADE.out.more (by decide) HB.out hgs (by rw [HN1.out]; exact HB5.out) hown6 hgrow6; rw [HN1.out] at hmore; have hside := HMADE.out.beside HMADER.out (by decide) (by decide) HB.out hgrow6; have hkeep := HMADE.out.keeps (by decide) HB.out hgrow6 HKY.out; have HMORE := Lib.hid hmore; have HSIDE := Lib.hid hside; have HKEEP := Lib.hid hkeep; have h6s := hmore.old.size; clear hmore hkeep hside hown6 hgrow6)
        | (refine wpList_load_row rfl 24 (.tmp 4) rfl w.heap.size rfl 24 #[.slice xp ps.length cp, .slice xw ws.length cw, .int .i64 need] (0, 0) _ (by exact HKEEP.out) Tryd.underlying24 rfl (by exact keys_row _ _ _) ?_)
        | fail)
      refine (refnew_any _ _ ps ws need n w6 (HP.out.below HMORE.out.old) (HWs.out.below HMORE.out.old) (HG.out.below HMORE.out.old)).mono ?_
      rintro e w7 ⟨⟨g', rfl, hgs', hB7⟩, hb7⟩
      have hb8 : Below w7.heap.size w7 (w7.alloc (.cells [ptrV g'].toArray 41)) := by (repeat (first | with_reducible assumption | with_reducible exact Below.refl _ _ | ((with_reducible refine Below.setCell ?_ ?_ _); rotate_left; focus (first | omega | (simp; done) | (simp; omega))) | ((with_reducible refine Below.alloc ?_ ?_ _); rotate_left; focus (first | omega | (simp; done) | (simp; omega))) | ((with_reducible refine below_setRow ?_ ?_ _); rotate_left; focus (first | omega | (simp; done) | (simp; omega))) | (with_reducible refine below_drewN ?_ _) | (with_reducible refine Below.drew ?_)))
      have hown : (w7.alloc (.cells [ptrV g'].toArray 41)).ownsRow w.heap.size 41 1 (.slice ra n rc) n (gr.map ptrV) := by
        have := ((HSIDE.out.below hb7).below hb8).own
        rw [HN2.out] at this
        exact this
      have OWN2 := Lib.hid hown
      have SRC2 := Lib.hid (ptrs_new w7 [g'] 41 rfl rfl)
      have HB7 := Lib.hid hB7
      have HBB := Lib.hid hb7
      have h7s : w.heap.size ≤ w7.heap.size := Nat.le_trans h6s hb7.size
      clear hb8 hB7 hb7 hown OWN SRC HB5 HB HMADE HMADER HKY
      go_wp2_with (first
        | (at_builtin; refine wpList_app rfl (.tmp 55) (.tmp 59) 50 rfl w.heap.size 41 i1 (.pointer none) 1 8 Tryd.underlying50 hi1 hy0 hy1 hy2 rfl (by decide) (.slice ra n rc) n (gr.map ptrV) rfl (by exact OWN2.out) _ 1 [ptrV g'] rfl (by exact SRC2.out) (by unfold maxLen; omega) (by omega) (by simp; omega) ?_; intro a9 c9 w9 hown9 hgrow9 _; rw [← HN2.out] at hown9; have hmore := HSIDE.out.more (by decide) HBB.out hgs' (by rw [HN2.out]; exact HB7.out) hown9 hgrow9; rw [HN2.out] at hmore; have hside := HSIDE.out.beside HMORE.out (by decide) (by decide) HBB.out hgrow9; have hkeep := HSIDE.out.keeps (by decide) HBB.out hgrow9 HKEEP.out; have HMORE2 := Lib.hid hmore; have HSIDE2 := Lib.hid hside; have HKEEP2 := Lib.hid hkeep; clear hmore hkeep hside hown9 hgrow9)
        | fail)
      exact ⟨⟨n + 1, gs ++ [g], gr ++ [g'], a6, a9, c6, c9, by go_num, by omega, by rw [List.length_append, HN1.out]; rfl, by rw [List.length_append, HN2.out]; rfl, rfl, rfl, HSIDE2.out, HMORE2.out, HKEEP2.out⟩, by simp [intOf]; omega⟩
    · have hge : n = ws.length := by omega
      have hlt' : ¬ (n : Int) < ws.length := by omega
      have HGE := Lib.hid hge
      have hn8 : n ≤ 8 := by omega
      clear hge
      go_wp2_with fail
      have hne : 27 ≠ 67 := by decide
      have HST := Lib.hid (show Stat w (.slice xp ps.length cp) (.slice xw ws.length cw) ps ws need (.slice la n lc) (.slice ra n rc) gs gr from
        { hp := HP.out, hw := HWs.out, hg := HG.out, hm := HM.out, nd := HMADE.out.nd, ndr := HMADER.out.nd
          base := fun g hg => (HMADE.out.lt hg).1, baser := fun g hg => (HMADER.out.lt hg).1
          dis := fun g hg hg' => by
            obtain ⟨j, hj⟩ := List.mem_iff_getElem?.1 hg
            exact HMADER.out.notin (HMADE.out.wit j g hj).2 (by decide) hg'
          la := HMADE.out.apart hne
          lar := fun a k c e hm => by
            obtain ⟨j, hj⟩ := List.mem_iff_getElem?.1 hm
            refine own_ne HMADE.out.own (HMADER.out.wit j _ hj).2 (by decide) ?_
            rw [e]
            rfl
          ra := fun a k c e hm => by
            obtain ⟨j, hj⟩ := List.mem_iff_getElem?.1 hm
            refine own_ne HMADER.out.own (HMADE.out.wit j _ hj).2 (by decide) ?_
            rw [e]
            rfl
          rar := HMADER.out.apart (by decide) })
      have HD0 := Lib.hid (show Dyn w (.slice xp ps.length cp) (.slice xw ws.length cw) need (.slice la n lc) (.slice ra n rc) gs gr wr (fun _ => (0, e0H)) (fun _ => (0, e0H)) from
        { sl := HMADE.out.sl, slr := HMADER.out.sl, wit := fun j g hj => (HMADE.out.wit j g hj).2, witr := fun j g hj => (HMADER.out.wit j g hj).2, old := HMADE.out.old })
      clear HMADE HMADER HKY k1 hold hlt hlt' HW2 hi hz0 hz1 hz2 hi1 hy0 hy1 hy2 hne
      go_loopw [12] (fun iv wr => ∃ (i : Nat) (Q : Nat → Int × H), iv = .int .i64 i ∧ i ≤ sl.length ∧ Dyn w (.slice xp ps.length cp) (.slice xw ws.length cw) need (.slice la n lc) (.slice ra n rc) gs gr wr Q Q) (fun iv _ => sl.length - (intOf iv).toNat)
      case atStart => exact ⟨0, _, rfl, by omega, HD0.out⟩
      case round =>
        obtain ⟨i, Q, rfl, hi, hdyn⟩ := hrel
        have HD := Lib.hid hdyn
        have hold := hdyn.old
        clear HD0 hdyn
        by_cases h1 : i < sl.length
        · have h1' : (i : Int) < sl.length := by omega
          by_cases h2 : i < ml.length
          · have h2' : (i : Int) < ml.length := by omega
            obtain ⟨sx, hsx⟩ : ∃ q, sl[i]? = some q := ⟨_, List.getElem?_eq_getElem h1⟩
            obtain ⟨mx, hmx⟩ : ∃ q, ml[i]? = some q := ⟨_, List.getElem?_eq_getElem h2⟩
            obtain ⟨sb, so, rfl, lsb, hsc⟩ := byte_elem HSZ.out h1 hsx
            obtain ⟨mb, mo, rfl, lmb, hmc⟩ := byte_elem HMK.out h2 hmx
            obtain ⟨a, ha⟩ : ∃ a, a = sx.toNat := ⟨_, rfl⟩
            obtain ⟨b, hbm⟩ : ∃ b, b = mx.toNat := ⟨_, rfl⟩
            have ha256 : a < 256 := by rw [ha]; exact sx.toNat_lt
            have hb256 : b < 256 := by rw [hbm]; exact mx.toNat_lt
            rw [← ha] at hsc
            rw [← hbm] at hmc
            have c1 := (hold.cell (p := ⟨sb, so + i, none⟩) lsb).trans hsc
            have HMC := Lib.hid hmc
            have HLM := Lib.hid lmb
            have hix : (0 : Int) ≤ i ∧ (i : Int) < sl.length := ⟨by omega, h1'⟩
            have hix2 : (0 : Int) ≤ i ∧ (i : Int) < ml.length := ⟨by omega, h2'⟩
            obtain ⟨x, hx⟩ : ∃ x, x = a % (h.length + 1) := ⟨_, rfl⟩
            have hxl : x ≤ h.length := by have := Nat.mod_lt a (show 0 < h.length + 1 by omega); omega
            have r1 : (a : Int).tmod ((h.length : Int) + 1) = x := by rw [hx, Int.tmod_eq_emod_of_nonneg (by omega)]; rfl
            have r1' : (a : Int) % ((h.length : Int) + 1) = x := by rw [hx]; rfl
            have r0 : ¬ ((h.length : Int) + 1 = 0) := by omega
            have hxc : x ≤ ch := by omega
            obtain ⟨R, hR⟩ : ∃ R, R = rootN ndH e0H (h.take x) := ⟨_, rfl⟩
            obtain ⟨T, hT⟩ : ∃ T, T = (collP (h.take x) b ps.length ws need n Q n).2 := ⟨_, rfl⟩
            obtain ⟨Q1, hQ1⟩ : ∃ Q1, Q1 = (collP (h.take x) b ps.length ws need n Q n).1 := ⟨_, rfl⟩
            have hTl : T.length ≤ 1000 := by
              rw [hT]
              have := collI_len (h.take x) b ps.length ws need (fun j => (j : Int)) (List.range n) Q n
              unfold collP
              omega
            have hlx : (h.take x).length = x := by rw [List.length_take, Nat.min_eq_left hxl]
            have hl400 : (h.take x).length ≤ 400 := by have := HL60.out; omega
            have hhx := hs_cut1 HH.out x hxl
            have HCOL := Lib.hid (show ∀ u : World, Dyn w (.slice xp ps.length cp) (.slice xw ws.length cw) need (.slice la n lc) (.slice ra n rc) gs gr u Q Q → Calls Tryd.prog 15 #[.slice la n lc, .slice xh x ch, .int .i64 b] u fun e w' => (∃ a c, e = .returned (pointV x R (.slice a T.length c)) ∧ w'.ownsRow u.heap.size 35 33 (.slice a T.length c) T.length (sigsL T)) ∧ Dyn w (.slice xp ps.length cp) (.slice xw ws.length cw) need (.slice la n lc) (.slice ra n rc) gs gr w' Q1 Q ∧ ButS gs u w' from fun u d => HST.out.collect d (.slice xh x ch) (h.take x) hhx hl400 (by rw [HN1.out]; exact hn8) b x R T Q1 hlx hR (by rw [HN1.out]; exact hT) (by rw [HN1.out]; exact hQ1))
            have HREF := Lib.hid (show ∀ u : World, Dyn w (.slice xp ps.length cp) (.slice xw ws.length cw) need (.slice la n lc) (.slice ra n rc) gs gr u Q1 Q → Calls Tryd.prog 17 #[.slice ra n rc, .slice xh x ch, .int .i64 b] u fun e w' => (∃ a c, e = .returned (pointV x R (.slice a T.length c)) ∧ w'.ownsRow u.heap.size 35 33 (.slice a T.length c) T.length (sigsL T)) ∧ Dyn w (.slice xp ps.length cp) (.slice xw ws.length cw) need (.slice la n lc) (.slice ra n rc) gs gr w' Q1 Q1 ∧ ButS gr u w' from fun u d => HST.out.refcollect d (.slice xh x ch) (h.take x) hhx hl400 (by rw [HN2.out]; exact hn8) b x hb256 R T Q1 hlx hR (by rw [HN2.out]; exact hT) (by rw [HN2.out]; exact hQ1))
            have HOLD := Lib.hid hold
            have hn0 : 0 < n := by rw [HGE.out]; exact mw0
            have hlw : w.heap.size ≤ wr.heap.size := hold.size
            clear hsx hmx hsc hmc ha hbm hx hR hT hQ1 hhx hlx hl400 hold lsb lmb
            go_wp2_with fail
            clear c1 r0 r1 r1'
            refine wp_region_bur 11 9 gs (fun q u => Dyn w (.slice xp ps.length cp) (.slice xw ws.length cw) need (.slice la n lc) (.slice ra n rc) gs gr u (if q then Q1 else Q) Q) [(fun v _ => v = .slice la n lc), (fun v _ => v = .slice xh h.length ch), (fun v _ => v = .int .i64 x), (fun v _ => v = .slice xh x ch), (fun v _ => v = .slice (some ⟨mb, mo, none⟩) ml.length cm), (fun v _ => v = .int .i64 i), (fun v _ => v = .pointer (some ⟨mb, mo + i, none⟩)), (fun v _ => v = .int .u8 b), (fun v _ => v = .int .i64 b), (fun v u => ∃ a c, v = pointV x R (.slice a T.length c) ∧ u.ownsRow wr.heap.size 35 33 (.slice a T.length c) T.length (sigsL T)), RowAt zpointC 40 wr.heap.size] (fun _ _ => False) (by kernel_rfl) (by kernel_rfl) (by decide) rfl _ rfl ?hk ?hs (by exact HD.out) ?hp ?hops ?hfin
            case hk =>
              have hgl : ∀ g ∈ gs, g < wr.heap.size := fun g hg => HD.out.lt hg
              repeat (refine List.forall_mem_cons.2 ⟨by first | exact fun _ _ _ _ h => h | exact fun v u u' hb ⟨a, c, e, h⟩ => ⟨a, c, e, own_buts h hb hgl⟩ | exact fun v u u' hb ⟨p, e, hp, hB⟩ => ⟨p, e, hp, hb.blk hB (fun hm => by have := hgl p hm; omega)⟩, ?_⟩)
              exact fun _ h => by cases h
            case hs => exact fun q u u' hb h => h.below hb
            case hp => exact fun c a u _ h => h.elim
            case hops =>
              simp only [List.take_succ_cons, List.take_zero, burAll, List.getD_cons_zero, List.getD_cons_succ]
              iterate 11
                
               (refine ⟨fun xs wr hb hd hst Qg hK hP => ?_, ?_⟩
                · as_aux_lemma =>
                  simp only [fill, Act.put, List.setIfInBounds_toArray, List.set_cons_succ, List.set_cons_zero, needs, Region.binds, List.filter_cons, List.filter_nil, List.map_cons, List.map_nil, if_true, List.mem_cons, List.not_mem_nil, or_false, forall_eq_or_imp, forall_eq, List.getD_cons_zero, List.getD_cons_succ, false_implies, implies_true] at hd hK ⊢
                  (try simp only [hd] at hK ⊢)
                  first
                  | (show wpList _ _ _ [⟨some 89, .load _ _, _, _, _, _⟩] _ _; have c7 := ((HOLD.out.trans (buts_below hb HST.out.base HOLD.out.size)).cell (p := ⟨mb, mo + i, none⟩) HLM.out).trans HMC.out; go_wp2_with fail; exact hK _ _ rfl (fun h => absurd h (by decide)) (fun _ => Below.refl _ _))
                  | (show wpList _ _ _ [⟨some 91, .call _, _, _, _, _⟩] _ _; have hd9 := hst (by decide); have h9s := hb.size; go_wp2_with (go_at_call 15; refine (HCOL.out wr hd9).mono ?_; rintro e w5 ⟨⟨a5, k5, rfl, ho5⟩, hd5, hb5⟩); exact hK _ _ ⟨a5, k5, rfl, own_base ho5 h9s⟩ (fun _ => ⟨hb5, hd5⟩) (fun h => absurd rfl h))
                  | (show wpList _ _ _ [⟨some 14, .alloc _, _, _, _, _⟩] _ _; go_wp2_with fail; exact hK _ _ ⟨_, rfl, hb.size, Blk.newL wr zpointC _⟩ (fun h => absurd h (by decide)) (fun _ => (Below.refl _ _).alloc (Nat.le_refl _) _))
                  | (go_wp2_with fail; exact hK _ _ rfl (fun h => absurd h (by decide)) (fun _ => Below.refl _ _)))
              trivial
            case hfin =>
              intro z u hbu hRu hSt
              have z9 := hRu 9 (by decide)
              have z10 := hRu 10 (by decide)
              simp only [List.getD_cons_zero, List.getD_cons_succ] at z9 z10
              obtain ⟨a5, k5, z9, ho5⟩ := z9
              obtain ⟨p, z10, hp, hB⟩ := z10
              have hd : Dyn w (.slice xp ps.length cp) (.slice xw ws.length cw) need (.slice la n lc) (.slice ra n rc) gs gr u Q1 Q := hSt
              have hlist : ApartS [p] (.slice la n lc) := fun b' k c e hm => by
                have h7 := isSl_lt HD.out.sl (by rw [HN1.out]; exact hn0) (by decide) b' k c e
                have h8 : b'.block = p := by simpa using hm
                omega
              have hlistr : ApartS [p] (.slice ra n rc) := fun b' k c e hm => by
                have h7 := isSl_lt HD.out.slr (by rw [HN2.out]; exact hn0) (by decide) b' k c e
                have h8 : b'.block = p := by simpa using hm
                omega
              have hd6 := hd.other (ButS.row p u (pointC x R (.slice a5 T.length k5)).toArray) (fun g hg hm => by have h7 := HD.out.lt hg; have h8 : g = p := List.mem_singleton.1 hm; omega) (fun g hg hm => by have h7 := HD.out.ltr hg; have h8 : g = p := List.mem_singleton.1 hm; omega) hlist hlistr (fun g hm => by have h8 : g = p := List.mem_singleton.1 hm; omega)
              have hB6 := hB.setRow (pointC x R (.slice a5 T.length k5))
              have ho6 := own_row ho5 hB (by decide) (pointC x R (.slice a5 T.length k5)).toArray
              obtain ⟨x6, hx6⟩ : ∃ X, X = u.setRow p (pointC x R (.slice a5 T.length k5)).toArray := ⟨_, rfl⟩
              rw [← hx6] at hd6 hB6 ho6
              have HD6 := Lib.hid hd6
              have HB6 := Lib.hid hB6
              have HO6 := Lib.hid ho6
              have HX6 := Lib.hid hx6
              have HBU := Lib.hid hB
              have hgrl : ∀ g ∈ gr, g < wr.heap.size := fun g hg => HD.out.ltr hg
              have HGRL := Lib.hid hgrl
              have lx6 : wr.heap.size ≤ x6.heap.size := by
                have := hB6.lt
                omega
              have hpl : p ∉ gr := fun hm => by have := hgrl p hm; omega
              clear hbu hRu hSt hd hlist hlistr hd6 hB6 ho6 hx6 ho5 hB hgrl HD HCOL
              obtain ⟨wrS, hwrS⟩ : ∃ q, q = wr.heap.size := ⟨_, rfl⟩
              rw [← hwrS] at HO6 HGRL lx6
              clear hwrS
              simp only [List.drop_succ_cons, List.drop_zero]
              generalize List.toArray _ = L0
              simp only [List.take_succ_cons, List.take_zero, List.map_cons, List.map_nil, fill, Act.put, List.setIfInBounds_toArray, List.set_cons_succ, List.set_cons_zero, z9, z10]
              clear z9 z10
              go_wp2_with (first
                | (refine wpList_store_row rfl 40 (.tmp 14) (.tmp 91) rfl p (pointC x R (.slice a5 T.length k5)).toArray rfl rfl 40 zpointC.toArray (by exact HBU.out) (by exact point_row _ _ _) (by simp [zpointC, pointC_len]) (by exact point_one _ _ _ rfl) ?_; refine wpList_world (w' := x6) HX6.out ?_)
                | fail)
              refine wp_region_bur 13 10 gr (fun q u => Dyn w (.slice xp ps.length cp) (.slice xw ws.length cw) need (.slice la n lc) (.slice ra n rc) gs gr u Q1 (if q then Q1 else Q)) [(fun v _ => v = .agg (pointC x R (.slice a5 T.length k5)).toArray), (fun v _ => v = .slice ra n rc), (fun v _ => v = .slice xh h.length ch), (fun v _ => v = .int .i64 x), (fun v _ => v = .slice xh x ch), (fun v _ => v = .slice (some ⟨mb, mo, none⟩) ml.length cm), (fun v _ => v = .int .i64 i), (fun v _ => v = .pointer (some ⟨mb, mo + i, none⟩)), (fun v _ => v = .int .u8 b), (fun v _ => v = .int .i64 b), (fun v u => ∃ a c, v = pointV x R (.slice a T.length c) ∧ u.ownsRow wrS 35 33 (.slice a T.length c) T.length (sigsL T)), (fun v _ => v = .bool true), (fun v _ => v = .bool false)] (fun _ _ => False) (by kernel_rfl) (by kernel_rfl) (by decide) rfl _ rfl ?hk ?hs (by exact HD6.out) ?hp ?hops ?hfin
              case hk =>
                repeat (refine List.forall_mem_cons.2 ⟨by first | exact fun _ _ _ _ h => h | exact fun v u u' hb ⟨a, c, e, h⟩ => ⟨a, c, e, own_buts h hb HGRL.out⟩, ?_⟩)
                exact fun _ h => by cases h
              case hs => exact fun q u u' hb h => h.below hb
              case hp => exact fun c a u _ h => h.elim
              case hops =>
                simp only [List.take_succ_cons, List.take_zero, burAll, List.getD_cons_zero, List.getD_cons_succ]
                iterate 13
                  
                 (refine ⟨fun xs wr hb hd hst Qg hK hP => ?_, ?_⟩
                  · as_aux_lemma =>
                    simp only [fill, Act.put, List.setIfInBounds_toArray, List.set_cons_succ, List.set_cons_zero, needs, Region.binds, List.filter_cons, List.filter_nil, List.map_cons, List.map_nil, if_true, List.mem_cons, List.not_mem_nil, or_false, forall_eq_or_imp, forall_eq, List.getD_cons_zero, List.getD_cons_succ, false_implies, implies_true] at hd hK ⊢
                    (try simp only [hd] at hK ⊢)
                    first
                    | (show wpList _ _ _ [⟨some 92, .load _ _, _, _, _, _⟩] _ _; have hBr := hb.blk HB6.out hpl; refine wpList_load_row rfl 40 (.tmp 14) rfl p rfl 40 (pointC x R (.slice a5 T.length k5)).toArray (0, 0) _ (by exact hBr) Tryd.underlying40 rfl (by exact point_row _ _ _) ?_; exact hK _ _ rfl (fun h => absurd h (by decide)) (fun _ => Below.refl _ _))
                    | (show wpList _ _ _ [⟨some 100, .load _ _, _, _, _, _⟩] _ _; have c7 := ((HD6.out.old.trans (buts_below hb HST.out.baser HD6.out.old.size)).cell (p := ⟨mb, mo + i, none⟩) HLM.out).trans HMC.out; go_wp2_with fail; exact hK _ _ rfl (fun h => absurd h (by decide)) (fun _ => Below.refl _ _))
                    | (show wpList _ _ _ [⟨some 102, .call _, _, _, _, _⟩] _ _; have hd9 := hst (by decide); have h9s := Nat.le_trans lx6 hb.size; go_wp2_with (go_at_call 17; refine (HREF.out wr hd9).mono ?_; rintro e w5 ⟨⟨a8, k8, rfl, ho8⟩, hd5, hb5⟩); exact hK _ _ ⟨a8, k8, rfl, own_base ho8 h9s⟩ (fun _ => ⟨hb5, hd5⟩) (fun h => absurd rfl h))
                    | (show wpList _ _ _ [⟨some 103, .call _, _, _, _, _⟩] _ _; have hy := hd; obtain ⟨a8, k8, e8, ho8⟩ : ∃ a c, xs 10 = pointV x R (.slice a T.length c) ∧ wr.ownsRow wrS 35 33 (.slice a T.length c) T.length (sigsL T) := (by first | exact hy.2.1 | exact hy.2 | exact hy.1 | exact hy.1.2); have s1 := ownsRow_isSl (own_buts HO6.out hb HGRL.out) (sigsL_one _); have s2 := ownsRow_isSl ho8 (sigsL_one _); clear hy; (try simp only [e8] at hK ⊢); clear e8 ho8; go_wp2_with (go_at_call 16; refine (points_any x R T T.length a5 a8 k5 k8 wr rfl hTl s1 s2).mono ?_; rintro e w5 ⟨rfl, hb5⟩); exact hK _ _ rfl (fun h => absurd h (by decide)) (fun _ => hb5))
                    | (go_wp2_with fail; exact hK _ _ rfl (fun h => absurd h (by decide)) (fun _ => Below.refl _ _)))
                trivial
              case hfin =>
                intro z2 u2 hbu hRu hSt
                have z12 := hRu 12 (by decide)
                simp only [List.getD_cons_zero, List.getD_cons_succ] at z12
                have hd : Dyn w (.slice xp ps.length cp) (.slice xw ws.length cw) need (.slice la n lc) (.slice ra n rc) gs gr u2 Q1 Q1 := hSt
                have HD7 := Lib.hid hd
                clear hbu hRu hSt hd HD6 HB6 HO6 HX6 HBU HREF
                simp only [List.drop_succ_cons, List.drop_zero]
                generalize List.toArray _ = L0
                simp only [List.take_succ_cons, List.take_zero, List.map_cons, List.map_nil, fill, Act.put, List.setIfInBounds_toArray, List.set_cons_succ, List.set_cons_zero, z12]
                clear z12
                go_wp2_with fail
                exact ⟨⟨i + 1, Q1, by go_num, by omega, HD7.out⟩, by simp [intOf]; omega⟩
          · have h2' : ¬ (i : Int) < ml.length := by omega
            have hwf := HD.out.old
            go_wp2_with fail
            go_ret
            exact ⟨rfl, hwf⟩
        · obtain rfl : i = sl.length := by omega
          have h1' : ¬ (sl.length : Int) < sl.length := by omega
          have hwf := HD.out.old
          go_wp2_with fail
          go_ret
          exact ⟨rfl, hwf⟩
end Go.Proofs.YtldokkbfahobgaaDoor
