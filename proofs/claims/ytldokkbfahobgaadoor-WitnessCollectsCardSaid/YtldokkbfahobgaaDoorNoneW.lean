/- The law WitnessNone, walked. Conditions: what each part says. -/
import Derived.Test.YtldokkbfahobgaaDoorAliveU
import Derived.Test.YtldokkbfahobgaaDoorWitX
/-! LawWNone: The law WitnessNone, walked. Conditions: the keys and the list can be read; the package's tables read as they are laid. -/
namespace Go.Proofs.YtldokkbfahobgaaDoor
open Go.RowKit

theorem info_wit : (Tryd.prog.info? 27).map (fun i => (i.zero, i.size, i.bytes)) = some (some (.pointer none), 1, 8) := by kernel_rfl
theorem sigs_first (A B : List (Int × H)) (x : Int × H) : (sigsL (A ++ x :: B))[A.length * 33]? = some (.int .i64 x.1) := by
  have h := sigsL_len A
  unfold sigsL at h ⊢
  rw [List.map_append, List.flatten_append, List.getElem?_append_right (by rw [h]; exact Nat.le_refl _), h, Nat.sub_self]
  rfl
theorem hbs5_below {w0 W W' : World} {pv wv : Value} {need : Int} {eP eW : TypeId} {lv : Value} {gs : List Nat} (h : Made w0 W pv wv need eP eW lv gs) (hb : ButS gs W W') : Below w0.heap.size w0 W' :=
  h.old.trans ⟨hb.os, hb.tape, hb.output, hb.size, fun k hk => hb.block k (by have := h.old.size; omega) (fun hm => by have := (h.lt hm).1; omega)⟩
set_option maxRecDepth 100000 in
set_option maxHeartbeats 4000000 in
theorem wnone_no (pv wv hsv : Value) (ps ws h : List H) (need mask : Int) (w : World) (hp : Hs w pv ps) (hw : Hs w wv ws) (hh : Hs w hsv h) (hg : Glob w) (hno : ps.length ≤ 20 → ws.length ≤ 20 → h.length ≤ 60 → mayB ps.length ws.length need = true → 0 ≤ mask → mask ≤ 255 → False) :
    Calls Tryd.prog 6 #[keysV pv wv need, hsv, .int .i64 mask] w fun e w' => e = .returned (.bool true) ∧ Below w.heap.size w w' := by
  obtain ⟨xp, cp, rfl, _⟩ := hp.form
  obtain ⟨xw, cw, rfl, _⟩ := hw.form
  obtain ⟨xh, ch, rfl, _⟩ := hh.form
  obtain ⟨W, hW⟩ : ∃ W, W = w.alloc (.cells #[.slice xp ps.length cp, .slice xw ws.length cw, .int .i64 need] 24) := ⟨_, rfl⟩
  have hb : Below w.heap.size w W := by rw [hW]; (repeat (first | with_reducible assumption | with_reducible exact Below.refl _ _ | ((with_reducible refine Below.setCell ?_ ?_ _); rotate_left; focus (first | omega | (simp; done) | (simp; omega))) | ((with_reducible refine Below.alloc ?_ ?_ _); rotate_left; focus (first | omega | (simp; done) | (simp; omega))) | ((with_reducible refine below_setRow ?_ ?_ _); rotate_left; focus (first | omega | (simp; done) | (simp; omega))) | (with_reducible refine below_drewN ?_ _) | (with_reducible refine Below.drew ?_)))
  have hK : Blk W w.heap.size [.slice xp ps.length cp, .slice xw ws.length cw, .int .i64 need] 24 := by rw [hW]; exact Blk.newL w [_, _, _] _
  have HP := Lib.hid (hp.below hb)
  have HWs := Lib.hid (hw.below hb)
  have HK := Lib.hid hK
  have HG := Lib.hid (hg.below hb)
  have HW := Lib.hid hW
  obtain ⟨A, hA⟩ : ∃ A, A = mayB ps.length ws.length need := ⟨_, rfl⟩
  rw [← hA] at hno
  have HA := Lib.hid hA
  have hcase : (20 : Int) < ps.length ∨ (¬ (20 : Int) < ps.length ∧ (20 : Int) < ws.length) ∨ (¬ (20 : Int) < ps.length ∧ ¬ (20 : Int) < ws.length ∧ (60 : Int) < h.length) ∨ (¬ (20 : Int) < ps.length ∧ ¬ (20 : Int) < ws.length ∧ ¬ (60 : Int) < h.length ∧ A = false) ∨ (¬ (20 : Int) < ps.length ∧ ¬ (20 : Int) < ws.length ∧ ¬ (60 : Int) < h.length ∧ A = true ∧ mask < 0) ∨ (¬ (20 : Int) < ps.length ∧ ¬ (20 : Int) < ws.length ∧ ¬ (60 : Int) < h.length ∧ A = true ∧ ¬ mask < 0 ∧ 255 < mask) := by
    by_cases h1 : (20 : Int) < ps.length
    · exact .inl h1
    by_cases h2 : (20 : Int) < ws.length
    · exact .inr (.inl ⟨h1, h2⟩)
    by_cases h3 : (60 : Int) < h.length
    · exact .inr (.inr (.inl ⟨h1, h2, h3⟩))
    have hno := hno (by omega) (by omega) (by omega)
    cases A
    · exact .inr (.inr (.inr (.inl ⟨h1, h2, h3, rfl⟩)))
    · by_cases h4 : mask < 0
      · exact .inr (.inr (.inr (.inr (.inl ⟨h1, h2, h3, rfl, h4⟩))))
      · by_cases h5 : 255 < mask
        · exact .inr (.inr (.inr (.inr (.inr ⟨h1, h2, h3, rfl, h4, h5⟩))))
        · exact (hno rfl (by omega) (by omega)).elim
  clear hp hw hh hg hK hA hW hno
  unfold keysV
  rcases hcase with h1 | ⟨h1, h2⟩ | ⟨h1, h2, h3⟩ | ⟨h1, h2, h3, rfl⟩ | ⟨h1, h2, h3, rfl, h4⟩ | ⟨h1, h2, h3, rfl, h4, h5⟩
  all_goals
    (try have d1 := decide_eq_true h1)
    (try have d1 := decide_eq_false h1)
    (try have d2 := decide_eq_true h2)
    (try have d2 := decide_eq_false h2)
    (try have d3 := decide_eq_true h3)
    (try have d3 := decide_eq_false h3)
    (try have d4 := decide_eq_true h4)
    (try have d4 := decide_eq_false h4)
    (try have d5 := decide_eq_true h5)
    go_enter Tryd.func6, Tryd.ntmps6
    go_wp2_with (first
      | (go_at_call 8; refine calls_eq HW.out ((alive16_any W HG.out).mono ?_); rintro e w1 ⟨rfl, hb1⟩; have hw1 := hb.trans (hb1.mono hb.size); have hK1 := HK.out.below hb1 HK.out.lt; have c0 := hK1.cell (i := 0) rfl; have c1 := hK1.cell (i := 1) rfl; have HK1 := Lib.hid hK1; have HP1 := Lib.hid (HP.out.below hb1); have HW1 := Lib.hid (HWs.out.below hb1); clear hb1 hK1)
      | (refine wpList_load_rowIf rfl 24 (.tmp 3) rfl w.heap.size rfl 24 #[.slice xp ps.length cp, .slice xw ws.length cw, .int .i64 need] (0, 0) _ (by exact HK1.out) Tryd.underlying24 rfl (by exact keys_row _ _ _) ?_)
      | (go_at_call 18; refine (may_any _ _ ps ws need w1 HP1.out HW1.out).mono ?_; rintro e w2 ⟨rfl, hb2⟩; rw [← HA.out]; have hw2 := hw1.trans (hb2.mono hw1.size); clear hb2)
      | fail)
    go_ret
    first
      | exact ⟨rfl, hw2⟩
      | exact ⟨rfl, hw1⟩
set_option maxRecDepth 100000 in
set_option maxHeartbeats 8000000 in
theorem wnone_yes (pv wv hsv : Value) (ps ws h : List H) (need mask : Int) (w : World) (hp : Hs w pv ps) (hw : Hs w wv ws) (hh : Hs w hsv h) (hg : Glob w) (hl : h.length ≤ 60) (hm : mayB ps.length ws.length need = true) (hm0 : 0 ≤ mask) (hm1 : mask ≤ 255) :
    Calls Tryd.prog 6 #[keysV pv wv need, hsv, .int .i64 mask] w fun e w' => e = .returned (.bool true) ∧ Below w.heap.size w w' := by
  obtain ⟨xp, cp, rfl, _⟩ := hp.form
  obtain ⟨xw, cw, rfl, _⟩ := hw.form
  obtain ⟨xh, ch, rfl, _⟩ := hh.form
  obtain ⟨W, hW⟩ : ∃ W, W = w.alloc (.cells #[.slice xp ps.length cp, .slice xw ws.length cw, .int .i64 need] 24) := ⟨_, rfl⟩
  have hb : Below w.heap.size w W := by rw [hW]; (repeat (first | with_reducible assumption | with_reducible exact Below.refl _ _ | ((with_reducible refine Below.setCell ?_ ?_ _); rotate_left; focus (first | omega | (simp; done) | (simp; omega))) | ((with_reducible refine Below.alloc ?_ ?_ _); rotate_left; focus (first | omega | (simp; done) | (simp; omega))) | ((with_reducible refine below_setRow ?_ ?_ _); rotate_left; focus (first | omega | (simp; done) | (simp; omega))) | (with_reducible refine below_drewN ?_ _) | (with_reducible refine Below.drew ?_)))
  have hK : Blk W w.heap.size [.slice xp ps.length cp, .slice xw ws.length cw, .int .i64 need] 24 := by rw [hW]; exact Blk.newL w [_, _, _] _
  obtain ⟨mp0, mp, mw0, mw, _, _⟩ := may_true hm
  obtain ⟨i0, hi, hz0, hz1, hz2⟩ := info_parts info_wit
  have HP := Lib.hid hp
  have HWs := Lib.hid hw
  have HH := Lib.hid hh
  have HG := Lib.hid hg
  have HK := Lib.hid hK
  have HW := Lib.hid hW
  have HM := Lib.hid hm
  have g1 : ¬ (20 : Int) < ps.length := by omega
  have g2 : ¬ (20 : Int) < ws.length := by omega
  have g3 : ¬ (60 : Int) < h.length := by omega
  have g4 : ¬ mask < 0 := by omega
  have g5 : ¬ 255 < mask := by omega
  have d1 := decide_eq_false g1
  have d2 := decide_eq_false g2
  have d3 := decide_eq_false g3
  have d4 := decide_eq_false g4
  have d5 := decide_eq_false g5
  obtain ⟨R, hR⟩ : ∃ R, R = rootN ndH e0H h := ⟨_, rfl⟩
  have HR := Lib.hid hR
  clear hp hw hh hg hK hW hm hR
  unfold keysV
  go_enter Tryd.func6, Tryd.ntmps6
  go_wp2_with (first
    | (go_at_call 8; refine calls_eq HW.out ((alive16_any W (HG.out.below hb)).mono ?_); rintro e w1 ⟨rfl, hb1⟩; have hw1 := hb.trans (hb1.mono hb.size); have hK1 := HK.out.below hb1 HK.out.lt; have c0 := hK1.cell (i := 0) rfl; have c1 := hK1.cell (i := 1) rfl; have HK1 := Lib.hid hK1; clear hb1 hK1)
    | (refine wpList_load_rowIf rfl 24 (.tmp 3) rfl w.heap.size rfl 24 #[.slice xp ps.length cp, .slice xw ws.length cw, .int .i64 need] (0, 0) _ (by exact HK1.out) Tryd.underlying24 rfl (by exact keys_row _ _ _) ?_)
    | (go_at_call 18; refine (may_any _ _ ps ws need w1 (HP.out.below hw1) (HWs.out.below hw1)).mono ?_; rintro e w2 ⟨rfl, hb2⟩; rw [HM.out]; have hw2 := hw1.trans (hb2.mono hw1.size); have HK2 := Lib.hid (HK1.out.below hb2 HK1.out.lt); clear hb2)
    | fail)
  have HW2 := Lib.hid hw2
  clear c0 c1 hw1 hw2 HK1 d1 d2 d3 d4 d5 hb HK HW
  go_loopw [7, 8] (fun lv iv wr => ∃ (gs : List Nat), iv = .int .i64 gs.length ∧ gs.length ≤ ws.length ∧ (∃ a c, lv = .slice a gs.length c) ∧ Made w wr (.slice xp ps.length cp) (.slice xw ws.length cw) need 27 67 lv gs ∧ Blk wr w.heap.size [.slice xp ps.length cp, .slice xw ws.length cw, .int .i64 need] 24) (fun _ iv _ => ws.length - (intOf iv).toNat)
  case atStart => exact ⟨[], rfl, by simp, ⟨none, 0, rfl⟩, Made.nil HW2.out, HK2.out⟩
  case round =>
    obtain ⟨gs, rfl, hgl, ⟨la, lc, rfl⟩, hmade, hky⟩ := hrel
    have k1 := hky.cell (i := 1) rfl
    have HMADE := Lib.hid hmade
    have HKY := Lib.hid hky
    have hold := hmade.old.size
    clear hmade hky HK2
    by_cases hlt : gs.length < ws.length
    · have hlt' : (gs.length : Int) < ws.length := by omega
      go_wp2_with (first
        | (refine wpList_load_row rfl 24 (.tmp 3) rfl w.heap.size rfl 24 #[.slice xp ps.length cp, .slice xw ws.length cw, .int .i64 need] (0, 0) _ (by exact HKY.out) Tryd.underlying24 rfl (by exact keys_row _ _ _) ?_)
        | fail)
      refine (new_yes _ _ ps ws need gs.length wr (HP.out.below HMADE.out.old) (HWs.out.below HMADE.out.old) HM.out hlt (HG.out.below HMADE.out.old)).mono ?_
      rintro e w5 ⟨⟨g, rfl, hgs, hB5⟩, hb5⟩
      have hb6 : Below w5.heap.size w5 (w5.alloc (.cells [ptrV g].toArray 27)) := by (repeat (first | with_reducible assumption | with_reducible exact Below.refl _ _ | ((with_reducible refine Below.setCell ?_ ?_ _); rotate_left; focus (first | omega | (simp; done) | (simp; omega))) | ((with_reducible refine Below.alloc ?_ ?_ _); rotate_left; focus (first | omega | (simp; done) | (simp; omega))) | ((with_reducible refine below_setRow ?_ ?_ _); rotate_left; focus (first | omega | (simp; done) | (simp; omega))) | (with_reducible refine below_drewN ?_ _) | (with_reducible refine Below.drew ?_)))
      have OWN := Lib.hid ((HMADE.out.below hb5).below hb6).own
      have SRC := Lib.hid (ptrs_new w5 [g] 27 rfl rfl)
      have HB5 := Lib.hid hB5
      have HB := Lib.hid hb5
      have h5s : w.heap.size ≤ w5.heap.size := Nat.le_trans hold hb5.size
      clear hb6 hB5 hb5
      go_wp2_with (first
        | (at_builtin; refine wpList_app rfl (.tmp 51) (.tmp 55) 49 rfl w.heap.size 27 i0 (.pointer none) 1 8 Tryd.underlying49 hi hz0 hz1 hz2 rfl (by decide) (.slice la gs.length lc) gs.length (gs.map ptrV) rfl (by exact OWN.out) _ 1 [ptrV g] rfl (by exact SRC.out) (by unfold maxLen; omega) (by omega) (by simp; omega) ?_; intro a6 c6 w6 hown6 hgrow6 _; have hmore := HMADE.out.more (by decide) HB.out hgs HB5.out hown6 hgrow6; have hkeep := HMADE.out.keeps (by decide) HB.out hgrow6 HKY.out; have HMORE := Lib.hid hmore; have HKEEP := Lib.hid hkeep; clear hmore hkeep hown6 hgrow6)
        | fail)
      exact ⟨⟨gs ++ [g], by simp, by simp; omega, ⟨a6, c6, by simp⟩, HMORE.out, HKEEP.out⟩, by simp [intOf]; omega⟩
    · obtain hge : gs.length = ws.length := by omega
      have hlt' : ¬ (gs.length : Int) < ws.length := by omega
      have HGE := Lib.hid hge
      have hgl4 : gs.length ≤ 1000 := by omega
      clear hge
      go_wp2_with fail
      have henv := HMADE.out.env (by decide) HP.out HWs.out HH.out HG.out mp0 mw0
      obtain ⟨S, hS⟩ : ∃ S, S = collI h mask ps.length ws need (numOf gs) gs (fun _ => (0, e0H)) := ⟨_, rfl⟩
      refine (collect_any _ _ _ _ ps ws h need mask gs (numOf gs) (fun _ => (0, e0H)) wr henv (by omega) (by omega) hgl4).mono ?_
      rintro e w5 ⟨sv, rfl, ho5, hw5, hbs5⟩
      rw [← hS] at ho5 hw5
      rw [← HR.out]
      obtain ⟨T, hT⟩ : ∃ T, T = (S gs.length).2 := ⟨_, rfl⟩
      rw [← hT] at ho5
      obtain ⟨sa, sc, hsv⟩ := ownsRow_form ho5
      subst hsv
      have hold5 : Below w.heap.size w w5 := hbs5_below HMADE.out hbs5
      have hne : 27 ≠ 67 := by decide
      have hsl5 : IsSl w5 (.slice la gs.length lc) 1 gs.length (gs.map ptrV) := hbs5.isSl HMADE.out.sl (fun _ => HMADE.out.apart hne)
      obtain ⟨hbl5, hpt5, hsz5⟩ := lay_all w5 zpointC (pointC h.length R (.slice sa T.length sc)) 40
      obtain ⟨x5, hx5⟩ : ∃ x, x = layW w5 zpointC (pointC h.length R (.slice sa T.length sc)) 40 := ⟨_, rfl⟩
      rw [← hx5] at hbl5 hpt5 hsz5
      have HX5 := Lib.hid hx5
      have HSL := Lib.hid (hsl5.below hbl5)
      have HWT := Lib.hid (show ∀ (j g : Nat), gs[j]? = some g → Blk x5 g (witC (.slice xp ps.length cp) (.slice xw ws.length cw) need j ((S gs.length).1 g).1 ((S gs.length).1 g).2) 67 from fun j g hj => by
        have := hw5 g (List.mem_of_getElem? hj)
        rw [numOf_at HMADE.out.nd hj] at this
        exact this.below hbl5 this.lt)
      have HPT := Lib.hid hpt5
      have HO5 := Lib.hid (ownsRow_below ho5 hbl5 (ownsRow_block ho5))
      have HOLD := Lib.hid (hold5.trans (hbl5.mono hold5.size))
      have HND := Lib.hid HMADE.out.nd
      have HS := Lib.hid hS
      have HT := Lib.hid hT
      have lx5 : w5.heap.size < x5.heap.size := by omega
      clear ho5 hw5 hbs5 hold5 hsl5 hbl5 hpt5 hsz5 hx5 henv hS hT HMADE HKY k1 hold hlt' hlt HW2 hi hz0 hz1 hz2
      go_wp2_with (first
        | (refine wpList_store_row rfl 40 (.tmp 9) (.tmp 60) rfl w5.heap.size (pointC h.length R (.slice sa T.length sc)).toArray rfl rfl 40 zpointC.toArray (by exact Blk.newL w5 zpointC _) (by exact point_row _ _ _) (by simp [zpointC, pointC_len]) (by exact point_one _ _ _ rfl) ?_; refine wpList_world (w' := x5) HX5.out ?_)
        | fail)
      go_loopw [10, 11] (fun nv iv wr => ∃ i : Nat, iv = .int .i64 i ∧ i ≤ gs.length ∧ nv = .int .i64 ((S i).2.length : Nat) ∧ Below x5.heap.size x5 wr) (fun _ iv _ => gs.length - (intOf iv).toNat)
      case atStart => exact ⟨0, rfl, by omega, by rw [HS.out]; rfl, Below.refl _ _⟩
      case round =>
        obtain ⟨i, rfl, hi, rfl, hbx⟩ := hrel
        by_cases hlt : i < gs.length
        · obtain ⟨g, hg⟩ : ∃ g, gs[i]? = some g := ⟨_, List.getElem?_eq_getElem hlt⟩
          have hlt' : (i : Int) < gs.length := by omega
          have hix : (0 : Int) ≤ i ∧ (i : Int) < gs.length := ⟨by omega, hlt'⟩
          obtain ⟨b, off, cap, e1, _, hr, _⟩ := (HSL.out.below hbx).pos (by omega) (by decide)
          cases e1
          have c3 : wr.cell? ⟨b, off + i, none⟩ = some (.pointer (some ⟨g, 0, none⟩)) := hr i _ (by rw [List.getElem?_map, hg]; rfl)
          have hwit := (HWT.out i g hg).below hbx (HWT.out i g hg).lt
          have hfr := coll_fresh h mask ps.length ws need (numOf gs) gs (by omega) HND.out gs.length (Nat.le_refl _) i g hg
          have hsg := coll_sigs h mask ps.length ws need (numOf gs) gs (by omega) HND.out i g hg
          rw [← HS.out] at hfr hsg
          rw [numOf_at HND.out hg] at hsg
          have HB := Lib.hid hbx
          have lwr : x5.heap.size ≤ wr.heap.size := hbx.size
          cases hbit : bitB mask i with
          | true =>
            rw [if_pos ⟨hlt, hbit⟩, ← HR.out] at hfr
            rw [if_pos hbit] at hsg
            rw [hfr] at hwit
            have HWI := Lib.hid hwit
            obtain ⟨t, ht⟩ := coll_prefix h mask ps.length ws need (numOf gs) gs (fun _ => (0, e0H)) (i + 1) (gs.length - (i + 1))
            rw [← HS.out, show i + 1 + (gs.length - (i + 1)) = gs.length by omega, ← HT.out, hsg, List.append_assoc] at ht
            have hlT : (S i).2.length < T.length := by rw [ht]; simp
            obtain ⟨n, hn⟩ : ∃ n, n = (S i).2.length := ⟨_, rfl⟩
            have hn1 : (S (i + 1)).2.length = n + 1 := by rw [hsg, List.length_append, hn]; rfl
            have hc9 := sigs_first (S i).2 t ((i : Int), signH ps.length ws need i h.length (rootN ndH e0H h))
            rw [show (S i).2 ++ ((i : Int), signH ps.length ws need i h.length (rootN ndH e0H h)) :: t = T by rw [ht]; rfl, ← hn] at hc9
            have hnb : n ≤ 1000 := by have := collI_len h mask ps.length ws need (numOf gs) gs (fun _ => (0, e0H)) i; rw [← HS.out, ← hn] at this; omega
            rw [← hn] at hlT ⊢
            have HN1 := Lib.hid hn1
            obtain ⟨sb, so, scap, e2, _, hsr, _⟩ := (ownsRow_isSl (ownsRow_below HO5.out HB.out (ownsRow_block HO5.out)) (sigsL_one _)).pos (by omega) (by decide)
            cases e2
            have hc8 : wr.cell? ⟨sb, so + n * 33, none⟩ = some (.int .i64 i) := hsr _ _ hc9
            have HC8 := Lib.hid hc8
            have hgen : ¬ (T.length : Int) ≤ n := by omega
            have hgen' : ¬ T.length ≤ n := by omega
            have hged := decide_eq_false hgen
            have hged' := decide_eq_false hgen'
            have hin : (0 : Int) ≤ n ∧ (n : Int) < T.length := ⟨by omega, by omega⟩
            have HPW := Lib.hid (HPT.out.below HB.out HPT.out.lt)
            unfold bitB at hbit
            simp only [Bool.and_eq_true, decide_eq_true_iff] at hbit
            obtain ⟨⟨hb0, hb1⟩, hb2⟩ := hbit
            have hb3 : (bits .and .i64 (mask / 2 ^ i) 1 == 1) = true := beq_iff_eq.2 hb2
            have HQ := fun w => is_hash w R
            clear hg hwit hfr hsg ht hn hn1 hc9 hc8 hsr hbx hr HSL HO5
            go_wp2_with fail
            refine (last_any g _ _ need i h.length R wr HWI.out).mono ?_
            rintro e w8 ⟨rfl, hb8⟩
            obtain ⟨hbl8, hpt8, hsz8⟩ := lay_all w8 z32 (bytesV R.b) 31
            obtain ⟨x8, hx8⟩ : ∃ x, x = layW w8 z32 (bytesV R.b) 31 := ⟨_, rfl⟩
            rw [← hx8] at hbl8 hpt8 hsz8
            have hbb : Below wr.heap.size wr x8 := hb8.trans (hbl8.mono hb8.size)
            have HX8 := Lib.hid hx8
            have HP8 := Lib.hid hpt8
            have c8 : x8.cell? ⟨sb, so + n * 33, none⟩ = some (.int .i64 i) := (hbb.cell (p := ⟨sb, so + n * 33, none⟩) (World.block_lt_of_cell? _ _ HC8.out)).trans HC8.out
            have hpx := HPW.out.below hbb HPW.out.lt
            have c9 : x8.cell? ⟨w5.heap.size, 33, none⟩ = some (.slice (some ⟨sb, so, none⟩) T.length sc) := point_sigs hpx
            have HPR := Lib.hid (point_root hpx)
            have HBB := Lib.hid (HB.out.trans (hbb.mono HB.out.size))
            clear hb8 hbl8 hpt8 hx8 hsz8 hbb hpx c3
            go_wp2_with (first
              | (refine wpList_store_row rfl 31 (.tmp 13) (.tmp 74) rfl w8.heap.size (bytesV R.b).toArray rfl rfl 31 z32.toArray (by exact Blk.newL w8 z32 _) (by exact hv_row _) (by exact z32_old _) (by exact hv_one _) ?_; refine wpList_world (w' := x8) HX8.out ?_)
              | (refine wpList_load_rowIf rfl 31 (.tmp 13) rfl w8.heap.size rfl 31 (bytesV R.b).toArray (0, 0) _ (by exact HP8.out) Tryd.underlying31 rfl (by exact hv_row R) ?_)
              | (refine wpList_load_midIf rfl 31 (.tmp 104) rfl w5.heap.size 1 rfl (bytesV R.b) _ (by exact HPR.out) Tryd.underlying31 rfl (by exact hv_info R) ?_)
              | fail)
            exact ⟨⟨i + 1, by go_num, by omega, by rw [HN1.out]; go_num, HBB.out⟩, by simp [intOf]; omega⟩
          | false =>
            rw [if_neg (fun h => by rw [hbit] at h; cases h.2)] at hfr
            rw [if_neg (by rw [hbit]; exact Bool.false_ne_true)] at hsg
            rw [hfr] at hwit
            have HWI := Lib.hid hwit
            have HN1 := Lib.hid hsg
            obtain ⟨n, hn⟩ : ∃ n, n = (S i).2.length := ⟨_, rfl⟩
            have HN := Lib.hid hn
            rw [← hn]
            obtain ⟨E, hE⟩ : ∃ E, E = e0H := ⟨_, rfl⟩
            rw [← hE] at HWI
            have HE := Lib.hid (show ∀ wr : World, Glob wr → Calls Tryd.prog 19 #[.slice none 0 0] wr fun e w' => e = .returned (.agg (bytesV E.b).toArray) ∧ Below wr.heap.size wr w' from fun wr hg => by rw [hE]; exact root_empty none 0 wr hg)
            have hb0 : 0 ≤ mask := by omega
            have hb1 : i < 62 := by omega
            unfold bitB at hbit
            have hb2 : ¬ bits .and .i64 (mask / 2 ^ i) 1 = 1 := by simpa [hb0, hb1] using hbit
            have hb3 : (bits .and .i64 (mask / 2 ^ i) 1 == 1) = false := beq_eq_false_iff_ne.2 hb2
            have HQ := fun w => is_hash w E
            have hold9 := HOLD.out.trans (HB.out.mono HOLD.out.size)
            have HG9 := Lib.hid (HG.out.below hold9)
            clear hg hwit hfr hsg hbx hr HSL HO5 hbit hn hE hold9
            go_wp2_with fail
            refine (last_any g _ _ need i 0 E wr HWI.out).mono ?_
            rintro e w8 ⟨rfl, hb8⟩
            obtain ⟨hbl8, hpt8, hsz8⟩ := lay_all w8 z32 (bytesV E.b) 31
            obtain ⟨x8, hx8⟩ : ∃ x, x = layW w8 z32 (bytesV E.b) 31 := ⟨_, rfl⟩
            rw [← hx8] at hbl8 hpt8 hsz8
            have hbb : Below wr.heap.size wr x8 := hb8.trans (hbl8.mono hb8.size)
            have HX8 := Lib.hid hx8
            have HP8 := Lib.hid hpt8
            have l8 := hpt8.lt
            have HGX := Lib.hid (HG9.out.below hbb)
            have HBB := Lib.hid (HB.out.trans (hbb.mono HB.out.size))
            clear hb8 hbl8 hpt8 hx8 hsz8 hbb c3 HG9
            go_wp2_with (first
              | (refine wpList_store_row rfl 31 (.tmp 13) (.tmp 74) rfl w8.heap.size (bytesV E.b).toArray rfl rfl 31 z32.toArray (by exact Blk.newL w8 z32 _) (by exact hv_row _) (by exact z32_old _) (by exact hv_one _) ?_; refine wpList_world (w' := x8) HX8.out ?_)
              | fail)
            refine wp_region_mono 7 (x8.heap.size) [(fun v _ => v = .int .i64 0), (fun v _ => v = .bool false), (fun v _ => v = .bool false), (fun v _ => v = .agg (bytesV E.b).toArray), (fun v _ => v = .agg (bytesV E.b).toArray), (fun v _ => v = .bool false), (fun v _ => v = .bool false)] (by kernel_rfl) (by kernel_rfl) (Nat.le_refl _) ?mkept _ rfl ?mops ?mfin
            case mkept =>
              repeat (refine List.forall_mem_cons.2 ⟨by first | exact fun _ _ _ _ h => h | exact fun _ _ _ hb h => Parts.below h hb | exact fun _ _ _ hb h => IsSl.below h hb, ?_⟩)
              exact fun _ h => by cases h
            case mops =>
              simp only [List.take_succ_cons, List.take_zero, monoAll, List.getD_cons_zero, List.getD_cons_succ]
              iterate 7
              
               (refine ⟨fun x wr hb hd Qg hK => ?_, ?_⟩
                · as_aux_lemma =>
                  simp only [fill, Act.put, List.setIfInBounds_toArray, List.set_cons_succ, List.set_cons_zero, needs, Region.binds, List.filter_cons, List.filter_nil, List.map_cons, List.map_nil, if_true, List.mem_cons, List.not_mem_nil, or_false, forall_eq_or_imp, forall_eq, List.getD_cons_zero, List.getD_cons_succ, false_implies, implies_true] at hd hK ⊢
                  (try simp only [hd] at hK ⊢)
                  first
                  | (have hBr := HP8.out.below hb (l8); refine wpList_load_rowIf rfl 31 (.tmp 13) rfl _ rfl 31 (bytesV E.b).toArray (0, 0) _ (by exact hBr) Tryd.underlying31 rfl (hv_row E) ?_; exact hK _ _ rfl (Below.refl _ _))
                  | (show wpList _ _ _ [⟨some 114, .call _, _, _, _, _⟩] _ _; go_wp2_with (go_at_call 19; refine (HE.out wr (HGX.out.below hb)).mono ?_; rintro e w5 ⟨rfl, hb5⟩); exact hK _ _ (rfl) hb5)
                  | (go_wp2_with fail; exact hK _ _ rfl (Below.refl _ _)))
              trivial
            case mfin =>
              intro x w9 hb9 hR9
              have x6 := hR9 6 (by decide)
              simp only [List.getD_cons_zero, List.getD_cons_succ] at x6
              have HB9 := Lib.hid (HBB.out.trans (hb9.mono HBB.out.size))
              clear hR9 hb9 HQ
              simp only [List.drop_succ_cons, List.drop_zero]
              generalize List.toArray _ = L0
              simp only [List.take_succ_cons, List.take_zero, List.map_cons, List.map_nil, fill, Act.put, List.setIfInBounds_toArray, List.set_cons_succ, List.set_cons_zero, x6]
              clear x6
              go_wp2_with fail
              exact ⟨⟨i + 1, by go_num, by omega, by rw [HN1.out, ← HN.out], HB9.out⟩, by simp [intOf]; omega⟩
        · obtain rfl : i = gs.length := by omega
          have hlt' : ¬ (gs.length : Int) < gs.length := by omega
          rw [← HT.out]
          have c0 : wr.cell? ⟨w5.heap.size, 33, none⟩ = some (.slice sa T.length sc) := point_sigs (HPT.out.below hbx HPT.out.lt)
          have hwf := HOLD.out.trans (hbx.mono HOLD.out.size)
          clear hbx
          go_wp2_with fail
          go_ret
          exact ⟨rfl, hwf⟩
end Go.Proofs.YtldokkbfahobgaaDoor
