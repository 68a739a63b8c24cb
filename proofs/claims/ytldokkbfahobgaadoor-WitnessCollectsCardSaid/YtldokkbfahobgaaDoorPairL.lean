/- The walk of the reference's Collect. The walk of the reference's Points, of two checkpoints that are alike. A region that draws its order, one of whose operations turns blocks that were there (and may panic); the others turn nothing; the tail stands in one forced order. Two lists of witnesses, ours and the reference's, that have signed the same; a Collect of either. Conditions: what each part says. -/
import Derived.Test.YtldokkbfahobgaaDoorAskW
import Derived.Test.YtldokkbfahobgaaDoorWitY
import Derived.Test.YtldokkbfahobgaaDoorAliveU
import Derived.Test.YtldokkbfahobgaaDoorAsksW
import Derived.Test.YtldokkbfahobgaaDoorBothL
import Derived.Test.YtldokkbfahobgaaDoorPathW
import Derived.Test.YtldokkbfahobgaaDoorWitX
import Derived.Test.YtldokkbfahobgaaDoorWitZZ
/-! RefColl: The walk of the reference's Collect. Conditions: the keys, the list (at most 400 hashes) and the witnesses can be read; nothing of these lies in a witness's block; the mask is a byte. -/
namespace Go.Proofs.YtldokkbfahobgaaDoor
open Go.RowKit

theorem bit_div : ∀ (m : Fin 256) (i : Fin 8), bitB (m.val : Int) i.val = decide (m.val / 2 ^ i.val % 2 = 1) := by decide +kernel
theorem wpList_sig {ops : Array Oper} {rest : List Oper} {o : Oper} {a : Act} {w : World} {Q : Exit → Act → World → Prop} (hg : o.guard = none) (x : Operand) (ho : o.op = .buildSlice 38 1 #[(0, x)]) (n : Int) (r : H) (hx : a.eval x = .agg (sigC n r).toArray)
    (h : wpList Tryd.prog ops Q rest (a.put o.dst (.slice (some ⟨w.heap.size, 0, none⟩) 1 1)) (w.alloc (.cells (sigC n r).toArray 35))) : wpList Tryd.prog ops Q (o :: rest) a w := by
  obtain ⟨i0, hi, hz0, hz1, hz2⟩ := info_parts info_sig
  have e : ((#[(0, x)] : Array (Nat × Operand)).map fun (i, x) => (i, a.eval x)).toList = [(0, .agg (sigC n r).toArray)] := by rw [← hx]; simp
  exact wpList_buildSlice hg 38 35 1 #[(0, x)] ho (sigC n r).toArray i0 _ Tryd.underlying38 hi hz0 (by rw [hz1]; omega) (by rw [hz1]; omega) (by rw [e, hz1]; exact sig_fill n r) h
theorem wpList_sigs {ops : Array Oper} {rest : List Oper} {o : Oper} {a : Act} {w : World} {Q : Exit → Act → World → Prop} (hgd : o.guard = none) (s x : Operand)
    (ho : o.op = .call { callee := .builtin .append, args := #[s, x], argTypes := #[38, 38] }) (base : Nat) (v xv : Value) (l m' : List (Int × H)) (hs : a.eval s = v) (hO : w.ownsRow base 35 33 v l.length (sigsL l))
    (hx : a.eval x = xv) (hX : IsSl w xv 33 m'.length (sigsL m')) (hlen : l.length + m'.length ≤ 4096) (hb : base ≤ w.heap.size)
    (h : ∀ a' c' w', w'.ownsRow base 35 33 (.slice a' (l ++ m').length c') (l ++ m').length (sigsL (l ++ m')) → Below base w w' → wpList Tryd.prog ops Q rest (a.put o.dst (.slice a' (l ++ m').length c')) w') : wpList Tryd.prog ops Q (o :: rest) a w := by
  obtain ⟨i0, hi, hz0, hz1, hz2⟩ := info_parts info_sig
  refine wpList_app hgd s x 38 ho base 35 i0 (.agg zsigC.toArray) 33 40 Tryd.underlying38 hi hz0 hz1 hz2 (by simp [Value.cells, zsigC, sigC_len]) (by decide) v l.length _ hs hO xv m'.length (sigsL m') hx hX (by unfold maxLen; omega) (by omega) hb ?_
  intro a' c' w' hown hgrow _
  rw [← List.length_append, ← sigsL_app] at hown
  rw [← List.length_append]
  exact h _ _ _ hown ((Below.refl base w).grown hgrow hb (fun k hk => (hO.lt k hk).1))
theorem wpList_sigs_lit {ops : Array Oper} {rest : List Oper} {o : Oper} {a : Act} {w : World} {Q : Exit → Act → World → Prop} (hgd : o.guard = none) (s x : Operand)
    (ho : o.op = .call { callee := .builtin .append, args := #[s, x], argTypes := #[38, 38] }) (base g : Nat) (xv : Value) (m' : List (Int × H)) (hs : a.eval s = .slice (some ⟨g, 0, none⟩) 0 0) (hO : w.ownsRow base 35 33 (.slice (some ⟨g, 0, none⟩) 0 0) 0 [])
    (hx : a.eval x = xv) (hX : IsSl w xv 33 m'.length (sigsL m')) (hlen : m'.length ≤ 4096) (hb : base ≤ w.heap.size)
    (h : ∀ v' w', w'.ownsRow base 35 33 v' m'.length (sigsL m') → Below w.heap.size w w' → wpList Tryd.prog ops Q rest (a.put o.dst v') w') : wpList Tryd.prog ops Q (o :: rest) a w := by
  obtain ⟨i0, hi, hz0, hz1, hz2⟩ := info_parts info_sig
  exact wpList_app_lit hgd s x 38 ho base 35 i0 (.agg zsigC.toArray) 33 40 Tryd.underlying38 hi hz0 hz1 hz2 (by simp [Value.cells, zsigC, sigC_len]) (by decide) g hs hO xv m'.length (sigsL m') hx hX (by unfold maxLen; omega) (by omega) hb h
theorem but_same {g : Nat} {w w' : World} {l : List Value} {e : TypeId} (hbt : But g w w') (h1 : Blk w g l e) (h2 : Blk w' g l e) : Below w.heap.size w w' :=
  ⟨hbt.os, hbt.tape, hbt.output, hbt.size, fun j hj => by
    by_cases ej : j = g
    · rw [ej]
      exact h2.trans h1.symm
    · exact hbt.block j hj ej⟩
/-- What the reference's Collect keeps: B the point's block. -/
structure RColl (pv wv : Value) (hs : List H) (need : Int) (gs : List Nat) (num : Nat → Int) (w : World) (B : Nat) (S : Nat → Int × H) (sl : List (Int × H)) (W : World) : Prop where
  lo : w.heap.size + 1 ≤ B
  gl : ∀ g ∈ gs, g < w.heap.size
  out : Blk W w.heap.size zpointC 40
  pt : ∃ a c, Blk W B (pointC hs.length (rootN ndH e0H hs) (.slice a sl.length c)) 40 ∧ W.ownsRow (B + 1) 35 33 (.slice a sl.length c) sl.length (sigsL sl)
  wit : ∀ g ∈ gs, Blk W g (witC pv wv need (num g) (S g).1 (S g).2) 46
  old : ButS gs w W
section
variable {pv wv : Value} {hs : List H} {need : Int} {gs : List Nat} {num : Nat → Int} {w W W' : World} {B : Nat} {S : Nat → Int × H} {sl : List (Int × H)}
theorem RColl.lt (h : RColl pv wv hs need gs num w B S sl W) : B < W.heap.size := by
  obtain ⟨a, c, h1, _⟩ := h.pt
  exact h1.lt
theorem RColl.below (h : RColl pv wv hs need gs num w B S sl W) (hb : Below W.heap.size W W') : RColl pv wv hs need gs num w B S sl W' where
  lo := h.lo
  gl := h.gl
  out := h.out.below hb h.out.lt
  pt := by
    obtain ⟨a, c, h1, h2⟩ := h.pt
    exact ⟨a, c, h1.below hb h1.lt, ownsRow_below h2 hb (ownsRow_block h2)⟩
  wit := fun g hg => (h.wit g hg).below hb (h.wit g hg).lt
  old := h.old.then hb h.old.size
theorem RColl.but {g : Nat} (h : RColl pv wv hs need gs num w B S sl W) (hb : But g W W') (hg : g ∈ gs) (x : Int × H) (hw : Blk W' g (witC pv wv need (num g) x.1 x.2) 46) : RColl pv wv hs need gs num w B (updS S g x) sl W' := by
  have h1 := h.gl g hg
  have h2 := h.lo
  exact {
    lo := h.lo
    gl := h.gl
    out := hb.blk h.out (by omega)
    pt := by
      obtain ⟨a, c, h5, h6⟩ := h.pt
      refine ⟨a, c, hb.blk h5 (by omega), h6.1, ?_⟩
      rcases h6.2 with hn | ⟨k, cap, cur, e1, hk, hg', rest⟩
      · exact .inl hn
      · exact .inr ⟨k, cap, cur, e1, hk, (hb.block k (Array.getElem?_eq_some_iff.1 hg').1 (by omega)).trans hg', rest⟩
    wit := fun k hk => by
      unfold updS
      by_cases e : k = g
      · rw [if_pos e, e]
        exact hw
      · rw [if_neg e]
        exact hb.blk (h.wit k hk) e
    old := h.old.but hb hg }
/-- The signature appended and stored. -/
theorem RColl.more (h : RColl pv wv hs need gs num w B S sl W) (hb : Below (B + 1) W W') (x : Int × H) (a : Option Addr) (c : Nat) (hO : W'.ownsRow (B + 1) 35 33 (.slice a (sl ++ [x]).length c) (sl ++ [x]).length (sigsL (sl ++ [x]))) :
    RColl pv wv hs need gs num w B S (sl ++ [x]) (W'.setCell ⟨B, 33, none⟩ (.slice a (sl ++ [x]).length c)) := by
  have h2 := h.lo
  obtain ⟨a0, c0, h5, _⟩ := h.pt
  have h6 := (h5.below hb (by omega)).set 33 (.slice a (sl ++ [x]).length c)
  rw [point_set] at h6
  have hX : ∀ k, k < B + 1 → k ≠ B → (W'.setCell ⟨B, 33, none⟩ (.slice a (sl ++ [x]).length c)).heap[k]? = W.heap[k]? := fun k hk hn => (Below.heap_setCell _ _ _ _ hn).trans (hb.block k hk)
  exact {
    lo := h.lo
    gl := h.gl
    out := (hX _ (by omega) (by omega)).trans h.out
    pt := ⟨a, c, h6, by
      refine ⟨hO.1, ?_⟩
      rcases hO.2 with hn | ⟨k, cap, cur, e1, hk, hg', rest⟩
      · exact .inl hn
      · exact .inr ⟨k, cap, cur, e1, hk, (Below.heap_setCell _ _ _ _ (show k ≠ B by omega)).trans hg', rest⟩⟩
    wit := fun g hg => (hX _ (by have := h.gl g hg; omega) (by have := h.gl g hg; omega)).trans (h.wit g hg)
    old := (h.old.then (hb.mono (B' := w.heap.size) (by omega)) (Nat.le_refl _)).then ((Below.refl w.heap.size W').setCell (p := ⟨B, 33, none⟩) (show w.heap.size ≤ B by omega) _) (Nat.le_refl _) }
end
set_option maxRecDepth 100000 in
set_option maxHeartbeats 8000000 in
theorem refcollect_any (pv wv hsv lv : Value) (ps ws hs : List H) (need : Int) (m : Nat) (gs : List Nat) (num : Nat → Int) (st : Nat → Int × H) (w : World) (hE : WEnv w pv wv hsv lv ps ws hs need gs num st 46) (hwl : ws.length ≤ 1000) (hl : hs.length ≤ 400) (hgl : gs.length ≤ 8) (hm : m < 256) :
    Calls Tryd.prog 17 #[lv, hsv, .int .i64 m] w fun e w' => ∃ sv, e = .returned (pointV hs.length (rootN ndH e0H hs) sv) ∧ w'.ownsRow w.heap.size 35 33 sv (collI hs m ps.length ws need num gs st gs.length).2.length (sigsL (collI hs m ps.length ws need num gs st gs.length).2) ∧
      (∀ g ∈ gs, Blk w' g (witC pv wv need (num g) ((collI hs m ps.length ws need num gs st gs.length).1 g).1 ((collI hs m ps.length ws need num gs st gs.length).1 g).2) 46) ∧ ButS gs w w' := by
  obtain ⟨ha, kh, hform, _⟩ := hE.hk.form
  obtain ⟨la, kl, lform, _⟩ := hE.sl.form
  have HE := Lib.hid hE
  subst hform
  subst lform
  obtain ⟨R, hR⟩ : ∃ R, R = rootN ndH e0H hs := ⟨_, rfl⟩
  have HR := Lib.hid hR
  obtain ⟨W, hW⟩ : ∃ W, W = w.alloc (.cells zpointC.toArray 40) := ⟨_, rfl⟩
  have hWb : Below w.heap.size w W := by rw [hW]; (repeat (first | with_reducible assumption | with_reducible exact Below.refl _ _ | ((with_reducible refine Below.setCell ?_ ?_ _); rotate_left; focus (first | omega | (simp; done) | (simp; omega))) | ((with_reducible refine Below.alloc ?_ ?_ _); rotate_left; focus (first | omega | (simp; done) | (simp; omega))) | ((with_reducible refine below_setRow ?_ ?_ _); rotate_left; focus (first | omega | (simp; done) | (simp; omega))) | (with_reducible refine below_drewN ?_ _) | (with_reducible refine Below.drew ?_)))
  have hP : Blk W w.heap.size zpointC 40 := by rw [hW]; exact Blk.newL w zpointC _
  have HEW := Lib.hid (hE.below hWb)
  have HP := Lib.hid hP
  have HWB := Lib.hid hWb
  have HW := Lib.hid hW
  have lW := hP.lt
  clear hE hP hWb hW hR
  go_enter Tryd.func17, Tryd.ntmps17
  go_wp2_with fail
  refine calls_world HW.out ?_
  refine (refroot_any hs.length _ hs W rfl (by omega) HEW.out.hk HEW.out.glob).mono ?_
  rintro e w1 ⟨rfl, hb1⟩
  rw [← HR.out]
  obtain ⟨hbl2, hpt2, hsz2⟩ := lay_all w1 zpointC (pointC hs.length R (.slice none 0 0)) 40
  obtain ⟨x2, hx2⟩ : ∃ X, X = layW w1 zpointC (pointC hs.length R (.slice none 0 0)) 40 := ⟨_, rfl⟩
  rw [← hx2] at hbl2 hpt2 hsz2
  have hb12 : Below W.heap.size W x2 := hb1.trans (hbl2.mono hb1.size)
  obtain ⟨B, hB⟩ : ∃ B, B = w1.heap.size := ⟨_, rfl⟩
  have lB : w.heap.size + 1 ≤ B := by have := hb1.size; omega
  have HC2 := Lib.hid (show RColl pv wv hs need gs num w B st [] x2 from
    { lo := lB, gl := fun g hg => HE.out.lt hg, out := HP.out.below hb12 HP.out.lt
      pt := ⟨none, 0, by rw [hB, ← HR.out]; exact hpt2, World.ownsRow_nil _ _ _ _⟩
      wit := fun g hg => (HEW.out.wit g hg).below hb12 (HEW.out.lt hg)
      old := (ButS.of HWB.out).then hb12 HWB.out.size })
  have HX2 := Lib.hid hx2
  have HBE := Lib.hid hB
  clear hb1 hbl2 hpt2 hsz2 hx2 hb12 HP HWB HEW lW hB
  go_wp2_with (first
    | (refine wpList_built2 rfl 40 0 1 (.tmp 16) (.tmp 18) (.int .i64 hs.length) (hv R) _ rfl rfl rfl (built_point hs.length R) ?_)
    | (refine wpList_store_row rfl 40 (.tmp 7) (.tmp 19) rfl w1.heap.size (pointC hs.length R (.slice none 0 0)).toArray rfl rfl 40 zpointC.toArray (by exact Blk.newL w1 zpointC _) (by exact point_row _ _ _) (by simp [zpointC, pointC_len]) (by exact point_one _ _ _ rfl) ?_; refine wpList_world (w' := x2) HX2.out ?_)
    | fail)
  rw [← HBE.out]
  go_loopw [8] (fun iv wr => ∃ i : Nat, iv = .int .i64 i ∧ i ≤ gs.length ∧ RColl pv wv hs need gs num w B (collI hs m ps.length ws need num gs st i).1 (collI hs m ps.length ws need num gs st i).2 wr) (fun iv _ => gs.length - (intOf iv).toNat)
  case atStart => exact ⟨0, rfl, by omega, HC2.out⟩
  case round =>
    obtain ⟨i, rfl, hi, hj⟩ := hrel
    obtain ⟨U, hU⟩ : ∃ U, U = wr := ⟨_, rfl⟩
    subst hU
    clear HC2 HX2
    have HJ := Lib.hid hj
    by_cases hlt : i < gs.length
    · have hlt' : (i : Int) < gs.length := by omega
      clear hj
      go_wp2_with fail
      go_loopw [9, 10] (fun bv kv wr2 => ∃ k d : Nat, kv = .int .i64 k ∧ bv = .int .i64 d ∧ k ≤ i ∧ d = m / 2 ^ k ∧ wr2 = U) (fun _ kv _ => i - (intOf kv).toNat)
      case atStart => exact ⟨0, m, rfl, rfl, by omega, by simp, rfl⟩
      case round =>
        obtain ⟨k, d, rfl, rfl, hk, hd, hwr⟩ := hrel
        have hwr' : U = wr := hwr.symm
        subst hwr'
        by_cases hki : k < i
        · have hki' : (k : Int) < i := by omega
          have hq : (d : Int).tdiv 2 = ((d / 2 : Nat) : Int) := by rw [Int.tdiv_eq_ediv_of_nonneg (by omega)]; rfl
          have hd256 : d < 256 := Nat.lt_of_le_of_lt (by rw [hd]; exact Nat.div_le_self _ _) hm
          have HD := Lib.hid (show d / 2 = m / 2 ^ (k + 1) by rw [hd, Nat.div_div_eq_div_mul, Nat.pow_succ])
          clear hd
          go_wp2_with fail
          exact ⟨⟨k + 1, d / 2, by go_num, by first | rfl | (congr 1; omega), by omega, HD.out, trivial⟩, by simp [intOf]; omega⟩
        · have hki' : ¬ (k : Int) < i := by omega
          obtain rfl : k = i := by omega
          have hm0 : ¬ (m : Int) < 0 := by omega
          have hd256 : d < 256 := Nat.lt_of_le_of_lt (by rw [hd]; exact Nat.div_le_self _ _) hm
          have hr : (d : Int).tmod 2 = ((d % 2 : Nat) : Int) := by rw [Int.tmod_eq_emod_of_nonneg (by omega)]; rfl
          have hbit : bitB (m : Int) k = decide (d % 2 = 1) := by
            rw [hd]
            exact bit_div ⟨m, hm⟩ ⟨k, by omega⟩
          obtain ⟨g, hg⟩ : ∃ g, gs[k]? = some g := ⟨_, List.getElem?_eq_getElem hlt⟩
          have hgm : g ∈ gs := List.mem_of_getElem? hg
          have hgd : gs.getD k 0 = g := by rw [List.getD_eq_getElem?_getD, hg]; rfl
          have hj := HJ.out
          obtain ⟨S, hS⟩ : ∃ S, S = (collI hs m ps.length ws need num gs st k).1 := ⟨_, rfl⟩
          obtain ⟨sl, hsl⟩ : ∃ sl, sl = (collI hs m ps.length ws need num gs st k).2 := ⟨_, rfl⟩
          have hsll : sl.length ≤ 1000 := by rw [hsl]; have := collI_len hs m ps.length ws need num gs st k; omega
          rw [← hS, ← hsl] at hj
          by_cases hodd : d % 2 = 1
          · have hr1 : ((d : Int).tmod 2 == 0) = false := by rw [hr, hodd]; rfl
            have hr2 : ((d : Int) % 2 == 0) = false := by rw [beq_eq_false_iff_ne]; omega
            rw [decide_eq_true hodd] at hbit
            have hstep : collI hs m ps.length ws need num gs st (k + 1) = if askedB hs (S g) then (updS S g ((hs.length : Int), rootN ndH e0H hs), sl ++ [(num g, signH ps.length ws need (num g) hs.length (rootN ndH e0H hs))]) else (S, sl) := by
              simp only [collI, hbit, Bool.true_and, hgd, ← hS, ← hsl]
              simp only [hS, hsl]
            have HST := Lib.hid hstep
            have HJ1 := Lib.hid hj
            have h1 := hj.old.isSl HE.out.sl (fun _ => HE.out.la)
            obtain ⟨b, off, cap, hsv, _, hrr, _⟩ := h1.pos (by omega) (by decide)
            cases hsv
            have c3 : U.cell? ⟨b, off + k, none⟩ = some (.pointer (some ⟨g, 0, none⟩)) := hrr k _ (by rw [List.getElem?_map, hg]; rfl)
            have hix : (0 : Int) ≤ k ∧ (k : Int) < gs.length := ⟨by omega, hlt'⟩
            have hgb : b ≠ g := HE.out.la.one hgm ⟨b, off, none⟩ _ _ rfl
            have hgw := HE.out.lt hgm
            obtain ⟨s, hsz⟩ : ∃ s, (S g).1 = s := ⟨_, rfl⟩
            obtain ⟨r, hrt⟩ : ∃ r, (S g).2 = r := ⟨_, rfl⟩
            have hw1 := hj.wit g hgm
            rw [hsz, hrt] at hw1
            have c4 := wit_size hw1
            have HW1 := Lib.hid hw1
            have HE1 := Lib.hid (HE.out.turn hj.old hj.wit)
            have HC3 := Lib.hid c3
            have HGK := Lib.hid hg
            have HSG := Lib.hid (show S g = (s, r) by rw [← hsz, ← hrt])
            clear hj HJ hstep hS hsl hd hbit hg hgd h1 hrr hw1 hsz hrt hodd hr hd256
            go_wp2_with fail
            refine (refprove_i (.slice ha hs.length kh) hs s U (by omega) HE1.out.hk HE1.out.glob).mono ?_
            rintro e w3 ⟨⟨xv, rfl, hxs⟩, hb3⟩
            generalize decide (1 ≤ s ∧ s ≤ hs.length) = dd
            obtain ⟨xa, xc, hxe, _⟩ := hxs.form
            obtain ⟨X, hX⟩ : ∃ X, X = subR hs s := ⟨_, rfl⟩
            rw [← hX] at hxs hxe
            subst hxe
            have HJ3 := Lib.hid (HJ1.out.below hb3)
            have HXS := Lib.hid hxs
            have HX := Lib.hid hX
            clear hb3 hxs hX HE1 c4 HW1
            go_wp2_with fail
            have hj3 := HJ3.out
            have hlo := hj3.lo
            have hlt3 := hj3.lt
            obtain ⟨a0, c0, hpt, hos⟩ := hj3.pt
            rw [← HR.out] at hpt
            have hw3 := hj3.wit g hgm
            rw [HSG.out] at hw3
            have hE3 := HE.out.turn hj3.old hj3.wit
            have hc5 : w3.cell? ⟨b, off + k, none⟩ = some (.pointer (some ⟨g, 0, none⟩)) := by
              have h3 := hj3.old.isSl HE.out.sl (fun _ => HE.out.la)
              obtain ⟨b', off', cap', hsv', _, hrr', _⟩ := h3.pos (by omega) (by decide)
              cases hsv'
              have h9 := HC3.out
              exact hrr' k _ (by
                have h4 := HJ1.out.old.isSl HE.out.sl (fun _ => HE.out.la)
                have hgk := HGK.out
                rw [List.getElem?_map, hgk]
                rfl)
            obtain ⟨ok, hok⟩ : ∃ q, q = askB s hs.length r R X := ⟨_, rfl⟩
            obtain ⟨kk, hkk⟩ : ∃ q, q = ansN ok (num g) := ⟨_, rfl⟩
            obtain ⟨tt, htt⟩ : ∃ q, q = ansH ok (signH ps.length ws need (num g) hs.length R) := ⟨_, rfl⟩
            obtain ⟨S', hS'⟩ : ∃ q, q = nowS ok hs.length s := ⟨_, rfl⟩
            obtain ⟨R', hR'⟩ : ∃ q, q = nowR ok R r := ⟨_, rfl⟩
            have hxl : X.length ≤ 4096 := by rw [HX.out]; have := refprove_len hs s (by omega); omega
            have HASK := Lib.hid (show ∀ wr' : World, But g w3 wr' → Blk wr' g (witC pv wv need (num g) s r) 46 → Calls Tryd.prog 14 #[.pointer (some ⟨g, 0, none⟩), .agg (pointC hs.length R (.slice a0 sl.length c0)).toArray, .slice xa X.length xc] wr' fun e w' => e = .returned (.tuple #[.agg (sigC kk tt).toArray, .bool ok]) ∧ Blk w' g (witC pv wv need (num g) S' R') 46 ∧ But g wr' w' from fun wr' hbt hB => by
              have hbel := but_same hbt hw3 hB
              have hE4 := hE3.below hbel
              have := refask_all g pv wv ps ws need (num g) s hs.length r R (.slice a0 sl.length c0) (.slice xa X.length xc) X wr' hB hE4.pk hE4.wk hwl (HXS.out.below hbel) hxl hE4.glob (hE4.pa.one hgm) (hE4.wa.one hgm)
              rw [← hok] at this
              unfold ansV at this
              rw [← hkk, ← htt, ← hS', ← hR'] at this
              exact this)
            have HAEQ := Lib.hid (show askedB hs (S g) = ok by rw [HSG.out, hok, HX.out, HR.out]; rfl)
            have HKK := Lib.hid hkk
            have HTT := Lib.hid htt
            have HSS := Lib.hid hS'
            have HRR := Lib.hid hR'
            have HW3 := Lib.hid hw3
            have HPT3 := Lib.hid hpt
            have HC5 := Lib.hid hc5
            clear hpt hos hw3 hE3 hc5 hok hkk htt hS' hR' hxl hj3 c3
            refine wp_region_rowsG 13 (g) 6 (witC pv wv need (num g) s r) (witC pv wv need (num g) S' R') 46 [(fun v => v = .slice (some ⟨b, off, none⟩) gs.length kl), (fun v => v = .int .i64 k), (fun v => v = .pointer (some ⟨b, off + k, none⟩)), (fun v => v = .pointer (some ⟨g, 0, none⟩)), (fun v => v = .agg (pointC hs.length R (.slice a0 sl.length c0)).toArray), (fun v => v = .slice xa X.length xc), (fun v => v = .tuple #[.agg (sigC kk tt).toArray, .bool ok]), (fun v => v = .tuple #[.agg (sigC kk tt).toArray, .bool ok]), (fun v => v = .agg (sigC kk tt).toArray), (fun v => v = .bool ok), (fun _ => True), (fun _ => True), (fun v => v = .bool ok)] [⟨10, 11, zsigC, sigC kk tt, 35⟩] (by kernel_rfl) (by kernel_rfl) (by decide) (by exact HW3.out) (by rfl) (by rfl) _ rfl ?rops ?rfin
            case rops =>
              simp only [List.take_succ_cons, List.take_zero, rowsAllG]
              iterate 13
              
               (refine ⟨fun L x wr hL0 hL hd hJ Qg hK => ?_, ?_⟩
                · simp only [fill, Act.put, List.setIfInBounds_toArray, List.set_cons_succ, List.set_cons_zero, needs, Region.binds, List.filter_cons, List.filter_nil, List.map_cons, List.map_nil, if_true, List.mem_cons, List.not_mem_nil, or_false, forall_eq_or_imp, forall_eq, List.getD_cons_zero, List.getD_cons_succ, false_implies, implies_true] at hd hL hK ⊢
                  (try simp only [hd] at hK ⊢)
                  first
                  | (show wpList _ _ _ [⟨some 57, .load _ _, _, _, _, _⟩] _ _; have c7 := hJ.old.cell HC5.out hgb; go_wp2_with fail; exact hK _ _ (hJ.const rfl rfl (Below.refl _ _)) trivial)
                  | (show wpList _ _ _ [⟨some 58, .load _ _, _, _, _, _⟩] _ _; have hBr := hJ.old.blk HPT3.out (by omega); refine wpList_load_row rfl 40 (.tmp 7) rfl B rfl 40 (pointC hs.length R (.slice a0 sl.length c0)).toArray (0, 0) _ (by exact hBr) Tryd.underlying40 rfl (by exact point_row _ _ _) ?_; exact hK _ _ (hJ.const rfl rfl (Below.refl _ _)) trivial)
                  | (show wpList _ _ _ [⟨some 60, .call _, _, _, _, _⟩] _ _; have hwas := hJ.was hL0; go_wp2_with (go_at_call 14; refine (HASK.out wr hJ.old hwas).mono ?_; rintro e w5 ⟨rfl, hB5, hb5⟩); exact hK _ _ (hJ.turn rfl hb5 hB5) trivial)
                  | (show wpList _ _ _ [⟨some 13, .alloc _, _, _, _, _⟩] _ _; go_wp2_with fail; exact hK _ _ (hJ.alloc (List.mem_cons_self) rfl rfl hL0 rfl rfl) trivial)
                  | (show wpList _ _ _ [⟨none, .store _ (.tmp 13) _, _, _, _, _⟩] _ _; obtain ⟨p, e1, e2, e3⟩ := hJ.fresh (List.mem_cons_self) (by simp only [hL]) hL0; refine wpList_store_row rfl 35 (.tmp 13) (.tmp 61) rfl p (sigC kk tt).toArray (by exact e1) (by first | rfl | simp only [hd]) 35 (zsigC).toArray (by exact e3) (by exact sig_row _ _) (by simp [zsigC, sigC_len]) (by exact sig_one _ _) ?_; exact hK undef _ (hJ.store (List.mem_cons_self) rfl rfl (by simp only [hL]) e1 rfl rfl) trivial)
                  | (go_wp2_with fail; exact hK _ _ (hJ.const rfl rfl (Below.refl _ _)) trivial))
              trivial
            case rfin =>
              intro q u1 hbt hwg hR hrows hne
              obtain ⟨p1, e1, hp1, hB1⟩ := hrows _ List.mem_cons_self
              have e10 : q 10 = .pointer (some ⟨p1, 0, none⟩) := e1
              have x12 := hR 12 (by decide)
              simp only [List.getD_cons_zero, List.getD_cons_succ] at x12
              have HB1 := Lib.hid (show Blk u1 p1 (sigC kk tt) 35 from hB1)
              have hj4 := HJ3.out.but hbt hgm (S', R') hwg
              have HJ4 := Lib.hid hj4
              have lp1 := hB1.lt
              clear hR hrows hne hbt hwg hB1 e1 hj4 HASK HW3 HPT3 HC5 HJ3 HXS
              simp only [List.drop_succ_cons, List.drop_zero]
              generalize List.toArray _ = L0
              simp only [List.take_succ_cons, List.take_zero, List.map_cons, List.map_nil, fill, Act.put, List.setIfInBounds_toArray, List.set_cons_succ, List.set_cons_zero, e10, x12]
              clear e10 x12
              cases ok with
              | false =>
                go_wp2_with fail
                refine ⟨⟨k + 1, by go_num, by omega, ?_⟩, by simp [intOf]; omega⟩
                rw [HST.out, HAEQ.out, if_neg Bool.false_ne_true]
                have h9 := HJ4.out
                rw [show updS S g (S', R') = S from (by
                  funext z
                  unfold updS
                  by_cases ez : z = g
                  · rw [if_pos ez, ez, HSG.out, HSS.out, HRR.out]
                    rfl
                  · rw [if_neg ez])] at h9
                exact h9
              | true =>
                have hS' : S' = hs.length := by rw [HSS.out]; rfl
                have hR' : R' = R := by rw [HRR.out]; rfl
                have hk' : kk = num g := by rw [HKK.out]; rfl
                have ht' : tt = signH ps.length ws need (num g) hs.length R := by rw [HTT.out]; rfl
                subst hS' hR' hk'
                have HT' := Lib.hid ht'
                have hj4 := HJ4.out
                obtain ⟨a1, c1, hpt4, hos4⟩ := hj4.pt
                have c33 := point_sigs hpt4
                have hlt4 := hj4.lt
                have HOS := Lib.hid (ownsRow_isSl hos4 (sigsL_one _))
                have HPT4 := Lib.hid hpt4
                obtain ⟨i0, hi0, hz0, hz1, hz2⟩ := info_parts info_sig
                have HMO := Lib.hid (show ∀ (x : Int × H) (a : Option Addr) (c : Nat) (W' : World), Below (B + 1) u1 W' → W'.ownsRow (B + 1) 35 33 (.slice a (sl ++ [x]).length c) (sl ++ [x]).length (sigsL (sl ++ [x])) → RColl pv wv hs need gs num w B (updS S g (hs.length, R')) (sl ++ [x]) (W'.setCell ⟨B, 33, none⟩ (.slice a (sl ++ [x]).length c)) from fun x a c W' h1 h2 => hj4.more h1 x a c h2)
                clear hj4 hpt4 hos4 ht' HKK HTT HSS HRR
                go_wp2_with fail
                refine wp_region_monoF 6 (u1.heap.size) [] [(fun v wr => ∃ g, v = .slice (some ⟨g, 0, none⟩) 0 0 ∧ wr.ownsRow u1.heap.size 35 33 (.slice (some ⟨g, 0, none⟩) 0 0) 0 []), (fun v _ => v = .pointer (some ⟨B, 33, none⟩)), (fun v _ => v = .slice a1 sl.length c1), (fun v wr => wr.ownsRow u1.heap.size 35 33 v sl.length (sigsL sl)), (fun v _ => v = .agg (sigC (num g) tt).toArray), (fun v wr => IsSl wr v 33 1 (sigsL [(num g, tt)]))] (by kernel_rfl) (by kernel_rfl) (by decide) (Nat.le_refl _) ?mkept _ rfl ?mops ?mfin
                case mkept =>
                  repeat (refine List.forall_mem_cons.2 ⟨by first | exact fun _ _ _ _ h => h | exact fun _ _ _ hb h => Parts.below h hb | exact fun _ _ _ hb h => IsSl.below h hb | exact fun _ _ _ hb h => RowAt.below h hb | exact fun _ _ _ hb ⟨vs, h⟩ => ⟨vs, Parts.below h hb⟩ | exact fun _ _ _ hb h => ownsRow_below h hb (ownsRow_block h) | exact fun _ _ _ hb ⟨g, e, h⟩ => ⟨g, e, ownsRow_below h hb (ownsRow_block h)⟩, ?_⟩)
                  exact fun _ h => by cases h
                case mops =>
                  simp only [List.take_succ_cons, List.take_zero, monoAllF, List.getD_cons_zero, List.getD_cons_succ]
                  iterate 6
                  
                   (refine ⟨fun x wr hb hd Qg hK => ?_, ?_⟩
                    · as_aux_lemma =>
                      simp only [fill, Act.put, List.setIfInBounds_toArray, List.set_cons_succ, List.set_cons_zero, needs, Region.binds, List.filter_cons, List.filter_nil, List.map_cons, List.map_nil, if_true, List.mem_cons, List.not_mem_nil, or_false, forall_eq_or_imp, forall_eq, List.getD_cons_zero, List.getD_cons_succ, false_implies, implies_true] at hd hK ⊢
                      (try simp only [hd] at hK ⊢)
                      first
                      | (have hBr := HB1.out.below hb (lp1); refine wpList_load_rowIf rfl 35 (.tmp 13) rfl _ rfl 35 (sigC (num g) tt).toArray (0, 0) _ (by exact hBr) Tryd.underlying35 rfl (sig_row _ _) ?_; exact hK _ _ rfl (by first | exact trivial | exact fun h => absurd h (by decide) | exact fun _ => new_alloc _ _) (Below.refl _ _))
                      | (show wpList _ _ _ [⟨some 66, .load _ _, _, _, _, _⟩] _ _; have c0 := point_sigs (HPT4.out.below hb hlt4); go_wp2_with fail; exact hK _ _ rfl (by first | exact trivial | exact fun h => absurd h (by decide) | exact fun _ => new_alloc _ _) (Below.refl _ _))
                      | (refine wpList_sig rfl (.tmp 68) rfl (num g) tt rfl ?_; exact hK _ _ (sig_isSl wr (num g) tt) (by first | exact trivial | exact fun h => absurd h (by decide) | exact fun _ => new_alloc _ _) ((Below.refl _ _).alloc (Nat.le_refl _) _))
                      | (show wpList _ _ _ [⟨some 64, .buildSlice _ _ _, _, _, _, _⟩] _ _; go_wp2_with fail; exact hK _ _ ⟨_, rfl, own_base (World.ownsRow_made wr #[] 0 (Nat.le_refl _) (by decide) rfl) hb.size⟩ (by first | exact trivial | exact fun h => absurd h (by decide) | exact fun _ => new_alloc _ _) ((Below.refl _ _).alloc (Nat.le_refl _) _))
                      | (obtain ⟨⟨g, e0, hown⟩, e1⟩ := hd; refine wpList_sigs_lit rfl (.tmp 64) (.tmp 66) rfl u1.heap.size g (.slice a1 sl.length c1) sl e0 hown (by first | rfl | exact e1) (HOS.out.below hb) (by omega) hb.size ?_; intro v9 w9 hown9 hb9; exact hK _ _ hown9 (by first | exact trivial | exact fun h => absurd h (by decide) | exact fun _ => new_alloc _ _) hb9)
                      | (go_wp2_with fail; exact hK _ _ rfl (by first | exact trivial | exact fun h => absurd h (by decide) | exact fun _ => new_alloc _ _) (Below.refl _ _)))
                  trivial
                case mfin =>
                  intro z w9 hb9 hR9 _
                  have x3 := hR9 3 (by decide)
                  have x5 := hR9 5 (by decide)
                  simp only [List.getD_cons_zero, List.getD_cons_succ] at x3 x5
                  obtain ⟨ua, uc, hx3⟩ := ownsRow_form x3
                  obtain ⟨va, vc, hx5, _⟩ := x5.form
                  have X3 := Lib.hid x3
                  have X5 := Lib.hid x5
                  have HJ9 := Lib.hid (HJ4.out.below hb9)
                  have h9s := hb9.size
                  have HB9 := Lib.hid hb9
                  clear hR9 hb9 x3 x5 HJ4 HB1 c33 HOS
                  simp only [List.drop_succ_cons, List.drop_zero]
                  generalize List.toArray _ = L0
                  simp only [List.take_succ_cons, List.take_zero, List.map_cons, List.map_nil, fill, Act.put, List.setIfInBounds_toArray, List.set_cons_succ, List.set_cons_zero, hx3, hx5]
                  rw [hx3] at X3
                  rw [hx5] at X5
                  clear hx3 hx5
                  go_wp2_with (first
                    | (at_builtin; refine wpList_sigs rfl (.tmp 67) (.tmp 69) rfl u1.heap.size (.slice ua sl.length uc) (.slice va 1 vc) sl [(num g, tt)] rfl (by exact X3.out) rfl (by exact X5.out) (by simp; omega) (by omega) ?_; intro a2 c2 w12 hown hb12; have hb112 := (HB9.out.trans hb12).mono (B' := B + 1) (by omega); have hpt12 := HPT4.out.below hb112 (by omega); have c34 := point_sigs hpt12; have f34 := hpt12.frozen 33; have HMORE := Lib.hid (HMO.out (num g, tt) a2 c2 w12 hb112 (own_base hown (by omega))); clear hown hb12 hb112 hpt12)
                    | fail)
                  refine ⟨⟨k + 1, by go_num, by omega, ?_⟩, by simp [intOf]; omega⟩
                  rw [HST.out, HAEQ.out, if_pos rfl, ← HR.out, ← HT'.out]
                  have h9 := HMORE.out
                  simp only [List.length_append, List.length_cons, List.length_nil, Nat.zero_add] at h9
                  exact h9
          · have hev : d % 2 = 0 := by omega
            have hr1 : ((d : Int).tmod 2 == 0) = true := by rw [hr, hev]; rfl
            have hr2 : ((d : Int) % 2 == 0) = true := by rw [beq_iff_eq]; omega
            rw [decide_eq_false hodd] at hbit
            have hstep : collI hs m ps.length ws need num gs st (k + 1) = (S, sl) := by
              simp only [collI, hbit, Bool.false_and, Bool.false_eq_true, if_false]
              rw [hS, hsl]
            have HST := Lib.hid hstep
            have HJ1 := Lib.hid hj
            clear hj HJ hstep hS hsl hd hbit hg hgd hodd hr hd256 hev
            go_wp2_with fail
            refine ⟨⟨k + 1, by go_num, by omega, ?_⟩, by simp [intOf]; omega⟩
            rw [HST.out]
            exact HJ1.out
    · obtain rfl : i = gs.length := by omega
      have hlt' : ¬ (gs.length : Int) < gs.length := by omega
      obtain ⟨S, hS⟩ : ∃ S, S = (collI hs m ps.length ws need num gs st gs.length).1 := ⟨_, rfl⟩
      obtain ⟨sl, hsl⟩ : ∃ sl, sl = (collI hs m ps.length ws need num gs st gs.length).2 := ⟨_, rfl⟩
      rw [← hS, ← hsl] at hj
      have HS := Lib.hid hS
      have HSL := Lib.hid hsl
      obtain ⟨a1, c1, hB3, hO3⟩ := hj.pt
      have hlo := hj.lo
      have HJ3 := Lib.hid hj
      have HB3 := Lib.hid hB3
      have HO3 := Lib.hid hO3
      clear hj HJ hS hsl hB3 hO3
      go_wp2_with (first
        | (refine wpList_load_row rfl 40 (.tmp 7) rfl B rfl 40 (pointC hs.length (rootN ndH e0H hs) (.slice a1 sl.length c1)).toArray (0, 0) _ (by exact HB3.out) Tryd.underlying40 rfl (by exact point_row _ _ _) ?_)
        | (refine wpList_store_row rfl 40 (.tmp 6) (.tmp 72) rfl w.heap.size (pointC hs.length (rootN ndH e0H hs) (.slice a1 sl.length c1)).toArray rfl rfl 40 zpointC.toArray (by exact HJ3.out.out) (by exact point_row _ _ _) (by simp [zpointC, pointC_len]) (by exact point_one _ _ _ rfl) ?_)
        | fail)
      rw [← HS.out, ← HSL.out]
      have hj3 := HJ3.out
      refine bodyPost_ret (v := pointV hs.length (rootN ndH e0H hs) (.slice a1 sl.length c1)) (results_cell_row rfl _ _ w.heap.size 40 _ (0, 0) _ rfl (hj3.out.setRow _) Tryd.underlying40 rfl (point_row _ _ _)) rfl ⟨_, rfl, ?_, fun g hg => (hj3.wit g hg).setRow_other (by have := hj3.gl g hg; omega) _, hj3.old.then (below_setRow (Below.refl _ _) (Nat.le_refl _) _) (Nat.le_refl _)⟩
      have hO := HO3.out
      refine ⟨hO.1, ?_⟩
      rcases hO.2 with hn | ⟨q, cap, cur, e1, hq, hg', rest⟩
      · exact .inl hn
      · refine .inr ⟨q, cap, cur, e1, by omega, ?_, rest⟩
        rw [Go.setRow_other _ _ _ _ (show q ≠ w.heap.size by omega)]
        exact hg'
end Go.Proofs.YtldokkbfahobgaaDoor

/-! PointsW: The walk of the reference's Points, of two checkpoints that are alike. Conditions: the signatures can be read. -/
namespace Go.Proofs.YtldokkbfahobgaaDoor
open Go.RowKit

theorem sigs_elem {w : World} {a : Option Addr} {n c : Nat} {T : List (Int × H)} {i : Nat} {x : Int × H} (h : IsSl w (.slice a n c) 33 n (sigsL T)) (hn : T.length = n) (hx : T[i]? = some x) : ∃ b off, a = some ⟨b, off, none⟩ ∧ b < w.heap.size ∧ w.rangeAt b (off + i * 33) (sigC x.1 x.2) := by
  have hi := (List.getElem?_eq_some_iff.1 hx).1
  obtain ⟨b, off, cap, e, _, hr, hb⟩ := h.pos (by omega) (by decide)
  cases e
  refine ⟨b, off, rfl, hb, fun j u hu => ?_⟩
  have hj : j < 33 := by
    have := (List.getElem?_eq_some_iff.1 hu).1
    rw [sigC_len] at this
    exact this
  have := hr (i * 33 + j) u (by
    have e : sigsL T = (T.map fun x => sigC x.1 x.2).flatten := rfl
    rw [e, flat_at (fun x : Int × H => sigC x.1 x.2) 33 (by decide) (fun x => sigC_len _ _), show (i * 33 + j) / 33 = i by omega, show (i * 33 + j) % 33 = j by omega, hx]
    exact hu)
  rw [← Nat.add_assoc] at this
  exact this
set_option maxRecDepth 100000 in
set_option maxHeartbeats 4000000 in
theorem points_any (s : Int) (r : H) (T : List (Int × H)) (n : Nat) (a1 a2 : Option Addr) (c1 c2 : Nat) (w : World) (hn : T.length = n) (hn4 : n ≤ 1000) (h1 : IsSl w (.slice a1 n c1) 33 n (sigsL T)) (h2 : IsSl w (.slice a2 n c2) 33 n (sigsL T)) :
    Calls Tryd.prog 16 #[pointV s r (.slice a1 n c1), pointV s r (.slice a2 n c2)] w fun e w' => e = .returned (.bool true) ∧ Below w.heap.size w w' := by
  obtain ⟨W, hW⟩ : ∃ W, W = (w.alloc (.cells (pointC s r (.slice a1 n c1)).toArray 40)).alloc (.cells (pointC s r (.slice a2 n c2)).toArray 40) := ⟨_, rfl⟩
  have hb : Below w.heap.size w W := by rw [hW]; (repeat (first | with_reducible assumption | with_reducible exact Below.refl _ _ | ((with_reducible refine Below.setCell ?_ ?_ _); rotate_left; focus (first | omega | (simp; done) | (simp; omega))) | ((with_reducible refine Below.alloc ?_ ?_ _); rotate_left; focus (first | omega | (simp; done) | (simp; omega))) | ((with_reducible refine below_setRow ?_ ?_ _); rotate_left; focus (first | omega | (simp; done) | (simp; omega))) | (with_reducible refine below_drewN ?_ _) | (with_reducible refine Below.drew ?_)))
  have hP : Blk W w.heap.size (pointC s r (.slice a1 n c1)) 40 := by rw [hW]; exact (Blk.newL w _ _).alloc _
  have hQ : Blk W (w.heap.size + 1) (pointC s r (.slice a2 n c2)) 40 := by rw [hW]; exact Blk.newL1 w _ _ _
  have k0 : ((w.alloc (.cells (pointC s r (.slice a1 n c1)).toArray 40)).alloc (.cells (pointC s r (.slice a2 n c2)).toArray 40)).cell? ⟨w.heap.size, 0, none⟩ = some (.int .i64 s) := by rw [← hW]; exact point_size hP
  have k1 : ((w.alloc (.cells (pointC s r (.slice a1 n c1)).toArray 40)).alloc (.cells (pointC s r (.slice a2 n c2)).toArray 40)).cell? ⟨w.heap.size + 1, 0, none⟩ = some (.int .i64 s) := by rw [← hW]; exact point_size hQ
  have k2 : ((w.alloc (.cells (pointC s r (.slice a1 n c1)).toArray 40)).alloc (.cells (pointC s r (.slice a2 n c2)).toArray 40)).cell? ⟨w.heap.size, 33, none⟩ = some (.slice a1 n c1) := by rw [← hW]; exact point_sigs hP
  have k3 : ((w.alloc (.cells (pointC s r (.slice a1 n c1)).toArray 40)).alloc (.cells (pointC s r (.slice a2 n c2)).toArray 40)).cell? ⟨w.heap.size + 1, 33, none⟩ = some (.slice a2 n c2) := by rw [← hW]; exact point_sigs hQ
  have HP := Lib.hid hP
  have HQ := Lib.hid hQ
  have H1 := Lib.hid (h1.below hb)
  have H2 := Lib.hid (h2.below hb)
  have HB := Lib.hid hb
  have HW := Lib.hid hW
  have HR := fun w => is_hash w r
  have HTN := Lib.hid hn
  have lp := hP.lt
  have lq := hQ.lt
  clear hP hQ h1 h2 hb hW hn
  unfold pointV
  go_enter Tryd.func16, Tryd.ntmps16
  go_wp2_with (first
    | (refine wpList_load_midIf rfl 31 (.tmp 12) rfl w.heap.size 1 rfl (bytesV r.b) _ (by rw [← HW.out]; exact point_root HP.out) Tryd.underlying31 rfl (hv_info r) ?_)
    | (refine wpList_load_midIf rfl 31 (.tmp 14) rfl (w.heap.size + 1) 1 rfl (bytesV r.b) _ (by rw [← HW.out]; exact point_root HQ.out) Tryd.underlying31 rfl (hv_info r) ?_)
    | fail)
  clear HR k0 k1
  rw [← HW.out] at k2 k3
  go_loopw [5] (fun iv wr => ∃ i : Nat, iv = .int .i64 i ∧ i ≤ n ∧ Below W.heap.size W wr) (fun iv _ => n - (intOf iv).toNat)
  case atStart => exact ⟨0, rfl, by omega, by rw [← HW.out]; exact Below.refl _ _⟩
  case round =>
    obtain ⟨i, rfl, hi, hbx⟩ := hrel
    have hw9 := HB.out.trans (hbx.mono HB.out.size)
    have c0 := point_sigs (HP.out.below hbx lp)
    have HPX := Lib.hid (HP.out.below hbx lp)
    have HQX := Lib.hid (HQ.out.below hbx lq)
    by_cases hlt : i < n
    · have hlt' : (i : Int) < n := by omega
      have hix : (0 : Int) ≤ i ∧ (i : Int) < n := ⟨by omega, hlt'⟩
      obtain ⟨x, hx⟩ : ∃ x, T[i]? = some x := ⟨_, List.getElem?_eq_getElem (by rw [HTN.out]; exact hlt)⟩
      obtain ⟨b1, o1, rfl, l1, hr1⟩ := sigs_elem (H1.out.below hbx) HTN.out hx
      obtain ⟨b2, o2, rfl, l2, hr2⟩ := sigs_elem (H2.out.below hbx) HTN.out hx
      have HR1 := Lib.hid hr1
      have HR2 := Lib.hid hr2
      have HBX := Lib.hid hbx
      have HQS := fun w => eq_sig_same w x.1 x.2
      have lpx := HPX.out.lt
      have lqx := HQX.out.lt
      clear hr1 hr2 hx hbx k2 k3
      go_wp2_with fail
      clear c0
      refine wp_region_mono 11 (wr.heap.size) [(fun v _ => v = .pointer (some ⟨w.heap.size, 33, none⟩)), (fun v _ => v = .slice (some ⟨b1, o1, none⟩) n c1), (fun v _ => v = .int .i64 i), (fun v _ => v = .pointer (some ⟨b1, o1 + i * 33, none⟩)), (fun v _ => v = .agg (sigC x.1 x.2).toArray), (fun v _ => v = .pointer (some ⟨w.heap.size + 1, 33, none⟩)), (fun v _ => v = .slice (some ⟨b2, o2, none⟩) n c2), (fun v _ => v = .int .i64 i), (fun v _ => v = .pointer (some ⟨b2, o2 + i * 33, none⟩)), (fun v _ => v = .agg (sigC x.1 x.2).toArray), (fun v _ => v = .bool false)] (by kernel_rfl) (by kernel_rfl) (Nat.le_refl _) ?mkept _ rfl ?mops ?mfin
      case mkept =>
        repeat (refine List.forall_mem_cons.2 ⟨by first | exact fun _ _ _ _ h => h | exact fun _ _ _ hb h => Parts.below h hb | exact fun _ _ _ hb h => IsSl.below h hb, ?_⟩)
        exact fun _ h => by cases h
      case mops =>
        simp only [List.take_succ_cons, List.take_zero, monoAll, List.getD_cons_zero, List.getD_cons_succ]
        iterate 11
        
         (refine ⟨fun x wr hb hd Qg hK => ?_, ?_⟩
          · as_aux_lemma =>
            simp only [fill, Act.put, List.setIfInBounds_toArray, List.set_cons_succ, List.set_cons_zero, needs, Region.binds, List.filter_cons, List.filter_nil, List.map_cons, List.map_nil, if_true, List.mem_cons, List.not_mem_nil, or_false, forall_eq_or_imp, forall_eq, List.getD_cons_zero, List.getD_cons_succ, false_implies, implies_true] at hd hK ⊢
            (try simp only [hd] at hK ⊢)
            first
            | (show wpList _ _ _ [⟨some 35, .load _ _, _, _, _, _⟩] _ _; have c0 := point_sigs (HPX.out.below hb lpx); go_wp2_with fail; exact hK _ _ rfl (Below.refl _ _))
            | (show wpList _ _ _ [⟨some 40, .load _ _, _, _, _, _⟩] _ _; have c0 := point_sigs (HQX.out.below hb lqx); go_wp2_with fail; exact hK _ _ rfl (Below.refl _ _))
            | (show wpList _ _ _ [⟨some 38, .load _ _, _, _, _, _⟩] _ _; refine wpList_load_mid rfl 35 (.tmp 37) rfl b1 (o1 + i * 33) rfl (sigC _ _) _ (range_below HR1.out hb) Tryd.underlying35 rfl (by exact sig_len _ _) ?_; exact hK _ _ rfl (Below.refl _ _))
            | (show wpList _ _ _ [⟨some 43, .load _ _, _, _, _, _⟩] _ _; refine wpList_load_mid rfl 35 (.tmp 42) rfl b2 (o2 + i * 33) rfl (sigC _ _) _ (range_below HR2.out hb) Tryd.underlying35 rfl (by exact sig_len _ _) ?_; exact hK _ _ rfl (Below.refl _ _))
            | (go_wp2_with fail; exact hK _ _ rfl (Below.refl _ _)))
        trivial
      case mfin =>
        intro z w9 hb9 hR9
        have x10 := hR9 10 (by decide)
        simp only [List.getD_cons_zero, List.getD_cons_succ] at x10
        have HB9 := Lib.hid (HBX.out.trans (hb9.mono HBX.out.size))
        clear hR9 hb9 HQS
        simp only [List.drop_succ_cons, List.drop_zero]
        generalize List.toArray _ = L0
        simp only [List.take_succ_cons, List.take_zero, List.map_cons, List.map_nil, fill, Act.put, List.setIfInBounds_toArray, List.set_cons_succ, List.set_cons_zero, x10]
        clear x10
        go_wp2_with fail
        exact ⟨⟨i + 1, by go_num, by omega, HB9.out⟩, by simp [intOf]; omega⟩
    · obtain rfl : i = n := by omega
      have hlt' : ¬ (i : Int) < i := by omega
      clear hbx k2 k3
      go_wp2_with fail
      go_ret
      exact ⟨rfl, hw9⟩
end Go.Proofs.YtldokkbfahobgaaDoor

/-! ButR: A region that draws its order, one of whose operations turns blocks that were there (and may panic); the others turn nothing; the tail stands in one forced order. Condition: the Bool monoFB, and that the program follows the row on mixed orders. -/
namespace Go.Proofs.YtldokkbfahobgaaDoor
open Go Go.BigFrame Go.RowKit
section
variable {P : Program} {ops : Array Oper} {md : Region.Mode}

def burAll (P : Program) (md : Region.Mode) (ops : Array Oper) (s : Nat) (gs : List Nat) (St : Bool → World → Prop) (R : Nat → Value → World → Prop) (Pn : List PanicEntry → World → Prop) (ds : List (Option Tmp)) (a0 : Act) (w0 : World) : List Oper → Nat → Prop
  | [], _ => True
  | o :: rest, i => (∀ (x : Nat → Value) (w : World), ButS gs w0 w → (∀ j ∈ needs md o, R j (x j) w) → (i = s → St false w) → ∀ Qg : Exit → Act → World → Prop,
      (∀ v w', R i v w' → (i = s → ButS gs w w' ∧ St true w') → (i ≠ s → Below w.heap.size w w') → Qg .normal ((fill x ds 0 a0).put o.dst v) w') → (∀ c a w', a.defers = a0.defers → Pn c w' → Qg (.panic c) a w') → wpList P ops Qg [o] (fill x ds 0 a0) w) ∧ burAll P md ops s gs St R Pn ds a0 w0 rest (i + 1)
def burJ (s : Nat) (gs : List Nat) (St : Bool → World → Prop) (R : Nat → Value → World → Prop) (w0 : World) (L : Nat → Bool) (x : Nat → Value) (w : World) : Prop := ButS gs w0 w ∧ (∀ j, L j = true → R j (x j) w) ∧ St (L s) w
theorem burAll_inv {s : Nat} {gs : List Nat} {St : Bool → World → Prop} {R : Nat → Value → World → Prop} {Pn : List PanicEntry → World → Prop} {ds : List (Option Tmp)} {a0 : Act} {w0 : World}
    (hRk : ∀ j v w w', ButS gs w w' → R j v w → R j v w') (hSk : ∀ b w w', Below w.heap.size w w' → St b w → St b w') :
    ∀ (l : List Oper) (i : Nat), burAll P md ops s gs St R Pn ds a0 w0 l i → invAll P md ops (burJ s gs St R w0) Pn ds a0 l i
  | [], _, _ => trivial
  | o :: l, i, h => by
    refine ⟨fun L x w hL hn hJ Qg hK hP => ?_, burAll_inv hRk hSk l (i + 1) h.2⟩
    obtain ⟨hb, hR, hS⟩ := hJ
    refine h.1 x w hb (fun j hj => hR j (hn j hj)) (fun e => by subst e; rw [hL] at hS; exact hS) Qg (fun v w' hv h1 h2 => hK v w' ?_) hP
    have hbw : ButS gs w w' := by
      by_cases e : i = s
      · exact (h1 e).1
      · exact ButS.of (h2 e)
    refine ⟨hb.trans hbw, fun j hj => ?_, ?_⟩
    · unfold updL at hj
      unfold upd
      by_cases e : j = i
      · subst e
        rw [if_pos rfl]
        exact hv
      · rw [if_neg e] at hj ⊢
        exact hRk _ _ _ _ hbw (hR j hj)
    · unfold updL
      by_cases e : s = i
      · rw [if_pos e]
        exact (h1 e.symm).2
      · rw [if_neg e]
        exact hSk _ _ _ (h2 (fun h => e h.symm)) hS
theorem wp_region_bur {id : Nat} {Q : Exit → Act → World → Prop} {a0 : Act} {w0 : World} {l : List Oper} (n s : Nat) (gs : List Nat) (St : Bool → World → Prop) (Rs : List (Value → World → Prop)) (Pn : List PanicEntry → World → Prop) (hm : P.follows .mixedOrders = true) (hB : monoFB l.toArray n = true)
    (hs : s < n) (hlen : Rs.length = n) (ds : List (Option Tmp)) (hds : (l.take n).map (·.dst) = ds) (hRk : ∀ R ∈ Rs, ∀ v w w', ButS gs w w' → R v w → R v w') (hSk : ∀ b w w', Below w.heap.size w w' → St b w → St b w')
    (hS0 : St false w0) (hPn : ∀ c a w, a.defers = a0.defers → Pn c w → Q (.panic c) a w)
    (hops : burAll P .any l.toArray s gs St (fun j => Rs.getD j fun _ _ => True) Pn ds a0 w0 (l.take n) 0)
    (hfin : ∀ (x : Nat → Value) (w : World), ButS gs w0 w → (∀ j, j < n → Rs.getD j (fun _ _ => True) (x j) w) → St true w → wpList P l.toArray Q (l.drop n) (fill x ds 0 a0) w) : (Code.region id l.toArray true).wp P Q a0 w0 := by
  have hdr : Below w0.heap.size w0 w0.drew := (Below.refl _ _).drew
  have hRk' : ∀ j v w w', ButS gs w w' → Rs.getD j (fun _ _ => True) v w → Rs.getD j (fun _ _ => True) v w' := fun j v w w' hb h => by
    by_cases hj : j < Rs.length
    · rw [getD_here _ _ _ hj] at h ⊢
      exact hRk _ (List.getElem_mem hj) v w w' hb h
    · rw [getD_past _ _ _ (by omega)]
      trivial
  refine wp_region_inv n (burJ s gs St (fun j => Rs.getD j fun _ _ => True) w0) Pn hm hB ds hds (fun L x hL => ⟨ButS.of hdr, fun j hj => ?_, ?_⟩) hPn (burAll_inv hRk' hSk _ 0 hops) (fun L x w hL hJ => ?_)
  · by_cases h : j < n
    · rw [hL j h] at hj
      cases hj
    · show Rs.getD j (fun _ _ => True) (x j) w0.drew
      rw [getD_past _ _ _ (by omega)]
      trivial
  · rw [hL s hs]
    exact hSk _ _ _ hdr hS0
  · obtain ⟨hb, hR, hS⟩ := hJ
    refine hfin x w hb (fun j hj => hR j (hL j hj)) ?_
    rw [hL s hs] at hS
    exact hS
end
end Go.Proofs.YtldokkbfahobgaaDoor

/-! PairW: Two lists of witnesses, ours and the reference's, that have signed the same; a Collect of either. Conditions: the keys and the list can be read; the package's tables read as they are laid. -/
namespace Go.Proofs.YtldokkbfahobgaaDoor
open Go.RowKit

/-- What witnesses make of a Collect, by their places. -/
def collP (hs : List H) (mask : Int) (np : Nat) (nw : List H) (need : Int) (N : Nat) (Q : Nat → Int × H) (i : Nat) : (Nat → Int × H) × List (Int × H) := collI hs mask np nw need (fun j => (j : Int)) (List.range N) Q i
theorem coll_pos (hs : List H) (mask : Int) (np : Nat) (nw : List H) (need : Int) (gs : List Nat) (Q : Nat → Int × H) (hnd : gs.Nodup) : ∀ i, i ≤ gs.length → (collI hs mask np nw need (numOf gs) gs (fun g => Q (gs.idxOf g)) i).2 = (collP hs mask np nw need gs.length Q i).2 ∧
    ∀ (j g : Nat), gs[j]? = some g → (collI hs mask np nw need (numOf gs) gs (fun g => Q (gs.idxOf g)) i).1 g = (collP hs mask np nw need gs.length Q i).1 j
  | 0, _ => ⟨rfl, fun j g hj => by
      obtain ⟨h1, h2⟩ := List.getElem?_eq_some_iff.1 hj
      show Q (gs.idxOf g) = Q j
      rw [← h2, hnd.idxOf_getElem]⟩
  | i + 1, hi => by
    obtain ⟨ih1, ih2⟩ := coll_pos hs mask np nw need gs Q hnd i (by omega)
    obtain ⟨x, hx⟩ : ∃ x, gs[i]? = some x := ⟨_, List.getElem?_eq_getElem (by omega)⟩
    have hxd : gs.getD i 0 = x := by rw [List.getD_eq_getElem?_getD, hx]; rfl
    have hrd : (List.range gs.length).getD i 0 = i := by rw [List.getD_eq_getElem?_getD, List.getElem?_range (by omega)]; rfl
    have hne : ∀ (j g : Nat), gs[j]? = some g → (g = x ↔ j = i) := fun j g hj => by
      constructor
      · rintro rfl
        obtain ⟨h1, h2⟩ := List.getElem?_eq_some_iff.1 hj
        obtain ⟨h3, h4⟩ := List.getElem?_eq_some_iff.1 hx
        exact (List.getElem_inj hnd).1 (h2.trans h4.symm)
      · rintro rfl
        rw [hj] at hx
        exact Option.some.inj hx
    have hQ := ih2 i x hx
    unfold collP at ih1 ih2 hQ ⊢
    simp only [collI, hxd, hrd, hQ, numOf_at hnd hx]
    by_cases hc : (bitB mask i && askedB hs ((collI hs mask np nw need (fun j => (j : Int)) (List.range gs.length) Q i).1 i)) = true
    · rw [if_pos hc, if_pos hc]
      refine ⟨by rw [ih1], fun j g hj => ?_⟩
      show updS _ x _ g = updS _ i _ j
      unfold updS
      by_cases e : g = x
      · rw [if_pos e, if_pos ((hne j g hj).1 e)]
      · rw [if_neg e, if_neg (fun e' => e ((hne j g hj).2 e')), ih2 j g hj]
    · rw [if_neg hc, if_neg hc]
      exact ⟨ih1, ih2⟩
/-- What does not turn: the two lists' values, the blocks. -/
structure Stat (w0 : World) (pv wv : Value) (ps ws : List H) (need : Int) (lv rv : Value) (gs gr : List Nat) : Prop where
  hp : Hs w0 pv ps
  hw : Hs w0 wv ws
  hg : Glob w0
  hm : mayB ps.length ws.length need = true
  nd : gs.Nodup
  ndr : gr.Nodup
  base : ∀ g ∈ gs, w0.heap.size ≤ g
  baser : ∀ g ∈ gr, w0.heap.size ≤ g
  dis : ∀ g ∈ gs, g ∉ gr
  la : ApartS gs lv
  lar : ApartS gr lv
  ra : ApartS gs rv
  rar : ApartS gr rv
/-- What turns: what they have signed. -/
structure Dyn (w0 : World) (pv wv : Value) (need : Int) (lv rv : Value) (gs gr : List Nat) (W : World) (Q Q' : Nat → Int × H) : Prop where
  sl : IsSl W lv 1 gs.length (gs.map ptrV)
  slr : IsSl W rv 1 gr.length (gr.map ptrV)
  wit : ∀ (j g : Nat), gs[j]? = some g → Blk W g (witC pv wv need j (Q j).1 (Q j).2) 67
  witr : ∀ (j g : Nat), gr[j]? = some g → Blk W g (witC pv wv need j (Q' j).1 (Q' j).2) 46
  old : Below w0.heap.size w0 W
section
variable {w0 W W' : World} {pv wv lv rv : Value} {ps ws : List H} {need : Int} {gs gr : List Nat} {Q Q' : Nat → Int × H}
theorem Dyn.below (d : Dyn w0 pv wv need lv rv gs gr W Q Q') (hb : Below W.heap.size W W') : Dyn w0 pv wv need lv rv gs gr W' Q Q' :=
  ⟨d.sl.below hb, d.slr.below hb, fun j g hj => (d.wit j g hj).below hb (d.wit j g hj).lt, fun j g hj => (d.witr j g hj).below hb (d.witr j g hj).lt, d.old.trans (hb.mono d.old.size)⟩
theorem Dyn.lt (d : Dyn w0 pv wv need lv rv gs gr W Q Q') {g : Nat} (hg : g ∈ gs) : g < W.heap.size := by
  obtain ⟨j, hj⟩ := List.mem_iff_getElem?.1 hg
  exact (d.wit j g hj).lt
theorem Dyn.ltr (d : Dyn w0 pv wv need lv rv gs gr W Q Q') {g : Nat} (hg : g ∈ gr) : g < W.heap.size := by
  obtain ⟨j, hj⟩ := List.mem_iff_getElem?.1 hg
  exact (d.witr j g hj).lt
theorem Stat.collect (s : Stat w0 pv wv ps ws need lv rv gs gr) (d : Dyn w0 pv wv need lv rv gs gr W Q Q') (hv : Value) (hs : List H) (hhs : Hs w0 hv hs) (hl : hs.length ≤ 400) (hgl : gs.length ≤ 8) (m N : Nat) (R : H) (T : List (Int × H)) (Q1 : Nat → Int × H) (hN : hs.length = N) (hR : R = rootN ndH e0H hs) (hT : T = (collP hs m ps.length ws need gs.length Q gs.length).2) (hQ : Q1 = (collP hs m ps.length ws need gs.length Q gs.length).1) :
    Calls Tryd.prog 15 #[lv, hv, .int .i64 m] W fun e w' => (∃ a c, e = .returned (pointV N R (.slice a T.length c)) ∧ w'.ownsRow W.heap.size 35 33 (.slice a T.length c) T.length (sigsL T)) ∧ Dyn w0 pv wv need lv rv gs gr w' Q1 Q' ∧ ButS gs W w' := by
  obtain ⟨m1, m2, m3, m4, _, _⟩ := may_true s.hm
  subst hN hR hT hQ
  have hE : WEnv W pv wv hv lv ps ws hs need gs (numOf gs) (fun g => Q (gs.idxOf g)) 67 :=
    { pk := s.hp.below d.old, wk := s.hw.below d.old, hk := hhs.below d.old, sl := d.sl
      wit := fun g hg => by
        obtain ⟨j, hj⟩ := List.mem_iff_getElem?.1 hg
        have h2 := (List.getElem?_eq_some_iff.1 hj)
        obtain ⟨h3, h4⟩ := h2
        have h5 : gs.idxOf g = j := by rw [← h4, s.nd.idxOf_getElem]
        show Blk W g (witC pv wv need (numOf gs g) (Q (gs.idxOf g)).1 (Q (gs.idxOf g)).2) _
        rw [numOf_at s.nd hj, h5]
        exact d.wit j g hj
      glob := s.hg.below d.old
      pa := apartS_pos s.hp (by omega) (by decide) s.base
      wa := apartS_pos s.hw (by omega) (by decide) s.base
      ha := fun h0 => apartS_pos hhs h0 (by decide) s.base
      la := s.la }
  refine (collect_any pv wv hv lv ps ws hs need m gs (numOf gs) (fun g => Q (gs.idxOf g)) W hE (by omega) hl (by omega)).mono ?_
  rintro e w' ⟨sv, rfl, ho, hw, hb⟩
  obtain ⟨p1, p2⟩ := coll_pos hs m ps.length ws need gs Q s.nd gs.length (Nat.le_refl _)
  rw [p1] at ho
  obtain ⟨a, c, hsv⟩ := ownsRow_form ho
  subst hsv
  refine ⟨⟨a, c, rfl, ho⟩, ?_, hb⟩
  · refine ⟨hb.isSl d.sl (fun _ => s.la), hb.isSl d.slr (fun _ => s.ra), fun j g hj => ?_, fun j g hj => hb.blk (d.witr j g hj) (fun hm => s.dis g hm (List.mem_of_getElem? hj)), d.old.trans ⟨hb.os, hb.tape, hb.output, hb.size, fun k hk => hb.block k (by have := d.old.size; omega) (fun hm => by have := s.base k hm; omega)⟩⟩
    have h1 := hw g (List.mem_of_getElem? hj)
    rw [numOf_at s.nd hj, p2 j g hj] at h1
    exact h1
theorem Stat.refcollect (s : Stat w0 pv wv ps ws need lv rv gs gr) (d : Dyn w0 pv wv need lv rv gs gr W Q Q') (hv : Value) (hs : List H) (hhs : Hs w0 hv hs) (hl : hs.length ≤ 400) (hgl : gr.length ≤ 8) (m N : Nat) (hm : m < 256) (R : H) (T : List (Int × H)) (Q1 : Nat → Int × H) (hN : hs.length = N) (hR : R = rootN ndH e0H hs) (hT : T = (collP hs m ps.length ws need gr.length Q' gr.length).2) (hQ : Q1 = (collP hs m ps.length ws need gr.length Q' gr.length).1) :
    Calls Tryd.prog 17 #[rv, hv, .int .i64 m] W fun e w' => (∃ a c, e = .returned (pointV N R (.slice a T.length c)) ∧ w'.ownsRow W.heap.size 35 33 (.slice a T.length c) T.length (sigsL T)) ∧ Dyn w0 pv wv need lv rv gs gr w' Q Q1 ∧ ButS gr W w' := by
  obtain ⟨m1, m2, m3, m4, _, _⟩ := may_true s.hm
  subst hN hR hT hQ
  have hE : WEnv W pv wv hv rv ps ws hs need gr (numOf gr) (fun g => Q' (gr.idxOf g)) 46 :=
    { pk := s.hp.below d.old, wk := s.hw.below d.old, hk := hhs.below d.old, sl := d.slr
      wit := fun g hg => by
        obtain ⟨j, hj⟩ := List.mem_iff_getElem?.1 hg
        have h2 := (List.getElem?_eq_some_iff.1 hj)
        obtain ⟨h3, h4⟩ := h2
        have h5 : gr.idxOf g = j := by rw [← h4, s.ndr.idxOf_getElem]
        show Blk W g (witC pv wv need (numOf gr g) (Q' (gr.idxOf g)).1 (Q' (gr.idxOf g)).2) _
        rw [numOf_at s.ndr hj, h5]
        exact d.witr j g hj
      glob := s.hg.below d.old
      pa := apartS_pos s.hp (by omega) (by decide) s.baser
      wa := apartS_pos s.hw (by omega) (by decide) s.baser
      ha := fun h0 => apartS_pos hhs h0 (by decide) s.baser
      la := s.rar }
  refine (refcollect_any pv wv hv rv ps ws hs need m gr (numOf gr) (fun g => Q' (gr.idxOf g)) W hE (by omega) hl hgl hm).mono ?_
  rintro e w' ⟨sv, rfl, ho, hw, hb⟩
  obtain ⟨p1, p2⟩ := coll_pos hs m ps.length ws need gr Q' s.ndr gr.length (Nat.le_refl _)
  rw [p1] at ho
  obtain ⟨a, c, hsv⟩ := ownsRow_form ho
  subst hsv
  refine ⟨⟨a, c, rfl, ho⟩, ?_, hb⟩
  · refine ⟨hb.isSl d.sl (fun _ => s.lar), hb.isSl d.slr (fun _ => s.rar), fun j g hj => hb.blk (d.wit j g hj) (fun hm => s.dis g (List.mem_of_getElem? hj) hm), fun j g hj => ?_, d.old.trans ⟨hb.os, hb.tape, hb.output, hb.size, fun k hk => hb.block k (by have := d.old.size; omega) (fun hm => by have := s.baser k hm; omega)⟩⟩
    have h1 := hw g (List.mem_of_getElem? hj)
    rw [numOf_at s.ndr hj, p2 j g hj] at h1
    exact h1
/-- Other blocks turned. -/
theorem Dyn.other {gp : List Nat} (d : Dyn w0 pv wv need lv rv gs gr W Q Q') (hb : ButS gp W W') (h1 : ∀ g ∈ gs, g ∉ gp) (h2 : ∀ g ∈ gr, g ∉ gp) (h3 : ApartS gp lv) (h4 : ApartS gp rv) (h5 : ∀ g ∈ gp, w0.heap.size ≤ g) : Dyn w0 pv wv need lv rv gs gr W' Q Q' :=
  ⟨hb.isSl d.sl (fun _ => h3), hb.isSl d.slr (fun _ => h4), fun j g hj => hb.blk (d.wit j g hj) (h1 g (List.mem_of_getElem? hj)), fun j g hj => hb.blk (d.witr j g hj) (h2 g (List.mem_of_getElem? hj)),
    d.old.trans ⟨hb.os, hb.tape, hb.output, hb.size, fun k hk => hb.block k (by have := d.old.size; omega) (fun hm => by have := h5 k hm; omega)⟩⟩
end
theorem buts_below {gs : List Nat} {B : Nat} {W W' : World} (hb : ButS gs W W') (h1 : ∀ g ∈ gs, B ≤ g) (h2 : B ≤ W.heap.size) : Below B W W' :=
  ⟨hb.os, hb.tape, hb.output, hb.size, fun k hk => hb.block k (by omega) (fun hm => by have := h1 k hm; omega)⟩
theorem own_buts {gs : List Nat} {W W' : World} {base : Nat} {e : TypeId} {size : Nat} {v : Value} {n : Nat} {xs : List Value} (h : W.ownsRow base e size v n xs) (hb : ButS gs W W') (hg : ∀ g ∈ gs, g < base) : W'.ownsRow base e size v n xs := by
  refine ⟨h.1, ?_⟩
  rcases h.2 with hn | ⟨k, cap, cur, e1, hk, hg', rest⟩
  · exact .inl hn
  · exact .inr ⟨k, cap, cur, e1, hk, (hb.block k (Array.getElem?_eq_some_iff.1 hg').1 (fun hm => by have := hg k hm; omega)).trans hg', rest⟩
theorem own_row {W : World} {base p : Nat} {e e' : TypeId} {size : Nat} {v : Value} {n : Nat} {xs l : List Value} (h : W.ownsRow base e size v n xs) (hB : Blk W p l e') (hne : e ≠ e') (cs : Array Value) : (W.setRow p cs).ownsRow base e size v n xs := by
  have hp := own_ne h hB hne
  refine ⟨h.1, ?_⟩
  rcases h.2 with hn | ⟨k, cap, cur, rfl, hk, hg', rest⟩
  · exact .inl hn
  · refine .inr ⟨k, cap, cur, rfl, hk, ?_, rest⟩
    rw [Go.setRow_other _ _ _ _ (show k ≠ p from fun e => hp (by rw [e]; rfl))]
    exact hg'
theorem ButS.row (p : Nat) (W : World) (cs : Array Value) : ButS [p] W (W.setRow p cs) :=
  ⟨rfl, rfl, rfl, by simp, fun k _ hn => Go.setRow_other W p k cs (fun e => hn (by rw [e]; exact List.mem_singleton.2 rfl))⟩
end Go.Proofs.YtldokkbfahobgaaDoor
