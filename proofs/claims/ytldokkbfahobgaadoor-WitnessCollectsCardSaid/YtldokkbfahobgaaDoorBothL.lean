/- The walks of must.is and of keys.Check, where every signature is right. The law WitnessBoth, walked. Conditions: what each part says. -/
import Derived.Test.YtldokkbfahobgaaDoorAliveU
import Derived.Test.YtldokkbfahobgaaDoorOpenB
import Derived.Test.YtldokkbfahobgaaDoorNoneW
import Derived.Test.YtldokkbfahobgaaDoorWitZZ
/-! CheckW: The walks of must.is and of keys.Check, where every signature is right. Conditions: the keys and the signatures can be read; the package's tables read as they are laid. -/
namespace Go.Proofs.YtldokkbfahobgaaDoor
open Go.RowKit

theorem sig_len (n : Int) (t : H) : (Tryd.prog.info? 35).map (·.size) = some (sigC n t).length := by rw [sig_info, sigC_len]
theorem must_info : (Tryd.prog.info? 80).map (·.size) = some 32 := by kernel_rfl
theorem must_row (t : H) : (Tryd.prog.info? 80).map (·.size) = some (bytesV t.b).toArray.size := by rw [must_info, List.size_toArray, bytesV_len, t.len]
theorem wpList_built1 {P : Program} {ops : Array Oper} {rest : List Oper} {o : Oper} {a : Act} {w : World} {Q : Exit → Act → World → Prop} (hg : o.guard = none) (t : TypeId) (i : Nat) (x : Operand) (u : Value) (cells : Array Value) (ho : o.op = .build t #[(i, x)])
    (hx : a.eval x = u) (hb : P.built t [(i, u)] = some cells) (h : wpList P ops Q rest (a.put o.dst (.agg cells)) w) : wpList P ops Q (o :: rest) a w := by
  have e : (P.built t ((#[(i, x)] : Array (Nat × Operand)).map fun (i, x) => (i, a.eval x)).toList) = some cells := by
    rw [← hb, ← hx]
    simp
  refine wpList_build hg t _ ho (by rw [e]; rfl) ?_
  rw [e]
  exact h
theorem built_must (r : H) : Tryd.prog.built 80 [(0, hv r)] = some (bytesV r.b).toArray := by
  obtain ⟨b, hb⟩ := r
  match b, hb with
  | [b0, b1, b2, b3, b4, b5, b6, b7, b8, b9, b10, b11, b12, b13, b14, b15, b16, b17, b18, b19, b20, b21, b22, b23, b24, b25, b26, b27, b28, b29, b30, b31], _ => change Tryd.prog.built _ _ = some _; kernel_rfl
set_option maxRecDepth 100000 in
set_option maxHeartbeats 1000000 in
theorem is_any (x y : H) (w : World) :
    Calls Tryd.prog 35 #[.agg (bytesV x.b).toArray, .agg (bytesV y.b).toArray] w fun e w' => e = .returned (.bool (x.b == y.b)) ∧ Below w.heap.size w w' := by
  obtain ⟨W, hW⟩ : ∃ W, W = (w.alloc (.cells (bytesV x.b).toArray 80)).alloc (.cells (bytesV y.b).toArray 31) := ⟨_, rfl⟩
  have hb : Below w.heap.size w W := by rw [hW]; (repeat (first | with_reducible assumption | with_reducible exact Below.refl _ _ | ((with_reducible refine Below.setCell ?_ ?_ _); rotate_left; focus (first | omega | (simp; done) | (simp; omega))) | ((with_reducible refine Below.alloc ?_ ?_ _); rotate_left; focus (first | omega | (simp; done) | (simp; omega))) | ((with_reducible refine below_setRow ?_ ?_ _); rotate_left; focus (first | omega | (simp; done) | (simp; omega))) | (with_reducible refine below_drewN ?_ _) | (with_reducible refine Below.drew ?_)))
  have hX : Blk W w.heap.size (bytesV x.b) 80 := by rw [hW]; exact (Blk.newL w _ _).alloc _
  have hY : Blk W (w.heap.size + 1) (bytesV y.b) 31 := by rw [hW]; exact Blk.newL1 w _ _ _
  have hXr : W.rangeAt w.heap.size 0 (bytesV x.b) := fun j u hu => by rw [Nat.zero_add]; exact hX.cell hu
  have HX := Lib.hid hXr
  have HY := Lib.hid hY
  have HW := Lib.hid hW
  clear hX hY hXr hW
  go_enter Tryd.func35, Tryd.ntmps35
  go_wp2_with (first
    | (refine wpList_load_mid rfl 31 (.tmp 5) rfl w.heap.size 0 rfl (bytesV x.b) _ (by rw [← HW.out]; exact HX.out) Tryd.underlying31 rfl (by exact hv_info _) ?_)
    | (refine wpList_load_row rfl 31 (.tmp 3) rfl (w.heap.size + 1) rfl 31 (bytesV y.b).toArray (0, 0) _ (by rw [← HW.out]; exact HY.out) Tryd.underlying31 rfl (by exact hv_row _) ?_)
    | fail)
  refine calls_world HW.out ?_
  refine (equal_any x.b y.b W x.len y.len).mono ?_
  rintro e w2 ⟨rfl, hb2⟩
  have hw2 := hb.trans (hb2.mono hb.size)
  clear hb2
  go_wp2_with fail
  go_ret
  exact ⟨rfl, hw2⟩
def hadV (i : Nat) : List Value := (List.range 4).map fun j => .bool (decide (j < i))
theorem had_next (i : Nat) (hi : i < 4) : (hadV i).set i (.bool true) = hadV (i + 1) := by
  match i, hi with
  | 0, _ => rfl
  | 1, _ => rfl
  | 2, _ => rfl
  | 3, _ => rfl
theorem had_at (i : Nat) (hi : i < 4) : (hadV i)[i]? = some (.bool false) := by
  match i, hi with
  | 0, _ => rfl
  | 1, _ => rfl
  | 2, _ => rfl
  | 3, _ => rfl
set_option maxRecDepth 100000 in
set_option maxHeartbeats 4000000 in
theorem check_any (pv wv : Value) (ps ws : List H) (need : Int) (s k : Nat) (r : H) (sa : Option Addr) (sc : Nat) (w : World) (hp : Hs w pv ps) (hw : Hs w wv ws) (hg : Glob w) (hm : mayB ps.length ws.length need = true) (hs : s ≤ 400) (hk : k ≤ ws.length) (hk2 : need ≤ k)
    (hsl : IsSl w (.slice sa k sc) 33 k (sigsL ((List.range k).map fun (j : Nat) => ((j : Int), signH ps.length ws need j s r)))) :
    Calls Tryd.prog 21 #[keysV pv wv need, pointV s r (.slice sa k sc)] w fun e w' => e = .returned (.int .i64 0) ∧ Below w.heap.size w w' := by
  obtain ⟨xp, cp, rfl, _⟩ := hp.form
  obtain ⟨xw, cw, rfl, _⟩ := hw.form
  obtain ⟨_, mp, _, mw, mn, _⟩ := may_true hm
  obtain ⟨b, off, cap, e1, _, hr, hbl⟩ := hsl.pos (by omega) (by decide)
  cases e1
  obtain ⟨W, hW⟩ : ∃ W, W = (w.alloc (.cells #[.slice xp ps.length cp, .slice xw ws.length cw, .int .i64 need] 24)).alloc (.cells (pointC s r (.slice (some ⟨b, off, none⟩) k sc)).toArray 40) := ⟨_, rfl⟩
  have hb : Below w.heap.size w W := by rw [hW]; (repeat (first | with_reducible assumption | with_reducible exact Below.refl _ _ | ((with_reducible refine Below.setCell ?_ ?_ _); rotate_left; focus (first | omega | (simp; done) | (simp; omega))) | ((with_reducible refine Below.alloc ?_ ?_ _); rotate_left; focus (first | omega | (simp; done) | (simp; omega))) | ((with_reducible refine below_setRow ?_ ?_ _); rotate_left; focus (first | omega | (simp; done) | (simp; omega))) | (with_reducible refine below_drewN ?_ _) | (with_reducible refine Below.drew ?_)))
  have hK : Blk W w.heap.size [.slice xp ps.length cp, .slice xw ws.length cw, .int .i64 need] 24 := by rw [hW]; exact (Blk.newL w [_, _, _] _).alloc _
  have hP : Blk W (w.heap.size + 1) (pointC s r (.slice (some ⟨b, off, none⟩) k sc)) 40 := by rw [hW]; exact Blk.newL1 w _ _ _
  have hWs : W.heap.size = w.heap.size + 2 := by rw [hW]; simp
  have HP := Lib.hid hp
  have HWs := Lib.hid hw
  have HG := Lib.hid hg
  have HM := Lib.hid hm
  have HK := Lib.hid hK
  have HPT := Lib.hid hP
  have HW := Lib.hid hW
  have HWZ := Lib.hid hWs
  have HBR := Lib.hid hr
  have hs0 : (0 : Int) ≤ s ∧ (s : Int) ≤ 400 := by omega
  have hsd := decide_eq_true hs0
  clear hp hw hg hm hK hP hW hWs hsl hr
  unfold keysV pointV
  go_enter Tryd.func21, Tryd.ntmps21
  go_wp2_with (first
    | (refine wpList_load_row rfl 24 (.tmp 2) rfl w.heap.size rfl 24 #[.slice xp ps.length cp, .slice xw ws.length cw, .int .i64 need] (0, 0) _ (by rw [← HW.out]; exact HK.out) Tryd.underlying24 rfl (by exact keys_row _ _ _) ?_)
    | fail)
  refine calls_world HW.out ?_
  refine (may_any _ _ ps ws need W (HP.out.below hb) (HWs.out.below hb)).mono ?_
  rintro e w2 ⟨rfl, hb2⟩
  rw [HM.out]
  have hw2 := hb.trans (hb2.mono hb.size)
  have hP2 := HPT.out.below hb2 HPT.out.lt
  have c0 := point_size hP2
  have c1 := point_sigs hP2
  have HP2 := Lib.hid hP2
  have HK2 := Lib.hid (HK.out.below hb2 HK.out.lt)
  have hz2 : w.heap.size + 2 ≤ w2.heap.size := by
    have := hb2.size
    have := HWZ.out
    omega
  have HW2 := Lib.hid hw2
  clear hb2 hP2 hw2 HK HPT HW HWZ hb
  go_wp2_with fail
  refine (within_any s 0 400 w2).mono ?_
  rintro e w3 ⟨rfl, e3⟩
  rw [e3, hsd]
  clear e3 w3 hsd hs0
  obtain ⟨W4, hW4⟩ : ∃ X, X = w2.alloc (.cells (hadV 0).toArray 77) := ⟨_, rfl⟩
  have hb4 : Below w2.heap.size w2 W4 := by rw [hW4]; (repeat (first | with_reducible assumption | with_reducible exact Below.refl _ _ | ((with_reducible refine Below.setCell ?_ ?_ _); rotate_left; focus (first | omega | (simp; done) | (simp; omega))) | ((with_reducible refine Below.alloc ?_ ?_ _); rotate_left; focus (first | omega | (simp; done) | (simp; omega))) | ((with_reducible refine below_setRow ?_ ?_ _); rotate_left; focus (first | omega | (simp; done) | (simp; omega))) | (with_reducible refine below_drewN ?_ _) | (with_reducible refine Below.drew ?_)))
  have hH4 : Blk W4 w2.heap.size (hadV 0) 77 := by rw [hW4]; exact Blk.newL w2 _ _
  have HH4 := Lib.hid hH4
  have HP4 := Lib.hid (HP2.out.below hb4 HP2.out.lt)
  have HK4 := Lib.hid (HK2.out.below hb4 HK2.out.lt)
  have HW5 := Lib.hid hW4
  have HOLD4 := Lib.hid (HW2.out.trans (hb4.mono HW2.out.size))
  have c1' : W4.cell? ⟨w.heap.size + 1, 33, none⟩ = some (.slice (some ⟨b, off, none⟩) k sc) := point_sigs HP4.out
  clear c0 c1 hb4 hH4 hW4 HP2 HK2 HW2
  go_wp2_with (first
    | (refine wpList_world (w' := W4) HW5.out ?_)
    | fail)
  obtain ⟨hb0, hhb⟩ : ∃ x, x = w2.heap.size := ⟨_, rfl⟩
  have hbz : w.heap.size + 2 ≤ hb0 := by omega
  rw [← hhb] at HH4 ⊢
  rw [← hhb] at hz2
  clear c1' hhb
  go_loopw [21] (fun iv wr => ∃ i : Nat, iv = .int .i64 i ∧ i ≤ k ∧ Blk wr hb0 (hadV i) 77 ∧ Blk wr w.heap.size [.slice xp ps.length cp, .slice xw ws.length cw, .int .i64 need] 24 ∧ Blk wr (w.heap.size + 1) (pointC s r (.slice (some ⟨b, off, none⟩) k sc)) 40 ∧ Below w.heap.size w wr) (fun iv _ => k - (intOf iv).toNat)
  case atStart => exact ⟨0, rfl, by omega, HH4.out, HK4.out, HP4.out, HOLD4.out⟩
  case round =>
    obtain ⟨i, rfl, hi, hh, hky, hpt, hold⟩ := hrel
    clear HH4 HP4 HK4 HOLD4
    have HH := Lib.hid hh
    have HKY := Lib.hid hky
    have HPT := Lib.hid hpt
    have HOLD := Lib.hid hold
    have lh := hh.lt
    have lp := hpt.lt
    by_cases hlt : i < k
    · have hlt' : (i : Int) < k := by omega
      have hix : (0 : Int) ≤ i ∧ (i : Int) < k := ⟨by omega, hlt'⟩
      have hi4 : i < 4 := by omega
      have hix4 : (0 : Int) ≤ i ∧ (i : Int) < 4 := ⟨by omega, by omega⟩
      obtain ⟨t, ht⟩ : ∃ t, t = signH ps.length ws need i s r := ⟨_, rfl⟩
      have hsr : w.rangeAt b (off + i * 33) (sigC i t) := fun j u hu => by
        have hj : j < 33 := by
          have := (List.getElem?_eq_some_iff.1 hu).1
          rw [sigC_len] at this
          exact this
        have := HBR.out (i * 33 + j) u (by
          have e : (sigsL ((List.range k).map fun (j : Nat) => ((j : Int), signH ps.length ws need j s r))) = (((List.range k).map fun (j : Nat) => ((j : Int), signH ps.length ws need j s r)).map fun x => sigC x.1 x.2).flatten := rfl
          rw [e, flat_at (fun x : Int × H => sigC x.1 x.2) 33 (by decide) (fun x => sigC_len _ _), show (i * 33 + j) / 33 = i by omega, show (i * 33 + j) % 33 = j by omega, List.getElem?_map, List.getElem?_range hlt]
          show (sigC i (signH ps.length ws need i s r))[j]? = some u
          rw [← ht]
          exact hu)
        rw [← Nat.add_assoc] at this
        exact this
      obtain ⟨x5, hx5⟩ : ∃ X, X = layW wr zsigC (sigC i t) 35 := ⟨_, rfl⟩
      obtain ⟨hbl5, hpt5, hsz5⟩ := lay_all wr zsigC (sigC i t) 35
      rw [← hx5] at hbl5 hpt5 hsz5
      have HX5 := Lib.hid hx5
      have HS5 := Lib.hid (range_below hsr hold)
      have c2 : x5.cell? ⟨wr.heap.size, 0, none⟩ = some (.int .i64 i) := hpt5.cell (i := 0) rfl
      have c3 : x5.cell? ⟨w.heap.size, 1, none⟩ = some (.slice xw ws.length cw) := (hky.below hbl5 hky.lt).cell (i := 1) rfl
      have c4 : x5.cell? ⟨hb0, i, none⟩ = some (.bool false) := (hh.below hbl5 lh).cell (had_at i hi4)
      have HG5 := Lib.hid (show x5.rangeAt wr.heap.size 1 (bytesV t.b) from range_sub (l := [.int .i64 i]) (k := []) (by rw [List.append_nil]; exact hpt5))
      have HH5 := Lib.hid (hh.below hbl5 lh)
      have HK5 := Lib.hid (hky.below hbl5 hky.lt)
      have HP5 := Lib.hid (hpt.below hbl5 lp)
      have HO5 := Lib.hid (hold.trans (hbl5.mono hold.size))
      have HT := Lib.hid ht
      have HB5 := Lib.hid hpt5
      have hwi : (0 : Int) ≤ i ∧ (i : Int) ≤ ws.length - 1 := by omega
      have hwd := decide_eq_true hwi
      have nb : wr.heap.size ≠ hb0 := by omega
      clear hh hky hpt hold hsr hx5 hbl5 hpt5 hsz5 ht
      go_wp2_with (first
        | (refine wpList_load_mid rfl 35 (.tmp 23) rfl b (off + i * 33) rfl (sigC i t) _ (by exact HS5.out) Tryd.underlying35 rfl (by exact sig_len i t) ?_)
        | (refine wpList_store_row rfl 35 (.tmp 7) (.tmp 24) rfl wr.heap.size (sigC i t).toArray rfl rfl 35 zsigC.toArray (by exact Blk.newL wr zsigC _) (by exact sig_row _ _) (by simp [zsigC, sigC_len]) (by exact sig_one _ _) ?_; refine wpList_world (w' := x5) HX5.out ?_)
        | fail)
      refine (within_any i 0 (ws.length - 1) x5).mono ?_
      rintro e w6 ⟨rfl, e6⟩
      rw [e6, hwd]
      clear e6 w6 hwd hwi c3
      have HGL := Lib.hid (HG.out.below HO5.out)
      have HPP := Lib.hid (HP.out.below HO5.out)
      have HWP := Lib.hid (HWs.out.below HO5.out)
      go_wp2_with (first
        | (refine wpList_load_row rfl 24 (.tmp 2) rfl w.heap.size rfl 24 #[.slice xp ps.length cp, .slice xw ws.length cw, .int .i64 need] (0, 0) _ (by exact HK5.out) Tryd.underlying24 rfl (by exact keys_row _ _ _) ?_)
        | (refine wpList_load_row rfl 40 (.tmp 3) rfl (w.heap.size + 1) rfl 40 (pointC s r (.slice (some ⟨b, off, none⟩) k sc)).toArray (0, 0) _ (by exact HP5.out) Tryd.underlying40 rfl (by exact point_row _ _ _) ?_)
        | fail)
      refine (sign_any _ _ ps ws need i s r (.slice (some ⟨b, off, none⟩) k sc) x5 HPP.out HWP.out (by omega) HGL.out).mono ?_
      rintro e w7 ⟨rfl, hb7⟩
      rw [← HT.out]
      have HG7 := Lib.hid (range_below HG5.out hb7)
      have hH7 := HH5.out.below hb7 HH5.out.lt
      have HH7 := Lib.hid hH7
      have HK7 := Lib.hid (HK5.out.below hb7 HK5.out.lt)
      have HP7 := Lib.hid (HP5.out.below hb7 HP5.out.lt)
      have HO7 := Lib.hid (HO5.out.trans (hb7.mono HO5.out.size))
      have HB7 := Lib.hid (HB5.out.below hb7 HB5.out.lt)
      clear hb7 hH7 c2 c4 HH5 HK5 HP5 HG5 HPP HWP HGL HB5 HO5
      go_wp2_with (first
        | (refine wpList_built1 rfl 80 0 (.tmp 43) (hv t) _ rfl rfl (built_must t) ?_)
        | (refine wpList_load_mid rfl 31 (.tmp 47) rfl wr.heap.size 1 rfl (bytesV t.b) _ (by exact HG7.out) Tryd.underlying31 rfl (by exact hv_info _) ?_)
        | fail)
      refine (is_any t t w7).mono ?_
      rintro e w8 ⟨rfl, hb8⟩
      rw [beq_self_eq_true]
      have hH8 := HH7.out.below hb8 HH7.out.lt
      have c2 : w8.cell? ⟨wr.heap.size, 0, none⟩ = some (.int .i64 i) := (HB7.out.below hb8 HB7.out.lt).cell (i := 0) rfl
      have c4 : w8.cell? ⟨hb0, i, none⟩ = some (.bool false) := hH8.cell (had_at i hi4)
      have f4 := hH8.frozen i
      have hH9 := hH8.set i (.bool true)
      rw [had_next i hi4] at hH9
      have hk8 := HK7.out.below hb8 HK7.out.lt
      have hp8 := HP7.out.below hb8 HP7.out.lt
      have hX : ∀ j, j ≠ hb0 → (w8.setCell ⟨hb0, i, none⟩ (.bool true)).heap[j]? = w8.heap[j]? := fun j hn => Below.heap_setCell _ _ _ _ hn
      have HH9 := Lib.hid hH9
      have HK9 := Lib.hid (show Blk (w8.setCell ⟨hb0, i, none⟩ (.bool true)) w.heap.size [.slice xp ps.length cp, .slice xw ws.length cw, .int .i64 need] 24 from (hX _ (by omega)).trans hk8)
      have HP9 := Lib.hid (show Blk (w8.setCell ⟨hb0, i, none⟩ (.bool true)) (w.heap.size + 1) (pointC s r (.slice (some ⟨b, off, none⟩) k sc)) 40 from (hX _ (by omega)).trans hp8)
      have HO9 := Lib.hid ((HO7.out.trans (hb8.mono HO7.out.size)).setCell (p := ⟨hb0, i, none⟩) (show w.heap.size ≤ hb0 by omega) (.bool true))
      clear hb8 hH8 hH9 hk8 hp8 hX HH7 HK7 HP7 HO7 HB7 HG7
      go_wp2_with fail
      exact ⟨⟨i + 1, by go_num, by omega, HH9.out, HK9.out, HP9.out, HO9.out⟩, by simp [intOf]; omega⟩
    · obtain rfl : i = k := by omega
      have hlt' : ¬ (i : Int) < i := by omega
      have c1 := point_sigs hpt
      have c2 := hky.cell (i := 2) rfl
      have hnd : ¬ (i : Int) < need := by omega
      clear hh hky hpt hold
      go_wp2_with fail
      go_ret
      exact ⟨rfl, HOLD.out⟩
end Go.Proofs.YtldokkbfahobgaaDoor

/-! LawWBoth: The law WitnessBoth, walked. Conditions: the keys and the list can be read; the package's tables read as they are laid. -/
namespace Go.Proofs.YtldokkbfahobgaaDoor
open Go.RowKit

theorem hs_cut0 {w : World} {xa : Option Addr} {ca : Nat} {l : List H} (h : Hs w (.slice xa l.length ca) l) (n : Nat) (hl : n ≤ l.length) : Hs w (.slice xa n ca) (l.take n) := by
  rcases Nat.eq_zero_or_pos n with rfl | h0
  · rw [List.take_zero]
    obtain ⟨_, _, h3⟩ := h
    refine ⟨rfl, (fun u hu => by cases hu), ?_⟩
    rcases h3 with ⟨e, _⟩ | ⟨ad, cap, e, hc, _⟩
    · injection e with e1 _ e3
      subst e1 e3
      exact .inl ⟨rfl, rfl⟩
    · cases e
      exact .inr ⟨ad, ca, rfl, by simp, fun j u hu => by simp [bytesV, hflat] at hu⟩
  · exact hs_cut h n h0 hl
set_option maxRecDepth 100000 in
set_option maxHeartbeats 4000000 in
theorem wboth_no (pv wv hsv : Value) (ps ws h : List H) (need : Int) (a b : Nat) (w : World) (hp : Hs w pv ps) (hw : Hs w wv ws) (hh : Hs w hsv h) (hg : Glob w) (hno : ps.length ≤ 20 → ws.length ≤ 20 → h.length ≤ 60 → mayB ps.length ws.length need = true → False) :
    Calls Tryd.prog 7 #[keysV pv wv need, hsv, .int .u8 a, .int .u8 b] w fun e w' => e = .returned (.bool true) ∧ Below w.heap.size w w' := by
  obtain ⟨xp, cp, rfl, _⟩ := hp.form
  obtain ⟨xw, cw, rfl, _⟩ := hw.form
  obtain ⟨xh, ch, rfl, _⟩ := hh.form
  obtain ⟨W, hW⟩ : ∃ W, W = w.alloc (.cells #[.slice xp ps.length cp, .slice xw ws.length cw, .int .i64 need] 24) := ⟨_, rfl⟩
  have hb : Below w.heap.size w W := by rw [hW]; (repeat (first | with_reducible assumption | with_reducible exact Below.refl _ _ | ((with_reducible refine Below.setCell ?_ ?_ _); rotate_left; focus (first | omega | (simp; done) | (simp; omega))) | ((with_reducible refine Below.alloc ?_ ?_ _); rotate_left; focus (first | omega | (simp; done) | (simp; omega))) | ((with_reducible refine below_setRow ?_ ?_ _); rotate_left; focus (first | omega | (simp; done) | (simp; omega))) | (with_reducible refine below_drewN ?_ _) | (with_reducible refine Below.drew ?_)))
  have hK : Blk W w.heap.size [.slice xp ps.length cp, .slice xw ws.length cw, .int .i64 need] 24 := by rw [hW]; exact Blk.newL w [_, _, _] _
  have HP := Lib.hid (hp.below hb)
  have HWs := Lib.hid (hw.below hb)
  have HK := Lib.hid hK
  have HG := Lib.hid (hg.below hb)
  have HW := Lib.hid hW
  obtain ⟨A, hA⟩ : ∃ A, A = mayB ps.length ws.length need := ⟨_, rfl⟩
  rw [← hA] at hno
  have HA := Lib.hid hA
  have hcase : (20 : Int) < ps.length ∨ (¬ (20 : Int) < ps.length ∧ (20 : Int) < ws.length) ∨ (¬ (20 : Int) < ps.length ∧ ¬ (20 : Int) < ws.length ∧ (60 : Int) < h.length) ∨ (¬ (20 : Int) < ps.length ∧ ¬ (20 : Int) < ws.length ∧ ¬ (60 : Int) < h.length ∧ A = false) := by
    by_cases h1 : (20 : Int) < ps.length
    · exact .inl h1
    by_cases h2 : (20 : Int) < ws.length
    · exact .inr (.inl ⟨h1, h2⟩)
    by_cases h3 : (60 : Int) < h.length
    · exact .inr (.inr (.inl ⟨h1, h2, h3⟩))
    have hno := hno (by omega) (by omega) (by omega)
    cases A
    · exact .inr (.inr (.inr ⟨h1, h2, h3, rfl⟩))
    · exact (hno rfl).elim
  clear hp hw hh hg hK hA hW hno
  unfold keysV
  rcases hcase with h1 | ⟨h1, h2⟩ | ⟨h1, h2, h3⟩ | ⟨h1, h2, h3, rfl⟩
  all_goals
    (try have d1 := decide_eq_true h1)
    (try have d1 := decide_eq_false h1)
    (try have d2 := decide_eq_true h2)
    (try have d2 := decide_eq_false h2)
    (try have d3 := decide_eq_true h3)
    (try have d3 := decide_eq_false h3)
    go_enter Tryd.func7, Tryd.ntmps7
    go_wp2_with (first
      | (go_at_call 8; refine calls_eq HW.out ((alive16_any W HG.out).mono ?_); rintro e w1 ⟨rfl, hb1⟩; have hw1 := hb.trans (hb1.mono hb.size); have hK1 := HK.out.below hb1 HK.out.lt; have c0 := hK1.cell (i := 0) rfl; have c1 := hK1.cell (i := 1) rfl; have HK1 := Lib.hid hK1; have HP1 := Lib.hid (HP.out.below hb1); have HW1 := Lib.hid (HWs.out.below hb1); clear hb1 hK1)
      | (refine wpList_load_rowIf rfl 24 (.tmp 4) rfl w.heap.size rfl 24 #[.slice xp ps.length cp, .slice xw ws.length cw, .int .i64 need] (0, 0) _ (by exact HK1.out) Tryd.underlying24 rfl (by exact keys_row _ _ _) ?_)
      | (go_at_call 18; refine (may_any _ _ ps ws need w1 HP1.out HW1.out).mono ?_; rintro e w2 ⟨rfl, hb2⟩; rw [← HA.out]; have hw2 := hw1.trans (hb2.mono hw1.size); clear hb2)
      | fail)
    go_ret
    first
      | exact ⟨rfl, hw2⟩
      | exact ⟨rfl, hw1⟩
set_option maxRecDepth 100000 in
set_option maxHeartbeats 8000000 in
theorem wboth_yes (pv wv hsv : Value) (ps ws h : List H) (need : Int) (a b : Nat) (w : World) (hp : Hs w pv ps) (hw : Hs w wv ws) (hh : Hs w hsv h) (hg : Glob w) (hl : h.length ≤ 60) (hm : mayB ps.length ws.length need = true) (ha : a < 256) (hb256 : b < 256) :
    Calls Tryd.prog 7 #[keysV pv wv need, hsv, .int .u8 a, .int .u8 b] w fun e w' => e = .returned (.bool true) ∧ Below w.heap.size w w' := by
  obtain ⟨xp, cp, rfl, _⟩ := hp.form
  obtain ⟨xw, cw, rfl, _⟩ := hw.form
  obtain ⟨xh, ch, rfl, hch⟩ := hh.form
  obtain ⟨W, hW⟩ : ∃ W, W = w.alloc (.cells #[.slice xp ps.length cp, .slice xw ws.length cw, .int .i64 need] 24) := ⟨_, rfl⟩
  have hb : Below w.heap.size w W := by rw [hW]; (repeat (first | with_reducible assumption | with_reducible exact Below.refl _ _ | ((with_reducible refine Below.setCell ?_ ?_ _); rotate_left; focus (first | omega | (simp; done) | (simp; omega))) | ((with_reducible refine Below.alloc ?_ ?_ _); rotate_left; focus (first | omega | (simp; done) | (simp; omega))) | ((with_reducible refine below_setRow ?_ ?_ _); rotate_left; focus (first | omega | (simp; done) | (simp; omega))) | (with_reducible refine below_drewN ?_ _) | (with_reducible refine Below.drew ?_)))
  have hK : Blk W w.heap.size [.slice xp ps.length cp, .slice xw ws.length cw, .int .i64 need] 24 := by rw [hW]; exact Blk.newL w [_, _, _] _
  obtain ⟨mp0, mp, mw0, mw, _, _⟩ := may_true hm
  obtain ⟨i0, hi, hz0, hz1, hz2⟩ := info_parts info_wit
  have HP := Lib.hid hp
  have HWs := Lib.hid hw
  have HH := Lib.hid hh
  have HG := Lib.hid hg
  have HK := Lib.hid hK
  have HW := Lib.hid hW
  have HM := Lib.hid hm
  have g1 : ¬ (20 : Int) < ps.length := by omega
  have g2 : ¬ (20 : Int) < ws.length := by omega
  have g3 : ¬ (60 : Int) < h.length := by omega
  have d1 := decide_eq_false g1
  have d2 := decide_eq_false g2
  have d3 := decide_eq_false g3
  obtain ⟨x, hx⟩ : ∃ x, x = a % (h.length + 1) := ⟨_, rfl⟩
  have hxl : x ≤ h.length := by have := Nat.mod_lt a (show 0 < h.length + 1 by omega); omega
  obtain ⟨y, hy⟩ : ∃ y, y = x + b % (h.length - x + 1) := ⟨_, rfl⟩
  have hyl : y ≤ h.length := by have := Nat.mod_lt b (show 0 < h.length - x + 1 by omega); omega
  have hxy : x ≤ y := by omega
  have r1 : (a : Int).tmod ((h.length : Int) + 1) = x := by rw [hx, Int.tmod_eq_emod_of_nonneg (by omega)]; rfl
  have r1' : (a : Int) % ((h.length : Int) + 1) = x := by rw [hx]; rfl
  have r0 : ¬ ((h.length : Int) + 1 = 0) := by omega
  have r2 : (x : Int) + (b : Int).tmod ((h.length : Int) - x + 1) = y := by
    rw [hy, Int.tmod_eq_emod_of_nonneg (by omega), show (h.length : Int) - x + 1 = ((h.length - x + 1 : Nat) : Int) by omega]
    rfl
  have r2' : (x : Int) + (b : Int) % ((h.length : Int) - x + 1) = y := by
    rw [hy, show (h.length : Int) - x + 1 = ((h.length - x + 1 : Nat) : Int) by omega]
    rfl
  have r3 : ¬ ((h.length : Int) - x + 1 = 0) := by omega
  have hxc : x ≤ ch := by omega
  have hyc : y ≤ ch := by omega
  obtain ⟨R, hR⟩ : ∃ R, R = rootN ndH e0H (h.take y) := ⟨_, rfl⟩
  have HR := Lib.hid hR
  have HXL := Lib.hid hxl
  have HYL := Lib.hid hyl
  have HXY := Lib.hid hxy
  clear hp hw hh hg hK hW hm hR hx hy
  unfold keysV
  go_enter Tryd.func7, Tryd.ntmps7
  go_wp2_with (first
    | (go_at_call 8; refine calls_eq HW.out ((alive16_any W (HG.out.below hb)).mono ?_); rintro e w1 ⟨rfl, hb1⟩; have hw1 := hb.trans (hb1.mono hb.size); have hK1 := HK.out.below hb1 HK.out.lt; have c0 := hK1.cell (i := 0) rfl; have c1 := hK1.cell (i := 1) rfl; have HK1 := Lib.hid hK1; clear hb1 hK1)
    | (refine wpList_load_rowIf rfl 24 (.tmp 4) rfl w.heap.size rfl 24 #[.slice xp ps.length cp, .slice xw ws.length cw, .int .i64 need] (0, 0) _ (by exact HK1.out) Tryd.underlying24 rfl (by exact keys_row _ _ _) ?_)
    | (go_at_call 18; refine (may_any _ _ ps ws need w1 (HP.out.below hw1) (HWs.out.below hw1)).mono ?_; rintro e w2 ⟨rfl, hb2⟩; rw [HM.out]; have hw2 := hw1.trans (hb2.mono hw1.size); have HK2 := Lib.hid (HK1.out.below hb2 HK1.out.lt); clear hb2)
    | fail)
  have HW2 := Lib.hid hw2
  clear c0 c1 hw1 hw2 HK1 d1 d2 d3 hb HK HW r0 r1 r1' r2 r2' r3 g1 g2 g3
  go_loopw [11, 12] (fun lv iv wr => ∃ (gs : List Nat), iv = .int .i64 gs.length ∧ gs.length ≤ ws.length ∧ (∃ a c, lv = .slice a gs.length c) ∧ Made w wr (.slice xp ps.length cp) (.slice xw ws.length cw) need 27 67 lv gs ∧ Blk wr w.heap.size [.slice xp ps.length cp, .slice xw ws.length cw, .int .i64 need] 24) (fun _ iv _ => ws.length - (intOf iv).toNat)
  case atStart => exact ⟨[], rfl, by simp, ⟨none, 0, rfl⟩, Made.nil HW2.out, HK2.out⟩
  case round =>
    obtain ⟨gs, rfl, hgl, ⟨la, lc, rfl⟩, hmade, hky⟩ := hrel
    have k1 := hky.cell (i := 1) rfl
    have HMADE := Lib.hid hmade
    have HKY := Lib.hid hky
    have hold := hmade.old.size
    clear hmade hky HK2
    by_cases hlt : gs.length < ws.length
    · have hlt' : (gs.length : Int) < ws.length := by omega
      go_wp2_with (first
        | (refine wpList_load_row rfl 24 (.tmp 4) rfl w.heap.size rfl 24 #[.slice xp ps.length cp, .slice xw ws.length cw, .int .i64 need] (0, 0) _ (by exact HKY.out) Tryd.underlying24 rfl (by exact keys_row _ _ _) ?_)
        | fail)
      refine (new_yes _ _ ps ws need gs.length wr (HP.out.below HMADE.out.old) (HWs.out.below HMADE.out.old) HM.out hlt (HG.out.below HMADE.out.old)).mono ?_
      rintro e w5 ⟨⟨g, rfl, hgs, hB5⟩, hb5⟩
      have hb6 : Below w5.heap.size w5 (w5.alloc (.cells [ptrV g].toArray 27)) := by (repeat (first | with_reducible assumption | with_reducible exact Below.refl _ _ | ((with_reducible refine Below.setCell ?_ ?_ _); rotate_left; focus (first | omega | (simp; done) | (simp; omega))) | ((with_reducible refine Below.alloc ?_ ?_ _); rotate_left; focus (first | omega | (simp; done) | (simp; omega))) | ((with_reducible refine below_setRow ?_ ?_ _); rotate_left; focus (first | omega | (simp; done) | (simp; omega))) | (with_reducible refine below_drewN ?_ _) | (with_reducible refine Below.drew ?_)))
      have OWN := Lib.hid ((HMADE.out.below hb5).below hb6).own
      have SRC := Lib.hid (ptrs_new w5 [g] 27 rfl rfl)
      have HB5 := Lib.hid hB5
      have HB := Lib.hid hb5
      have h5s : w.heap.size ≤ w5.heap.size := Nat.le_trans hold hb5.size
      clear hb6 hB5 hb5
      go_wp2_with (first
        | (at_builtin; refine wpList_app rfl (.tmp 59) (.tmp 63) 49 rfl w.heap.size 27 i0 (.pointer none) 1 8 Tryd.underlying49 hi hz0 hz1 hz2 rfl (by decide) (.slice la gs.length lc) gs.length (gs.map ptrV) rfl (by exact OWN.out) _ 1 [ptrV g] rfl (by exact SRC.out) (by unfold maxLen; omega) (by omega) (by simp; omega) ?_; intro a6 c6 w6 hown6 hgrow6 _; have hmore := HMADE.out.more (by decide) HB.out hgs HB5.out hown6 hgrow6; have hkeep := HMADE.out.keeps (by decide) HB.out hgrow6 HKY.out; have HMORE := Lib.hid hmore; have HKEEP := Lib.hid hkeep; clear hmore hkeep hown6 hgrow6)
        | fail)
      exact ⟨⟨gs ++ [g], by simp, by simp; omega, ⟨a6, c6, by simp⟩, HMORE.out, HKEEP.out⟩, by simp [intOf]; omega⟩
    · obtain hge : gs.length = ws.length := by omega
      have hlt' : ¬ (gs.length : Int) < ws.length := by omega
      have HGE := Lib.hid hge
      have hgl4 : gs.length ≤ 1000 := by omega
      clear hge
      go_wp2_with fail
      have hne : 27 ≠ 67 := by decide
      have hlx : (h.take x).length = x := by rw [List.length_take, Nat.min_eq_left HXL.out]
      have hly : (h.take y).length = y := by rw [List.length_take, Nat.min_eq_left HYL.out]
      have henv := HMADE.out.env hne HP.out HWs.out (hs_cut0 HH.out x HXL.out) HG.out mp0 mw0
      have hst0 : ∀ g ∈ gs, ∃ m, m ≤ x ∧ (fun _ => ((0 : Int), e0H) : Nat → Int × H) g = upto h m := fun g _ => ⟨0, by omega, by rw [upto_zero]⟩
      obtain ⟨S, hS⟩ : ∃ S, S = (collI (h.take x) 1 ps.length ws need (numOf gs) gs (fun _ => (0, e0H)) gs.length).1 := ⟨_, rfl⟩
      have hst1 : ∀ g ∈ gs, ∃ m, m ≤ y ∧ S g = upto h m := fun g hg => by
        obtain ⟨m, hm, e⟩ := coll_upto h x 1 ps.length ws need (numOf gs) gs _ HXL.out hst0 gs.length g hg
        have := HXY.out
        exact ⟨m, by omega, by rw [hS]; exact e⟩
      refine (collect_any _ _ _ _ ps ws (h.take x) need 1 gs (numOf gs) (fun _ => (0, e0H)) wr henv (by omega) (by rw [hlx]; have := HXL.out; omega) hgl4).mono ?_
      rintro e w5 ⟨sv1, rfl, _, hw5, hbs5⟩
      generalize pointV (((h.take x).length : Nat) : Int) (rootN ndH e0H (h.take x)) sv1 = pv1
      rw [← hS] at hw5
      have henv5 := HMADE.out.env2 (hs := h.take y) (hsv := .slice xh y ch) hbs5 hw5 hne HP.out HWs.out (hs_cut0 HH.out y HYL.out) HG.out mp0 mw0
      have hky5 := hbs5.blk HKY.out (HMADE.out.notin HKY.out (by decide))
      have HENV5 := Lib.hid henv5
      have HKY5 := Lib.hid hky5
      have HBS5 := Lib.hid hbs5
      have HST1 := Lib.hid hst1
      have HLX := Lib.hid hly
      clear henv hw5 hbs5 henv5 hky5 hst0 hst1 hS hlx k1 hold HW2 hi hz0 hz1 hz2 hlt hlt'
      go_wp2_with fail
      refine (collect_any _ _ _ _ ps ws (h.take y) need 15 gs (numOf gs) S w5 HENV5.out (by omega) (by rw [hly]; have := HYL.out; omega) hgl4).mono ?_
      rintro e w6 ⟨sv, rfl, ho6, hw6, hbs6⟩
      rw [coll_all h y 15 ps.length ws need gs S HYL.out (by omega) HMADE.out.nd HST1.out (fun i hi => by
        have := HGE.out
        match i, (show i < 4 by omega) with
        | 0, _ => decide +kernel
        | 1, _ => decide +kernel
        | 2, _ => decide +kernel
        | 3, _ => decide +kernel) gs.length (Nat.le_refl _), ← HR.out, List.length_map, List.length_range] at ho6
      rw [← HR.out, hly]
      obtain ⟨sa, sc, hsv⟩ := ownsRow_form ho6
      subst hsv
      have hsl6 := ownsRow_isSl ho6 (sigsL_one _)
      have hky6 := hbs6.blk HKY5.out (HMADE.out.notin HKY.out (by decide))
      have hbs56 := HBS5.out.trans hbs6
      have hold6 := HMADE.out.behind hbs56
      obtain ⟨hbl6, hpt6, hsz6⟩ := lay_all w6 zpointC (pointC y R (.slice sa gs.length sc)) 40
      obtain ⟨x6, hx6⟩ : ∃ X, X = layW w6 zpointC (pointC y R (.slice sa gs.length sc)) 40 := ⟨_, rfl⟩
      rw [← hx6] at hbl6 hpt6 hsz6
      have HX6 := Lib.hid hx6
      have HSL := Lib.hid (hsl6.below hbl6)
      have HPT := Lib.hid hpt6
      have HK6 := Lib.hid (hky6.below hbl6 hky6.lt)
      have hold7 := hold6.trans (hbl6.mono hold6.size)
      have HOLD := Lib.hid hold7
      have HPP := Lib.hid (HP.out.below hold7)
      have HWW := Lib.hid (HWs.out.below hold7)
      have HGG := Lib.hid (HG.out.below hold7)
      have HHY := Lib.hid ((hs_cut0 HH.out y HYL.out).below hold7)
      have lp := hpt6.lt
      have lk := HK6.out.lt
      have HNEED := Lib.hid (show need ≤ gs.length by rw [HGE.out]; assumption)
      have HQ := fun w => is_hash w R
      have hll : h.length ≤ 60 := hl
      clear ho6 hw6 hbs6 hsl6 hky6 hbs56 hold6 hold7 hbl6 hpt6 hsz6 hx6 HENV5 HKY5 HBS5 HST1 HMADE HKY hly
      go_wp2_with (first
        | (refine wpList_store_row rfl 40 (.tmp 13) (.tmp 74) rfl w6.heap.size (pointC y R (.slice sa gs.length sc)).toArray rfl rfl 40 zpointC.toArray (by exact Blk.newL w6 zpointC _) (by exact point_row _ _ _) (by simp [zpointC, pointC_len]) (by exact point_one _ _ _ rfl) ?_; refine wpList_world (w' := x6) HX6.out ?_)
        | fail)
      refine wp_region_mono 28 (x6.heap.size) [(fun v _ => v = .pointer (some ⟨w6.heap.size, 33, none⟩)), (fun v _ => v = .slice sa gs.length sc), (fun v _ => v = .int .i64 gs.length), (fun v _ => v = .slice la gs.length lc), (fun v _ => v = .int .i64 gs.length), (fun v _ => v = .bool true), (fun v _ => v = .bool true), (fun v _ => v = .agg (#[.slice xp ps.length cp, .slice xw ws.length cw, .int .i64 need])), (fun v _ => v = .agg (pointC y R (.slice sa gs.length sc)).toArray), (fun v _ => v = .int .i64 0), (fun v _ => v = .bool true), (fun v _ => v = .bool true), (fun v _ => v = .bool true), (fun v _ => v = .pointer (some ⟨w6.heap.size, 0, none⟩)), (fun v _ => v = .int .i64 y), (fun v _ => v = .int .i64 y), (fun v _ => v = .bool true), (fun v _ => v = .bool true), (fun v _ => v = .bool true), (fun v _ => v = .pointer (some ⟨w6.heap.size, 1, none⟩)), (fun v _ => v = .agg (bytesV R.b).toArray), (fun v _ => v = .slice xh h.length ch), (fun v _ => v = .int .i64 y), (fun v _ => v = .slice xh y ch), (fun v _ => v = .agg (bytesV R.b).toArray), (fun v _ => v = .bool true), (fun v _ => v = .bool true), (fun v _ => v = .bool true)] (by kernel_rfl) (by kernel_rfl) (Nat.le_refl _) ?mkept _ rfl ?mops ?mfin
      case mkept =>
        repeat (refine List.forall_mem_cons.2 ⟨by first | exact fun _ _ _ _ h => h | exact fun _ _ _ hb h => Parts.below h hb | exact fun _ _ _ hb h => IsSl.below h hb, ?_⟩)
        exact fun _ h => by cases h
      case mops =>
        simp only [List.take_succ_cons, List.take_zero, monoAll, List.getD_cons_zero, List.getD_cons_succ]
        iterate 28
        
         (refine ⟨fun x wr hb hd Qg hK => ?_, ?_⟩
          · as_aux_lemma =>
            simp only [fill, Act.put, List.setIfInBounds_toArray, List.set_cons_succ, List.set_cons_zero, needs, Region.binds, List.filter_cons, List.filter_nil, List.map_cons, List.map_nil, if_true, List.mem_cons, List.not_mem_nil, or_false, forall_eq_or_imp, forall_eq, List.getD_cons_zero, List.getD_cons_succ, false_implies, implies_true] at hd hK ⊢
            (try simp only [hd] at hK ⊢)
            first
            | (show wpList _ _ _ [⟨some 76, .load _ _, _, _, _, _⟩] _ _; have c0 := point_sigs (HPT.out.below hb lp); go_wp2_with fail; exact hK _ _ rfl (Below.refl _ _))
            | (show wpList _ _ _ [⟨some 89, .load _ _, _, _, _, _⟩] _ _; have c0 := point_size (HPT.out.below hb lp); go_wp2_with fail; exact hK _ _ rfl (Below.refl _ _))
            | (have hBr := HK6.out.below hb (lk); refine wpList_load_rowIf rfl 24 (.tmp 4) rfl _ rfl 24 ([.slice xp ps.length cp, .slice xw ws.length cw, .int .i64 need]).toArray (0, 0) _ (by exact hBr) Tryd.underlying24 rfl (by exact keys_row _ _ _) ?_; exact hK _ _ rfl (Below.refl _ _))
            | (have hBr := HPT.out.below hb (lp); refine wpList_load_rowIf rfl 40 (.tmp 13) rfl _ rfl 40 (pointC y R (.slice sa gs.length sc)).toArray (0, 0) _ (by exact hBr) Tryd.underlying40 rfl (by exact point_row _ _ _) ?_; exact hK _ _ rfl (Below.refl _ _))
            | (show wpList _ _ _ [⟨some 95, .load _ _, _, _, _, _⟩] _ _; refine wpList_load_midIf rfl 31 (.tmp 94) rfl w6.heap.size 1 rfl (bytesV R.b) _ (point_root (HPT.out.below hb lp)) Tryd.underlying31 rfl (hv_info R) ?_; exact hK _ _ rfl (Below.refl _ _))
            | (show wpList _ _ _ [⟨some 84, .call _, _, _, _, _⟩] _ _; go_wp2_with (go_at_call 21; refine (check_any _ _ ps ws need y gs.length R sa sc wr (HPP.out.below hb) (HWW.out.below hb) (HGG.out.below hb) HM.out (by have := HYL.out; omega) (by have := HGE.out; omega) HNEED.out (HSL.out.below hb)).mono ?_; rintro e w5 ⟨rfl, hb5⟩); exact hK _ _ (rfl) hb5)
            | (show wpList _ _ _ [⟨some 99, .call _, _, _, _, _⟩] _ _; go_wp2_with (go_at_call 19; refine (root_any y _ (h.take y) wr HLX.out (by have := HYL.out; omega) (HHY.out.below hb) (HGG.out.below hb)).mono ?_; rintro e w5 ⟨rfl, hb5⟩); exact hK _ _ (by rw [← HR.out]; rfl) hb5)
            | (go_wp2_with fail; exact hK _ _ rfl (Below.refl _ _)))
        trivial
      case mfin =>
        intro q w9 hb9 hR9
        have x26 := hR9 26 (by decide)
        have x27 := hR9 27 (by decide)
        simp only [List.getD_cons_zero, List.getD_cons_succ] at x26 x27
        have hw9 := HOLD.out.trans (hb9.mono HOLD.out.size)
        clear hR9 hb9 HQ
        simp only [List.drop_succ_cons, List.drop_zero]
        generalize List.toArray _ = L0
        simp only [List.take_succ_cons, List.take_zero, List.map_cons, List.map_nil, fill, Act.put, List.setIfInBounds_toArray, List.set_cons_succ, List.set_cons_zero, x26, x27]
        clear x26 x27
        go_wp2_with fail
        go_ret
        exact ⟨rfl, hw9⟩
end Go.Proofs.YtldokkbfahobgaaDoor
