/- The walk of layer 16's alive: true. Conditions: what each part says. -/
import Derived.Test.YtldokkbfahobgaaDoorWitY
import Derived.Test.YtldokkbfahobgaaDoorGround
/-! WitR: The walk of layer 16's alive: true. Condition: the package's tables read as they are laid. -/
namespace Go.Proofs.YtldokkbfahobgaaDoor
open Go.RowKit

def ex3 : List H := [oneH 1, oneH 2, oneH 3]
theorem apart_pos {g : Nat} {w : World} {v : Value} {size n : Nat} {cs : List Value} (h : IsSl w v size n cs) (hn : 0 < n) (hz : 0 < size) (hg : w.heap.size ≤ g) : ApartV g v := fun a k c e hm => by
  have := isSl_lt h hn hz a k c e
  omega
theorem wpList_world {P : Program} {ops : Array Oper} {l : List Oper} {Q : Exit → Act → World → Prop} {a : Act} {w w' : World} (e : w' = w) (h : wpList P ops Q l a w') : wpList P ops Q l a w := e ▸ h
/-- A row laid and stored into at once. -/
def layW (w : World) (z l : List Value) (t : TypeId) : World := (w.alloc (.cells z.toArray t)).setRow w.heap.size l.toArray
theorem lay_all (w : World) (z l : List Value) (t : TypeId) : Below w.heap.size w (layW w z l t) ∧ Blk (layW w z l t) w.heap.size l t ∧ (layW w z l t).heap.size = w.heap.size + 1 :=
  ⟨below_setRow ((Below.refl _ _).alloc (Nat.le_refl _) _) (Nat.le_refl _) _, Blk.setRow (l := z) (Blk.newL w z t) l, by simp [layW]⟩
theorem calls_world {P : Program} {f : FuncId} {args : Array Value} {R : Ending → World → Prop} {w w' : World} (e : w' = w) (h : Calls P f args w' R) : Calls P f args w R := e ▸ h
theorem ptrs_new (w : World) (gs : List Nat) (e : TypeId) {B n : Nat} (hB : w.heap.size = B) (hn : gs.length = n) : IsSl (w.alloc (.cells (gs.map ptrV).toArray e)) (.slice (some ⟨B, 0, none⟩) n n) 1 n (gs.map ptrV) := by
  subst hB hn
  exact isSl_new w _ e 1 gs.length (by simp) (fun u hu => by obtain ⟨x, _, rfl⟩ := List.mem_map.1 hu; rfl)
/-- The first of a list of hashes. -/
theorem hs_cut {w : World} {xa : Option Addr} {ca : Nat} {l : List H} (h : Hs w (.slice xa l.length ca) l) (n : Nat) (hn : 1 ≤ n) (hl : n ≤ l.length) : Hs w (.slice xa n ca) (l.take n) := by
  obtain ⟨h1, h2, h3⟩ := h
  have hlt : (l.take n).length = n := by rw [List.length_take]; omega
  unfold Hs
  rw [hlt]
  refine ⟨by rw [bytesV_len, hflat_len, hlt], bytesV_one _, ?_⟩
  rcases h3 with ⟨e, h0⟩ | ⟨ad, cap, e, hc, hr⟩
  · omega
  · cases e
    refine .inr ⟨ad, ca, rfl, by omega, fun j u hu => hr j u ?_⟩
    rw [hflat_take] at hu
    unfold bytesV at hu ⊢
    rw [List.map_take, List.getElem?_take] at hu
    split at hu
    · exact hu
    · cases hu
theorem ex3_all {w : World} {v : Value} (h : Hs w v ex3) : Hs w v (ex3.take 3) := by
  rw [List.take_of_length_le (by decide)]
  exact h
theorem own_but {w w' : World} {base g : Nat} {e : TypeId} {size : Nat} {v : Value} {n : Nat} {xs : List Value} (h : w.ownsRow base e size v n xs) (hb : But g w w') (hg : g < base) : w'.ownsRow base e size v n xs := by
  refine ⟨h.1, ?_⟩
  rcases h.2 with hn | ⟨k, cap, cur, e1, hk, hg', rest⟩
  · exact .inl hn
  · exact .inr ⟨k, cap, cur, e1, hk, (hb.block k (Array.getElem?_eq_some_iff.1 hg').1 (by omega)).trans hg', rest⟩
/-- What alive keeps: the keys' block k1, the witness g, the list's block hb. -/
structure AEnv (w0 : World) (k1 g hb : Nat) (pv wv : Value) (m : Nat) (W : World) : Prop where
  pk : Hs W pv fewP
  wk : Hs W wv fewW
  ky : Blk W k1 [pv, wv, .int .i64 2] 24
  hh : Hs W (.slice (some ⟨hb, 0, none⟩) 3 3) ex3
  wit : Blk W g (witC pv wv 2 2 (upto ex3 m).1 (upto ex3 m).2) 67
  glob : Glob W
  pa : ApartV g pv
  wa : ApartV g wv
  kg : k1 < g
  hg : g < hb
  old : Below w0.heap.size w0 W
  gl : w0.heap.size ≤ g
theorem AEnv.below {w0 W W' : World} {k1 g hb m : Nat} {pv wv : Value} (h : AEnv w0 k1 g hb pv wv m W) (hb' : Below W.heap.size W W') : AEnv w0 k1 g hb pv wv m W' :=
  { pk := h.pk.below hb', wk := h.wk.below hb', ky := h.ky.below hb' h.ky.lt, hh := h.hh.below hb', wit := h.wit.below hb' h.wit.lt, glob := h.glob.below hb', pa := h.pa, wa := h.wa, kg := h.kg, hg := h.hg, old := h.old.trans (hb'.mono h.old.size), gl := h.gl }
theorem AEnv.but {w0 W W' : World} {k1 g hb m m' : Nat} {pv wv : Value} (h : AEnv w0 k1 g hb pv wv m W) (hb' : But g W W') (hw : Blk W' g (witC pv wv 2 2 (upto ex3 m').1 (upto ex3 m').2) 67) : AEnv w0 k1 g hb pv wv m' W' :=
  { pk := hs_but h.pk hb' h.pa, wk := hs_but h.wk hb' h.wa, ky := hb'.blk h.ky (by have := h.kg; omega), hh := hs_but h.hh hb' (fun a k c e => by cases e; have := h.hg; show hb ≠ g; omega), wit := hw, glob := by
      obtain ⟨a, c, e, _⟩ := h.pk.form
      exact glob_but h.glob hb' h.wit ⟨_, _, _, e⟩
    pa := h.pa, wa := h.wa, kg := h.kg, hg := h.hg, old := h.old.trans (hb'.below h.gl h.old.size), gl := h.gl }
theorem AEnv.collect {w0 W : World} {k1 g hb m : Nat} {pv wv : Value} (h : AEnv w0 k1 g hb pv wv m W) (gs : List Nat) (k : Nat) (lv hsv : Value) (hgs : gs = [g] ∨ gs = [g, g]) (hk : k ≤ ex3.length) (hs : Hs W hsv (ex3.take k)) (hl : IsSl W lv 1 gs.length (gs.map ptrV)) (ha : ApartV g hsv) (la : ApartV g lv) :
    Calls Tryd.prog 15 #[lv, hsv, .int .i64 1] W fun e w' => ∃ sv, e = .returned (pointV k (rootN ndH e0H (ex3.take k)) sv) ∧ w'.ownsRow W.heap.size 35 33 sv (oneSig 2 fewW 2 2 ex3 m k).length (sigsL (oneSig 2 fewW 2 2 ex3 m k)) ∧ AEnv w0 k1 g hb pv wv (oneUp m k) w' ∧ But g W w' :=
  (collect_one pv wv hsv lv fewP fewW ex3 2 2 g m k gs W hgs h.pk h.wk hs hl h.wit h.glob h.pa h.wa (fun _ => ha) la (by decide) (by decide) hk).mono fun e w' ⟨sv, h1, h2, h3, h4⟩ => ⟨sv, h1, h2, h.but h4 h3, h4⟩
def zkeys : List Value := [.slice none 0 0, .slice none 0 0, .int .i64 0]
set_option maxRecDepth 100000 in
set_option maxHeartbeats 4000000 in
theorem alive16_any (w : World) (hg : Glob w) :
    Calls Tryd.prog 8 #[] w fun e w' => e = .returned (.bool true) ∧ Below w.heap.size w w' := by
  have HG := Lib.hid hg
  clear hg
  go_enter Tryd.func8, Tryd.ntmps8
  go_wp2_with fail
  refine (few_any w).mono ?_
  rintro e w1 ⟨pv, wv, rfl, hp, hw, hb⟩
  obtain ⟨pa, pc, ep, _⟩ := Hs.form hp
  obtain ⟨wa, wc, ew, _⟩ := Hs.form hw
  obtain ⟨hb2, hK2, hs2⟩ := lay_all w1 zkeys [pv, wv, .int .i64 2] 24
  obtain ⟨w2, hw2⟩ : ∃ w2, w2 = layW w1 zkeys [pv, wv, .int .i64 2] 24 := ⟨_, rfl⟩
  rw [← hw2] at hb2 hK2 hs2
  have HPK := Lib.hid (hp.below hb2)
  have HWK := Lib.hid (hw.below hb2)
  have HK2 := Lib.hid hK2
  have HG2 := Lib.hid ((HG.out.below hb).below hb2)
  have hwb2 := hb.trans (hb2.mono hb.size)
  have HE2 := Lib.hid hw2
  have hone : ([pv, wv, .int .i64 2] : List Value).toArray.all (·.oneCell') = true := by
    rw [ep, ew]
    simp [Value.oneCell']
  clear hb hb2 hK2 hp hw hw2 HG ep ew
  go_wp2_with (first
    | (refine wpList_store_row rfl 24 (.tmp 1) (.tmp 9) rfl w1.heap.size [pv, wv, .int .i64 2].toArray rfl rfl 24 zkeys.toArray (by exact Blk.newL w1 zkeys _) (by exact keys_row _ _ _) rfl (by exact hone) ?_; refine wpList_world (w' := w2) HE2.out ?_)
    | (refine wpList_load_row rfl 24 (.tmp 1) rfl w1.heap.size rfl 24 [pv, wv, .int .i64 2].toArray (0, 0) _ (by exact HK2.out) Tryd.underlying24 rfl (by exact keys_row _ _ _) ?_)
    | fail)
  refine (new_yes pv wv fewP fewW 2 2 w2 HPK.out HWK.out (by decide) (by decide) HG2.out).mono ?_
  rintro e w3 ⟨⟨g, rfl, hgs, hB3⟩, hb3⟩
  have HPK3 := Lib.hid (HPK.out.below hb3)
  have HWK3 := Lib.hid (HWK.out.below hb3)
  have HK3 := Lib.hid (HK2.out.below hb3 HK2.out.lt)
  have HG3 := Lib.hid (HG2.out.below hb3)
  have hwb3 := hwb2.trans (hb3.mono hwb2.size)
  have hpa : ApartV g pv := apart_pos HPK.out (by decide) (by decide) hgs
  have hwa : ApartV g wv := apart_pos HWK.out (by decide) (by decide) hgs
  have hg1 : w1.heap.size < g := by omega
  have hwg : w.heap.size ≤ g := Nat.le_trans hwb2.size hgs
  have HB3 := Lib.hid hB3
  have lg3 := hB3.lt
  have lw3 : w1.heap.size < w3.heap.size := by omega
  clear HPK HWK HK2 HG2 hwb2 HE2 hone hb3 hB3
  obtain ⟨W4, hW4⟩ : ∃ W4, W4 = (w3.alloc (.cells (bytesV (hflat ex3)).toArray 31)).alloc (.cells [ptrV g, ptrV g].toArray 27) := ⟨_, rfl⟩
  have hb4 : Below w3.heap.size w3 W4 := by rw [hW4]; (repeat (first | with_reducible assumption | with_reducible exact Below.refl _ _ | ((with_reducible refine Below.setCell ?_ ?_ _); rotate_left; focus (first | omega | (simp; done) | (simp; omega))) | ((with_reducible refine Below.alloc ?_ ?_ _); rotate_left; focus (first | omega | (simp; done) | (simp; omega))) | ((with_reducible refine below_setRow ?_ ?_ _); rotate_left; focus (first | omega | (simp; done) | (simp; omega))) | (with_reducible refine below_drewN ?_ _) | (with_reducible refine Below.drew ?_)))
  have hl4 : IsSl W4 (.slice (some ⟨w3.heap.size + 1, 0, none⟩) 2 2) 1 2 [ptrV g, ptrV g] := by rw [hW4]; exact ptrs_new _ [g, g] _ (by simp) rfl
  have hh4 : Hs W4 (.slice (some ⟨w3.heap.size, 0, none⟩) 3 3) ex3 := by rw [hW4]; exact (hs_new w3 ex3 _ rfl rfl).below ((Below.refl _ _).alloc (Nat.le_refl _) _)
  have hs4 : W4.heap.size = w3.heap.size + 2 := by rw [hW4]; simp
  have HA4 := Lib.hid (show AEnv w w1.heap.size g w3.heap.size pv wv 0 W4 from
    { pk := HPK3.out.below hb4, wk := HWK3.out.below hb4, ky := HK3.out.below hb4 HK3.out.lt, hh := hh4, wit := by rw [upto_zero]; exact HB3.out.below hb4 lg3, glob := HG3.out.below hb4, pa := hpa, wa := hwa, kg := hg1, hg := by omega, old := hwb3.trans (hb4.mono hwb3.size), gl := hwg })
  have HL4 := Lib.hid hl4
  have HW4 := Lib.hid hW4
  clear hb4 hl4 hh4 hW4 HPK3 HWK3 HK3 HB3 HG3 hpa hwa
  go_wp2_with fail
  refine calls_world HW4.out ?_
  obtain ⟨R2, hR2⟩ : ∃ R2, R2 = rootN ndH e0H (ex3.take 2) := ⟨_, rfl⟩
  obtain ⟨R3, hR3⟩ : ∃ R3, R3 = rootN ndH e0H (ex3.take 3) := ⟨_, rfl⟩
  have HR2 := Lib.hid hR2
  have HR3 := Lib.hid hR3
  refine (HA4.out.collect [g, g] 2 _ _ (.inr rfl) (by decide) (hs_cut (l := ex3) HA4.out.hh 2 (by decide) (by decide)) HL4.out (fun a k c e => by cases e; show w3.heap.size ≠ g; omega) (fun a k c e => by cases e; show w3.heap.size + 1 ≠ g; omega)).mono ?_
  rintro e w5 ⟨sv5, rfl, ho5, ha5, hbt5⟩
  rw [← hR2]
  clear hR2 hR3
  have hone5 : sv5.oneCell' = true := by
    obtain ⟨a, c, e⟩ := ownsRow_form ho5
    rw [e]
    rfl
  obtain ⟨hbl5, hpt5, hsz5⟩ := lay_all w5 zpointC (pointC 2 R2 sv5) 40
  obtain ⟨x5, hx5⟩ : ∃ x, x = layW w5 zpointC (pointC 2 R2 sv5) 40 := ⟨_, rfl⟩
  rw [← hx5] at hbl5 hpt5 hsz5
  have HX5 := Lib.hid hx5
  have HS5 := Lib.hid hsz5
  have HA5 := Lib.hid (ha5.below hbl5)
  have HP5 := Lib.hid hpt5
  have HO5 := Lib.hid (ownsRow_below ho5 hbl5 (ownsRow_block ho5))
  clear ho5 ha5 hbl5 hpt5 hx5
  obtain ⟨v6, hv6⟩ : ∃ v, v = x5.alloc (.cells [ptrV g].toArray 27) := ⟨_, rfl⟩
  have hb6 : Below x5.heap.size x5 v6 := by rw [hv6]; (repeat (first | with_reducible assumption | with_reducible exact Below.refl _ _ | ((with_reducible refine Below.setCell ?_ ?_ _); rotate_left; focus (first | omega | (simp; done) | (simp; omega))) | ((with_reducible refine Below.alloc ?_ ?_ _); rotate_left; focus (first | omega | (simp; done) | (simp; omega))) | ((with_reducible refine below_setRow ?_ ?_ _); rotate_left; focus (first | omega | (simp; done) | (simp; omega))) | (with_reducible refine below_drewN ?_ _) | (with_reducible refine Below.drew ?_)))
  have hb6' := hb6
  have HL6 := Lib.hid (show IsSl v6 (.slice (some ⟨x5.heap.size, 0, none⟩) 1 1) 1 1 [ptrV g] by rw [hv6]; exact ptrs_new _ [g] _ rfl rfl)
  have HB6 := Lib.hid (HA5.out.below hb6)
  have HP5_6 := Lib.hid (HP5.out.below hb6 HP5.out.lt)
  have HO5_6 := Lib.hid (ownsRow_below HO5.out hb6 (ownsRow_block HO5.out))
  have HV6 := Lib.hid hv6
  have lx5 : w3.heap.size < x5.heap.size := by have := hbt5.size; omega
  clear hb6 hv6 HA5 HP5 HO5 HA4 HL4 HW4 hsz5
  go_wp2_with (first
    | (refine wpList_store_row rfl 40 (.tmp 4) (.tmp 21) rfl w5.heap.size (pointC 2 R2 sv5).toArray rfl rfl 40 zpointC.toArray (by exact Blk.newL w5 zpointC _) (by exact point_row _ _ _) (by simp [zpointC, pointC_len]) (by exact point_one _ _ _ hone5) ?_; refine wpList_world (w' := x5) HX5.out ?_)
    | fail)
  refine calls_world HV6.out ?_
  refine (HB6.out.collect [g] 3 _ _ (.inl rfl) (by decide) (ex3_all HB6.out.hh) HL6.out (fun a k c e => by cases e; show w3.heap.size ≠ g; omega) (fun a k c e => by cases e; show x5.heap.size ≠ g; omega)).mono ?_
  rintro e w6 ⟨sv6, rfl, ho6, ha6, hbt6⟩
  rw [← HR3.out]
  have hone6 : sv6.oneCell' = true := by
    obtain ⟨a, c, e⟩ := ownsRow_form ho6
    rw [e]
    rfl
  obtain ⟨hbl6, hpt6, hsz6⟩ := lay_all w6 zpointC (pointC 3 R3 sv6) 40
  obtain ⟨x6, hx6⟩ : ∃ x, x = layW w6 zpointC (pointC 3 R3 sv6) 40 := ⟨_, rfl⟩
  rw [← hx6] at hbl6 hpt6 hsz6
  have HX6 := Lib.hid hx6
  have HS6 := Lib.hid hsz6
  have HA6 := Lib.hid (ha6.below hbl6)
  have HP6 := Lib.hid hpt6
  have HO6 := Lib.hid (ownsRow_below ho6 hbl6 (ownsRow_block ho6))
  have lW4 : g < W4.heap.size := by omega
  have l45 : W4.heap.size ≤ w5.heap.size := hbt5.size
  have hnp5 : w5.heap.size ≠ g := by omega
  have HP5_7 := Lib.hid ((hbt6.blk HP5_6.out hnp5).below hbl6 (hbt6.blk HP5_6.out hnp5).lt)
  have HO5_7 := Lib.hid (ownsRow_below (own_but HO5_6.out hbt6 lW4) hbl6 (ownsRow_block (own_but HO5_6.out hbt6 lW4)))
  obtain ⟨v8, hv8⟩ : ∃ v, v = x6.alloc (.cells [ptrV g].toArray 27) := ⟨_, rfl⟩
  have hb8 : Below x6.heap.size x6 v8 := by rw [hv8]; (repeat (first | with_reducible assumption | with_reducible exact Below.refl _ _ | ((with_reducible refine Below.setCell ?_ ?_ _); rotate_left; focus (first | omega | (simp; done) | (simp; omega))) | ((with_reducible refine Below.alloc ?_ ?_ _); rotate_left; focus (first | omega | (simp; done) | (simp; omega))) | ((with_reducible refine below_setRow ?_ ?_ _); rotate_left; focus (first | omega | (simp; done) | (simp; omega))) | (with_reducible refine below_drewN ?_ _) | (with_reducible refine Below.drew ?_)))
  have HL8 := Lib.hid (show IsSl v8 (.slice (some ⟨x6.heap.size, 0, none⟩) 1 1) 1 1 [ptrV g] by rw [hv8]; exact ptrs_new _ [g] _ rfl rfl)
  have HB8 := Lib.hid (HA6.out.below hb8)
  have HP5_8 := Lib.hid (HP5_7.out.below hb8 HP5_7.out.lt)
  have HO5_8 := Lib.hid (ownsRow_below HO5_7.out hb8 (ownsRow_block HO5_7.out))
  have HP6_8 := Lib.hid (HP6.out.below hb8 HP6.out.lt)
  have HO6_8 := Lib.hid (ownsRow_below HO6.out hb8 (ownsRow_block HO6.out))
  have HV8 := Lib.hid hv8
  have l56 : w5.heap.size < w6.heap.size := by have := hbt6.size; have := hb6'.size; have := HS5.out; omega
  have l6x : w6.heap.size < x6.heap.size := by omega
  have hv6s : g < v6.heap.size := HB6.out.wit.lt
  clear ho6 ha6 hbl6 hpt6 hx6 hsz6 hb8 hv8 HA6 HP6 HO6 HP5_7 HO5_7 HP5_6 HO5_6 HB6 HL6 HV6
  go_wp2_with (first
    | (refine wpList_store_row rfl 40 (.tmp 5) (.tmp 25) rfl w6.heap.size (pointC 3 R3 sv6).toArray rfl rfl 40 zpointC.toArray (by exact Blk.newL w6 zpointC _) (by exact point_row _ _ _) (by simp [zpointC, pointC_len]) (by exact point_one _ _ _ hone6) ?_; refine wpList_world (w' := x6) HX6.out ?_)
    | fail)
  refine calls_world HV8.out ?_
  refine (HB8.out.collect [g] 2 _ _ (.inl rfl) (by decide) (hs_cut (l := ex3) HB8.out.hh 2 (by decide) (by decide)) HL8.out (fun a k c e => by cases e; show w3.heap.size ≠ g; omega) (fun a k c e => by cases e; show x6.heap.size ≠ g; omega)).mono ?_
  rintro e w7 ⟨sv7, rfl, ho7, ha7, hbt7⟩
  rw [← HR2.out]
  have hone7 : sv7.oneCell' = true := by
    obtain ⟨a, c, e⟩ := ownsRow_form ho7
    rw [e]
    rfl
  obtain ⟨hbl7, hpt7, hsz7⟩ := lay_all w7 zpointC (pointC 2 R2 sv7) 40
  obtain ⟨x7, hx7⟩ : ∃ x, x = layW w7 zpointC (pointC 2 R2 sv7) 40 := ⟨_, rfl⟩
  rw [← hx7] at hbl7 hpt7 hsz7
  have HX7 := Lib.hid hx7
  have HS7 := Lib.hid hsz7
  have HA7 := Lib.hid (show AEnv w w1.heap.size g w3.heap.size pv wv 3 x7 from ha7.below hbl7)
  have HP7 := Lib.hid hpt7
  have HO7 := Lib.hid (ownsRow_below ho7 hbl7 (ownsRow_block ho7))
  have hb5 := hbt7.blk HP5_8.out hnp5
  have HP5_9 := Lib.hid (hb5.below hbl7 hb5.lt)
  have ho5' := own_but HO5_8.out hbt7 lW4
  have HO5_9 := Lib.hid (ownsRow_below ho5' hbl7 (ownsRow_block ho5'))
  have hb6x := hbt7.blk HP6_8.out (by omega)
  have HP6_9 := Lib.hid (hb6x.below hbl7 hb6x.lt)
  have ho6' := own_but HO6_8.out hbt7 hv6s
  have HO6_9 := Lib.hid (ownsRow_below ho6' hbl7 (ownsRow_block ho6'))
  clear ho7 ha7 hbl7 hpt7 hx7 hsz7 hb5 ho5' hb6x ho6' HP5_8 HO5_8 HP6_8 HO6_8 HB8 HL8 HV8
  obtain ⟨r3, hr3⟩ : ∃ r3, r3 = bytesV R3.b := ⟨_, rfl⟩
  go_wp2_with (first
    | (refine wpList_store_row rfl 40 (.tmp 6) (.tmp 30) rfl w7.heap.size (pointC 2 R2 sv7).toArray rfl rfl 40 zpointC.toArray (by exact Blk.newL w7 zpointC _) (by exact point_row _ _ _) (by simp [zpointC, pointC_len]) (by exact point_one _ _ _ hone7) ?_; refine wpList_world (w' := x7) HX7.out ?_)
    | fail)
  refine (last_any g pv wv 2 2 3 R3 x7 (by have h := HA7.out.wit; rw [show upto ex3 3 = (3, R3) by unfold upto; rw [HR3.out]; rfl] at h; exact h)).mono ?_
  rintro e w8 ⟨rfl, hb8⟩
  obtain ⟨hbl8, hpt8, hsz8⟩ := lay_all w8 z32 (bytesV R3.b) 31
  obtain ⟨x8, hx8⟩ : ∃ x, x = layW w8 z32 (bytesV R3.b) 31 := ⟨_, rfl⟩
  rw [← hx8] at hbl8 hpt8 hsz8
  have hbb : Below x7.heap.size x7 x8 := hb8.trans (hbl8.mono hb8.size)
  have HX8 := Lib.hid hx8
  have HA8 := Lib.hid (HA7.out.below hbb)
  have HP8 := Lib.hid hpt8
  have HP5_8 := Lib.hid (HP5_9.out.below hbb HP5_9.out.lt)
  have HP6_8 := Lib.hid (HP6_9.out.below hbb HP6_9.out.lt)
  have HP7_8 := Lib.hid (HP7.out.below hbb HP7.out.lt)
  have HO5_8 := Lib.hid (ownsRow_below HO5_9.out hbb (ownsRow_block HO5_9.out))
  obtain ⟨a6, c6, e6⟩ := ownsRow_form HO6_9.out
  obtain ⟨a7, c7, e7⟩ := ownsRow_form HO7.out
  have E6 := Lib.hid (show sv6 = .slice a6 1 c6 from e6)
  have E7 := Lib.hid (show sv7 = .slice a7 0 c7 from e7)
  clear e6 e7
  clear hb8 hbl8 hpt8 hx8 hsz8 hbb HA7 HP7 HP5_9 HP6_9 HO5_9 HO6_9 HO7
  go_wp2_with (first
    | (refine wpList_store_row rfl 31 (.tmp 8) (.tmp 35) rfl w8.heap.size (bytesV R3.b).toArray rfl rfl 31 z32.toArray (by exact Blk.newL w8 z32 _) (by exact hv_row _) (by exact z32_old _) (by exact hv_one _) ?_; refine wpList_world (w' := x8) HX8.out ?_)
    | fail)
  have hisl := ownsRow_isSl HO5_8.out (sigsL_one _)
  obtain ⟨S, hS⟩ : ∃ S, S = signH 2 fewW 2 2 2 R2 := ⟨_, rfl⟩
  have hsg : sigsL (oneSig 2 fewW 2 2 ex3 0 2) = sigC 2 S := by
    rw [hS, HR2.out]
    show sigsL [_] = _
    simp [sigsL]
  rw [hsg] at hisl
  have hisl' : IsSl x8 sv5 33 1 (sigC 2 S) := hisl
  obtain ⟨bs, os, c5, e5, _, hr5, _⟩ := hisl'.pos (by decide) (by decide)
  have hr50 : x8.cell? ⟨bs, os, none⟩ = some (.int .i64 2) := hr5 0 _ rfl
  have hr51 : x8.rangeAt bs (os + 1) (bytesV S.b) := fun j u hj => by
    have := hr5 (j + 1) u hj
    rw [Nat.add_assoc, Nat.add_comm 1 j]
    exact this
  have e6 := E6.out
  have e7 := E7.out
  subst e5
  subst e6
  subst e7
  have HC5 := Lib.hid hr50
  have HC6 := Lib.hid hr51
  have HR4 := Lib.hid (show R3 = rootN ndH e0H ex3 by rw [HR3.out, List.take_of_length_le (by decide)])
  have HS := Lib.hid hS
  have HQ1 := fun w => is_hash w S
  have HQ2 := fun w => is_hash w R3
  have lw1 : w1.heap.size < x8.heap.size := by have := HA8.out.ky.lt; omega
  clear hisl hisl' hr5 hr50 hr51 hsg HO5_8 E6 E7 hS hone5 hone6 hone7
  refine wp_region_mono 50 (x8.heap.size) [(fun v _ => v = .pointer (some ⟨w5.heap.size, 33, none⟩)), (fun v _ => v = .slice (some ⟨bs, os, none⟩) 1 c5), (fun v _ => v = .int .i64 1), (fun v _ => v = .bool true), (fun v _ => v = .bool true), (fun v _ => v = .pointer (some ⟨w5.heap.size, 33, none⟩)), (fun v _ => v = .slice (some ⟨bs, os, none⟩) 1 c5), (fun v _ => v = .pointer (some ⟨bs, os, none⟩)), (fun v _ => v = .pointer (some ⟨bs, os, none⟩)), (fun v _ => v = .int .i64 2), (fun v _ => v = .bool true), (fun v _ => v = .bool true), (fun v _ => v = .bool true), (fun v _ => v = .pointer (some ⟨w5.heap.size, 33, none⟩)), (fun v _ => v = .slice (some ⟨bs, os, none⟩) 1 c5), (fun v _ => v = .pointer (some ⟨bs, os, none⟩)), (fun v _ => v = .pointer (some ⟨bs, os + 1, none⟩)), (fun v _ => v = .agg (bytesV S.b).toArray), (fun v _ => v = .agg [pv, wv, .int .i64 2].toArray), (fun v _ => v = .agg (pointC 2 R2 (.slice (some ⟨bs, os, none⟩) 1 c5)).toArray), (fun v _ => v = .agg (bytesV S.b).toArray), (fun v _ => v = .bool true), (fun v _ => v = .bool true), (fun v _ => v = .bool true), (fun v _ => v = .pointer (some ⟨w6.heap.size, 33, none⟩)), (fun v _ => v = .slice a6 1 c6), (fun v _ => v = .int .i64 1), (fun v _ => v = .bool true), (fun v _ => v = .bool true), (fun v _ => v = .bool true), (fun v _ => v = .pointer (some ⟨w7.heap.size, 33, none⟩)), (fun v _ => v = .slice a7 0 c7), (fun v _ => v = .int .i64 0), (fun v _ => v = .bool true), (fun v _ => v = .bool true), (fun v _ => v = .bool true), (fun v _ => v = .int .i64 3), (fun v _ => v = .bool true), (fun v _ => v = .bool true), (fun v _ => v = .bool true), (fun v _ => v = .agg (bytesV R3.b).toArray), (fun v _ => v = .slice (some ⟨w3.heap.size, 0, none⟩) 3 3), (fun v _ => v = .agg (bytesV R3.b).toArray), (fun v _ => v = .bool true), (fun v _ => v = .bool true), (fun v _ => v = .bool true), (fun v _ => v = .agg [pv, wv, .int .i64 2].toArray), (fun v _ => v = .pointer none), (fun v _ => v = .bool true), (fun v _ => v = .bool true)] (by kernel_rfl) (by kernel_rfl) (Nat.le_refl _) ?mkept _ rfl ?mops ?mfin
  case mkept =>
    repeat (refine List.forall_mem_cons.2 ⟨by first | exact fun _ _ _ _ h => h | exact fun _ _ _ hb h => Parts.below h hb | exact fun _ _ _ hb h => IsSl.below h hb, ?_⟩)
    exact fun _ h => by cases h
  case mops =>
    simp only [List.take_succ_cons, List.take_zero, monoAll, List.getD_cons_zero, List.getD_cons_succ]
    iterate 50
    
     (refine ⟨fun x wr hb hd Qg hK => ?_, ?_⟩
      · as_aux_lemma =>
        simp only [fill, Act.put, List.setIfInBounds_toArray, List.set_cons_succ, List.set_cons_zero, needs, Region.binds, List.filter_cons, List.filter_nil, List.map_cons, List.map_nil, if_true, List.mem_cons, List.not_mem_nil, or_false, forall_eq_or_imp, forall_eq, List.getD_cons_zero, List.getD_cons_succ, false_implies, implies_true] at hd hK ⊢
        (try simp only [hd] at hK ⊢)
        first
        | (show wpList _ _ _ [⟨some 37, .load _ _, _, _, _, _⟩] _ _; have c0 := point_sigs (HP5_8.out.below hb HP5_8.out.lt); go_wp2_with fail; exact hK _ _ rfl (Below.refl _ _))
        | (show wpList _ _ _ [⟨some 42, .load _ _, _, _, _, _⟩] _ _; have c0 := point_sigs (HP5_8.out.below hb HP5_8.out.lt); go_wp2_with fail; exact hK _ _ rfl (Below.refl _ _))
        | (show wpList _ _ _ [⟨some 50, .load _ _, _, _, _, _⟩] _ _; have c0 := point_sigs (HP5_8.out.below hb HP5_8.out.lt); go_wp2_with fail; exact hK _ _ rfl (Below.refl _ _))
        | (show wpList _ _ _ [⟨some 61, .load _ _, _, _, _, _⟩] _ _; have c0 := point_sigs (HP6_8.out.below hb HP6_8.out.lt); go_wp2_with fail; exact hK _ _ rfl (Below.refl _ _))
        | (show wpList _ _ _ [⟨some 67, .load _ _, _, _, _, _⟩] _ _; have c0 := point_sigs (HP7_8.out.below hb HP7_8.out.lt); go_wp2_with fail; exact hK _ _ rfl (Below.refl _ _))
        | (show wpList _ _ _ [⟨some 45, .load _ _, _, _, _, _⟩] _ _; have c0 := (hb.cell (p := ⟨bs, os, none⟩) (World.block_lt_of_cell? _ _ HC5.out)).trans HC5.out; go_wp2_with fail; exact hK _ _ rfl (Below.refl _ _))
        | ((refine wpList_load_midIf rfl 31 (.tmp 52) rfl bs (os + 1) rfl (bytesV S.b) _ (range_below HC6.out hb) Tryd.underlying31 rfl (hv_info S) ?_; exact hK _ _ rfl (Below.refl _ _)))
        | (show wpList _ _ _ [⟨some 76, .load _ _, _, _, _, _⟩] _ _; have hBr := HP8.out.below hb HP8.out.lt; refine wpList_load_rowIf rfl 31 (.tmp 8) rfl _ rfl 31 (bytesV R3.b).toArray (0, 0) _ (by exact hBr) Tryd.underlying31 rfl (hv_row R3) ?_; exact hK _ _ rfl (Below.refl _ _))
        | (show wpList _ _ _ [⟨some 54, .load _ _, _, _, _, _⟩] _ _; have hBr := HA8.out.ky.below hb lw1; refine wpList_load_rowIf rfl 24 (.tmp 1) rfl _ rfl 24 [pv, wv, .int .i64 2].toArray (0, 0) _ (by exact hBr) Tryd.underlying24 rfl (keys_row _ _ _) ?_; exact hK _ _ rfl (Below.refl _ _))
        | (show wpList _ _ _ [⟨some 82, .load _ _, _, _, _, _⟩] _ _; have hBr := HA8.out.ky.below hb lw1; refine wpList_load_rowIf rfl 24 (.tmp 1) rfl _ rfl 24 [pv, wv, .int .i64 2].toArray (0, 0) _ (by exact hBr) Tryd.underlying24 rfl (keys_row _ _ _) ?_; exact hK _ _ rfl (Below.refl _ _))
        | (show wpList _ _ _ [⟨some 55, .load _ _, _, _, _, _⟩] _ _; have hBr := HP5_8.out.below hb HP5_8.out.lt; refine wpList_load_rowIf rfl 40 (.tmp 4) rfl _ rfl 40 (pointC 2 R2 (.slice (some ⟨bs, os, none⟩) 1 c5)).toArray (0, 0) _ (by exact hBr) Tryd.underlying40 rfl (point_row _ _ _) ?_; exact hK _ _ rfl (Below.refl _ _))
        | (show wpList _ _ _ [⟨some 56, .call _, _, _, _, _⟩] _ _; go_wp2_with (go_at_call 23; refine (sign_any pv wv fewP fewW 2 2 2 R2 (.slice (some ⟨bs, os, none⟩) 1 c5) wr (HA8.out.pk.below hb) (HA8.out.wk.below hb) (by decide) (HA8.out.glob.below hb)).mono ?_; rintro e w9 ⟨rfl, hb9⟩; rw [show signH fewP.length fewW 2 2 2 R2 = S from HS.out.symm]); exact hK _ _ rfl hb9)
        | (show wpList _ _ _ [⟨some 78, .call _, _, _, _, _⟩] _ _; go_wp2_with (go_at_call 19; refine (root_any 3 _ ex3 wr rfl (by decide) (HA8.out.hh.below hb) (HA8.out.glob.below hb)).mono ?_; rintro e w9 ⟨rfl, hb9⟩; rw [← HR4.out]); exact hK _ _ rfl hb9)
        | (show wpList _ _ _ [⟨some 83, .call _, _, _, _, _⟩] _ _; go_wp2_with (go_at_call 9; refine (new_no pv wv fewP fewW 2 3 wr (HA8.out.pk.below hb) (HA8.out.wk.below hb) (by decide)).mono ?_; rintro e w9 ⟨rfl, hb9⟩); exact hK _ _ rfl hb9)
        | (show wpList _ _ _ [⟨some 84, .binOp _ _ _ _ _, _, _, _, _⟩] _ _; have hnil : ∀ (w : World), (binOp .eql 27 (.pointer none) (.pointer none)).run Tryd.prog w = .ok (.bool true) w := fun _ => rfl; go_wp2_with fail; exact hK _ _ rfl (Below.refl _ _))
        | (go_wp2_with fail; exact hK _ _ rfl (Below.refl _ _)))
    trivial
  case mfin =>
    intro x wr hb hR
    have x49 := hR 49 (by decide)
    simp only [List.getD_cons_zero, List.getD_cons_succ] at x49
    have hw6 := HA8.out.old.trans (hb.mono HA8.out.old.size)
    clear hR hb HQ1 HQ2
    simp only [List.drop_succ_cons, List.drop_zero]
    generalize List.toArray _ = L0
    simp only [List.take_succ_cons, List.take_zero, List.map_cons, List.map_nil, fill, Act.put, List.setIfInBounds_toArray, List.set_cons_succ, List.set_cons_zero, x49]
    clear x49
    go_wp2_with fail
    go_ret
    exact ⟨rfl, hw6⟩
end Go.Proofs.YtldokkbfahobgaaDoor
