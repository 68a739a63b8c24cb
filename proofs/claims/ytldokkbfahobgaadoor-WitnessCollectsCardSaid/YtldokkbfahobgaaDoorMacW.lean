/- The walk of mac.pad: a key's 64 bytes, each put together with another one. The walk of mac.Tag. The tag of parts that the caller has just laid in a new block. Conditions: what each part says. -/
import Derived.Test.YtldokkbfahobgaaDoorHashP
import Derived.Test.YtldokkbfahobgaaDoorGround
import Derived.Laws.CopyOwn
import Derived.Laws.MakeOwn
/-! MacA: The walk of mac.pad: a key's 64 bytes, each put together with another one. Condition: the key can be read. -/
namespace Go.Proofs.YtldokkbfahobgaaDoor
open Go.RowKit

/-- A key's first 64 bytes, bytes 0 behind, each put together with b. -/
def padN (k : List UInt8) (b : UInt8) : List UInt8 := (List.range 64).map fun i => keyAt k i ^^^ b
theorem padN_len (k : List UInt8) (b : UInt8) : (padN k b).length = 64 := by simp [padN]
/-- The cells behind j of the rounds. -/
def padRow (k : List UInt8) (b : UInt8) (j : Nat) : List UInt8 := (List.range 64).map fun i => if i < j then keyAt k i ^^^ b else keyAt k i
theorem padRow_len (k : List UInt8) (b : UInt8) (j : Nat) : (padRow k b j).length = 64 := by simp [padRow]
theorem padRow_at (k : List UInt8) (b : UInt8) (j i : Nat) (h : i < 64) : (padRow k b j)[i]? = some (if i < j then keyAt k i ^^^ b else keyAt k i) := by simp [padRow, h]
theorem padRow_64 (k : List UInt8) (b : UInt8) : padRow k b 64 = padN k b := by
  unfold padRow padN
  refine List.map_congr_left fun i hi => ?_
  rw [if_pos (List.mem_range.1 hi)]
theorem padRow_set (k : List UInt8) (b : UInt8) (j : Nat) : (bytesV (padRow k b j)).set j (.int .u8 ((keyAt k j ^^^ b).toNat : Int)) = bytesV (padRow k b (j + 1)) := by
  unfold bytesV
  have : (padRow k b j).set j (keyAt k j ^^^ b) = padRow k b (j + 1) := by
    apply List.ext_getElem?
    intro i
    by_cases hi : i < 64
    · rw [List.getElem?_set, padRow_len, padRow_at _ _ _ _ hi, padRow_at _ _ _ _ hi]
      by_cases hk : j = i
      · subst hk; rw [if_pos rfl, if_pos hi, if_pos (by omega)]
      · rw [if_neg hk]
        by_cases h2 : i < j
        · rw [if_pos h2, if_pos (by omega)]
        · rw [if_neg h2, if_neg (by omega)]
    · rw [List.getElem?_eq_none (by simp [padRow_len]; omega), List.getElem?_eq_none (by simp [padRow_len]; omega)]
  rw [← this, List.map_set]

theorem padRow_zero (k : List UInt8) (b : UInt8) : k.take 64 ++ (zerosB 64).drop (k.take 64).length = padRow k b 0 := by
  apply List.ext_getElem?
  intro i
  by_cases hi : i < 64
  · rw [padRow_at _ _ _ _ hi, if_neg (by omega)]
    unfold keyAt
    by_cases h2 : i < k.length
    · rw [List.getElem?_append_left (by rw [List.length_take]; omega), List.getElem?_take, if_pos hi, List.getElem?_eq_getElem h2]
      rfl
    · rw [List.getElem?_append_right (by rw [List.length_take]; omega), List.getElem?_drop, List.getElem?_eq_none (l := k) (by omega), zerosB, List.getElem?_replicate, if_pos (by rw [List.length_take]; omega)]
      rfl
  · rw [List.getElem?_eq_none (by rw [List.length_append, List.length_drop, zerosB_len, List.length_take]; omega), List.getElem?_eq_none (by rw [padRow_len]; omega)]

set_option maxRecDepth 100000 in
set_option maxHeartbeats 400000 in
theorem pad_any (v : Value) (k : List UInt8) (b : UInt8) (w : World) (hk : Bytes w v k) :
    Calls Tryd.prog 54 #[v, .int .u8 (b.toNat : Int)] w fun e w' => (∃ v', e = .returned v' ∧ Bytes w' v' (padN k b)) ∧ Below w.heap.size w w' := by
  obtain ⟨xa, ca, rfl, _⟩ := hk.form
  have HK := Lib.hid hk
  clear hk
  have hmk : ∀ w : World, (Instr.makeSlice 48 (.int .i64 64) (.int .i64 64)).run Tryd.prog w = .ok (.slice (some ⟨w.heap.size, 0, none⟩) 64 64) (w.alloc (.cells (bytesV (zerosB 64)).toArray 5)) := fun w => make_bytes 64 (by omega) w
  go_enter Tryd.func54, Tryd.ntmps54
  have hmin : (bytesV (k.take 64)).length = Nat.min k.length 64 := by rw [bytesV_len, List.length_take, Nat.min_comm]
  have hsp : splice (bytesV (zerosB 64)) 0 (bytesV (k.take 64)) = bytesV (padRow k b 0) := by
    unfold splice
    rw [List.take_zero, List.nil_append, bytesV_len, ← padRow_zero k b, bytesV_app]
    congr 1
    unfold bytesV
    rw [List.map_drop, Nat.zero_add]
  have hsrc : 0 < (bytesV (k.take 64)).length → some (⟨w.heap.size, 0, none⟩ : Addr) = some ⟨w.heap.size, 0, none⟩ ∧ ∃ ad, xa = some ad ∧ ∀ j v, (bytesV (k.take 64))[j]? = some v → (w.alloc (.cells (bytesV (zerosB 64)).toArray 5)).cell? (ad.add j) = some v := by
    intro hpos
    refine ⟨rfl, ?_⟩
    rw [bytesV_len, List.length_take] at hpos
    rcases HK.out.2.2 with ⟨_, hl⟩ | ⟨ad, cap, e, _, hr⟩
    · omega
    · cases e
      refine ⟨ad, rfl, fun j u hj => ?_⟩
      have hu : (bytesV k)[j]? = some u := by
        unfold bytesV at hj ⊢
        rw [List.map_take, List.getElem?_take] at hj
        split at hj
        · exact hj
        · cases hj
      refine (Below.cell ((Below.refl w.heap.size w).alloc (Nat.le_refl _) _) (World.block_lt_of_cell? _ _ (hr j u hu))).trans (hr j u hu)
  have HSRC := Lib.hid hsrc
  clear hsrc
  have HMIN := Lib.hid hmin
  have HSP := Lib.hid hsp
  clear hmin hsp
  go_wp2_with (first
    | (refine wpList_copy_splice rfl (.tmp 8) (.tmp 9) 48 48 rfl 5 Tryd.underlying48 (by kernel_rfl) (some ⟨w.heap.size, 0, none⟩) xa 64 64 k.length ca rfl rfl
        w.heap.size 0 (bytesV (zerosB 64)) 5 (by exact Blk.newL w _ _) (bytesV (k.take 64)) HMIN.out (by exact HSRC.out) (by rw [bytesV_len, bytesV_len, zerosB_len, List.length_take]; omega) (bytesV_one _) w.heap.size w (by (repeat (first | with_reducible assumption | with_reducible exact Below.refl _ _ | ((with_reducible refine Below.setCell ?_ ?_ _); rotate_left; focus (first | omega | (simp; done) | (simp; omega))) | ((with_reducible refine Below.alloc ?_ ?_ _); rotate_left; focus (first | omega | (simp; done) | (simp; omega))) | ((with_reducible refine below_setRow ?_ ?_ _); rotate_left; focus (first | omega | (simp; done) | (simp; omega))) | (with_reducible refine below_drewN ?_ _) | (with_reducible refine Below.drew ?_)))) (Nat.le_refl _) ?_; intro w1 hB1 hb1)
    | fail)
  rw [HSP.out] at hB1
  go_loopw [13] (fun i wr => ∃ j : Nat, j ≤ 64 ∧ i = .int .i64 j ∧ Blk wr w.heap.size (bytesV (padRow k b j)) 5 ∧ Below w.heap.size w wr) (fun i _ => 64 - (intOf i).toNat)
  case atStart => exact ⟨0, by omega, rfl, hB1.out, hb1⟩
  case round =>
    clear hB1 hb1 HSP HMIN hmk
    obtain ⟨j, hj, rfl, hB, hb⟩ := hrel
    have HB := Lib.hid hB
    clear hB
    by_cases h64 : j < 64
    · have hat : (bytesV (padRow k b j))[j]? = some (.int .u8 ((keyAt k j).toNat : Int)) := bytesV_at _ _ _ (by rw [padRow_at _ _ _ _ h64, if_neg (by omega)])
      have c0 : wr.cell? ⟨w.heap.size, j, none⟩ = some (.int .u8 ((keyAt k j).toNat : Int)) := HB.out.cell hat
      have f0 : wr.frozen? ⟨w.heap.size, j, none⟩ = false := HB.out.frozen j
      have hx := xor_u8 (keyAt k j) b
      go_wp2_with fail
      refine ⟨⟨j + 1, by omega, by go_num, ?_, by (repeat (first | with_reducible assumption | with_reducible exact Below.refl _ _ | ((with_reducible refine Below.setCell ?_ ?_ _); rotate_left; focus (first | omega | (simp; done) | (simp; omega))) | ((with_reducible refine Below.alloc ?_ ?_ _); rotate_left; focus (first | omega | (simp; done) | (simp; omega))) | ((with_reducible refine below_setRow ?_ ?_ _); rotate_left; focus (first | omega | (simp; done) | (simp; omega))) | (with_reducible refine below_drewN ?_ _) | (with_reducible refine Below.drew ?_)))⟩, by simp [intOf]; omega⟩
      rw [← padRow_set, UInt8.toNat_xor]
      exact HB.out.set j _
    · obtain rfl : j = 64 := by omega
      go_wp2_with fail
      go_ret
      refine ⟨⟨_, rfl, ?_⟩, hb⟩
      have h1 : wr.rangeAt w.heap.size 0 (bytesV (padN k b)) := fun i u hi => by
        rw [Nat.zero_add]
        rw [← padRow_64] at hi
        exact HB.out.cell hi
      have := IsSl.of_range (n := 64) (cap := 64) (size := 1) (by rw [bytesV_len, padN_len]) (bytesV_one _) (Nat.le_refl _) h1
      unfold Bytes
      rw [padN_len]
      exact this
end Go.Proofs.YtldokkbfahobgaaDoor

/-! MacB: The walk of mac.Tag. Conditions: the key and the parts can be read; together at most 2^45 bytes; the package's tables read as they are laid. -/
namespace Go.Proofs.YtldokkbfahobgaaDoor
open Go.RowKit

def keyN (k : List UInt8) : List UInt8 := if 64 < k.length then sumN k else k
/-- The tag of a text. -/
def tagN (k t : List UInt8) : List UInt8 := sumN (padN (keyN k) 92 ++ sumN (padN (keyN k) 54 ++ t))
theorem tagN_len (k t : List UInt8) : (tagN k t).length = 32 := sumN_len _
set_option maxRecDepth 100000 in
set_option maxHeartbeats 1000000 in
theorem tag_short (vk vp : Value) (kk : List UInt8) (ls : List (List UInt8)) (vs : List Value) (w : World) (hk : Bytes w vk kk) (hp : Parts w vp ls vs) (hkl : kk.length ≤ 64) (hsz : (cat ls).length ≤ 35184372088832) (hln : ls.length ≤ 1000000000000) (hg : Glob w) :
    Calls Tryd.prog 37 #[vk, vp] w fun e w' => e = .returned (.agg (bytesV (sumN (padN kk 92 ++ sumN (padN kk 54 ++ cat ls)))).toArray) ∧ Below w.heap.size w w' := by
  obtain ⟨i1, hi1, hy0, hy1, hy2⟩ := info_parts info_bytes
  obtain ⟨xk, ck, rfl, _⟩ := hk.form
  obtain ⟨xp, cp, rfl, _⟩ := hp.sl.form
  have HG := Lib.hid hg
  have HK4 := Lib.hid (hk.below ((Below.refl w.heap.size w).alloc (Nat.le_refl _) (.cells z32.toArray 31)))
  have HP4 := Lib.hid (hp.below ((Below.refl w.heap.size w).alloc (Nat.le_refl _) (.cells z32.toArray 31)))
  have HH4 := Lib.hid (Blk.newL w z32 31)
  have hw4 := (Below.refl w.heap.size w).alloc (Nat.le_refl _) (.cells z32.toArray 31)
  clear hg hk hp
  go_enter Tryd.func37, Tryd.ntmps37
  go_wp2_with fail
  refine (pad_any _ kk 54 _ HK4.out).mono ?_
  rintro e w5 ⟨⟨v5, rfl, hv5⟩, hb5⟩
  obtain ⟨x5, c5, e5, _⟩ := hv5.form
  rw [padN_len] at e5
  subst e5
  have hw5 := hw4.trans (hb5.mono hw4.size)
  have hH5 := HH4.out.below hb5 HH4.out.lt
  have hs5 := hw5.size
  have hs5' : w.heap.size < w5.heap.size := hH5.lt
  have HK5 := Lib.hid (HK4.out.below hb5)
  have HP5 := Lib.hid (HP4.out.below hb5)
  have HV5 := Lib.hid hv5
  have HH5 := Lib.hid hH5
  have HG5 := Lib.hid (HG.out.below hw5)
  clear hb5 hw4 hH5 hv5 HK4 HP4 HH4
  go_wp2_with (first
    | (at_builtin; refine wpList_app rfl (.tmp 16) (.tmp 17) 90 rfl w.heap.size 48 i1 (.slice none 0 0) 1 24 Tryd.underlying90 hi1 hy0 hy1 hy2 rfl (by decide) (.slice (some ⟨w5.heap.size, 0, none⟩) 1 1) 1 [.slice x5 64 c5] rfl
        (by exact World.ownsRow_lit w5 #[.slice x5 64 c5] 1 hs5 (by decide) rfl) _ ls.length vs rfl (by exact HP5.out.sl.below ((Below.refl _ _).alloc (Nat.le_refl _) _)) (by unfold maxLen; omega) (by omega) (by simp; omega) ?_; intro a6 cap6 w6 hown6 hgrow6 _;
       have hb6 : Below w5.heap.size w5 w6 := ((Below.refl w5.heap.size w5).alloc (Nat.le_refl _) _).grown hgrow6 (by simp) (fun k hk => by cases hk; exact Nat.le_refl _);
       have HO6 := Lib.hid hown6; clear hown6 hgrow6)
    | fail)
  have hw6 := hw5.trans (hb6.mono hs5)
  have hP6 : Parts w6 (.slice a6 (1 + ls.length) cap6) (padN kk 54 :: ls) (.slice x5 64 c5 :: vs) := parts_owned HO6.out (HV5.out.below hb6) (HP5.out.below hb6)
  refine (sum_any _ (padN kk 54 :: ls) (.slice x5 64 c5 :: vs) w6 hP6 (by rw [cat_cons, List.length_append, padN_len]; omega) (by simp; omega) (HG5.out.below (hb6))).mono ?_
  rintro e w7 ⟨rfl, hb7⟩
  rw [sum_nat, cat_cons]
  have hs56 := hb6.size
  have hw7 := hw6.trans (hb7.mono hw6.size)
  have HK7 := Lib.hid ((HK5.out.below hb6).below hb7)
  have hH7 := (HH5.out.below hb6 HH5.out.lt).below hb7 (by omega)
  have HG7 := Lib.hid (HG.out.below hw7)
  have HH7 := Lib.hid hH7
  have hs7 : w.heap.size < w7.heap.size := hH7.lt
  clear hb6 hb7 hP6 hH7 HO6 hw6 HK5 HP5 HV5 HH5 HG5 hs56 hs5' hs5 hw5
  obtain ⟨D, hD⟩ : ∃ D, D = sumN (padN kk 54 ++ cat ls) := ⟨_, rfl⟩
  rw [← hD]
  have hDl : D.length = 32 := by rw [hD]; exact sumN_len _
  have HDE := Lib.hid hD
  have HDL := Lib.hid hDl
  clear hD hDl
  go_wp2_with (first
    | (refine wpList_store_row rfl 31 (.tmp 6) (.tmp 19) rfl w7.heap.size (bytesV D).toArray rfl rfl 31 z32.toArray (by exact Blk.newL w7 z32 _) (by exact hash_info D HDL.out) (by simp [z32, bytesV, HDL.out]) (hash_one _) ?_)
    | fail)
  refine wp_region_forced [0, 2] [1, 3, 4, 5] (by kernel_rfl) (by kernel_rfl) (fun _ _ _ d _ h => by cases d <;> exact h) _ _ rfl rfl ?_
  simp only [List.map_cons, List.map_nil, List.getD_cons_succ, List.getD_cons_zero]
  refine wpPure_move _ rfl rfl ?_
  refine wpPure_run (.slice (some ⟨w7.heap.size, 0, none⟩) 32 32) rfl (fun w' => ?_) ?_
  · simp [go_sem, execOp]
  refine wpPure_nil ?_
  intro nq
  go_wp2_with fail
  have hb8 : Below w7.heap.size w7 (((w7.alloc (.cells z32.toArray 31)).setRow w7.heap.size (bytesV D).toArray).drewN nq) := below_drewN (below_setRow ((Below.refl _ _).alloc (Nat.le_refl _) _) (Nat.le_refl _) _) nq
  have hB8 : Blk (((w7.alloc (.cells z32.toArray 31)).setRow w7.heap.size (bytesV D).toArray).drewN nq) w7.heap.size (bytesV D) 31 := ((Blk.newL w7 z32 _).setRow _).drewN nq
  refine (pad_any _ kk 92 _ (HK7.out.below hb8)).mono ?_
  rintro e w9 ⟨⟨v9, rfl, hv9⟩, hb9⟩
  have hb79 := hb8.trans (hb9.mono hb8.size)
  have hB9 := hB8.below hb9 hB8.lt
  have hH9 := HH7.out.below hb79 HH7.out.lt
  have hw9 := hw7.trans (hb79.mono hw7.size)
  have hD9 : Bytes w9 (.slice (some ⟨w7.heap.size, 0, none⟩) 32 32) D := by
    have := IsSl.of_range (w := w9) (b := w7.heap.size) (off := 0) (n := 32) (cap := 32) (size := 1) (cs := bytesV D) (by rw [bytesV_len, HDL.out]) (bytesV_one _) (Nat.le_refl _) (fun i u hi => by rw [Nat.zero_add]; exact hB9.cell hi)
    unfold Bytes
    rw [HDL.out]
    exact this
  obtain ⟨x9, c9, e9, _⟩ := hv9.form
  rw [padN_len] at e9
  subst e9
  have HV9 := Lib.hid hv9
  have HD9 := Lib.hid hD9
  have HH9 := Lib.hid hH9
  have HG9 := Lib.hid (HG.out.below hw9)
  clear hb8 hB8 hb9 hb79 hB9 hH9 hD9 hv9 HH7 HG7 HK7 hw7
  go_wp2_with fail
  refine (sum_at (n := 2) w9 [_, _] [padN kk 92, D] _ (.cons HV9.out (.cons HD9.out .nil)) rfl (padN kk 92 ++ D) (by simp [cat]) (by rw [List.length_append, padN_len, HDL.out]; decide) (by decide) HG9.out).mono ?_
  rintro e w10 ⟨rfl, hb10⟩
  have hH10 := HH9.out.below hb10 HH9.out.lt
  have hw10 := hw9.trans (hb10.mono hw9.size)
  have HH10 := Lib.hid hH10
  clear hb10 hH10 hw9 HV9 HD9 HH9 HG9
  go_wp2_with (first
    | (refine wpList_store_row rfl 31 (.tmp 4) (.tmp 24) rfl w.heap.size (bytesV (sumN (padN kk 92 ++ D))).toArray rfl rfl 31 z32.toArray (by exact HH10.out) (by exact hash_info _ (sumN_len _)) (by simp [z32, bytesV, sumN_len]) (hash_one _) ?_)
    | fail)
  exact bodyPost_ret (v := .agg (bytesV (sumN (padN kk 92 ++ D))).toArray) (results_cell_row rfl _ _ w.heap.size 31 _ (0, 0) _ rfl (HH10.out.setRow _) Tryd.underlying31 rfl (hash_info _ (sumN_len _))) rfl ⟨by rw [HDE.out], below_setRow hw10 (Nat.le_refl _) _⟩

set_option maxRecDepth 100000 in
set_option maxHeartbeats 1000000 in
theorem tag_long (vk vp : Value) (k kk : List UInt8) (ls : List (List UInt8)) (vs : List Value) (w : World) (hk : Bytes w vk k) (hp : Parts w vp ls vs) (hkk : kk = sumN k) (hkl : 64 < k.length) (hk2 : k.length ≤ 70368744177664) (hsz : (cat ls).length ≤ 35184372088832) (hln : ls.length ≤ 1000000000000) (hg : Glob w) :
    Calls Tryd.prog 37 #[vk, vp] w fun e w' => e = .returned (.agg (bytesV (sumN (padN kk 92 ++ sumN (padN kk 54 ++ cat ls)))).toArray) ∧ Below w.heap.size w w' := by
  obtain ⟨i1, hi1, hy0, hy1, hy2⟩ := info_parts info_bytes
  obtain ⟨xk, ck, rfl, _⟩ := hk.form
  obtain ⟨xp, cp, rfl, _⟩ := hp.sl.form
  have hb1 := (Below.refl w.heap.size w).alloc (Nat.le_refl _) (.cells z32.toArray 31)
  have hk1 := hk.below hb1
  have HG := Lib.hid hg
  have HG1 := Lib.hid (hg.below hb1)
  have HK1 := Lib.hid hk1
  have HP := Lib.hid hp
  have hkl2 : kk.length = 32 := by rw [hkk]; exact sumN_len _
  have HKL := Lib.hid hkl2
  have HKK := Lib.hid hkk
  have hc1 : cat [k] = k := by simp [cat]
  have HC1 := Lib.hid hc1
  clear hg hk hp hk1 hkk hkl2 hc1
  go_enter Tryd.func37, Tryd.ntmps37
  go_wp2_with fail
  refine (sum_atB (n := 1) (w.alloc (.cells z32.toArray 31)) [_] [k] _ (by simp) (.cons HK1.out .nil) rfl k HC1.out hk2 (by decide) HG1.out).mono ?_
  rintro e w2 ⟨rfl, hb2⟩
  rw [← HKK.out]
  have hw2 := hb1.trans (hb2.mono hb1.size)
  have hH2 := (Blk.newL w z32 31).below hb2 (by simp)
  have HP2 := Lib.hid (HP.out.below hw2)
  have HH2 := Lib.hid hH2
  have hs2 : w.heap.size < w2.heap.size := hH2.lt
  clear hb1 hb2 hH2 HK1 HP HG1
  have hw4 : Below w.heap.size w ((w2.alloc (.cells z32.toArray 31)).setRow w2.heap.size (bytesV kk).toArray) := below_setRow (hw2.alloc (by omega) _) (by omega) _
  have hb4 : Below w2.heap.size w2 ((w2.alloc (.cells z32.toArray 31)).setRow w2.heap.size (bytesV kk).toArray) := below_setRow ((Below.refl _ _).alloc (Nat.le_refl _) _) (Nat.le_refl _) _
  have HP4 := Lib.hid (HP2.out.below hb4)
  have HH4 := Lib.hid (HH2.out.below hb4 HH2.out.lt)
  have hB4 : Blk ((w2.alloc (.cells z32.toArray 31)).setRow w2.heap.size (bytesV kk).toArray) w2.heap.size (bytesV kk) 31 := (Blk.newL w2 z32 _).setRow _
  have hk4 : Bytes ((w2.alloc (.cells z32.toArray 31)).setRow w2.heap.size (bytesV kk).toArray) (.slice (some ⟨w2.heap.size, 0, none⟩) 32 32) kk := by
    have := IsSl.of_range (b := w2.heap.size) (off := 0) (n := 32) (cap := 32) (size := 1) (cs := bytesV kk) (by rw [bytesV_len, HKL.out]) (bytesV_one _) (Nat.le_refl _) (fun i u hi => by rw [Nat.zero_add]; exact hB4.cell hi)
    unfold Bytes
    rw [HKL.out]
    exact this
  have HK4 := Lib.hid hk4
  clear hb4 hB4 hk4 hw2 HP2 HH2
  go_wp2_with (first
    | (refine wpList_store_row rfl 31 (.tmp 5) (.tmp 12) rfl w2.heap.size (bytesV kk).toArray rfl rfl 31 z32.toArray (by exact Blk.newL w2 z32 _) (by exact hash_info kk HKL.out) (by simp [z32, bytesV, HKL.out]) (hash_one _) ?_)
    | fail)
  refine (pad_any _ kk 54 _ HK4.out).mono ?_
  rintro e w5 ⟨⟨v5, rfl, hv5⟩, hb5⟩
  obtain ⟨x5, c5, e5, _⟩ := hv5.form
  rw [padN_len] at e5
  subst e5
  have hw5 := hw4.trans (hb5.mono hw4.size)
  have hH5 := HH4.out.below hb5 HH4.out.lt
  have hs5 := hw5.size
  have hs5' : w.heap.size < w5.heap.size := hH5.lt
  have HK5 := Lib.hid (HK4.out.below hb5)
  have HP5 := Lib.hid (HP4.out.below hb5)
  have HV5 := Lib.hid hv5
  have HH5 := Lib.hid hH5
  have HG5 := Lib.hid (HG.out.below hw5)
  clear hb5 hw4 hH5 hv5 HK4 HP4 HH4
  go_wp2_with (first
    | (at_builtin; refine wpList_app rfl (.tmp 16) (.tmp 17) 90 rfl w.heap.size 48 i1 (.slice none 0 0) 1 24 Tryd.underlying90 hi1 hy0 hy1 hy2 rfl (by decide) (.slice (some ⟨w5.heap.size, 0, none⟩) 1 1) 1 [.slice x5 64 c5] rfl
        (by exact World.ownsRow_lit w5 #[.slice x5 64 c5] 1 hs5 (by decide) rfl) _ ls.length vs rfl (by exact HP5.out.sl.below ((Below.refl _ _).alloc (Nat.le_refl _) _)) (by unfold maxLen; omega) (by omega) (by simp; omega) ?_; intro a6 cap6 w6 hown6 hgrow6 _;
       have hb6 : Below w5.heap.size w5 w6 := ((Below.refl w5.heap.size w5).alloc (Nat.le_refl _) _).grown hgrow6 (by simp) (fun k hk => by cases hk; exact Nat.le_refl _);
       have HO6 := Lib.hid hown6; clear hown6 hgrow6)
    | fail)
  have hw6 := hw5.trans (hb6.mono hs5)
  have hP6 : Parts w6 (.slice a6 (1 + ls.length) cap6) (padN kk 54 :: ls) (.slice x5 64 c5 :: vs) := parts_owned HO6.out (HV5.out.below hb6) (HP5.out.below hb6)
  refine (sum_any _ (padN kk 54 :: ls) (.slice x5 64 c5 :: vs) w6 hP6 (by rw [cat_cons, List.length_append, padN_len]; omega) (by simp; omega) (HG5.out.below (hb6))).mono ?_
  rintro e w7 ⟨rfl, hb7⟩
  rw [sum_nat, cat_cons]
  have hs56 := hb6.size
  have hw7 := hw6.trans (hb7.mono hw6.size)
  have HK7 := Lib.hid ((HK5.out.below hb6).below hb7)
  have hH7 := (HH5.out.below hb6 HH5.out.lt).below hb7 (by omega)
  have HG7 := Lib.hid (HG.out.below hw7)
  have HH7 := Lib.hid hH7
  have hs7 : w.heap.size < w7.heap.size := hH7.lt
  clear hb6 hb7 hP6 hH7 HO6 hw6 HK5 HP5 HV5 HH5 HG5 hs56 hs5' hs5 hw5
  obtain ⟨D, hD⟩ : ∃ D, D = sumN (padN kk 54 ++ cat ls) := ⟨_, rfl⟩
  rw [← hD]
  have hDl : D.length = 32 := by rw [hD]; exact sumN_len _
  have HDE := Lib.hid hD
  have HDL := Lib.hid hDl
  clear hD hDl
  go_wp2_with (first
    | (refine wpList_store_row rfl 31 (.tmp 6) (.tmp 19) rfl w7.heap.size (bytesV D).toArray rfl rfl 31 z32.toArray (by exact Blk.newL w7 z32 _) (by exact hash_info D HDL.out) (by simp [z32, bytesV, HDL.out]) (hash_one _) ?_)
    | fail)
  refine wp_region_forced [0, 2] [1, 3, 4, 5] (by kernel_rfl) (by kernel_rfl) (fun _ _ _ d _ h => by cases d <;> exact h) _ _ rfl rfl ?_
  simp only [List.map_cons, List.map_nil, List.getD_cons_succ, List.getD_cons_zero]
  refine wpPure_move _ rfl rfl ?_
  refine wpPure_run (.slice (some ⟨w7.heap.size, 0, none⟩) 32 32) rfl (fun w' => ?_) ?_
  · simp [go_sem, execOp]
  refine wpPure_nil ?_
  intro nq
  go_wp2_with fail
  have hb8 : Below w7.heap.size w7 (((w7.alloc (.cells z32.toArray 31)).setRow w7.heap.size (bytesV D).toArray).drewN nq) := below_drewN (below_setRow ((Below.refl _ _).alloc (Nat.le_refl _) _) (Nat.le_refl _) _) nq
  have hB8 : Blk (((w7.alloc (.cells z32.toArray 31)).setRow w7.heap.size (bytesV D).toArray).drewN nq) w7.heap.size (bytesV D) 31 := ((Blk.newL w7 z32 _).setRow _).drewN nq
  refine (pad_any _ kk 92 _ (HK7.out.below hb8)).mono ?_
  rintro e w9 ⟨⟨v9, rfl, hv9⟩, hb9⟩
  have hb79 := hb8.trans (hb9.mono hb8.size)
  have hB9 := hB8.below hb9 hB8.lt
  have hH9 := HH7.out.below hb79 HH7.out.lt
  have hw9 := hw7.trans (hb79.mono hw7.size)
  have hD9 : Bytes w9 (.slice (some ⟨w7.heap.size, 0, none⟩) 32 32) D := by
    have := IsSl.of_range (w := w9) (b := w7.heap.size) (off := 0) (n := 32) (cap := 32) (size := 1) (cs := bytesV D) (by rw [bytesV_len, HDL.out]) (bytesV_one _) (Nat.le_refl _) (fun i u hi => by rw [Nat.zero_add]; exact hB9.cell hi)
    unfold Bytes
    rw [HDL.out]
    exact this
  obtain ⟨x9, c9, e9, _⟩ := hv9.form
  rw [padN_len] at e9
  subst e9
  have HV9 := Lib.hid hv9
  have HD9 := Lib.hid hD9
  have HH9 := Lib.hid hH9
  have HG9 := Lib.hid (HG.out.below hw9)
  clear hb8 hB8 hb9 hb79 hB9 hH9 hD9 hv9 HH7 HG7 HK7 hw7
  go_wp2_with fail
  refine (sum_at (n := 2) w9 [_, _] [padN kk 92, D] _ (.cons HV9.out (.cons HD9.out .nil)) rfl (padN kk 92 ++ D) (by simp [cat]) (by rw [List.length_append, padN_len, HDL.out]; decide) (by decide) HG9.out).mono ?_
  rintro e w10 ⟨rfl, hb10⟩
  have hH10 := HH9.out.below hb10 HH9.out.lt
  have hw10 := hw9.trans (hb10.mono hw9.size)
  have HH10 := Lib.hid hH10
  clear hb10 hH10 hw9 HV9 HD9 HH9 HG9
  go_wp2_with (first
    | (refine wpList_store_row rfl 31 (.tmp 4) (.tmp 24) rfl w.heap.size (bytesV (sumN (padN kk 92 ++ D))).toArray rfl rfl 31 z32.toArray (by exact HH10.out) (by exact hash_info _ (sumN_len _)) (by simp [z32, bytesV, sumN_len]) (hash_one _) ?_)
    | fail)
  exact bodyPost_ret (v := .agg (bytesV (sumN (padN kk 92 ++ D))).toArray) (results_cell_row rfl _ _ w.heap.size 31 _ (0, 0) _ rfl (HH10.out.setRow _) Tryd.underlying31 rfl (hash_info _ (sumN_len _))) rfl ⟨by rw [HDE.out], below_setRow hw10 (Nat.le_refl _) _⟩

theorem tag_any (vk vp : Value) (k : List UInt8) (ls : List (List UInt8)) (vs : List Value) (w : World) (hk : Bytes w vk k) (hp : Parts w vp ls vs) (hk2 : k.length ≤ 70368744177664) (hsz : (cat ls).length ≤ 35184372088832) (hln : ls.length ≤ 1000000000000) (hg : Glob w) :
    Calls Tryd.prog 37 #[vk, vp] w fun e w' => e = .returned (.agg (bytesV (tagN k (cat ls))).toArray) ∧ Below w.heap.size w w' := by
  by_cases h : 64 < k.length
  · have e : keyN k = sumN k := by unfold keyN; rw [if_pos h]
    unfold tagN
    rw [e]
    exact tag_long vk vp k _ ls vs w hk hp rfl h hk2 hsz hln hg
  · have e : keyN k = k := by unfold keyN; rw [if_neg h]
    unfold tagN
    rw [e]
    exact tag_short vk vp k ls vs w hk hp (by omega) hsz hln hg
end Go.Proofs.YtldokkbfahobgaaDoor

/-! TagAt: The tag of parts that the caller has just laid in a new block. Conditions: the key and each part can be read; the package's tables read as they are laid. -/
namespace Go.Proofs.YtldokkbfahobgaaDoor
open Go.RowKit

theorem tag_at (w : World) (vk : Value) (k : List UInt8) (vs : List Value) (ls : List (List UInt8)) (e : TypeId) {n : Nat} (hk : Bytes w vk k) (h : Texts w vs ls) (hn : ls.length = n) (t : List UInt8) (ht : cat ls = t) (hk2 : k.length ≤ 70368744177664) (hsz : t.length ≤ 35184372088832) (hln : n ≤ 1000000000000) (hg : Glob w) :
    Calls Tryd.prog 37 #[vk, .slice (some ⟨w.heap.size, 0, none⟩) n n] (w.alloc (.cells vs.toArray e)) fun e w' => e = .returned (.agg (bytesV (tagN k t)).toArray) ∧ Below w.heap.size w w' := by
  subst ht
  have ha : Below w.heap.size w (w.alloc (.cells vs.toArray e)) := (Below.refl _ _).alloc (Nat.le_refl _) _
  refine (tag_any _ _ k ls vs _ (hk.below ha) (h.parts e hn) hk2 hsz (by omega) (hg.below ha)).mono ?_
  rintro e w' ⟨rfl, hb⟩
  exact ⟨rfl, Below.trans ha (hb.mono (by simp))⟩
theorem tagN_long (k t : List UInt8) (h : 64 < k.length) : tagN (sumN k) t = tagN k t := by
  unfold tagN
  have h1 : keyN (sumN k) = sumN k := by unfold keyN; rw [if_neg (by rw [sumN_len]; decide)]
  have h2 : keyN k = sumN k := by unfold keyN; rw [if_pos h]
  rw [h1, h2]
theorem tagN_filled (k t : List UInt8) (h : k.length ≤ 64) : tagN (k ++ List.replicate (64 - k.length) 0) t = tagN k t := by
  unfold tagN
  have hl : (k ++ List.replicate (64 - k.length) (0 : UInt8)).length = 64 := by simp; omega
  have h1 : keyN (k ++ List.replicate (64 - k.length) 0) = k ++ List.replicate (64 - k.length) 0 := by unfold keyN; rw [if_neg (by rw [hl]; decide)]
  have h2 : keyN k = k := by unfold keyN; rw [if_neg (by omega)]
  have hp : ∀ b, padN (k ++ List.replicate (64 - k.length) 0) b = padN k b := fun b => by
    unfold padN
    refine List.map_congr_left fun i hi => ?_
    have hi' := List.mem_range.1 hi
    congr 1
    unfold keyAt
    by_cases hk : i < k.length
    · rw [List.getElem?_append_left hk]
    · rw [List.getElem?_append_right (by omega), List.getElem?_replicate, if_pos (by omega), List.getElem?_eq_none (by omega)]
      rfl
  rw [h1, h2, hp, hp]
end Go.Proofs.YtldokkbfahobgaaDoor
