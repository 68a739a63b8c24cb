/- The walk of mac.Tag. Conditions: the key and the parts can be read; together at most 2^45 bytes; the package's tables read as they are laid. -/
import Derived.Test.YtjjoiefngoghpaaDoorMacA
import Derived.Test.YtjjoiefngoghpaaDoorForced
namespace Go.Proofs.YtjjoiefngoghpaaDoor
open Go.RowKit

def keyN (k : List UInt8) : List UInt8 := if 64 < k.length then sumN k else k
/-- The tag of a text. -/
def tagN (k t : List UInt8) : List UInt8 := sumN (padN (keyN k) 92 ++ sumN (padN (keyN k) 54 ++ t))
theorem tagN_len (k t : List UInt8) : (tagN k t).length = 32 := sumN_len _
theorem cat_cons (l : List UInt8) (ls : List (List UInt8)) : cat (l :: ls) = l ++ cat ls := rfl
theorem info_bytes : (Tryd.prog.info? 24).map (fun i => (i.zero, i.size, i.bytes)) = some (some (.slice none 0 0), 1, 24) := by kernel_rfl
theorem hash_one (l : List UInt8) : (bytesV l).toArray.all (·.oneCell') = true := by simp [bytesV, Value.oneCell']
theorem parts_owned {w : World} {base : Nat} {e : TypeId} {sv v : Value} {l : List UInt8} {ls : List (List UInt8)} {vs : List Value} {u : Value} (hown : w.ownsRow base e 1 sv (1 + ls.length) ([v] ++ vs)) (hv : Bytes w v l) (hp : Parts w u ls vs) : Parts w sv (l :: ls) (v :: vs) := by
  refine ⟨by rw [List.length_cons, List.length_cons, hp.len], ?_, ?_⟩
  · rw [List.length_cons, Nat.add_comm]
    refine ownsRow_isSl hown ?_
    intro x hx
    cases hx with
    | head => exact hv.one
    | tail _ hx => exact hp.sl.2.1 x hx
  · intro i x l' hx hl
    cases i with
    | zero =>
      cases hx
      cases hl
      exact hv
    | succ i => exact hp.each i x l' hx hl

set_option maxRecDepth 100000 in
set_option maxHeartbeats 1000000 in
theorem tag_short (vk vp : Value) (kk : List UInt8) (ls : List (List UInt8)) (vs : List Value) (w : World) (hk : Bytes w vk kk) (hp : Parts w vp ls vs) (hkl : kk.length ≤ 64) (hsz : (cat ls).length ≤ 35184372088832) (hln : ls.length ≤ 1000000000000) (hg : Glob w) :
    Calls Tryd.prog 27 #[vk, vp] w fun e w' => e = .returned (.agg (bytesV (sumN (padN kk 92 ++ sumN (padN kk 54 ++ cat ls)))).toArray) ∧ Below w.heap.size w w' := by
  obtain ⟨i1, hi1, hy0, hy1, hy2⟩ := info_parts info_bytes
  obtain ⟨xk, ck, rfl, _⟩ := hk.form
  obtain ⟨xp, cp, rfl, _⟩ := hp.sl.form
  have HG := Lib.hid hg
  have HK4 := Lib.hid (hk.below ((Below.refl w.heap.size w).alloc (Nat.le_refl _) (.cells z32.toArray 31)))
  have HP4 := Lib.hid (hp.below ((Below.refl w.heap.size w).alloc (Nat.le_refl _) (.cells z32.toArray 31)))
  have HH4 := Lib.hid (Blk.newL w z32 31)
  have hw4 := (Below.refl w.heap.size w).alloc (Nat.le_refl _) (.cells z32.toArray 31)
  clear hg hk hp
  go_enter Tryd.func27, Tryd.ntmps27
  go_wp2_with fail
  refine (pad_any _ kk 54 _ HK4.out).mono ?_
  rintro e w5 ⟨⟨v5, rfl, hv5⟩, hb5⟩
  obtain ⟨x5, c5, e5, _⟩ := hv5.form
  rw [padN_len] at e5
  subst e5
  have hw5 := hw4.trans (hb5.mono hw4.size)
  have hH5 := HH4.out.below hb5 HH4.out.lt
  have hs5 := hw5.size
  have hs5' : w.heap.size < w5.heap.size := hH5.lt
  have HK5 := Lib.hid (HK4.out.below hb5)
  have HP5 := Lib.hid (HP4.out.below hb5)
  have HV5 := Lib.hid hv5
  have HH5 := Lib.hid hH5
  have HG5 := Lib.hid (HG.out.below hw5)
  clear hb5 hw4 hH5 hv5 HK4 HP4 HH4
  go_wp2_with (first
    | (at_builtin; refine wpList_app rfl (.tmp 16) (.tmp 17) 41 rfl w.heap.size 24 i1 (.slice none 0 0) 1 24 Tryd.underlying41 hi1 hy0 hy1 hy2 rfl (by decide) (.slice (some ⟨w5.heap.size, 0, none⟩) 1 1) 1 [.slice x5 64 c5] rfl
        (by exact World.ownsRow_lit w5 #[.slice x5 64 c5] 1 hs5 (by decide) rfl) _ ls.length vs rfl (by exact HP5.out.sl.below ((Below.refl _ _).alloc (Nat.le_refl _) _)) (by unfold maxLen; omega) (by omega) (by simp; omega) ?_; intro a6 cap6 w6 hown6 hgrow6 _;
       have hb6 : Below w5.heap.size w5 w6 := ((Below.refl w5.heap.size w5).alloc (Nat.le_refl _) _).grown hgrow6 (by simp) (fun k hk => by cases hk; exact Nat.le_refl _);
       have HO6 := Lib.hid hown6; clear hown6 hgrow6)
    | fail)
  have hw6 := hw5.trans (hb6.mono hs5)
  have hP6 : Parts w6 (.slice a6 (1 + ls.length) cap6) (padN kk 54 :: ls) (.slice x5 64 c5 :: vs) := parts_owned HO6.out (HV5.out.below hb6) (HP5.out.below hb6)
  refine (sum_any _ (padN kk 54 :: ls) (.slice x5 64 c5 :: vs) w6 hP6 (by rw [cat_cons, List.length_append, padN_len]; omega) (by simp; omega) (HG5.out.below (hb6))).mono ?_
  rintro e w7 ⟨rfl, hb7⟩
  rw [sum_nat, cat_cons]
  have hs56 := hb6.size
  have hw7 := hw6.trans (hb7.mono hw6.size)
  have HK7 := Lib.hid ((HK5.out.below hb6).below hb7)
  have hH7 := (HH5.out.below hb6 HH5.out.lt).below hb7 (by omega)
  have HG7 := Lib.hid (HG.out.below hw7)
  have HH7 := Lib.hid hH7
  have hs7 : w.heap.size < w7.heap.size := hH7.lt
  clear hb6 hb7 hP6 hH7 HO6 hw6 HK5 HP5 HV5 HH5 HG5 hs56 hs5' hs5 hw5
  obtain ⟨D, hD⟩ : ∃ D, D = sumN (padN kk 54 ++ cat ls) := ⟨_, rfl⟩
  rw [← hD]
  have hDl : D.length = 32 := by rw [hD]; exact sumN_len _
  have HDE := Lib.hid hD
  have HDL := Lib.hid hDl
  clear hD hDl
  go_wp2_with (first
    | (refine wpList_store_row rfl 31 (.tmp 6) (.tmp 19) rfl w7.heap.size (bytesV D).toArray rfl rfl 31 z32.toArray (by exact Blk.newL w7 z32 _) (by exact hash_info D HDL.out) (by simp [z32, bytesV, HDL.out]) (hash_one _) ?_)
    | fail)
  refine wp_region_forced [0, 2] [1, 3, 4, 5] (by kernel_rfl) (by kernel_rfl) (fun _ _ _ d _ h => by cases d <;> exact h) _ _ rfl rfl ?_
  simp only [List.map_cons, List.map_nil, List.getD_cons_succ, List.getD_cons_zero]
  refine wpPure_move _ rfl rfl ?_
  refine wpPure_run (.slice (some ⟨w7.heap.size, 0, none⟩) 32 32) rfl (fun w' => ?_) ?_
  · simp [go_sem, execOp]
  refine wpPure_nil ?_
  intro nq
  go_wp2_with fail
  have hb8 : Below w7.heap.size w7 (((w7.alloc (.cells z32.toArray 31)).setRow w7.heap.size (bytesV D).toArray).drewN nq) := below_drewN (below_setRow ((Below.refl _ _).alloc (Nat.le_refl _) _) (Nat.le_refl _) _) nq
  have hB8 : Blk (((w7.alloc (.cells z32.toArray 31)).setRow w7.heap.size (bytesV D).toArray).drewN nq) w7.heap.size (bytesV D) 31 := ((Blk.newL w7 z32 _).setRow _).drewN nq
  refine (pad_any _ kk 92 _ (HK7.out.below hb8)).mono ?_
  rintro e w9 ⟨⟨v9, rfl, hv9⟩, hb9⟩
  have hb79 := hb8.trans (hb9.mono hb8.size)
  have hB9 := hB8.below hb9 hB8.lt
  have hH9 := HH7.out.below hb79 HH7.out.lt
  have hw9 := hw7.trans (hb79.mono hw7.size)
  have hD9 : Bytes w9 (.slice (some ⟨w7.heap.size, 0, none⟩) 32 32) D := by
    have := IsSl.of_range (w := w9) (b := w7.heap.size) (off := 0) (n := 32) (cap := 32) (size := 1) (cs := bytesV D) (by rw [bytesV_len, HDL.out]) (bytesV_one _) (Nat.le_refl _) (fun i u hi => by rw [Nat.zero_add]; exact hB9.cell hi)
    unfold Bytes
    rw [HDL.out]
    exact this
  obtain ⟨x9, c9, e9, _⟩ := hv9.form
  rw [padN_len] at e9
  subst e9
  have HV9 := Lib.hid hv9
  have HD9 := Lib.hid hD9
  have HH9 := Lib.hid hH9
  have HG9 := Lib.hid (HG.out.below hw9)
  clear hb8 hB8 hb9 hb79 hB9 hH9 hD9 hv9 HH7 HG7 HK7 hw7
  go_wp2_with fail
  refine (sum_at (n := 2) w9 [_, _] [padN kk 92, D] _ (.cons HV9.out (.cons HD9.out .nil)) rfl (padN kk 92 ++ D) (by simp [cat]) (by rw [List.length_append, padN_len, HDL.out]; decide) (by decide) HG9.out).mono ?_
  rintro e w10 ⟨rfl, hb10⟩
  have hH10 := HH9.out.below hb10 HH9.out.lt
  have hw10 := hw9.trans (hb10.mono hw9.size)
  have HH10 := Lib.hid hH10
  clear hb10 hH10 hw9 HV9 HD9 HH9 HG9
  go_wp2_with (first
    | (refine wpList_store_row rfl 31 (.tmp 4) (.tmp 24) rfl w.heap.size (bytesV (sumN (padN kk 92 ++ D))).toArray rfl rfl 31 z32.toArray (by exact HH10.out) (by exact hash_info _ (sumN_len _)) (by simp [z32, bytesV, sumN_len]) (hash_one _) ?_)
    | fail)
  exact bodyPost_ret (v := .agg (bytesV (sumN (padN kk 92 ++ D))).toArray) (results_cell_row rfl _ _ w.heap.size 31 _ (0, 0) _ rfl (HH10.out.setRow _) Tryd.underlying31 rfl (hash_info _ (sumN_len _))) rfl ⟨by rw [HDE.out], below_setRow hw10 (Nat.le_refl _) _⟩

set_option maxRecDepth 100000 in
set_option maxHeartbeats 1000000 in
theorem tag_long (vk vp : Value) (k kk : List UInt8) (ls : List (List UInt8)) (vs : List Value) (w : World) (hk : Bytes w vk k) (hp : Parts w vp ls vs) (hkk : kk = sumN k) (hkl : 64 < k.length) (hk2 : k.length ≤ 70368744177664) (hsz : (cat ls).length ≤ 35184372088832) (hln : ls.length ≤ 1000000000000) (hg : Glob w) :
    Calls Tryd.prog 27 #[vk, vp] w fun e w' => e = .returned (.agg (bytesV (sumN (padN kk 92 ++ sumN (padN kk 54 ++ cat ls)))).toArray) ∧ Below w.heap.size w w' := by
  obtain ⟨i1, hi1, hy0, hy1, hy2⟩ := info_parts info_bytes
  obtain ⟨xk, ck, rfl, _⟩ := hk.form
  obtain ⟨xp, cp, rfl, _⟩ := hp.sl.form
  have hb1 := (Below.refl w.heap.size w).alloc (Nat.le_refl _) (.cells z32.toArray 31)
  have hk1 := hk.below hb1
  have HG := Lib.hid hg
  have HG1 := Lib.hid (hg.below hb1)
  have HK1 := Lib.hid hk1
  have HP := Lib.hid hp
  have hkl2 : kk.length = 32 := by rw [hkk]; exact sumN_len _
  have HKL := Lib.hid hkl2
  have HKK := Lib.hid hkk
  have hc1 : cat [k] = k := by simp [cat]
  have HC1 := Lib.hid hc1
  clear hg hk hp hk1 hkk hkl2 hc1
  go_enter Tryd.func27, Tryd.ntmps27
  go_wp2_with fail
  refine (sum_atB (n := 1) (w.alloc (.cells z32.toArray 31)) [_] [k] _ (by simp) (.cons HK1.out .nil) rfl k HC1.out hk2 (by decide) HG1.out).mono ?_
  rintro e w2 ⟨rfl, hb2⟩
  rw [← HKK.out]
  have hw2 := hb1.trans (hb2.mono hb1.size)
  have hH2 := (Blk.newL w z32 31).below hb2 (by simp)
  have HP2 := Lib.hid (HP.out.below hw2)
  have HH2 := Lib.hid hH2
  have hs2 : w.heap.size < w2.heap.size := hH2.lt
  clear hb1 hb2 hH2 HK1 HP HG1
  have hw4 : Below w.heap.size w ((w2.alloc (.cells z32.toArray 31)).setRow w2.heap.size (bytesV kk).toArray) := below_setRow (hw2.alloc (by omega) _) (by omega) _
  have hb4 : Below w2.heap.size w2 ((w2.alloc (.cells z32.toArray 31)).setRow w2.heap.size (bytesV kk).toArray) := below_setRow ((Below.refl _ _).alloc (Nat.le_refl _) _) (Nat.le_refl _) _
  have HP4 := Lib.hid (HP2.out.below hb4)
  have HH4 := Lib.hid (HH2.out.below hb4 HH2.out.lt)
  have hB4 : Blk ((w2.alloc (.cells z32.toArray 31)).setRow w2.heap.size (bytesV kk).toArray) w2.heap.size (bytesV kk) 31 := (Blk.newL w2 z32 _).setRow _
  have hk4 : Bytes ((w2.alloc (.cells z32.toArray 31)).setRow w2.heap.size (bytesV kk).toArray) (.slice (some ⟨w2.heap.size, 0, none⟩) 32 32) kk := by
    have := IsSl.of_range (b := w2.heap.size) (off := 0) (n := 32) (cap := 32) (size := 1) (cs := bytesV kk) (by rw [bytesV_len, HKL.out]) (bytesV_one _) (Nat.le_refl _) (fun i u hi => by rw [Nat.zero_add]; exact hB4.cell hi)
    unfold Bytes
    rw [HKL.out]
    exact this
  have HK4 := Lib.hid hk4
  clear hb4 hB4 hk4 hw2 HP2 HH2
  go_wp2_with (first
    | (refine wpList_store_row rfl 31 (.tmp 5) (.tmp 12) rfl w2.heap.size (bytesV kk).toArray rfl rfl 31 z32.toArray (by exact Blk.newL w2 z32 _) (by exact hash_info kk HKL.out) (by simp [z32, bytesV, HKL.out]) (hash_one _) ?_)
    | fail)
  refine (pad_any _ kk 54 _ HK4.out).mono ?_
  rintro e w5 ⟨⟨v5, rfl, hv5⟩, hb5⟩
  obtain ⟨x5, c5, e5, _⟩ := hv5.form
  rw [padN_len] at e5
  subst e5
  have hw5 := hw4.trans (hb5.mono hw4.size)
  have hH5 := HH4.out.below hb5 HH4.out.lt
  have hs5 := hw5.size
  have hs5' : w.heap.size < w5.heap.size := hH5.lt
  have HK5 := Lib.hid (HK4.out.below hb5)
  have HP5 := Lib.hid (HP4.out.below hb5)
  have HV5 := Lib.hid hv5
  have HH5 := Lib.hid hH5
  have HG5 := Lib.hid (HG.out.below hw5)
  clear hb5 hw4 hH5 hv5 HK4 HP4 HH4
  go_wp2_with (first
    | (at_builtin; refine wpList_app rfl (.tmp 16) (.tmp 17) 41 rfl w.heap.size 24 i1 (.slice none 0 0) 1 24 Tryd.underlying41 hi1 hy0 hy1 hy2 rfl (by decide) (.slice (some ⟨w5.heap.size, 0, none⟩) 1 1) 1 [.slice x5 64 c5] rfl
        (by exact World.ownsRow_lit w5 #[.slice x5 64 c5] 1 hs5 (by decide) rfl) _ ls.length vs rfl (by exact HP5.out.sl.below ((Below.refl _ _).alloc (Nat.le_refl _) _)) (by unfold maxLen; omega) (by omega) (by simp; omega) ?_; intro a6 cap6 w6 hown6 hgrow6 _;
       have hb6 : Below w5.heap.size w5 w6 := ((Below.refl w5.heap.size w5).alloc (Nat.le_refl _) _).grown hgrow6 (by simp) (fun k hk => by cases hk; exact Nat.le_refl _);
       have HO6 := Lib.hid hown6; clear hown6 hgrow6)
    | fail)
  have hw6 := hw5.trans (hb6.mono hs5)
  have hP6 : Parts w6 (.slice a6 (1 + ls.length) cap6) (padN kk 54 :: ls) (.slice x5 64 c5 :: vs) := parts_owned HO6.out (HV5.out.below hb6) (HP5.out.below hb6)
  refine (sum_any _ (padN kk 54 :: ls) (.slice x5 64 c5 :: vs) w6 hP6 (by rw [cat_cons, List.length_append, padN_len]; omega) (by simp; omega) (HG5.out.below (hb6))).mono ?_
  rintro e w7 ⟨rfl, hb7⟩
  rw [sum_nat, cat_cons]
  have hs56 := hb6.size
  have hw7 := hw6.trans (hb7.mono hw6.size)
  have HK7 := Lib.hid ((HK5.out.below hb6).below hb7)
  have hH7 := (HH5.out.below hb6 HH5.out.lt).below hb7 (by omega)
  have HG7 := Lib.hid (HG.out.below hw7)
  have HH7 := Lib.hid hH7
  have hs7 : w.heap.size < w7.heap.size := hH7.lt
  clear hb6 hb7 hP6 hH7 HO6 hw6 HK5 HP5 HV5 HH5 HG5 hs56 hs5' hs5 hw5
  obtain ⟨D, hD⟩ : ∃ D, D = sumN (padN kk 54 ++ cat ls) := ⟨_, rfl⟩
  rw [← hD]
  have hDl : D.length = 32 := by rw [hD]; exact sumN_len _
  have HDE := Lib.hid hD
  have HDL := Lib.hid hDl
  clear hD hDl
  go_wp2_with (first
    | (refine wpList_store_row rfl 31 (.tmp 6) (.tmp 19) rfl w7.heap.size (bytesV D).toArray rfl rfl 31 z32.toArray (by exact Blk.newL w7 z32 _) (by exact hash_info D HDL.out) (by simp [z32, bytesV, HDL.out]) (hash_one _) ?_)
    | fail)
  refine wp_region_forced [0, 2] [1, 3, 4, 5] (by kernel_rfl) (by kernel_rfl) (fun _ _ _ d _ h => by cases d <;> exact h) _ _ rfl rfl ?_
  simp only [List.map_cons, List.map_nil, List.getD_cons_succ, List.getD_cons_zero]
  refine wpPure_move _ rfl rfl ?_
  refine wpPure_run (.slice (some ⟨w7.heap.size, 0, none⟩) 32 32) rfl (fun w' => ?_) ?_
  · simp [go_sem, execOp]
  refine wpPure_nil ?_
  intro nq
  go_wp2_with fail
  have hb8 : Below w7.heap.size w7 (((w7.alloc (.cells z32.toArray 31)).setRow w7.heap.size (bytesV D).toArray).drewN nq) := below_drewN (below_setRow ((Below.refl _ _).alloc (Nat.le_refl _) _) (Nat.le_refl _) _) nq
  have hB8 : Blk (((w7.alloc (.cells z32.toArray 31)).setRow w7.heap.size (bytesV D).toArray).drewN nq) w7.heap.size (bytesV D) 31 := ((Blk.newL w7 z32 _).setRow _).drewN nq
  refine (pad_any _ kk 92 _ (HK7.out.below hb8)).mono ?_
  rintro e w9 ⟨⟨v9, rfl, hv9⟩, hb9⟩
  have hb79 := hb8.trans (hb9.mono hb8.size)
  have hB9 := hB8.below hb9 hB8.lt
  have hH9 := HH7.out.below hb79 HH7.out.lt
  have hw9 := hw7.trans (hb79.mono hw7.size)
  have hD9 : Bytes w9 (.slice (some ⟨w7.heap.size, 0, none⟩) 32 32) D := by
    have := IsSl.of_range (w := w9) (b := w7.heap.size) (off := 0) (n := 32) (cap := 32) (size := 1) (cs := bytesV D) (by rw [bytesV_len, HDL.out]) (bytesV_one _) (Nat.le_refl _) (fun i u hi => by rw [Nat.zero_add]; exact hB9.cell hi)
    unfold Bytes
    rw [HDL.out]
    exact this
  obtain ⟨x9, c9, e9, _⟩ := hv9.form
  rw [padN_len] at e9
  subst e9
  have HV9 := Lib.hid hv9
  have HD9 := Lib.hid hD9
  have HH9 := Lib.hid hH9
  have HG9 := Lib.hid (HG.out.below hw9)
  clear hb8 hB8 hb9 hb79 hB9 hH9 hD9 hv9 HH7 HG7 HK7 hw7
  go_wp2_with fail
  refine (sum_at (n := 2) w9 [_, _] [padN kk 92, D] _ (.cons HV9.out (.cons HD9.out .nil)) rfl (padN kk 92 ++ D) (by simp [cat]) (by rw [List.length_append, padN_len, HDL.out]; decide) (by decide) HG9.out).mono ?_
  rintro e w10 ⟨rfl, hb10⟩
  have hH10 := HH9.out.below hb10 HH9.out.lt
  have hw10 := hw9.trans (hb10.mono hw9.size)
  have HH10 := Lib.hid hH10
  clear hb10 hH10 hw9 HV9 HD9 HH9 HG9
  go_wp2_with (first
    | (refine wpList_store_row rfl 31 (.tmp 4) (.tmp 24) rfl w.heap.size (bytesV (sumN (padN kk 92 ++ D))).toArray rfl rfl 31 z32.toArray (by exact HH10.out) (by exact hash_info _ (sumN_len _)) (by simp [z32, bytesV, sumN_len]) (hash_one _) ?_)
    | fail)
  exact bodyPost_ret (v := .agg (bytesV (sumN (padN kk 92 ++ D))).toArray) (results_cell_row rfl _ _ w.heap.size 31 _ (0, 0) _ rfl (HH10.out.setRow _) Tryd.underlying31 rfl (hash_info _ (sumN_len _))) rfl ⟨by rw [HDE.out], below_setRow hw10 (Nat.le_refl _) _⟩

theorem tag_any (vk vp : Value) (k : List UInt8) (ls : List (List UInt8)) (vs : List Value) (w : World) (hk : Bytes w vk k) (hp : Parts w vp ls vs) (hk2 : k.length ≤ 70368744177664) (hsz : (cat ls).length ≤ 35184372088832) (hln : ls.length ≤ 1000000000000) (hg : Glob w) :
    Calls Tryd.prog 27 #[vk, vp] w fun e w' => e = .returned (.agg (bytesV (tagN k (cat ls))).toArray) ∧ Below w.heap.size w w' := by
  by_cases h : 64 < k.length
  · have e : keyN k = sumN k := by unfold keyN; rw [if_pos h]
    unfold tagN
    rw [e]
    exact tag_long vk vp k _ ls vs w hk hp rfl h hk2 hsz hln hg
  · have e : keyN k = k := by unfold keyN; rw [if_neg h]
    unfold tagN
    rw [e]
    exact tag_short vk vp k ls vs w hk hp (by omega) hsz hln hg
end Go.Proofs.YtjjoiefngoghpaaDoor
