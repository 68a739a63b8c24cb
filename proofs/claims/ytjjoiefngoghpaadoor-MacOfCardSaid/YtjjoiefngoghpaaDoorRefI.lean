/- The walks of the reference's Tag and Key. Conditions: key and text can be read; the package's tables read as they are laid. -/
import Derived.Test.YtjjoiefngoghpaaDoorRefH
import Derived.Test.YtjjoiefngoghpaaDoorMacB
import Derived.Test.YtjjoiefngoghpaaDoorForced
namespace Go.Proofs.YtjjoiefngoghpaaDoor
open Go.RowKit

set_option maxRecDepth 100000 in
set_option maxHeartbeats 1000000 in
theorem reftag_short (vk vt : Value) (kk t : List UInt8) (w : World) (hk : Bytes w vk kk) (ht : Bytes w vt t) (hkl : kk.length ≤ 64) (hsz : t.length ≤ 35184372088832) (hg : Glob w) :
    Calls Tryd.prog 28 #[vk, vt] w fun e w' => e = .returned (.agg (bytesV (sumN (padN kk 92 ++ sumN (padN kk 54 ++ t)))).toArray) ∧ Below w.heap.size w w' := by
  obtain ⟨i0, hi, hz0, hz1, hz2⟩ := info_parts info_u8
  obtain ⟨xk, ck, rfl, _⟩ := hk.form
  obtain ⟨xt, ct, rfl, _⟩ := ht.form
  have HG := Lib.hid hg
  have HK4 := Lib.hid (hk.below ((Below.refl w.heap.size w).alloc (Nat.le_refl _) (.cells z32.toArray 31)))
  have HT4 := Lib.hid (ht.below ((Below.refl w.heap.size w).alloc (Nat.le_refl _) (.cells z32.toArray 31)))
  have HH4 := Lib.hid (Blk.newL w z32 31)
  have hw4 := (Below.refl w.heap.size w).alloc (Nat.le_refl _) (.cells z32.toArray 31)
  clear hg hk ht
  go_enter Tryd.func28, Tryd.ntmps28
  go_wp2_with fail
  refine (refwith_any _ kk 54 _ HK4.out).mono ?_
  rintro e w5 ⟨⟨a5, c5, rfl, hown5⟩, hb5⟩
  have HO5 := Lib.hid hown5
  have HT5 := Lib.hid (HT4.out.below hb5)
  clear hown5 HT4
  go_wp2_with (first
    | (at_builtin; refine wpList_app rfl (.tmp 14) (.tmp 15) 24 rfl _ 5 i0 (.int .u8 0) 1 1 Tryd.underlying24 hi hz0 hz1 hz2 rfl (by decide) (.slice a5 64 c5) _ _ rfl (by exact HO5.out) _ t.length (bytesV t) rfl (by exact HT5.out) (by unfold maxLen; omega) (by omega) (by exact hb5.size) ?_; intro a6 c6 w6 hown6 hgrow6 _;
       have hb6 := hb5.grown hgrow6 hb5.size (fun g hg => (HO5.out.lt g hg).1); have HO6 := Lib.hid hown6; clear hown6 hgrow6 hb5 HO5 HT5)
    | fail)
  have hO6 := HO6.out
  rw [← bytesV_app] at hO6
  have hV6 : Bytes w6 (.slice a6 (64 + t.length) c6) (padN kk 54 ++ t) := by
    have := ownsRow_isSl hO6 (bytesV_one _)
    unfold Bytes
    rw [List.length_append, padN_len]
    exact this
  have hw6 := hw4.trans (hb6.mono hw4.size)
  have HV6 := Lib.hid hV6
  have HK6 := Lib.hid (HK4.out.below hb6)
  have HH6 := Lib.hid (HH4.out.below hb6 HH4.out.lt)
  clear hO6 hV6 HO6 hb6 hw4 HK4 HH4
  refine (refsum_any _ (padN kk 54 ++ t) w6 HV6.out (by rw [List.length_append, padN_len]; omega) (HG.out.below hw6)).mono ?_
  rintro e w7 ⟨rfl, hb7⟩
  have hw7 := hw6.trans (hb7.mono hw6.size)
  have HK7 := Lib.hid (HK6.out.below hb7)
  have hH7 := HH6.out.below hb7 HH6.out.lt
  have HH7 := Lib.hid hH7
  have hs7 : w.heap.size < w7.heap.size := hH7.lt
  clear hb7 hH7 hw6 HK6 HV6 HH6
  obtain ⟨D, hD⟩ : ∃ D, D = sumN (padN kk 54 ++ t) := ⟨_, rfl⟩
  rw [← hD]
  have HDE := Lib.hid hD
  have HDL := Lib.hid (show D.length = 32 by rw [hD]; exact sumN_len _)
  clear hD
  go_wp2_with (first
    | (refine wpList_store_row rfl 31 (.tmp 6) (.tmp 17) rfl w7.heap.size (bytesV D).toArray rfl rfl 31 z32.toArray (by exact Blk.newL w7 z32 _) (by exact hash_info D HDL.out) (by simp [z32, bytesV, HDL.out]) (hash_one _) ?_)
    | fail)
  refine wp_region_forced [0, 2] [1, 3, 4, 5] (by kernel_rfl) (by kernel_rfl) (fun _ _ _ d _ h => by cases d <;> exact h) _ _ rfl rfl ?_
  simp only [List.map_cons, List.map_nil, List.getD_cons_succ, List.getD_cons_zero]
  refine wpPure_move _ rfl rfl ?_
  refine wpPure_run (.slice (some ⟨w7.heap.size, 0, none⟩) 32 32) rfl (fun w' => ?_) ?_
  · simp [go_sem, execOp]
  refine wpPure_nil ?_
  intro nq
  go_wp2_with fail
  have hb8 : Below w7.heap.size w7 (((w7.alloc (.cells z32.toArray 31)).setRow w7.heap.size (bytesV D).toArray).drewN nq) := below_drewN (below_setRow ((Below.refl _ _).alloc (Nat.le_refl _) _) (Nat.le_refl _) _) nq
  have hB8 : Blk (((w7.alloc (.cells z32.toArray 31)).setRow w7.heap.size (bytesV D).toArray).drewN nq) w7.heap.size (bytesV D) 31 := ((Blk.newL w7 z32 _).setRow _).drewN nq
  have HB8 := Lib.hid hB8
  refine (refwith_any _ kk 92 _ (HK7.out.below hb8)).mono ?_
  rintro e w9 ⟨⟨a9, c9, rfl, hown9⟩, hb9⟩
  have hB9 := hB8.below hb9 hB8.lt
  have hD9 : Bytes w9 (.slice (some ⟨w7.heap.size, 0, none⟩) 32 32) D := by
    have := IsSl.of_range (w := w9) (b := w7.heap.size) (off := 0) (n := 32) (cap := 32) (size := 1) (cs := bytesV D) (by rw [bytesV_len, HDL.out]) (bytesV_one _) (Nat.le_refl _) (fun i u hi => by rw [Nat.zero_add]; exact hB9.cell hi)
    unfold Bytes
    rw [HDL.out]
    exact this
  have hD9' : IsSl w9 (.slice (some ⟨w7.heap.size, 0, none⟩) 32 32) 1 32 (bytesV D) := by
    have := hD9
    unfold Bytes at this
    rw [HDL.out] at this
    exact this
  have HD9 := Lib.hid hD9'
  have HO9 := Lib.hid hown9
  clear hB8 hB9 hD9 hD9' hown9 HK7 HB8
  go_wp2_with (first
    | (at_builtin; refine wpList_app rfl (.tmp 19) (.tmp 20) 24 rfl _ 5 i0 (.int .u8 0) 1 1 Tryd.underlying24 hi hz0 hz1 hz2 rfl (by decide) (.slice a9 64 c9) _ _ rfl (by exact HO9.out) _ 32 (bytesV D) rfl (by exact HD9.out) (by unfold maxLen; omega) (by omega) (by exact hb9.size) ?_; intro a10 c10 w10 hown10 hgrow10 _;
       have hb10 := hb9.grown hgrow10 hb9.size (fun g hg => (HO9.out.lt g hg).1); have HO10 := Lib.hid hown10; clear hown10 hgrow10 hb9 HO9 HD9)
    | fail)
  have hO10 := HO10.out
  rw [← bytesV_app] at hO10
  have hV10 : Bytes w10 (.slice a10 (64 + 32) c10) (padN kk 92 ++ D) := by
    have := ownsRow_isSl hO10 (bytesV_one _)
    unfold Bytes
    rw [List.length_append, padN_len, HDL.out]
    exact this
  have hb710 := hb8.trans (hb10.mono hb8.size)
  have hw10 := hw7.trans (hb710.mono hw7.size)
  have hH10 := HH7.out.below hb710 hs7
  have HV10 := Lib.hid hV10
  have HH10 := Lib.hid hH10
  clear hO10 hV10 HO10 hb10 hb8 hb710 hH10 HH7 hw7
  refine (refsum_any _ (padN kk 92 ++ D) w10 HV10.out (by rw [List.length_append, padN_len, HDL.out]; decide) (HG.out.below hw10)).mono ?_
  rintro e w11 ⟨rfl, hb11⟩
  have hH11 := HH10.out.below hb11 HH10.out.lt
  have hw11 := hw10.trans (hb11.mono hw10.size)
  have HH11 := Lib.hid hH11
  clear hb11 hH11 hw10 HV10 HH10
  go_wp2_with (first
    | (refine wpList_store_row rfl 31 (.tmp 4) (.tmp 22) rfl w.heap.size (bytesV (sumN (padN kk 92 ++ D))).toArray rfl rfl 31 z32.toArray (by exact HH11.out) (by exact hash_info _ (sumN_len _)) (by simp [z32, bytesV, sumN_len]) (hash_one _) ?_)
    | fail)
  exact bodyPost_ret (v := .agg (bytesV (sumN (padN kk 92 ++ D))).toArray) (results_cell_row rfl _ _ w.heap.size 31 _ (0, 0) _ rfl (HH11.out.setRow _) Tryd.underlying31 rfl (hash_info _ (sumN_len _))) rfl ⟨by rw [HDE.out], below_setRow hw11 (Nat.le_refl _) _⟩

set_option maxRecDepth 100000 in
set_option maxHeartbeats 1000000 in
theorem reftag_long (vk vt : Value) (k kk t : List UInt8) (w : World) (hk : Bytes w vk k) (ht : Bytes w vt t) (hkk : kk = sumN k) (hkl : 64 < k.length) (hk2 : k.length ≤ 70368744177664) (hsz : t.length ≤ 35184372088832) (hg : Glob w) :
    Calls Tryd.prog 28 #[vk, vt] w fun e w' => e = .returned (.agg (bytesV (sumN (padN kk 92 ++ sumN (padN kk 54 ++ t)))).toArray) ∧ Below w.heap.size w w' := by
  obtain ⟨i0, hi, hz0, hz1, hz2⟩ := info_parts info_u8
  obtain ⟨xk, ck, rfl, _⟩ := hk.form
  obtain ⟨xt, ct, rfl, _⟩ := ht.form
  have hb1 := (Below.refl w.heap.size w).alloc (Nat.le_refl _) (.cells z32.toArray 31)
  have hk1 := hk.below hb1
  have HG := Lib.hid hg
  have HG1 := Lib.hid (hg.below hb1)
  have HK1 := Lib.hid hk1
  have HT := Lib.hid ht
  have hkl2 : kk.length = 32 := by rw [hkk]; exact sumN_len _
  have HKL := Lib.hid hkl2
  have HKK := Lib.hid hkk
  clear hg hk ht hk1 hkk hkl2
  go_enter Tryd.func28, Tryd.ntmps28
  go_wp2_with fail
  refine (refsum_any _ k _ HK1.out hk2 HG1.out).mono ?_
  rintro e w2 ⟨rfl, hb2⟩
  rw [← HKK.out]
  have hw2 := hb1.trans (hb2.mono hb1.size)
  have hH2 := (Blk.newL w z32 31).below hb2 (by simp)
  have HT2 := Lib.hid (HT.out.below hw2)
  have HH2 := Lib.hid hH2
  have hs2 : w.heap.size < w2.heap.size := hH2.lt
  clear hb1 hb2 hH2 HK1 HT HG1
  have hw4 : Below w.heap.size w ((w2.alloc (.cells z32.toArray 31)).setRow w2.heap.size (bytesV kk).toArray) := below_setRow (hw2.alloc (by omega) _) (by omega) _
  have hb4 : Below w2.heap.size w2 ((w2.alloc (.cells z32.toArray 31)).setRow w2.heap.size (bytesV kk).toArray) := below_setRow ((Below.refl _ _).alloc (Nat.le_refl _) _) (Nat.le_refl _) _
  have HT4 := Lib.hid (HT2.out.below hb4)
  have HH4 := Lib.hid (HH2.out.below hb4 HH2.out.lt)
  have hB4 : Blk ((w2.alloc (.cells z32.toArray 31)).setRow w2.heap.size (bytesV kk).toArray) w2.heap.size (bytesV kk) 31 := (Blk.newL w2 z32 _).setRow _
  have hk4 : Bytes ((w2.alloc (.cells z32.toArray 31)).setRow w2.heap.size (bytesV kk).toArray) (.slice (some ⟨w2.heap.size, 0, none⟩) 32 32) kk := by
    have := IsSl.of_range (b := w2.heap.size) (off := 0) (n := 32) (cap := 32) (size := 1) (cs := bytesV kk) (by rw [bytesV_len, HKL.out]) (bytesV_one _) (Nat.le_refl _) (fun i u hi => by rw [Nat.zero_add]; exact hB4.cell hi)
    unfold Bytes
    rw [HKL.out]
    exact this
  have HK4 := Lib.hid hk4
  clear hb4 hB4 hk4 hw2 HT2 HH2
  go_wp2_with (first
    | (refine wpList_store_row rfl 31 (.tmp 5) (.tmp 11) rfl w2.heap.size (bytesV kk).toArray rfl rfl 31 z32.toArray (by exact Blk.newL w2 z32 _) (by exact hash_info kk HKL.out) (by simp [z32, bytesV, HKL.out]) (hash_one _) ?_)
    | fail)
  refine (refwith_any _ kk 54 _ HK4.out).mono ?_
  rintro e w5 ⟨⟨a5, c5, rfl, hown5⟩, hb5⟩
  have HO5 := Lib.hid hown5
  have HT5 := Lib.hid (HT4.out.below hb5)
  clear hown5 HT4
  go_wp2_with (first
    | (at_builtin; refine wpList_app rfl (.tmp 14) (.tmp 15) 24 rfl _ 5 i0 (.int .u8 0) 1 1 Tryd.underlying24 hi hz0 hz1 hz2 rfl (by decide) (.slice a5 64 c5) _ _ rfl (by exact HO5.out) _ t.length (bytesV t) rfl (by exact HT5.out) (by unfold maxLen; omega) (by omega) (by exact hb5.size) ?_; intro a6 c6 w6 hown6 hgrow6 _;
       have hb6 := hb5.grown hgrow6 hb5.size (fun g hg => (HO5.out.lt g hg).1); have HO6 := Lib.hid hown6; clear hown6 hgrow6 hb5 HO5 HT5)
    | fail)
  have hO6 := HO6.out
  rw [← bytesV_app] at hO6
  have hV6 : Bytes w6 (.slice a6 (64 + t.length) c6) (padN kk 54 ++ t) := by
    have := ownsRow_isSl hO6 (bytesV_one _)
    unfold Bytes
    rw [List.length_append, padN_len]
    exact this
  have hw6 := hw4.trans (hb6.mono hw4.size)
  have HV6 := Lib.hid hV6
  have HK6 := Lib.hid (HK4.out.below hb6)
  have HH6 := Lib.hid (HH4.out.below hb6 HH4.out.lt)
  clear hO6 hV6 HO6 hb6 hw4 HK4 HH4
  refine (refsum_any _ (padN kk 54 ++ t) w6 HV6.out (by rw [List.length_append, padN_len]; omega) (HG.out.below hw6)).mono ?_
  rintro e w7 ⟨rfl, hb7⟩
  have hw7 := hw6.trans (hb7.mono hw6.size)
  have HK7 := Lib.hid (HK6.out.below hb7)
  have hH7 := HH6.out.below hb7 HH6.out.lt
  have HH7 := Lib.hid hH7
  have hs7 : w.heap.size < w7.heap.size := hH7.lt
  clear hb7 hH7 hw6 HK6 HV6 HH6
  obtain ⟨D, hD⟩ : ∃ D, D = sumN (padN kk 54 ++ t) := ⟨_, rfl⟩
  rw [← hD]
  have HDE := Lib.hid hD
  have HDL := Lib.hid (show D.length = 32 by rw [hD]; exact sumN_len _)
  clear hD
  go_wp2_with (first
    | (refine wpList_store_row rfl 31 (.tmp 6) (.tmp 17) rfl w7.heap.size (bytesV D).toArray rfl rfl 31 z32.toArray (by exact Blk.newL w7 z32 _) (by exact hash_info D HDL.out) (by simp [z32, bytesV, HDL.out]) (hash_one _) ?_)
    | fail)
  refine wp_region_forced [0, 2] [1, 3, 4, 5] (by kernel_rfl) (by kernel_rfl) (fun _ _ _ d _ h => by cases d <;> exact h) _ _ rfl rfl ?_
  simp only [List.map_cons, List.map_nil, List.getD_cons_succ, List.getD_cons_zero]
  refine wpPure_move _ rfl rfl ?_
  refine wpPure_run (.slice (some ⟨w7.heap.size, 0, none⟩) 32 32) rfl (fun w' => ?_) ?_
  · simp [go_sem, execOp]
  refine wpPure_nil ?_
  intro nq
  go_wp2_with fail
  have hb8 : Below w7.heap.size w7 (((w7.alloc (.cells z32.toArray 31)).setRow w7.heap.size (bytesV D).toArray).drewN nq) := below_drewN (below_setRow ((Below.refl _ _).alloc (Nat.le_refl _) _) (Nat.le_refl _) _) nq
  have hB8 : Blk (((w7.alloc (.cells z32.toArray 31)).setRow w7.heap.size (bytesV D).toArray).drewN nq) w7.heap.size (bytesV D) 31 := ((Blk.newL w7 z32 _).setRow _).drewN nq
  have HB8 := Lib.hid hB8
  refine (refwith_any _ kk 92 _ (HK7.out.below hb8)).mono ?_
  rintro e w9 ⟨⟨a9, c9, rfl, hown9⟩, hb9⟩
  have hB9 := hB8.below hb9 hB8.lt
  have hD9 : Bytes w9 (.slice (some ⟨w7.heap.size, 0, none⟩) 32 32) D := by
    have := IsSl.of_range (w := w9) (b := w7.heap.size) (off := 0) (n := 32) (cap := 32) (size := 1) (cs := bytesV D) (by rw [bytesV_len, HDL.out]) (bytesV_one _) (Nat.le_refl _) (fun i u hi => by rw [Nat.zero_add]; exact hB9.cell hi)
    unfold Bytes
    rw [HDL.out]
    exact this
  have hD9' : IsSl w9 (.slice (some ⟨w7.heap.size, 0, none⟩) 32 32) 1 32 (bytesV D) := by
    have := hD9
    unfold Bytes at this
    rw [HDL.out] at this
    exact this
  have HD9 := Lib.hid hD9'
  have HO9 := Lib.hid hown9
  clear hB8 hB9 hD9 hD9' hown9 HK7 HB8
  go_wp2_with (first
    | (at_builtin; refine wpList_app rfl (.tmp 19) (.tmp 20) 24 rfl _ 5 i0 (.int .u8 0) 1 1 Tryd.underlying24 hi hz0 hz1 hz2 rfl (by decide) (.slice a9 64 c9) _ _ rfl (by exact HO9.out) _ 32 (bytesV D) rfl (by exact HD9.out) (by unfold maxLen; omega) (by omega) (by exact hb9.size) ?_; intro a10 c10 w10 hown10 hgrow10 _;
       have hb10 := hb9.grown hgrow10 hb9.size (fun g hg => (HO9.out.lt g hg).1); have HO10 := Lib.hid hown10; clear hown10 hgrow10 hb9 HO9 HD9)
    | fail)
  have hO10 := HO10.out
  rw [← bytesV_app] at hO10
  have hV10 : Bytes w10 (.slice a10 (64 + 32) c10) (padN kk 92 ++ D) := by
    have := ownsRow_isSl hO10 (bytesV_one _)
    unfold Bytes
    rw [List.length_append, padN_len, HDL.out]
    exact this
  have hb710 := hb8.trans (hb10.mono hb8.size)
  have hw10 := hw7.trans (hb710.mono hw7.size)
  have hH10 := HH7.out.below hb710 hs7
  have HV10 := Lib.hid hV10
  have HH10 := Lib.hid hH10
  clear hO10 hV10 HO10 hb10 hb8 hb710 hH10 HH7 hw7
  refine (refsum_any _ (padN kk 92 ++ D) w10 HV10.out (by rw [List.length_append, padN_len, HDL.out]; decide) (HG.out.below hw10)).mono ?_
  rintro e w11 ⟨rfl, hb11⟩
  have hH11 := HH10.out.below hb11 HH10.out.lt
  have hw11 := hw10.trans (hb11.mono hw10.size)
  have HH11 := Lib.hid hH11
  clear hb11 hH11 hw10 HV10 HH10
  go_wp2_with (first
    | (refine wpList_store_row rfl 31 (.tmp 4) (.tmp 22) rfl w.heap.size (bytesV (sumN (padN kk 92 ++ D))).toArray rfl rfl 31 z32.toArray (by exact HH11.out) (by exact hash_info _ (sumN_len _)) (by simp [z32, bytesV, sumN_len]) (hash_one _) ?_)
    | fail)
  exact bodyPost_ret (v := .agg (bytesV (sumN (padN kk 92 ++ D))).toArray) (results_cell_row rfl _ _ w.heap.size 31 _ (0, 0) _ rfl (HH11.out.setRow _) Tryd.underlying31 rfl (hash_info _ (sumN_len _))) rfl ⟨by rw [HDE.out], below_setRow hw11 (Nat.le_refl _) _⟩

theorem reftag_any (vk vt : Value) (k t : List UInt8) (w : World) (hk : Bytes w vk k) (ht : Bytes w vt t) (hk2 : k.length ≤ 70368744177664) (hsz : t.length ≤ 35184372088832) (hg : Glob w) :
    Calls Tryd.prog 28 #[vk, vt] w fun e w' => e = .returned (.agg (bytesV (tagN k t)).toArray) ∧ Below w.heap.size w w' := by
  by_cases h : 64 < k.length
  · have e : keyN k = sumN k := by unfold keyN; rw [if_pos h]
    unfold tagN
    exact reftag_long vk vt k (keyN k) t w hk ht e h hk2 hsz hg
  · have e : keyN k = k := by unfold keyN; rw [if_neg h]
    unfold tagN
    rw [e]
    exact reftag_short vk vt k t w hk ht (by omega) hsz hg
end Go.Proofs.YtjjoiefngoghpaaDoor
