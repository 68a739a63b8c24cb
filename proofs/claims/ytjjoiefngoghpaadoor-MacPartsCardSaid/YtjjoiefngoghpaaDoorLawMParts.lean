/- The law MacParts, walked: true, and nothing that was there has turned. Conditions: the texts can be read; the package's tables read as they are laid. -/
import Derived.Test.YtjjoiefngoghpaaDoorAlive2
import Derived.Test.YtjjoiefngoghpaaDoorTagAt
namespace Go.Proofs.YtjjoiefngoghpaaDoor
open Go.RowKit

set_option maxRecDepth 100000 in
set_option maxHeartbeats 400000 in
theorem mparts_out (va vb vc : Value) (a b c : List UInt8) (w : World) (ha : Bytes w va a) (hb : Bytes w vb b) (hc : Bytes w vc c) (hg : Glob w) (hl : ¬ (a.length ≤ 300 ∧ b.length ≤ 300 ∧ c.length ≤ 300)) :
    Calls Tryd.prog 11 #[va, vb, vc] w fun e w' => e = .returned (.bool true) ∧ Below w.heap.size w w' := by
  obtain ⟨xa, ca, rfl, _⟩ := ha.form
  obtain ⟨xb, cb, rfl, _⟩ := hb.form
  obtain ⟨xc, cc, rfl, _⟩ := hc.form
  have HG := Lib.hid hg
  clear hg ha hb hc
  by_cases h1 : a.length ≤ 300
  · by_cases h2 : b.length ≤ 300
    · have h3 : ¬ c.length ≤ 300 := fun h => hl ⟨h1, h2, h⟩
      clear hl
      go_enter Tryd.func11, Tryd.ntmps11
      go_wp2_with (go_at_call 25; refine (alive2_any w HG.out).mono ?_; rintro e w1 ⟨rfl, hb1⟩)
      go_ret
      exact ⟨rfl, hb1⟩
    · clear hl
      go_enter Tryd.func11, Tryd.ntmps11
      go_wp2_with (go_at_call 25; refine (alive2_any w HG.out).mono ?_; rintro e w1 ⟨rfl, hb1⟩)
      go_ret
      exact ⟨rfl, hb1⟩
  · clear hl
    go_enter Tryd.func11, Tryd.ntmps11
    go_wp2_with (go_at_call 25; refine (alive2_any w HG.out).mono ?_; rintro e w1 ⟨rfl, hb1⟩)
    go_ret
    exact ⟨rfl, hb1⟩

set_option maxRecDepth 100000 in
set_option maxHeartbeats 2000000 in
theorem mparts_in (vk va vb : Value) (k a b : List UInt8) (w : World) (hk : Bytes w vk k) (ha : Bytes w va a) (hb : Bytes w vb b) (hg : Glob w) (h1 : k.length ≤ 300) (h2 : a.length ≤ 300) (h3 : b.length ≤ 300) :
    Calls Tryd.prog 11 #[vk, va, vb] w fun e w' => e = .returned (.bool true) ∧ Below w.heap.size w w' := by
  obtain ⟨i0, hi, hz0, hz1, hz2⟩ := info_parts info_u8
  obtain ⟨xk, ck, rfl, _⟩ := hk.form
  obtain ⟨xa, ca, rfl, _⟩ := ha.form
  obtain ⟨xb, cb, rfl, _⟩ := hb.form
  have HG := Lib.hid hg
  have HK := Lib.hid hk
  have HA := Lib.hid ha
  have HB := Lib.hid hb
  clear hg hk ha hb
  go_enter Tryd.func11, Tryd.ntmps11
  go_wp2_with (first
    | (go_at_call 25; refine (alive2_any w HG.out).mono ?_; rintro e w1 ⟨rfl, hb1⟩; have hs1 := hb1.size)
    | (at_builtin; refine wpList_app rfl (.tmp 25) (.tmp 26) 24 rfl w.heap.size 5 i0 (.int .u8 0) 1 1 Tryd.underlying24 hi hz0 hz1 hz2 rfl (by decide) (.slice none 0 0) 0 [] rfl (by exact World.ownsRow_nil _ _ _ _) _ a.length (bytesV a) rfl (by exact IsSl.below HA.out hb1) (by unfold maxLen; omega) (by omega) (by omega) ?_; intro a2 cap2 w2 hown2 hgrow2 _; rw [Nat.zero_add, List.nil_append] at hown2;
       have hb2 := hb1.grown hgrow2 hs1 (fun k hk => by cases hk); have hs2 := hb2.size; have HO2 := Lib.hid hown2; clear hown2 hgrow2)
    | (at_builtin; refine wpList_app rfl (.tmp 28) (.tmp 29) 24 rfl w.heap.size 5 i0 (.int .u8 0) 1 1 Tryd.underlying24 hi hz0 hz1 hz2 rfl (by decide) (.slice a2 a.length cap2) _ _ rfl (by exact HO2.out) _ b.length (bytesV b) rfl (by exact IsSl.below HB.out hb2) (by unfold maxLen; omega) (by omega) (by omega) ?_; intro a3 cap3 w3 hown3 hgrow3 _;
       have hb3 := hb2.grown hgrow3 hs2 (fun k hk => (HO2.out.lt k hk).1); have hs3 := hb3.size; have HO3 := Lib.hid hown3; clear hown3 hgrow3)
    | fail)
  have hall : Bytes w3 (.slice a3 (a.length + b.length) cap3) (a ++ b) := by
    have := ownsRow_isSl HO3.out (fun u hu => by rw [← bytesV_app] at hu; exact bytesV_one _ u hu)
    rw [← bytesV_app] at this
    unfold Bytes
    rw [List.length_append]
    exact this
  obtain ⟨t, ht⟩ : ∃ t, t = a ++ b := ⟨_, rfl⟩
  have hc2 : cat [a, b] = t := by simp [cat, ht]
  have hc1 : cat [t] = t := by simp [cat]
  have hlen : t.length = a.length + b.length := by rw [ht]; simp
  rw [← ht] at hall
  have HALL := Lib.hid hall
  have HA3 := Lib.hid (HA.out.below hb3)
  have HB3 := Lib.hid (HB.out.below hb3)
  have HK3 := Lib.hid (HK.out.below hb3)
  have HC1 := Lib.hid hc1
  have HC2 := Lib.hid hc2
  have HLEN := Lib.hid (show t.length ≤ 600 by omega)
  have HG3 := Lib.hid (HG.out.below hb3)
  clear hall hb1 hb2 hs1 hs2 HO2 HO3 HA HB hc1 hc2 ht hlen
  refine (tag_at (n := 2) w3 _ k [_, _] [a, b] _ HK3.out (.cons HA3.out (.cons HB3.out .nil)) rfl t HC2.out (by omega) (by have := HLEN.out; omega) (by decide) HG3.out).mono ?_
  rintro e w4 ⟨rfl, hb4⟩
  have hw4 := hb3.trans (hb4.mono hs3)
  have HALL4 := Lib.hid (HALL.out.below hb4)
  have hs4 := hw4.size
  clear hb3 hs3 hb4 HA3 HB3 HK3 HC2 HG3 HALL
  obtain ⟨T, hT⟩ : ∃ T, T = tagN k t := ⟨_, rfl⟩
  rw [← hT]
  have HTL := Lib.hid (show T.length = 32 by rw [hT, tagN_len])
  have HT := Lib.hid hT
  have hee := fun w => eq_hash_same w T HTL.out
  clear hT
  go_wp2_with (first
    | (refine wpList_store_row rfl 31 (.tmp 8) (.tmp 35) rfl w4.heap.size (bytesV T).toArray rfl rfl 31 z32.toArray (by exact Blk.newL w4 z32 _) (by exact hash_info T HTL.out) (by simp [z32, bytesV, HTL.out]) (hash_one _) ?_)
    | fail)
  have hB5 : Blk ((w4.alloc (.cells z32.toArray 31)).setRow w4.heap.size (bytesV T).toArray) w4.heap.size (bytesV T) 31 := (Blk.newL w4 z32 _).setRow _
  have hW4' : Below w4.heap.size w4 ((w4.alloc (.cells z32.toArray 31)).setRow w4.heap.size (bytesV T).toArray) := below_setRow ((Below.refl _ _).alloc (Nat.le_refl _) _) (Nat.le_refl _) _
  have hw5 := hw4.trans (hW4'.mono hs4)
  obtain ⟨w5, e5⟩ : ∃ w5, w5 = (w4.alloc (.cells z32.toArray 31)).setRow w4.heap.size (bytesV T).toArray := ⟨_, rfl⟩
  have hs5 : w5.heap.size = w4.heap.size + 1 := by rw [e5]; simp
  have HALL5 : Hid (Bytes w5 (.slice a3 (a.length + b.length) cap3) t) := Lib.hid (by rw [e5]; exact HALL4.out.below hW4')
  rw [← e5] at hB5 hw5
  refine wp_world e5 ?_
  clear hW4' hw4 HALL4 e5
  have HB5 := Lib.hid hB5
  have HK5 := Lib.hid (HK.out.below hw5)
  have HG5 := Lib.hid (HG.out.below hw5)
  clear hB5
  refine wp_region_mono 6 (w5.heap.size) [(fun v _ => v = .agg (bytesV T).toArray), (fun v _ => v = .slice xk k.length ck), (fun v _ => v = .slice a3 (a.length + b.length) cap3), (fun v w => Parts w v [t] [.slice a3 (a.length + b.length) cap3]), (fun v _ => v = .agg (bytesV T).toArray), (fun v _ => v = .bool false)] (by kernel_rfl) (by kernel_rfl) (Nat.le_refl _) ?mkept _ rfl ?mops ?mfin
  case mkept =>
    repeat (refine List.forall_mem_cons.2 ⟨by first | exact fun _ _ _ _ h => h | exact fun _ _ _ hb h => Parts.below h hb | exact fun _ _ _ hb h => IsSl.below h hb, ?_⟩)
    exact fun _ h => by cases h
  case mops =>
    simp only [List.take_succ_cons, List.take_zero, monoAll, List.getD_cons_zero, List.getD_cons_succ]
    iterate 6
    
     (refine ⟨fun x wr hb hd Qg hK => ?_, ?_⟩
      · as_aux_lemma =>
        simp only [fill, Act.put, List.setIfInBounds_toArray, List.set_cons_succ, List.set_cons_zero, needs, Region.binds, List.filter_cons, List.filter_nil, List.map_cons, List.map_nil, if_true, List.mem_cons, List.not_mem_nil, or_false, forall_eq_or_imp, forall_eq, List.getD_cons_zero, List.getD_cons_succ, false_implies, implies_true] at hd hK ⊢
        (try simp only [hd] at hK ⊢)
        first
        | (have hBr := HB5.out.below hb (by omega); refine wpList_load_rowIf rfl 31 (.tmp 8) rfl _ rfl 31 (bytesV T).toArray (0, 0) _ (by exact hBr) Tryd.underlying31 rfl (hash_info T HTL.out) ?_; exact hK _ _ rfl (Below.refl _ _))
        | (show wpList _ _ _ [⟨some _, .buildSlice _ _ _, _, _, _, _⟩] _ _; go_wp2_with fail; exact hK _ _ ((Texts.cons (HALL5.out.below hb) .nil).parts 24 rfl) ((Below.refl _ _).alloc (Nat.le_refl _) _))
        | (show wpList _ _ _ [⟨some _, .call _, _, _, _, _⟩] _ _; go_wp2_with (go_at_call 27; refine (tag_any _ (x 3) k [t] _ wr (HK5.out.below hb) hd.2 (by omega) (by rw [HC1.out]; have := HLEN.out; omega) (by show 1 ≤ _; decide) (HG5.out.below hb)).mono ?_; rintro e w5 ⟨rfl, hb5⟩); exact hK _ _ (by rw [HC1.out, HT.out]) hb5)
        | (go_wp2_with fail; exact hK _ _ rfl (Below.refl _ _)))
    trivial
  case mfin =>
    intro x w6 hb6 hR
    have x5 := hR 5 (by decide)
    simp only [List.getD_cons_zero, List.getD_cons_succ] at x5
    have hw6 := hw5.trans (hb6.mono hw5.size)
    have HB6 := Lib.hid (HB5.out.below hb6 (by omega))
    have HALL6 := Lib.hid (HALL5.out.below hb6)
    have HK6 := Lib.hid (HK.out.below hw6)
    have HG6 := Lib.hid (HG.out.below hw6)
    have hs6 := hw6.size
    clear hR HB5 HALL5 HK5 HG5 hb6 hw5 hs5
    simp only [List.drop_succ_cons, List.drop_zero]
    generalize List.toArray _ = L0
    simp only [List.take_succ_cons, List.take_zero, List.map_cons, List.map_nil, fill, Act.put, List.setIfInBounds_toArray, List.set_cons_succ, List.set_cons_zero, x5]
    by_cases hk : k.length ≤ 64
    · go_wp2_with fail
      go_ret
      exact ⟨rfl, hw6⟩
    have hTk : tagN (sumN k) t = T := by rw [HT.out]; exact tagN_long k t (by omega)
    have HTK := Lib.hid hTk
    clear hTk
    go_wp2_with fail
    refine (sum_at (n := 1) w6 [_] [k] _ (.cons HK6.out .nil) rfl k (by simp [cat]) (by omega) (by decide) HG6.out).mono ?_
    rintro e w7 ⟨rfl, hb7⟩
    have hw7 := hw6.trans (hb7.mono hs6)
    have HALL7 := Lib.hid (HALL6.out.below hb7)
    have HB7 := Lib.hid (HB6.out.below hb7 (by have := HB6.out.lt; omega))
    have hs7 := hw7.size
    clear hw6 hb7 HALL6 HB6 HK6 HG6 hs6
    obtain ⟨D, hD⟩ : ∃ D, D = sumN k := ⟨_, rfl⟩
    rw [← hD]
    have HDL := Lib.hid (show D.length = 32 by rw [hD, sumN_len])
    have HD := Lib.hid hD
    clear hD
    go_wp2_with (first
      | (refine wpList_store_row rfl 31 (.tmp 9) (.tmp 47) rfl w7.heap.size (bytesV D).toArray rfl rfl 31 z32.toArray (by exact Blk.newL w7 z32 _) (by exact hash_info D HDL.out) (by simp [z32, bytesV, HDL.out]) (hash_one _) ?_)
      | fail)
    have hB8 : Blk ((w7.alloc (.cells z32.toArray 31)).setRow w7.heap.size (bytesV D).toArray) w7.heap.size (bytesV D) 31 := (Blk.newL w7 z32 _).setRow _
    have hW7' : Below w7.heap.size w7 ((w7.alloc (.cells z32.toArray 31)).setRow w7.heap.size (bytesV D).toArray) := below_setRow ((Below.refl _ _).alloc (Nat.le_refl _) _) (Nat.le_refl _) _
    have hw8 := hw7.trans (hW7'.mono hs7)
    obtain ⟨w8, e8⟩ : ∃ w8, w8 = (w7.alloc (.cells z32.toArray 31)).setRow w7.heap.size (bytesV D).toArray := ⟨_, rfl⟩
    have hs8 : w8.heap.size = w7.heap.size + 1 := by rw [e8]; simp
    have HALL8 : Hid (Bytes w8 (.slice a3 (a.length + b.length) cap3) t) := Lib.hid (by rw [e8]; exact HALL7.out.below hW7')
    have HBB8 : Hid (Blk w8 w4.heap.size (bytesV T) 31) := Lib.hid (by rw [e8]; exact HB7.out.below hW7' HB7.out.lt)
    rw [← e8] at hB8 hw8
    refine wp_world e8 ?_
    clear hW7' hw7 HALL7 e8 HB7
    have HB8 := Lib.hid hB8
    have HG8 := Lib.hid (HG.out.below hw8)
    have hD8 : Bytes w8 (.slice (some ⟨w7.heap.size, 0, none⟩) 32 32) D := by
      have := IsSl.of_range (w := w8) (b := w7.heap.size) (off := 0) (n := 32) (cap := 32) (size := 1) (cs := bytesV D) (by rw [bytesV_len, HDL.out]) (bytesV_one _) (Nat.le_refl _) (fun i u hi => by rw [Nat.zero_add]; exact hB8.cell hi)
      unfold Bytes
      rw [HDL.out]
      exact this
    have HD8 := Lib.hid hD8
    clear hB8 hD8
    have hlt4 := HBB8.out.lt
    refine wp_region_mono 6 (w8.heap.size) [(fun v _ => v = .slice (some ⟨w7.heap.size, 0, none⟩) 32 32), (fun v _ => v = .slice a3 (a.length + b.length) cap3), (fun v w => Parts w v [t] [.slice a3 (a.length + b.length) cap3]), (fun v _ => v = .agg (bytesV T).toArray), (fun v _ => v = .agg (bytesV T).toArray), (fun v _ => v = .bool true)] (by kernel_rfl) (by kernel_rfl) (Nat.le_refl _) ?mkept _ rfl ?mops ?mfin
    case mkept =>
      repeat (refine List.forall_mem_cons.2 ⟨by first | exact fun _ _ _ _ h => h | exact fun _ _ _ hb h => Parts.below h hb | exact fun _ _ _ hb h => IsSl.below h hb, ?_⟩)
      exact fun _ h => by cases h
    case mops =>
      simp only [List.take_succ_cons, List.take_zero, monoAll, List.getD_cons_zero, List.getD_cons_succ]
      iterate 6
      
       (refine ⟨fun x wr hb hd Qg hK => ?_, ?_⟩
        · as_aux_lemma =>
          simp only [fill, Act.put, List.setIfInBounds_toArray, List.set_cons_succ, List.set_cons_zero, needs, Region.binds, List.filter_cons, List.filter_nil, List.map_cons, List.map_nil, if_true, List.mem_cons, List.not_mem_nil, or_false, forall_eq_or_imp, forall_eq, List.getD_cons_zero, List.getD_cons_succ, false_implies, implies_true] at hd hK ⊢
          (try simp only [hd] at hK ⊢)
          first
          | (show wpList _ _ _ [⟨some _, .buildSlice _ _ _, _, _, _, _⟩] _ _; go_wp2_with fail; exact hK _ _ ((Texts.cons (HALL8.out.below hb) .nil).parts 24 rfl) ((Below.refl _ _).alloc (Nat.le_refl _) _))
          | (show wpList _ _ _ [⟨some _, .call _, _, _, _, _⟩] _ _; go_wp2_with (go_at_call 27; refine (tag_any _ (x 2) D [t] _ wr (HD8.out.below hb) hd.2 (by rw [HDL.out]; decide) (by rw [HC1.out]; have := HLEN.out; omega) (by show 1 ≤ _; decide) (HG8.out.below hb)).mono ?_; rintro e w5 ⟨rfl, hb5⟩); exact hK _ _ (by rw [HC1.out, HD.out, HTK.out]) hb5)
          | (have hBr := HBB8.out.below hb (by omega); refine wpList_load_rowIf rfl 31 (.tmp 8) rfl _ rfl 31 (bytesV T).toArray (0, 0) _ (by exact hBr) Tryd.underlying31 rfl (hash_info T HTL.out) ?_; exact hK _ _ rfl (Below.refl _ _))
          | (go_wp2_with fail; exact hK _ _ rfl (Below.refl _ _)))
      trivial
    case mfin =>
      intro x w9 hb9 hR
      have x5 := hR 5 (by decide)
      simp only [List.getD_cons_zero, List.getD_cons_succ] at x5
      have hw9 := hw8.trans (hb9.mono hw8.size)
      clear hR hb9 hw8
      simp only [List.drop_succ_cons, List.drop_zero]
      generalize List.toArray _ = L0
      simp only [List.take_succ_cons, List.take_zero, List.map_cons, List.map_nil, fill, Act.put, List.setIfInBounds_toArray, List.set_cons_succ, List.set_cons_zero, x5]
      go_wp2_with fail
      go_ret
      exact ⟨rfl, hw9⟩
end Go.Proofs.YtjjoiefngoghpaaDoor
