/- The law ClashLong, walked: true, and nothing that was there has turned. Conditions: the list and the text can be read; the package's tables read as they are laid. -/
import Derived.Test.YthgkaegkkkghhaaDoorLawCLists
import Derived.Test.YthgkaegkkkghhaaDoorTextW
namespace Go.Proofs.YthgkaegkkkghhaaDoor
open Go.RowKit

theorem own_empty (w : World) (e : TypeId) {B : Nat} (hB : w.heap.size = B) : (w.alloc (.cells #[] e)).ownsRow B e 1 (.slice (some ⟨B, 0, none⟩) 0 0) 0 [] := by
  subst hB
  exact ⟨rfl, .inr ⟨w.heap.size, 0, #[], rfl, Nat.le_refl _, heap_alloc_new w _, Nat.le_refl _, by decide, rfl, rfl⟩⟩
theorem parts_more {w : World} {base : Nat} {e : TypeId} {v v0 vx : Value} {a : List (List UInt8)} {xs : List Value} {s : List UInt8} {n : Nat} (ho : w.ownsRow base e 1 v n (xs ++ [vx])) (hn : n = a.length + 1) (ha : Parts w v0 a xs) (hx : Bytes w vx s) : Parts w v (a ++ [s]) (xs ++ [vx]) := by
  subst hn
  refine ⟨by rw [List.length_append, List.length_append, ha.len]; rfl, ?_, fun i x l h1 h2 => ?_⟩
  · rw [List.length_append, List.length_singleton]
    refine ownsRow_isSl ho fun u hu => ?_
    rcases List.mem_append.1 hu with hu | hu
    · exact ha.sl.2.1 u hu
    · rw [List.mem_singleton] at hu
      rw [hu]; exact hx.one
  · by_cases hi : i < a.length
    · rw [List.getElem?_append_left (by rw [ha.len]; exact hi)] at h1
      rw [List.getElem?_append_left hi] at h2
      exact ha.each i x l h1 h2
    · rw [List.getElem?_append_right (by rw [ha.len]; omega), ha.len] at h1
      rw [List.getElem?_append_right (by omega)] at h2
      have h0 : i - a.length = 0 := by
        have := (List.getElem?_eq_some_iff.1 h2).1
        rw [List.length_singleton] at this
        omega
      rw [h0] at h1 h2
      cases h1
      cases h2
      exact hx
theorem extract_more (a : List (List UInt8)) (s : List UInt8) : extractB a (a ++ [s]) = none := if_pos (.inl (by simp))
theorem extract_ones (t s : List UInt8) : extractB [t] [s] = if t = s then none else if rootB [t] = rootB [s] then some (0 :: t, 0 :: s) else none := by
  unfold extractB
  by_cases h1 : t = s
  · rw [if_pos (.inr (.inl (by rw [h1]))), if_pos h1]
  · rw [if_neg h1]
    by_cases h2 : rootB [t] = rootB [s]
    · rw [if_pos h2, if_neg (by rintro (h | h | h); exact h rfl; exact h1 (List.cons.inj h).1; exact h h2), downB_stop (.inl (by simp))]
      rfl
    · rw [if_neg h2, if_pos (.inr (.inr h2))]
theorem take_one {a : List (List UInt8)} {t : List UInt8} (h : a[0]? = some t) : a.take 1 = [t] := by
  cases a with
  | nil => cases h
  | cons x a => cases h; rfl
theorem alloc_below (w : World) (o : Obj) : Below w.heap.size w (w.alloc o) := (Below.refl _ _).alloc (Nat.le_refl _) _
set_option maxRecDepth 100000 in
set_option maxHeartbeats 8000000 in
theorem clong_any (va vx : Value) (a : List (List UInt8)) (xs : List Value) (s : List UInt8) (w : World) (ha : Parts w va a xs) (hx : Bytes w vx s) (hma : ∀ l ∈ a, l.length ≤ 4611686018427387904) (hna : a.length ≤ 4611686018427387904) (hg : Glob w) :
    Calls Tryd.prog 8 #[va, vx] w fun e w' => e = .returned (.bool true) ∧ Below w.heap.size w w' := by
  obtain ⟨xa, ca, rfl, _⟩ := hx.form
  obtain ⟨xl, cl, rfl, _⟩ := ha.sl.form
  obtain ⟨i0, hi, hz0, hz1, hz2⟩ := info_parts info_sl
  have HA := Lib.hid ha
  have HX := Lib.hid hx
  have HG := Lib.hid hg
  have HMA := Lib.hid hma
  clear ha hx hg hma
  cases hga : greatB a with
  | true =>
    have GA := Lib.hid hga
    clear hga
    go_enter Tryd.func8, Tryd.ntmps8
    go_wp2_with (first
      | (go_at_call 9; refine (alive7_any w HG.out).mono ?_; rintro e w1 ⟨rfl, hb1⟩; have hw1 := hb1;  have HA1 := Lib.hid (HA.out.below hb1); have HX1 := Lib.hid (HX.out.below hb1); have HG1 := Lib.hid (HG.out.below hb1); clear hb1)
      | (go_at_call 10; have HQ := HA1; clear HA1; refine (great7_any _ a xs w1 HQ.out HMA.out hna).mono ?_; rintro e w2 ⟨rfl, hb2⟩; rw [GA.out]; have hw2 := hw1.trans (hb2.mono hw1.size); have HA2 := Lib.hid (HQ.out.below hb2); have HX2 := Lib.hid (HX1.out.below hb2); have HG2 := Lib.hid (HG1.out.below hb2); clear hb2)
      | fail)
    go_ret
    exact ⟨rfl, hw2⟩
  | false =>
    have GA := Lib.hid hga
    clear hga
    by_cases hx3 : (300 : Int) < s.length
    · go_enter Tryd.func8, Tryd.ntmps8
      go_wp2_with (first
        | (go_at_call 9; refine (alive7_any w HG.out).mono ?_; rintro e w1 ⟨rfl, hb1⟩; have hw1 := hb1;  have HA1 := Lib.hid (HA.out.below hb1); have HX1 := Lib.hid (HX.out.below hb1); have HG1 := Lib.hid (HG.out.below hb1); clear hb1)
        | (go_at_call 10; have HQ := HA1; clear HA1; refine (great7_any _ a xs w1 HQ.out HMA.out hna).mono ?_; rintro e w2 ⟨rfl, hb2⟩; rw [GA.out]; have hw2 := hw1.trans (hb2.mono hw1.size); have HA2 := Lib.hid (HQ.out.below hb2); have HX2 := Lib.hid (HX1.out.below hb2); have HG2 := Lib.hid (HG1.out.below hb2); clear hb2)
        | fail)
      go_ret
      exact ⟨rfl, hw2⟩
    by_cases hl0 : a.length = 0
    · have hz : ((a.length : Int) == 0) = true := by rw [beq_iff_eq]; omega
      clear hl0
      go_enter Tryd.func8, Tryd.ntmps8
      go_wp2_with (first
        | (go_at_call 9; refine (alive7_any w HG.out).mono ?_; rintro e w1 ⟨rfl, hb1⟩; have hw1 := hb1;  have HA1 := Lib.hid (HA.out.below hb1); have HX1 := Lib.hid (HX.out.below hb1); have HG1 := Lib.hid (HG.out.below hb1); clear hb1)
        | (go_at_call 10; have HQ := HA1; clear HA1; refine (great7_any _ a xs w1 HQ.out HMA.out hna).mono ?_; rintro e w2 ⟨rfl, hb2⟩; rw [GA.out]; have hw2 := hw1.trans (hb2.mono hw1.size); have HA2 := Lib.hid (HQ.out.below hb2); have HX2 := Lib.hid (HX1.out.below hb2); have HG2 := Lib.hid (HG1.out.below hb2); clear hb2)
        | fail)
      go_ret
      exact ⟨rfl, hw2⟩
    have hz : ((a.length : Int) == 0) = false := by rw [beq_eq_false_iff_ne]; omega
    obtain ⟨sa, ta⟩ := small_of GA.out
    have sl := (not_great GA.out).1
    obtain ⟨t, ht0⟩ : ∃ t, a[0]? = some t := ⟨_, List.getElem?_eq_getElem (by omega)⟩
    obtain ⟨bq, oq, x0, t', exl, hbq, cq, _, ht', hbt⟩ := HA.out.at (k := 0) (by omega)
    subst exl
    have e0 : t' = t := Option.some.inj (ht'.symm.trans ht0)
    subst e0
    obtain ⟨y1, y2, rfl, _⟩ := hbt.form
    have hlt := (not_great GA.out).2 t' (List.mem_of_getElem? ht0)
    obtain ⟨a1, d1, hs0, hp1⟩ := parts_head HA.out 1 (by omega)
    have hs1 : ∀ w' : World, (Instr.slice 22 (.slice (some ⟨bq, oq, none⟩) a.length cl) none (some (.int .i64 1)) none).run Tryd.prog w' = .ok (.slice a1 1 d1) w' := hs0
    clear hs0
    rw [take_one ht0] at hp1
    have htm : ∀ l ∈ a ++ [s], l.length ≤ 35184372088832 := fun l hl => by
      rcases List.mem_append.1 hl with h | h
      · exact ta l h
      · rw [List.mem_singleton] at h
        rw [h]; omega
    obtain ⟨t, htt⟩ : ∃ t, t = t' := ⟨_, rfl⟩
    subst htt
    obtain ⟨R1, hR1⟩ : ∃ R, R = rootB [t] := ⟨_, rfl⟩
    obtain ⟨R2, hR2⟩ : ∃ R, R = rootB [s] := ⟨_, rfl⟩
    have hzz := extract_ones t s
    have hix : (0 : Int) < a.length := by omega
    have HTA := Lib.hid ta
    have HTM := Lib.hid htm
    have HP1 := Lib.hid hp1
    have HTT := Lib.hid (fun l (h : l ∈ [t]) => show l.length ≤ 35184372088832 by rw [List.mem_singleton] at h; rw [h]; omega)
    have HTS := Lib.hid (fun l (h : l ∈ [s]) => show l.length ≤ 35184372088832 by rw [List.mem_singleton] at h; rw [h]; omega)
    have HBQ := Lib.hid hbt
    have CQ := Lib.hid cq
    have HR1 := Lib.hid hR1
    have HR2 := Lib.hid hR2
    clear ta htm hp1 ht0 ht' hbt cq hl0
    by_cases hts : t = s
    · have HZ := Lib.hid (show extractB [t] [s] = none by rw [hzz, if_pos hts])
      have HE := Lib.hid (show (t == s) = true by simp [hts])
      clear hzz hts hR1 hR2
      go_enter Tryd.func8, Tryd.ntmps8
      go_wp2_with (first
        | (go_at_call 9; refine (alive7_any w HG.out).mono ?_; rintro e w1 ⟨rfl, hb1⟩; have hw1 := hb1;  have HA1 := Lib.hid (HA.out.below hb1); have HX1 := Lib.hid (HX.out.below hb1); have HG1 := Lib.hid (HG.out.below hb1); clear hb1)
        | (go_at_call 10; have HQ := HA1; clear HA1; refine (great7_any _ a xs w1 HQ.out HMA.out hna).mono ?_; rintro e w2 ⟨rfl, hb2⟩; rw [GA.out]; have hw2 := hw1.trans (hb2.mono hw1.size); have HA2 := Lib.hid (HQ.out.below hb2); have HX2 := Lib.hid (HX1.out.below hb2); have HG2 := Lib.hid (HG1.out.below hb2); clear hb2)
        | (at_builtin; have HQ := HA2; clear HA2; refine wpList_app_lit rfl (.tmp 26) (.tmp 27) 22 rfl w2.heap.size 23 i0 (.slice none 0 0) 1 24 Tryd.underlying22 hi hz0 hz1 hz2 rfl (by decide) w2.heap.size rfl (by exact own_empty w2 _ rfl) _ a.length xs rfl (by exact (HQ.out.below ((Below.refl _ _).alloc (Nat.le_refl _) _)).sl) (by unfold maxLen; omega) (by omega) (by simp) ?_; intro v3 w3 ho3 hb3; have hb3 := (((Below.refl w2.heap.size w2).alloc (Nat.le_refl _) (.cells #[] 23)).trans (hb3.mono (by simp))); have hw3 := hw2.trans (hb3.mono hw2.size); have HO3 := Lib.hid ho3; have HA3 := Lib.hid (HQ.out.below hb3); have hs3 := hb3.size; have HX3 := Lib.hid (HX2.out.below hb3); have HG3 := Lib.hid (HG2.out.below hb3); clear hb3 ho3)
        | (at_builtin; refine wpList_app rfl (.tmp 28) (.tmp 30) 22 rfl w2.heap.size 23 i0 (.slice none 0 0) 1 24 Tryd.underlying22 hi hz0 hz1 hz2 rfl (by decide) _ a.length xs rfl (by exact ownsRow_below HO3.out ((Below.refl _ _).alloc (Nat.le_refl _) _) (ownsRow_block HO3.out)) _ 1 [.slice xa s.length ca] rfl (by exact isSl_new w3 [.slice xa s.length ca] _ 1 1 rfl (by simp [Value.oneCell'])) (by unfold maxLen; omega) (by omega) (by simp; omega) ?_; intro a4 c4 w4 ho4 hg4 _; have hb4 := ((Below.refl w2.heap.size w2).trans ((Below.refl w2.heap.size w2))); have hw4 : Below w.heap.size w w4 := ((hw3.alloc hw3.size (.cells #[.slice xa s.length ca] 23)).grown hg4 (by simp; have := hw3.size; omega) (fun k hk => Nat.le_trans hw2.size (HO3.out.lt k hk).1)); have hp4 := parts_more ho4 rfl (HA.out.below hw4) (HX.out.below hw4); have HP4 := Lib.hid hp4; have HA4 := Lib.hid (HA.out.below hw4); have HX4 := Lib.hid (HX.out.below hw4); have HG4 := Lib.hid (HG.out.below hw4); clear hb4 ho4 hg4 hp4)
        | (go_at_call 11; have HQ := HP4; clear HP4; refine (extract_any _ _ a (a ++ [s]) xs _ w4 HA4.out HQ.out (by omega) (by simp; omega) HTA.out HTM.out HG4.out).mono ?_; rintro e w5 ⟨h5, hb5⟩; rw [extract_more] at h5; obtain ⟨e1, e2, e3, e4, rfl⟩ := extR_get h5; have hw5 := hw4.trans (hb5.mono hw4.size); have HA5 := Lib.hid (HA4.out.below hb5); have HX5 := Lib.hid (HX4.out.below hb5); have HG5 := Lib.hid (HG4.out.below hb5); have HH5 := Lib.hid (HP1.out.below hw5); clear hb5)
        | (go_at_call 11; refine (extract_any _ _ [t] [s] _ _ _ (HH5.out.below (alloc_below w5 _)) (Texts.parts (.cons HX5.out .nil) 23 (n := 1) rfl) (by simp) (by simp) HTT.out HTS.out (HG5.out.below (alloc_below w5 _))).mono ?_; rintro e w6 ⟨h6, hb6⟩; rw [HZ.out] at h6; obtain ⟨f1, f2, f3, f4, rfl⟩ := extR_get h6; have hb6 := (alloc_below w5 (.cells [Value.slice xa s.length ca].toArray 23)).trans (hb6.mono (by simp)); have hw6 := hw5.trans (hb6.mono hw5.size); have HA6 := Lib.hid (HA5.out.below hb6); have HX6 := Lib.hid (HX5.out.below hb6); have HG6 := Lib.hid (HG5.out.below hb6); have HH6 := Lib.hid (HH5.out.below hb6); have c6 : w6.cell? ⟨bq, oq, none⟩ = some (.slice y1 t.length y2) := (hw6.cell (p := ⟨bq, oq, none⟩) hbq).trans CQ.out; clear hb6)
        | (go_at_call 13; refine (refbytes_any _ _ t s w6 (HBQ.out.below hw6) HX6.out (by omega)).mono ?_; rintro e w7 ⟨rfl, hb7⟩; rw [HE.out]; have hw7 := hw6.trans (hb7.mono hw6.size); have HH7 := Lib.hid (HH6.out.below hb7); have HX7 := Lib.hid (HX6.out.below hb7); have HG7 := Lib.hid (HG6.out.below hb7); clear hb7)
        | fail)
      go_ret
      exact ⟨rfl, hw7⟩
    · have HE := Lib.hid (show (t == s) = false by simpa using hts)
      by_cases hr : R1 = R2
      · have HZ := Lib.hid (show extractB [t] [s] = some (0 :: t, 0 :: s) by rw [hzz, if_neg hts, if_pos (by rw [← hR1, ← hR2]; exact hr)])
        have HC := Lib.hid (extract_clash [t] [s] _ _ HZ.out).1
        clear hzz hts hr hR1 hR2
        go_enter Tryd.func8, Tryd.ntmps8
        go_wp2_with (first
          | (go_at_call 9; refine (alive7_any w HG.out).mono ?_; rintro e w1 ⟨rfl, hb1⟩; have hw1 := hb1;  have HA1 := Lib.hid (HA.out.below hb1); have HX1 := Lib.hid (HX.out.below hb1); have HG1 := Lib.hid (HG.out.below hb1); clear hb1)
          | (go_at_call 10; have HQ := HA1; clear HA1; refine (great7_any _ a xs w1 HQ.out HMA.out hna).mono ?_; rintro e w2 ⟨rfl, hb2⟩; rw [GA.out]; have hw2 := hw1.trans (hb2.mono hw1.size); have HA2 := Lib.hid (HQ.out.below hb2); have HX2 := Lib.hid (HX1.out.below hb2); have HG2 := Lib.hid (HG1.out.below hb2); clear hb2)
          | (at_builtin; have HQ := HA2; clear HA2; refine wpList_app_lit rfl (.tmp 26) (.tmp 27) 22 rfl w2.heap.size 23 i0 (.slice none 0 0) 1 24 Tryd.underlying22 hi hz0 hz1 hz2 rfl (by decide) w2.heap.size rfl (by exact own_empty w2 _ rfl) _ a.length xs rfl (by exact (HQ.out.below ((Below.refl _ _).alloc (Nat.le_refl _) _)).sl) (by unfold maxLen; omega) (by omega) (by simp) ?_; intro v3 w3 ho3 hb3; have hb3 := (((Below.refl w2.heap.size w2).alloc (Nat.le_refl _) (.cells #[] 23)).trans (hb3.mono (by simp))); have hw3 := hw2.trans (hb3.mono hw2.size); have HO3 := Lib.hid ho3; have HA3 := Lib.hid (HQ.out.below hb3); have hs3 := hb3.size; have HX3 := Lib.hid (HX2.out.below hb3); have HG3 := Lib.hid (HG2.out.below hb3); clear hb3 ho3)
          | (at_builtin; refine wpList_app rfl (.tmp 28) (.tmp 30) 22 rfl w2.heap.size 23 i0 (.slice none 0 0) 1 24 Tryd.underlying22 hi hz0 hz1 hz2 rfl (by decide) _ a.length xs rfl (by exact ownsRow_below HO3.out ((Below.refl _ _).alloc (Nat.le_refl _) _) (ownsRow_block HO3.out)) _ 1 [.slice xa s.length ca] rfl (by exact isSl_new w3 [.slice xa s.length ca] _ 1 1 rfl (by simp [Value.oneCell'])) (by unfold maxLen; omega) (by omega) (by simp; omega) ?_; intro a4 c4 w4 ho4 hg4 _; have hb4 := ((Below.refl w2.heap.size w2).trans ((Below.refl w2.heap.size w2))); have hw4 : Below w.heap.size w w4 := ((hw3.alloc hw3.size (.cells #[.slice xa s.length ca] 23)).grown hg4 (by simp; have := hw3.size; omega) (fun k hk => Nat.le_trans hw2.size (HO3.out.lt k hk).1)); have hp4 := parts_more ho4 rfl (HA.out.below hw4) (HX.out.below hw4); have HP4 := Lib.hid hp4; have HA4 := Lib.hid (HA.out.below hw4); have HX4 := Lib.hid (HX.out.below hw4); have HG4 := Lib.hid (HG.out.below hw4); clear hb4 ho4 hg4 hp4)
          | (go_at_call 11; have HQ := HP4; clear HP4; refine (extract_any _ _ a (a ++ [s]) xs _ w4 HA4.out HQ.out (by omega) (by simp; omega) HTA.out HTM.out HG4.out).mono ?_; rintro e w5 ⟨h5, hb5⟩; rw [extract_more] at h5; obtain ⟨e1, e2, e3, e4, rfl⟩ := extR_get h5; have hw5 := hw4.trans (hb5.mono hw4.size); have HA5 := Lib.hid (HA4.out.below hb5); have HX5 := Lib.hid (HX4.out.below hb5); have HG5 := Lib.hid (HG4.out.below hb5); have HH5 := Lib.hid (HP1.out.below hw5); clear hb5)
          | (go_at_call 11; refine (extract_any _ _ [t] [s] _ _ _ (HH5.out.below (alloc_below w5 _)) (Texts.parts (.cons HX5.out .nil) 23 (n := 1) rfl) (by simp) (by simp) HTT.out HTS.out (HG5.out.below (alloc_below w5 _))).mono ?_; rintro e w6 ⟨h6, hb6⟩; rw [HZ.out] at h6; obtain ⟨v1, v2, rfl, k1, k2⟩ := h6; rw [show (some (0 :: t, 0 :: s)).isSome = true from rfl]; have k1' : Bytes w6 v1 (0 :: t) := k1; have k2' : Bytes w6 v2 (0 :: s) := k2; clear k1 k2; obtain ⟨f1, f2, rfl, _⟩ := k1'.form; obtain ⟨f3, f4, rfl, _⟩ := k2'.form; have K1 := Lib.hid k1'; have K2 := Lib.hid k2'; clear k1' k2'; have hb6 := (alloc_below w5 (.cells [Value.slice xa s.length ca].toArray 23)).trans (hb6.mono (by simp)); have hw6 := hw5.trans (hb6.mono hw5.size); have HA6 := Lib.hid (HA5.out.below hb6); have HX6 := Lib.hid (HX5.out.below hb6); have HG6 := Lib.hid (HG5.out.below hb6); have HH6 := Lib.hid (HH5.out.below hb6); have c6 : w6.cell? ⟨bq, oq, none⟩ = some (.slice y1 t.length y2) := (hw6.cell (p := ⟨bq, oq, none⟩) hbq).trans CQ.out; clear hb6)
          | (go_at_call 16; refine (cis_any _ _ (0 :: t) (0 :: s) w6 K1.out K2.out (by simp; omega) (by simp; omega) HG6.out).mono ?_; rintro e w7 ⟨rfl, hb7⟩; rw [HC.out]; have hw7 := hw6.trans (hb7.mono hw6.size); clear hb7)
          | fail)
        go_ret
        exact ⟨rfl, hw7⟩
      · have HZ := Lib.hid (show extractB [t] [s] = none by rw [hzz, if_neg hts, if_neg (by rw [← hR1, ← hR2]; exact hr)])
        have heq := fun w => ne_hash w R1 R2 hr
        clear hzz hts hr hR1 hR2
        go_enter Tryd.func8, Tryd.ntmps8
        go_wp2_with (first
          | (go_at_call 9; refine (alive7_any w HG.out).mono ?_; rintro e w1 ⟨rfl, hb1⟩; have hw1 := hb1;  have HA1 := Lib.hid (HA.out.below hb1); have HX1 := Lib.hid (HX.out.below hb1); have HG1 := Lib.hid (HG.out.below hb1); clear hb1)
          | (go_at_call 10; have HQ := HA1; clear HA1; refine (great7_any _ a xs w1 HQ.out HMA.out hna).mono ?_; rintro e w2 ⟨rfl, hb2⟩; rw [GA.out]; have hw2 := hw1.trans (hb2.mono hw1.size); have HA2 := Lib.hid (HQ.out.below hb2); have HX2 := Lib.hid (HX1.out.below hb2); have HG2 := Lib.hid (HG1.out.below hb2); clear hb2)
          | (at_builtin; have HQ := HA2; clear HA2; refine wpList_app_lit rfl (.tmp 26) (.tmp 27) 22 rfl w2.heap.size 23 i0 (.slice none 0 0) 1 24 Tryd.underlying22 hi hz0 hz1 hz2 rfl (by decide) w2.heap.size rfl (by exact own_empty w2 _ rfl) _ a.length xs rfl (by exact (HQ.out.below ((Below.refl _ _).alloc (Nat.le_refl _) _)).sl) (by unfold maxLen; omega) (by omega) (by simp) ?_; intro v3 w3 ho3 hb3; have hb3 := (((Below.refl w2.heap.size w2).alloc (Nat.le_refl _) (.cells #[] 23)).trans (hb3.mono (by simp))); have hw3 := hw2.trans (hb3.mono hw2.size); have HO3 := Lib.hid ho3; have HA3 := Lib.hid (HQ.out.below hb3); have hs3 := hb3.size; have HX3 := Lib.hid (HX2.out.below hb3); have HG3 := Lib.hid (HG2.out.below hb3); clear hb3 ho3)
          | (at_builtin; refine wpList_app rfl (.tmp 28) (.tmp 30) 22 rfl w2.heap.size 23 i0 (.slice none 0 0) 1 24 Tryd.underlying22 hi hz0 hz1 hz2 rfl (by decide) _ a.length xs rfl (by exact ownsRow_below HO3.out ((Below.refl _ _).alloc (Nat.le_refl _) _) (ownsRow_block HO3.out)) _ 1 [.slice xa s.length ca] rfl (by exact isSl_new w3 [.slice xa s.length ca] _ 1 1 rfl (by simp [Value.oneCell'])) (by unfold maxLen; omega) (by omega) (by simp; omega) ?_; intro a4 c4 w4 ho4 hg4 _; have hb4 := ((Below.refl w2.heap.size w2).trans ((Below.refl w2.heap.size w2))); have hw4 : Below w.heap.size w w4 := ((hw3.alloc hw3.size (.cells #[.slice xa s.length ca] 23)).grown hg4 (by simp; have := hw3.size; omega) (fun k hk => Nat.le_trans hw2.size (HO3.out.lt k hk).1)); have hp4 := parts_more ho4 rfl (HA.out.below hw4) (HX.out.below hw4); have HP4 := Lib.hid hp4; have HA4 := Lib.hid (HA.out.below hw4); have HX4 := Lib.hid (HX.out.below hw4); have HG4 := Lib.hid (HG.out.below hw4); clear hb4 ho4 hg4 hp4)
          | (go_at_call 11; have HQ := HP4; clear HP4; refine (extract_any _ _ a (a ++ [s]) xs _ w4 HA4.out HQ.out (by omega) (by simp; omega) HTA.out HTM.out HG4.out).mono ?_; rintro e w5 ⟨h5, hb5⟩; rw [extract_more] at h5; obtain ⟨e1, e2, e3, e4, rfl⟩ := extR_get h5; have hw5 := hw4.trans (hb5.mono hw4.size); have HA5 := Lib.hid (HA4.out.below hb5); have HX5 := Lib.hid (HX4.out.below hb5); have HG5 := Lib.hid (HG4.out.below hb5); have HH5 := Lib.hid (HP1.out.below hw5); clear hb5)
          | (go_at_call 11; refine (extract_any _ _ [t] [s] _ _ _ (HH5.out.below (alloc_below w5 _)) (Texts.parts (.cons HX5.out .nil) 23 (n := 1) rfl) (by simp) (by simp) HTT.out HTS.out (HG5.out.below (alloc_below w5 _))).mono ?_; rintro e w6 ⟨h6, hb6⟩; rw [HZ.out] at h6; obtain ⟨f1, f2, f3, f4, rfl⟩ := extR_get h6; have hb6 := (alloc_below w5 (.cells [Value.slice xa s.length ca].toArray 23)).trans (hb6.mono (by simp)); have hw6 := hw5.trans (hb6.mono hw5.size); have HA6 := Lib.hid (HA5.out.below hb6); have HX6 := Lib.hid (HX5.out.below hb6); have HG6 := Lib.hid (HG5.out.below hb6); have HH6 := Lib.hid (HH5.out.below hb6); have c6 : w6.cell? ⟨bq, oq, none⟩ = some (.slice y1 t.length y2) := (hw6.cell (p := ⟨bq, oq, none⟩) hbq).trans CQ.out; clear hb6)
          | (go_at_call 13; refine (refbytes_any _ _ t s w6 (HBQ.out.below hw6) HX6.out (by omega)).mono ?_; rintro e w7 ⟨rfl, hb7⟩; rw [HE.out]; have hw7 := hw6.trans (hb7.mono hw6.size); have HH7 := Lib.hid (HH6.out.below hb7); have HX7 := Lib.hid (HX6.out.below hb7); have HG7 := Lib.hid (HG6.out.below hb7); clear hb7)
          | (go_at_call 14; have HQ := HH7; clear HH7; refine (roots_any _ [t] _ w7 HQ.out (by simp) HTT.out HG7.out).mono ?_; rintro e w8 ⟨rfl, hb8⟩; rw [← HR1.out]; unfold hv; have hw8 := hw7.trans (hb8.mono hw7.size); have HX8 := Lib.hid (HX7.out.below hb8); have HG8 := Lib.hid (HG7.out.below hb8); clear hb8)
          | (go_at_call 14; refine (roots_any _ [s] _ _ (Texts.parts (.cons HX8.out .nil) 23 (n := 1) rfl) (by simp) HTS.out (HG8.out.below (alloc_below w8 _))).mono ?_; rintro e w9 ⟨rfl, hb9⟩; rw [← HR2.out]; unfold hv; have hw9 := hw8.trans (((alloc_below w8 (.cells [Value.slice xa s.length ca].toArray 23)).trans (hb9.mono (by simp))).mono hw8.size); clear hb9)
          | fail)
        go_ret
        exact ⟨rfl, hw9⟩
end Go.Proofs.YthgkaegkkkghhaaDoor
