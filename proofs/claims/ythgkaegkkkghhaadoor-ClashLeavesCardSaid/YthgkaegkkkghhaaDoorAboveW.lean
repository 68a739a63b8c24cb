/- The walk of the reference's Above. The walk of the reference's Paths. Conditions: what each part says. -/
import Derived.Test.YthgkaegkkkghhaaDoorTextsB
import Derived.Test.YthgkaegkkkghhaaDoorClashY
import Derived.Test.YthgkaegkkkghhaaDoorRef6W
import Derived.Test.YthgkaegkkkghhaaDoorPathsW
/-! AboveA: The walk of the reference's Above. Conditions: the leaf and the path can be read, the path as long as the way down, at most 4000 hashes; the package's tables read as they are laid. -/
namespace Go.Proofs.YthgkaegkkkghhaaDoor
open Go.RowKit

set_option maxRecDepth 100000 in
set_option maxHeartbeats 1000000 in
theorem above_zero (va : Value) (leaf : List UInt8) (i n : Int) (pv : Value) (w : World) (ha : Bytes w va leaf) (la : leaf.length ≤ 1099511627776) :
    Calls Tryd.prog 42 #[va, .int .i64 i, .int .i64 n, pv, .int .i64 0] w fun e w' => (∃ v, e = .returned v ∧ Bytes w' v (0 :: leaf)) ∧ Below w.heap.size w w' := by
  obtain ⟨xa, ca, rfl, _⟩ := ha.form
  have hal : Below w.heap.size w (w.alloc (.cells (bytesV [0]).toArray 5)) := by (repeat (first | with_reducible assumption | with_reducible exact Below.refl _ _ | ((with_reducible refine Below.setCell ?_ ?_ _); rotate_left; focus (first | omega | (simp; done) | (simp; omega))) | ((with_reducible refine Below.alloc ?_ ?_ _); rotate_left; focus (first | omega | (simp; done) | (simp; omega))) | ((with_reducible refine below_setRow ?_ ?_ _); rotate_left; focus (first | omega | (simp; done) | (simp; omega))) | (with_reducible refine below_drewN ?_ _) | (with_reducible refine Below.drew ?_)))
  have HA := Lib.hid (ha.below hal)
  have HZ := Lib.hid (show Bytes (w.alloc (.cells (bytesV [0]).toArray 5)) (.slice (some ⟨w.heap.size, 0, none⟩) 1 1) [0] from bytes_alloc w [0] _ _ rfl)
  clear ha
  go_enter Tryd.func42, Tryd.ntmps42
  go_wp2_with (first
    | (at_builtin; refine wpList_full1 rfl (.tmp 17) (.tmp 18) rfl w.heap.size 0 _ leaf rfl (by exact HZ.out) rfl (by exact HA.out) (by omega) ?_; intro v6 w6 hv6 hb6; have HV6 := Lib.hid hv6; have hw6 := Lib.hid (hal.trans (hb6.mono hal.size)); clear hv6 hb6)
    | fail)
  go_ret
  exact ⟨⟨_, rfl, HV6.out⟩, hw6.out⟩
theorem sides_last {n i m : Nat} {A : List Bool} (h : sidesN n i = A.take (m + 1)) (hm : m < A.length) : 2 ≤ n ∧ (i < splitN n → sidesN (splitN n) i = A.take m ∧ A[m]? = some true) ∧ (¬ i < splitN n → sidesN (n - splitN n) (i - splitN n) = A.take m ∧ A[m]? = some false) := by
  have hl : (sidesN n i).length = m + 1 := by rw [h, List.length_take]; omega
  have h2 : 2 ≤ n := by
    rcases Nat.lt_or_ge n 2 with h' | h'
    · rw [sidesN_low n i h'] at hl; cases hl
    · exact h'
  have hA : A.take (m + 1) = A.take m ++ [A[m]] := by rw [List.take_add_one, List.getElem?_eq_getElem hm]; rfl
  refine ⟨h2, fun hi => ?_, fun hi => ?_⟩
  · rw [sidesN_left n i h2 hi, hA] at h
    obtain ⟨e1, e2⟩ := List.append_inj' h rfl
    refine ⟨e1, ?_⟩
    rw [List.getElem?_eq_getElem hm]
    simpa using e2.symm
  · rw [sidesN_right n i h2 hi, hA] at h
    obtain ⟨e1, e2⟩ := List.append_inj' h rfl
    refine ⟨e1, ?_⟩
    rw [List.getElem?_eq_getElem hm]
    simpa using e2.symm
set_option maxRecDepth 100000 in
set_option maxHeartbeats 8000000 in
theorem above_any (va : Value) (leaf : List UInt8) (i n : Nat) (pv : Value) (P : List H) (la : leaf.length ≤ 1099511627776) (hl : (sidesN n i).length = P.length) (hP : P.length ≤ 4000) (h1 : 1 ≤ n) (hn : n ≤ 1048576) (hi : i < n) :
    ∀ (k : Nat) (w : World) (T : List UInt8), Bytes w va leaf → Hs w pv P → Glob w → (textsB (0 :: leaf) ((sidesN n i).zip P))[k]? = some T →
    Calls Tryd.prog 42 #[va, .int .i64 i, .int .i64 n, pv, .int .i64 k] w fun e w' => (∃ v, e = .returned v ∧ Bytes w' v T) ∧ Below w.heap.size w w' := by
  intro k
  induction k with
  | zero =>
    intro w T ha _ _ hT
    rw [textsB_0] at hT
    cases hT
    exact above_zero va leaf i n pv w ha la
  | succ k ih =>
    intro w T ha hs hg hT
    obtain ⟨A, hA⟩ : ∃ A, A = sidesN n i := ⟨_, rfl⟩
    rw [← hA] at hl hT ih
    have hkl : k + 1 ≤ P.length := by
      have := (List.getElem?_eq_some_iff.1 hT).1
      rw [textsB_len, List.length_zip, hl, Nat.min_self] at this
      omega
    obtain ⟨t, ht⟩ : ∃ t, (textsB (0 :: leaf) (A.zip P))[k]? = some t := ⟨_, List.getElem?_eq_getElem (by have := (List.getElem?_eq_some_iff.1 hT).1; omega)⟩
    obtain ⟨o, ho⟩ : ∃ o, P[k]? = some o := ⟨_, List.getElem?_eq_getElem (by omega)⟩
    obtain ⟨s, hs'⟩ : ∃ s, A[k]? = some s := ⟨_, List.getElem?_eq_getElem (by omega)⟩
    have hstep := textsB_step (A.zip P) (0 :: leaf) k t s o ht (List.getElem?_zip_eq_some.2 ⟨hs', ho⟩)
    rw [hT] at hstep
    have hTe : T = upB s t o := Option.some.inj hstep
    have htl := textsB_le (A.zip P) 2199023255552 (by decide) (0 :: leaf) (by simp; omega) t (List.mem_of_getElem? ht)
    obtain ⟨xa, ca, rfl, _⟩ := ha.form
    obtain ⟨bp, op, cp, rfl, _, hr, hbp⟩ := hs.pos (by omega)
    have hE := Hs.elem hr ho
    have IH := Lib.hid (fun (w : World) h1 h2 h3 => ih w t h1 h2 h3 ht)
    have HA := Lib.hid ha
    have HS := Lib.hid hs
    have HG := Lib.hid hg
    have HE := Lib.hid hE
    have HTe := Lib.hid hTe
    have HAe := Lib.hid hA
    have HL := Lib.hid hl
    have HSs := Lib.hid hs'
    have hk0 : (((k + 1 : Nat) : Int) == 0) = false := by rw [beq_eq_false_iff_ne]; omega
    have hk1 : ((k + 1 : Nat) : Int) - 1 = k := by omega
    have hix : (0 : Int) ≤ k ∧ (k : Int) < P.length := ⟨by omega, by omega⟩
    obtain ⟨h, hh⟩ : ∃ h, h = Hof t := ⟨_, rfl⟩
    have HH := Lib.hid (show sumN t = h.b by rw [hh]; rfl)
    clear ih ha hs hg hT ht ho hs' hstep hTe hr hE hA hl hh
    go_enter Tryd.func42, Tryd.ntmps42
    go_wp2_with (first
      | (go_at_call 42; refine (IH.out w HA.out HS.out HG.out).mono ?_; rintro e w1 ⟨⟨v1, rfl, hv1⟩, hb1⟩; have HV1 := Lib.hid hv1; have HG1 := Lib.hid (HG.out.below hb1); have hw1 := Lib.hid hb1; clear hv1 hb1)
      | (go_at_call 39; refine (refsum_any _ t w1 HV1.out (by omega) HG1.out).mono ?_; rintro e w2 ⟨rfl, hb2⟩; rw [HH.out]; have hw2 := hw1.out.trans (hb2.mono hw1.out.size); have hs2 := hw2.size; have HE2 := Lib.hid (range_below HE.out hw2); clear hb2)
      | (refine wpList_store_row rfl 30 (.tmp 11) (.tmp 27) rfl w2.heap.size (bytesV h.b).toArray rfl rfl 30 z32.toArray (by exact Blk.newL w2 z32 _) (by exact hv_row _) (by exact z32_old _) (by exact hv_one _) ?_; obtain ⟨w3, hw3⟩ : ∃ w3, w3 = (w2.alloc (.cells #[.int .u8 0, .int .u8 0, .int .u8 0, .int .u8 0, .int .u8 0, .int .u8 0, .int .u8 0, .int .u8 0, .int .u8 0, .int .u8 0, .int .u8 0, .int .u8 0, .int .u8 0, .int .u8 0, .int .u8 0, .int .u8 0, .int .u8 0, .int .u8 0, .int .u8 0, .int .u8 0, .int .u8 0, .int .u8 0, .int .u8 0, .int .u8 0, .int .u8 0, .int .u8 0, .int .u8 0, .int .u8 0, .int .u8 0, .int .u8 0, .int .u8 0, .int .u8 0] 30)).setRow w2.heap.size (bytesV h.b).toArray := ⟨_, rfl⟩; rw [← hw3]; have hb3 : Below w2.heap.size w2 w3 := (by rw [hw3]; exact below_setRow ((Below.refl _ _).alloc (Nat.le_refl _) _) (Nat.le_refl _) _); have hh3 : Blk w3 w2.heap.size (bytesV h.b) 30 := (by rw [hw3]; exact (Blk.newL w2 z32 _).setRow _); have HH3 := Lib.hid hh3; have hw3b := hw2.trans (hb3.mono hs2); have hs3 := hw3b.size; have HE3 := Lib.hid (range_below HE2.out hb3); have hlt3 := hh3.lt; clear hb3 hh3 hw3)
      | (refine wpList_load_mid rfl 30 (.tmp 31) rfl bp (op + k * 32) rfl (bytesV o.b) _ (by exact HE3.out) Tryd.underlying30 rfl (by exact hv_info _) ?_)
      | (refine wpList_store_row rfl 30 (.tmp 12) (.tmp 32) rfl w3.heap.size (bytesV o.b).toArray rfl rfl 30 z32.toArray (by exact Blk.newL w3 z32 _) (by exact hv_row _) (by exact z32_old _) (by exact hv_one _) ?_; obtain ⟨w4, hw4⟩ : ∃ w4, w4 = (w3.alloc (.cells #[.int .u8 0, .int .u8 0, .int .u8 0, .int .u8 0, .int .u8 0, .int .u8 0, .int .u8 0, .int .u8 0, .int .u8 0, .int .u8 0, .int .u8 0, .int .u8 0, .int .u8 0, .int .u8 0, .int .u8 0, .int .u8 0, .int .u8 0, .int .u8 0, .int .u8 0, .int .u8 0, .int .u8 0, .int .u8 0, .int .u8 0, .int .u8 0, .int .u8 0, .int .u8 0, .int .u8 0, .int .u8 0, .int .u8 0, .int .u8 0, .int .u8 0, .int .u8 0] 30)).setRow w3.heap.size (bytesV o.b).toArray := ⟨_, rfl⟩; rw [← hw4]; have hb4 : Below w3.heap.size w3 w4 := (by rw [hw4]; exact below_setRow ((Below.refl _ _).alloc (Nat.le_refl _) _) (Nat.le_refl _) _); have ho4 : Blk w4 w3.heap.size (bytesV o.b) 30 := (by rw [hw4]; exact (Blk.newL w3 z32 _).setRow _); have HO4 := Lib.hid ho4; have HH4 := Lib.hid (HH3.out.below hb4 hlt3); have hw4b := hw3b.trans (hb4.mono hs3); clear hb4 ho4 hw4)
      | fail)
    have hkP : k < P.length := by omega
    clear hlt3 hw3b hs3 HG1 HV1 hw1 hw2 hs2 HE2 HE3 HH3 HG HS HA HE IH
    go_loopw [1, 2, 13] (fun iv nv sv wr => ∃ i' n' m : Nat, iv = .int .i64 i' ∧ nv = .int .i64 n' ∧ sv = .int .i64 m ∧ k + 1 ≤ m ∧ m ≤ P.length ∧ 1 ≤ n' ∧ n' ≤ n ∧ i' < n' ∧ sidesN n' i' = A.take m ∧ wr = w4) (fun _ _ sv _ => (intOf sv).toNat)
    case atStart => exact ⟨i, n, P.length, rfl, rfl, rfl, hkl, Nat.le_refl _, h1, Nat.le_refl _, hi, by rw [← HAe.out, List.take_of_length_le (by have := HL.out; omega)], rfl⟩
    case round =>
      clear h1 hi hk0 hk1 hix
      obtain ⟨i', n', m, rfl, rfl, rfl, hkm, hmP, h1, hle, hi, hsd, rfl⟩ := hrel
      obtain ⟨m', rfl⟩ : ∃ m', m = m' + 1 := ⟨m - 1, by omega⟩
      obtain ⟨h2, hL, hR⟩ := sides_last hsd (by have := HL.out; omega)
      obtain ⟨q, hq⟩ : ∃ q, q = splitN n' := ⟨_, rfl⟩
      have hlt := splitN_lt n' h2
      have hpos := splitN_pos n' h2
      rw [← hq] at hlt hpos hL hR
      have HQ := Lib.hid hq
      have HLt := Lib.hid hL
      have HRt := Lib.hid hR
      clear hq hL hR hsd
      by_cases hgt : k < m'
      · have hgt' : ((k + 1 : Nat) : Int) < ((m' + 1 : Nat) : Int) := by omega
        by_cases hiq : i' < q
        · have hiq' : (i' : Int) < q := by omega
          go_wp2_with (first
            | (go_at_call 33; refine (refsplit_any n' _ (by omega)).mono ?_; rintro e w5 ⟨rfl, h5⟩; rw [h5, ← HQ.out]; clear h5 w5)
            | fail)
          exact ⟨⟨i', q, m', by go_num, by go_num, by go_num, by omega, by omega, by omega, by omega, by omega, (HLt.out hiq).1, by trivial⟩, by simp [intOf]⟩
        · have hiq' : ¬ (i' : Int) < q := by omega
          go_wp2_with (first
            | (go_at_call 33; refine (refsplit_any n' _ (by omega)).mono ?_; rintro e w5 ⟨rfl, h5⟩; rw [h5, ← HQ.out]; clear h5 w5)
            | fail)
          exact ⟨⟨i' - q, n' - q, m', by go_num, by go_num, by go_num, by omega, by omega, by omega, by omega, by omega, (HRt.out hiq).1, by trivial⟩, by simp [intOf]⟩
      · have hgt' : ¬ ((k + 1 : Nat) : Int) < ((m' + 1 : Nat) : Int) := by omega
        have hmk : m' = k := by omega
        subst hmk
        by_cases hiq : i' < q
        · have hiq' : (i' : Int) < q := by omega
          have hst : s = true := Option.some.inj (HSs.out.symm.trans (HLt.out hiq).2)
          have HTT := Lib.hid (show T = 1 :: (h.b ++ o.b) by rw [HTe.out, hst, ← HH.out]; rfl)
          clear hst
          go_wp2_with (first
            | (go_at_call 33; refine (refsplit_any n' _ (by omega)).mono ?_; rintro e w5 ⟨rfl, h5⟩; rw [h5, ← HQ.out]; clear h5 w5)
            | (refine wpList_load_row rfl 30 (.tmp 11) rfl w2.heap.size rfl 30 (bytesV h.b).toArray (0, 0) _ (by exact HH4.out) Tryd.underlying30 rfl (by exact hv_row _) ?_)
            | (refine wpList_load_row rfl 30 (.tmp 12) rfl w3.heap.size rfl 30 (bytesV o.b).toArray (0, 0) _ (by exact HO4.out) Tryd.underlying30 rfl (by exact hv_row _) ?_)
            | (go_at_call 34; refine (pair_any h o _).mono ?_; rintro e w5 ⟨⟨v5, rfl, hv5⟩, hb5⟩; have HV5 := Lib.hid hv5; have hw5 := Lib.hid (hw4b.trans (hb5.mono hw4b.size)); clear hv5 hb5)
            | fail)
          go_ret
          exact ⟨⟨_, rfl, by rw [HTT.out]; exact HV5.out⟩, hw5.out⟩
        · have hiq' : ¬ (i' : Int) < q := by omega
          have hst : s = false := Option.some.inj (HSs.out.symm.trans (HRt.out hiq).2)
          have HTT := Lib.hid (show T = 1 :: (o.b ++ h.b) by rw [HTe.out, hst, ← HH.out]; rfl)
          clear hst
          go_wp2_with (first
            | (go_at_call 33; refine (refsplit_any n' _ (by omega)).mono ?_; rintro e w5 ⟨rfl, h5⟩; rw [h5, ← HQ.out]; clear h5 w5)
            | (refine wpList_load_row rfl 30 (.tmp 11) rfl w2.heap.size rfl 30 (bytesV h.b).toArray (0, 0) _ (by exact HH4.out) Tryd.underlying30 rfl (by exact hv_row _) ?_)
            | (refine wpList_load_row rfl 30 (.tmp 12) rfl w3.heap.size rfl 30 (bytesV o.b).toArray (0, 0) _ (by exact HO4.out) Tryd.underlying30 rfl (by exact hv_row _) ?_)
            | (go_at_call 34; refine (pair_any o h _).mono ?_; rintro e w5 ⟨⟨v5, rfl, hv5⟩, hb5⟩; have HV5 := Lib.hid hv5; have hw5 := Lib.hid (hw4b.trans (hb5.mono hw4b.size)); clear hv5 hb5)
            | fail)
          go_ret
          exact ⟨⟨_, rfl, by rw [HTT.out]; exact HV5.out⟩, hw5.out⟩
end Go.Proofs.YthgkaegkkkghhaaDoor

/-! AboveB: The walk of the reference's Paths. Conditions: the leaves and the paths can be read, at most 2^38 bytes, 4000 hashes; the package's tables read as they are laid. -/
namespace Go.Proofs.YthgkaegkkkghhaaDoor
open Go.RowKit

set_option maxRecDepth 100000 in
set_option maxHeartbeats 4000000 in
theorem refpaths_none (va vb : Value) (leaf other : List UInt8) (i n : Int) (pv qv : Value) (P Q : List H) (w : World) (ha : Bytes w va leaf) (hb : Bytes w vb other) (la : leaf.length ≤ 274877906944) (lb : other.length ≤ 274877906944) (hp : Hs w pv P) (hq : Hs w qv Q) (lp : P.length ≤ 4000) (lq : Q.length ≤ 4000) (hg : Glob w)
    (hc : ¬ (comesR (lfH leaf) i n P ≠ none ∧ comesR (lfH other) i n Q ≠ none ∧ comesR (lfH leaf) i n P = comesR (lfH other) i n Q)) :
    Calls Tryd.prog 19 #[va, vb, .int .i64 i, .int .i64 n, pv, qv] w fun e w' => ExtR none e w' ∧ Below w.heap.size w w' := by
  obtain ⟨RA, hRA⟩ : ∃ R, R = comesR (lfH leaf) i n P := ⟨_, rfl⟩
  obtain ⟨RB, hRB⟩ : ∃ R, R = comesR (lfH other) i n Q := ⟨_, rfl⟩
  rw [← hRA, ← hRB] at hc
  obtain ⟨xa, ca, rfl, _⟩ := ha.form
  obtain ⟨xb, cb, rfl, _⟩ := hb.form
  have HA := Lib.hid ha
  have HB := Lib.hid hb
  have HP := Lib.hid hp
  have HQ := Lib.hid hq
  have HG := Lib.hid hg
  have HRA := Lib.hid hRA
  have HRB := Lib.hid hRB
  obtain ⟨A, hA⟩ : ∃ A, A = RA.getD z0H := ⟨_, rfl⟩
  obtain ⟨B, hB⟩ : ∃ B, B = RB.getD z0H := ⟨_, rfl⟩
  obtain ⟨sA, hsA⟩ : ∃ s, s = RA.isSome := ⟨_, rfl⟩
  obtain ⟨sB, hsB⟩ : ∃ s, s = RB.isSome := ⟨_, rfl⟩
  have HsA := Lib.hid (hsA.trans (by rw [hRA]) : sA = (comesR (lfH leaf) i n P).isSome)
  have HsB := Lib.hid (hsB.trans (by rw [hRB]) : sB = (comesR (lfH other) i n Q).isSome)
  have HvA := Lib.hid (hA.trans (by rw [hRA]) : A = (comesR (lfH leaf) i n P).getD z0H)
  have HvB := Lib.hid (hB.trans (by rw [hRB]) : B = (comesR (lfH other) i n Q).getD z0H)
  have hcase : sA = false ∨ (sA = true ∧ sB = false) ∨ (sA = true ∧ sB = true ∧ A ≠ B) := by
    cases RA with
    | none => exact .inl hsA
    | some a =>
      cases RB with
      | none => exact .inr (.inl ⟨hsA, hsB⟩)
      | some b =>
        refine .inr (.inr ⟨hsA, hsB, fun e => hc ⟨by simp, by simp, ?_⟩⟩)
        rw [hA, hB] at e
        exact congrArg some e
  clear ha hb hp hq hg hRA hRB hA hB hsA hsB hc HRA HRB
  rcases hcase with h1 | ⟨h1, h2⟩ | ⟨h1, h2, h3⟩
  · subst h1
    go_enter Tryd.func19, Tryd.ntmps19
    go_wp2_with (first
      | (go_at_call 36; have HX := HA; clear HA; refine (refleaf_any _ leaf w HX.out (by omega) HG.out).mono ?_; rintro e w1 ⟨rfl, hb1⟩; have hw1 := hb1; have HB1 := Lib.hid (HB.out.below hb1); have HP1 := Lib.hid (HP.out.below hb1); have HQ1 := Lib.hid (HQ.out.below hb1); have HG1 := Lib.hid (HG.out.below hb1); clear hb1)
      | (go_at_call 41; have HX := HP1; clear HP1; refine (refcomes_any w1 (lfH leaf) i n _ P HX.out (by omega) HG1.out).mono ?_; rintro e w2 ⟨rfl, hb2⟩; rw [← HvA.out, ← HsA.out]; unfold hv; have hw2 := hw1.trans (hb2.mono hw1.size); have hs2 := hw2.size; have HB2 := Lib.hid (HB1.out.below hb2); have HQ2 := Lib.hid (HQ1.out.below hb2); have HG2 := Lib.hid (HG1.out.below hb2); clear hb2)
      | (refine wpList_store_row rfl 30 (.tmp 15) (.tmp 29) rfl w2.heap.size (bytesV A.b).toArray rfl rfl 30 z32.toArray (by exact Blk.newL w2 z32 _) (by exact hv_row _) (by exact z32_old _) (by exact hv_one _) ?_; obtain ⟨w3, hw3⟩ : ∃ w3, w3 = (w2.alloc (.cells #[.int .u8 0, .int .u8 0, .int .u8 0, .int .u8 0, .int .u8 0, .int .u8 0, .int .u8 0, .int .u8 0, .int .u8 0, .int .u8 0, .int .u8 0, .int .u8 0, .int .u8 0, .int .u8 0, .int .u8 0, .int .u8 0, .int .u8 0, .int .u8 0, .int .u8 0, .int .u8 0, .int .u8 0, .int .u8 0, .int .u8 0, .int .u8 0, .int .u8 0, .int .u8 0, .int .u8 0, .int .u8 0, .int .u8 0, .int .u8 0, .int .u8 0, .int .u8 0] 30)).setRow w2.heap.size (bytesV A.b).toArray := ⟨_, rfl⟩; rw [← hw3]; have hb3 : Below w2.heap.size w2 w3 := (by rw [hw3]; exact below_setRow ((Below.refl _ _).alloc (Nat.le_refl _) _) (Nat.le_refl _) _); have hA3 : Blk w3 w2.heap.size (bytesV A.b) 30 := (by rw [hw3]; exact (Blk.newL w2 z32 _).setRow _); have HA3 := Lib.hid hA3; have hw3b := hw2.trans (hb3.mono hs2); have HB3 := Lib.hid (HB2.out.below hb3); have HQ3 := Lib.hid (HQ2.out.below hb3); have HG3 := Lib.hid (HG2.out.below hb3); clear hb3 hA3 hw3 hw1 hw2)
      | (go_at_call 36; refine (refleaf_any _ other w3 HB3.out (by omega) HG3.out).mono ?_; rintro e w4 ⟨rfl, hb4⟩; have hw4 := hw3b.trans (hb4.mono hw3b.size); have HA4 := Lib.hid (HA3.out.below hb4 HA3.out.lt); have HQ4 := Lib.hid (HQ3.out.below hb4); have HG4 := Lib.hid (HG3.out.below hb4); clear hb4)
      | (go_at_call 41; refine (refcomes_any w4 (lfH other) i n _ Q HQ4.out (by omega) HG4.out).mono ?_; rintro e w5 ⟨rfl, hb5⟩; rw [← HvB.out, ← HsB.out]; unfold hv; have hw5 := hw4.trans (hb5.mono hw4.size); have hs5 := hw5.size; have HA5 := Lib.hid (HA4.out.below hb5 HA4.out.lt); clear hb5)
      | (refine wpList_store_row rfl 30 (.tmp 17) (.tmp 38) rfl w5.heap.size (bytesV B.b).toArray rfl rfl 30 z32.toArray (by exact Blk.newL w5 z32 _) (by exact hv_row _) (by exact z32_old _) (by exact hv_one _) ?_; obtain ⟨w6, hw6⟩ : ∃ w6, w6 = (w5.alloc (.cells #[.int .u8 0, .int .u8 0, .int .u8 0, .int .u8 0, .int .u8 0, .int .u8 0, .int .u8 0, .int .u8 0, .int .u8 0, .int .u8 0, .int .u8 0, .int .u8 0, .int .u8 0, .int .u8 0, .int .u8 0, .int .u8 0, .int .u8 0, .int .u8 0, .int .u8 0, .int .u8 0, .int .u8 0, .int .u8 0, .int .u8 0, .int .u8 0, .int .u8 0, .int .u8 0, .int .u8 0, .int .u8 0, .int .u8 0, .int .u8 0, .int .u8 0, .int .u8 0] 30)).setRow w5.heap.size (bytesV B.b).toArray := ⟨_, rfl⟩; rw [← hw6]; have hb6 : Below w5.heap.size w5 w6 := (by rw [hw6]; exact below_setRow ((Below.refl _ _).alloc (Nat.le_refl _) _) (Nat.le_refl _) _); have hB6 : Blk w6 w5.heap.size (bytesV B.b) 30 := (by rw [hw6]; exact (Blk.newL w5 z32 _).setRow _); have HA6 := Lib.hid (HA5.out.below hb6 HA5.out.lt); have HB6 := Lib.hid hB6; have hw6b := hw5.trans (hb6.mono hs5); clear hb6 hB6 hw6)
      | (refine wpList_load_rowIf rfl 30 (.tmp 15) rfl w2.heap.size rfl 30 (bytesV A.b).toArray (0, 0) _ (by exact HA6.out) Tryd.underlying30 rfl (by exact hv_row _) ?_)
      | (refine wpList_load_rowIf rfl 30 (.tmp 17) rfl w5.heap.size rfl 30 (bytesV B.b).toArray (0, 0) _ (by exact HB6.out) Tryd.underlying30 rfl (by exact hv_row _) ?_)
      | fail)
    go_ret3
    exact ⟨extR_none _, hw6b⟩
  · subst h1
    subst h2
    go_enter Tryd.func19, Tryd.ntmps19
    go_wp2_with (first
      | (go_at_call 36; have HX := HA; clear HA; refine (refleaf_any _ leaf w HX.out (by omega) HG.out).mono ?_; rintro e w1 ⟨rfl, hb1⟩; have hw1 := hb1; have HB1 := Lib.hid (HB.out.below hb1); have HP1 := Lib.hid (HP.out.below hb1); have HQ1 := Lib.hid (HQ.out.below hb1); have HG1 := Lib.hid (HG.out.below hb1); clear hb1)
      | (go_at_call 41; have HX := HP1; clear HP1; refine (refcomes_any w1 (lfH leaf) i n _ P HX.out (by omega) HG1.out).mono ?_; rintro e w2 ⟨rfl, hb2⟩; rw [← HvA.out, ← HsA.out]; unfold hv; have hw2 := hw1.trans (hb2.mono hw1.size); have hs2 := hw2.size; have HB2 := Lib.hid (HB1.out.below hb2); have HQ2 := Lib.hid (HQ1.out.below hb2); have HG2 := Lib.hid (HG1.out.below hb2); clear hb2)
      | (refine wpList_store_row rfl 30 (.tmp 15) (.tmp 29) rfl w2.heap.size (bytesV A.b).toArray rfl rfl 30 z32.toArray (by exact Blk.newL w2 z32 _) (by exact hv_row _) (by exact z32_old _) (by exact hv_one _) ?_; obtain ⟨w3, hw3⟩ : ∃ w3, w3 = (w2.alloc (.cells #[.int .u8 0, .int .u8 0, .int .u8 0, .int .u8 0, .int .u8 0, .int .u8 0, .int .u8 0, .int .u8 0, .int .u8 0, .int .u8 0, .int .u8 0, .int .u8 0, .int .u8 0, .int .u8 0, .int .u8 0, .int .u8 0, .int .u8 0, .int .u8 0, .int .u8 0, .int .u8 0, .int .u8 0, .int .u8 0, .int .u8 0, .int .u8 0, .int .u8 0, .int .u8 0, .int .u8 0, .int .u8 0, .int .u8 0, .int .u8 0, .int .u8 0, .int .u8 0] 30)).setRow w2.heap.size (bytesV A.b).toArray := ⟨_, rfl⟩; rw [← hw3]; have hb3 : Below w2.heap.size w2 w3 := (by rw [hw3]; exact below_setRow ((Below.refl _ _).alloc (Nat.le_refl _) _) (Nat.le_refl _) _); have hA3 : Blk w3 w2.heap.size (bytesV A.b) 30 := (by rw [hw3]; exact (Blk.newL w2 z32 _).setRow _); have HA3 := Lib.hid hA3; have hw3b := hw2.trans (hb3.mono hs2); have HB3 := Lib.hid (HB2.out.below hb3); have HQ3 := Lib.hid (HQ2.out.below hb3); have HG3 := Lib.hid (HG2.out.below hb3); clear hb3 hA3 hw3 hw1 hw2)
      | (go_at_call 36; refine (refleaf_any _ other w3 HB3.out (by omega) HG3.out).mono ?_; rintro e w4 ⟨rfl, hb4⟩; have hw4 := hw3b.trans (hb4.mono hw3b.size); have HA4 := Lib.hid (HA3.out.below hb4 HA3.out.lt); have HQ4 := Lib.hid (HQ3.out.below hb4); have HG4 := Lib.hid (HG3.out.below hb4); clear hb4)
      | (go_at_call 41; refine (refcomes_any w4 (lfH other) i n _ Q HQ4.out (by omega) HG4.out).mono ?_; rintro e w5 ⟨rfl, hb5⟩; rw [← HvB.out, ← HsB.out]; unfold hv; have hw5 := hw4.trans (hb5.mono hw4.size); have hs5 := hw5.size; have HA5 := Lib.hid (HA4.out.below hb5 HA4.out.lt); clear hb5)
      | (refine wpList_store_row rfl 30 (.tmp 17) (.tmp 38) rfl w5.heap.size (bytesV B.b).toArray rfl rfl 30 z32.toArray (by exact Blk.newL w5 z32 _) (by exact hv_row _) (by exact z32_old _) (by exact hv_one _) ?_; obtain ⟨w6, hw6⟩ : ∃ w6, w6 = (w5.alloc (.cells #[.int .u8 0, .int .u8 0, .int .u8 0, .int .u8 0, .int .u8 0, .int .u8 0, .int .u8 0, .int .u8 0, .int .u8 0, .int .u8 0, .int .u8 0, .int .u8 0, .int .u8 0, .int .u8 0, .int .u8 0, .int .u8 0, .int .u8 0, .int .u8 0, .int .u8 0, .int .u8 0, .int .u8 0, .int .u8 0, .int .u8 0, .int .u8 0, .int .u8 0, .int .u8 0, .int .u8 0, .int .u8 0, .int .u8 0, .int .u8 0, .int .u8 0, .int .u8 0] 30)).setRow w5.heap.size (bytesV B.b).toArray := ⟨_, rfl⟩; rw [← hw6]; have hb6 : Below w5.heap.size w5 w6 := (by rw [hw6]; exact below_setRow ((Below.refl _ _).alloc (Nat.le_refl _) _) (Nat.le_refl _) _); have hB6 : Blk w6 w5.heap.size (bytesV B.b) 30 := (by rw [hw6]; exact (Blk.newL w5 z32 _).setRow _); have HA6 := Lib.hid (HA5.out.below hb6 HA5.out.lt); have HB6 := Lib.hid hB6; have hw6b := hw5.trans (hb6.mono hs5); clear hb6 hB6 hw6)
      | (refine wpList_load_rowIf rfl 30 (.tmp 15) rfl w2.heap.size rfl 30 (bytesV A.b).toArray (0, 0) _ (by exact HA6.out) Tryd.underlying30 rfl (by exact hv_row _) ?_)
      | (refine wpList_load_rowIf rfl 30 (.tmp 17) rfl w5.heap.size rfl 30 (bytesV B.b).toArray (0, 0) _ (by exact HB6.out) Tryd.underlying30 rfl (by exact hv_row _) ?_)
      | fail)
    go_ret3
    exact ⟨extR_none _, hw6b⟩
  · subst h1
    subst h2
    have heq := fun w => ne_hash w A B h3
    clear h3
    go_enter Tryd.func19, Tryd.ntmps19
    go_wp2_with (first
      | (go_at_call 36; have HX := HA; clear HA; refine (refleaf_any _ leaf w HX.out (by omega) HG.out).mono ?_; rintro e w1 ⟨rfl, hb1⟩; have hw1 := hb1; have HB1 := Lib.hid (HB.out.below hb1); have HP1 := Lib.hid (HP.out.below hb1); have HQ1 := Lib.hid (HQ.out.below hb1); have HG1 := Lib.hid (HG.out.below hb1); clear hb1)
      | (go_at_call 41; have HX := HP1; clear HP1; refine (refcomes_any w1 (lfH leaf) i n _ P HX.out (by omega) HG1.out).mono ?_; rintro e w2 ⟨rfl, hb2⟩; rw [← HvA.out, ← HsA.out]; unfold hv; have hw2 := hw1.trans (hb2.mono hw1.size); have hs2 := hw2.size; have HB2 := Lib.hid (HB1.out.below hb2); have HQ2 := Lib.hid (HQ1.out.below hb2); have HG2 := Lib.hid (HG1.out.below hb2); clear hb2)
      | (refine wpList_store_row rfl 30 (.tmp 15) (.tmp 29) rfl w2.heap.size (bytesV A.b).toArray rfl rfl 30 z32.toArray (by exact Blk.newL w2 z32 _) (by exact hv_row _) (by exact z32_old _) (by exact hv_one _) ?_; obtain ⟨w3, hw3⟩ : ∃ w3, w3 = (w2.alloc (.cells #[.int .u8 0, .int .u8 0, .int .u8 0, .int .u8 0, .int .u8 0, .int .u8 0, .int .u8 0, .int .u8 0, .int .u8 0, .int .u8 0, .int .u8 0, .int .u8 0, .int .u8 0, .int .u8 0, .int .u8 0, .int .u8 0, .int .u8 0, .int .u8 0, .int .u8 0, .int .u8 0, .int .u8 0, .int .u8 0, .int .u8 0, .int .u8 0, .int .u8 0, .int .u8 0, .int .u8 0, .int .u8 0, .int .u8 0, .int .u8 0, .int .u8 0, .int .u8 0] 30)).setRow w2.heap.size (bytesV A.b).toArray := ⟨_, rfl⟩; rw [← hw3]; have hb3 : Below w2.heap.size w2 w3 := (by rw [hw3]; exact below_setRow ((Below.refl _ _).alloc (Nat.le_refl _) _) (Nat.le_refl _) _); have hA3 : Blk w3 w2.heap.size (bytesV A.b) 30 := (by rw [hw3]; exact (Blk.newL w2 z32 _).setRow _); have HA3 := Lib.hid hA3; have hw3b := hw2.trans (hb3.mono hs2); have HB3 := Lib.hid (HB2.out.below hb3); have HQ3 := Lib.hid (HQ2.out.below hb3); have HG3 := Lib.hid (HG2.out.below hb3); clear hb3 hA3 hw3 hw1 hw2)
      | (go_at_call 36; refine (refleaf_any _ other w3 HB3.out (by omega) HG3.out).mono ?_; rintro e w4 ⟨rfl, hb4⟩; have hw4 := hw3b.trans (hb4.mono hw3b.size); have HA4 := Lib.hid (HA3.out.below hb4 HA3.out.lt); have HQ4 := Lib.hid (HQ3.out.below hb4); have HG4 := Lib.hid (HG3.out.below hb4); clear hb4)
      | (go_at_call 41; refine (refcomes_any w4 (lfH other) i n _ Q HQ4.out (by omega) HG4.out).mono ?_; rintro e w5 ⟨rfl, hb5⟩; rw [← HvB.out, ← HsB.out]; unfold hv; have hw5 := hw4.trans (hb5.mono hw4.size); have hs5 := hw5.size; have HA5 := Lib.hid (HA4.out.below hb5 HA4.out.lt); clear hb5)
      | (refine wpList_store_row rfl 30 (.tmp 17) (.tmp 38) rfl w5.heap.size (bytesV B.b).toArray rfl rfl 30 z32.toArray (by exact Blk.newL w5 z32 _) (by exact hv_row _) (by exact z32_old _) (by exact hv_one _) ?_; obtain ⟨w6, hw6⟩ : ∃ w6, w6 = (w5.alloc (.cells #[.int .u8 0, .int .u8 0, .int .u8 0, .int .u8 0, .int .u8 0, .int .u8 0, .int .u8 0, .int .u8 0, .int .u8 0, .int .u8 0, .int .u8 0, .int .u8 0, .int .u8 0, .int .u8 0, .int .u8 0, .int .u8 0, .int .u8 0, .int .u8 0, .int .u8 0, .int .u8 0, .int .u8 0, .int .u8 0, .int .u8 0, .int .u8 0, .int .u8 0, .int .u8 0, .int .u8 0, .int .u8 0, .int .u8 0, .int .u8 0, .int .u8 0, .int .u8 0] 30)).setRow w5.heap.size (bytesV B.b).toArray := ⟨_, rfl⟩; rw [← hw6]; have hb6 : Below w5.heap.size w5 w6 := (by rw [hw6]; exact below_setRow ((Below.refl _ _).alloc (Nat.le_refl _) _) (Nat.le_refl _) _); have hB6 : Blk w6 w5.heap.size (bytesV B.b) 30 := (by rw [hw6]; exact (Blk.newL w5 z32 _).setRow _); have HA6 := Lib.hid (HA5.out.below hb6 HA5.out.lt); have HB6 := Lib.hid hB6; have hw6b := hw5.trans (hb6.mono hs5); clear hb6 hB6 hw6)
      | (refine wpList_load_rowIf rfl 30 (.tmp 15) rfl w2.heap.size rfl 30 (bytesV A.b).toArray (0, 0) _ (by exact HA6.out) Tryd.underlying30 rfl (by exact hv_row _) ?_)
      | (refine wpList_load_rowIf rfl 30 (.tmp 17) rfl w5.heap.size rfl 30 (bytesV B.b).toArray (0, 0) _ (by exact HB6.out) Tryd.underlying30 rfl (by exact hv_row _) ?_)
      | fail)
    go_ret3
    exact ⟨extR_none _, hw6b⟩
set_option maxRecDepth 100000 in
set_option maxHeartbeats 8000000 in
theorem refpaths_some (va vb : Value) (leaf other : List UInt8) (i n : Nat) (pv qv : Value) (P Q : List H) (w : World) (ha : Bytes w va leaf) (hb : Bytes w vb other) (la : leaf.length ≤ 274877906944) (lb : other.length ≤ 274877906944) (hp : Hs w pv P) (hq : Hs w qv Q) (lp : P.length ≤ 4000) (lq : Q.length ≤ 4000) (hg : Glob w)
    (h1 : 1 ≤ n) (hn : n ≤ 1048576) (hi : i < n) (hlP : (sidesN n i).length = P.length) (hlQ : (sidesN n i).length = Q.length) (A : H) (hcA : comesR (lfH leaf) i n P = some A) (hcB : comesR (lfH other) i n Q = some A) :
    Calls Tryd.prog 19 #[va, vb, .int .i64 i, .int .i64 n, pv, qv] w fun e w' => ExtR (firstB (pairsB leaf other i n P Q)) e w' ∧ Below w.heap.size w w' := by
  obtain ⟨xa, ca, rfl, _⟩ := ha.form
  obtain ⟨xb, cb, rfl, _⟩ := hb.form
  obtain ⟨xp, cp, rfl, _⟩ := hp.form
  obtain ⟨L, hL⟩ : ∃ L, L = P.length := ⟨_, rfl⟩
  have HL := Lib.hid hL
  rw [← hL] at hp
  rw [← hL]
  have hLb : L ≤ 4000 := by omega
  clear hL
  have HA := Lib.hid ha
  have HB := Lib.hid hb
  have HT0 := Lib.hid ha
  have HU0 := Lib.hid hb
  have HP := Lib.hid hp
  have HQ := Lib.hid hq
  have HG := Lib.hid hg
  have HvA := Lib.hid (show A = (comesR (lfH leaf) i n P).getD z0H by rw [hcA]; rfl)
  have HvB := Lib.hid (show A = (comesR (lfH other) i n Q).getD z0H by rw [hcB]; rfl)
  have HsA := Lib.hid (show true = (comesR (lfH leaf) i n P).isSome by rw [hcA]; rfl)
  have HsB := Lib.hid (show true = (comesR (lfH other) i n Q).isSome by rw [hcB]; rfl)
  have heq := fun w => is_hash w A
  obtain ⟨X, hX⟩ : ∃ X, X = (textsB (0 :: leaf) ((sidesN n i).zip P)).reverse := ⟨_, rfl⟩
  obtain ⟨Y, hY⟩ : ∃ Y, Y = (textsB (0 :: other) ((sidesN n i).zip Q)).reverse := ⟨_, rfl⟩
  obtain ⟨F, hF⟩ : ∃ F, F = X.zip Y := ⟨_, rfl⟩
  rw [show pairsB leaf other i n P Q = F by rw [hF, hX, hY]; rfl]
  have hXl : X.length = P.length + 1 := by rw [hX, List.length_reverse, textsB_len, List.length_zip, hlP, Nat.min_self]
  have hYl : Y.length = Q.length + 1 := by rw [hY, List.length_reverse, textsB_len, List.length_zip, hlQ, Nat.min_self]
  have hXr : ∀ j, j ≤ P.length → (textsB (0 :: leaf) ((sidesN n i).zip P))[P.length - j]? = X[j]? := fun j hj => by rw [hX, List.getElem?_reverse (by rw [textsB_len, List.length_zip, hlP, Nat.min_self]; omega), textsB_len, List.length_zip, hlP, Nat.min_self, Nat.add_sub_cancel]
  have hYr : ∀ j, j ≤ Q.length → (textsB (0 :: other) ((sidesN n i).zip Q))[Q.length - j]? = Y[j]? := fun j hj => by rw [hY, List.getElem?_reverse (by rw [textsB_len, List.length_zip, hlQ, Nat.min_self]; omega), textsB_len, List.length_zip, hlQ, Nat.min_self, Nat.add_sub_cancel]
  have hPQ : Q.length = P.length := by omega
  rw [hPQ] at hYr
  have HXr := Lib.hid hXr
  have HYr := Lib.hid hYr
  have HPQ := Lib.hid hPQ
  have HlP := Lib.hid hlP
  have HlQ := Lib.hid hlQ
  have hXm : ∀ u ∈ X, u.length ≤ 549755813888 := fun u hu => by rw [hX, List.mem_reverse] at hu; exact textsB_le _ 549755813888 (by decide) _ (by simp; omega) u hu
  have hYm : ∀ u ∈ Y, u.length ≤ 549755813888 := fun u hu => by rw [hY, List.mem_reverse] at hu; exact textsB_le _ 549755813888 (by decide) _ (by simp; omega) u hu
  have HX0 := Lib.hid hX
  have HY0 := Lib.hid hY
  have HF := Lib.hid hF
  have HXl := Lib.hid hXl
  have HYl := Lib.hid hYl
  have HXm := Lib.hid hXm
  have HYm := Lib.hid hYm
  have hXb : X.length ≤ 4001 := by omega
  have hXY : X.length = Y.length := by omega
  have HXY := Lib.hid hXY
  clear hXr hYr hPQ hlP hlQ ha hb hp hq hg hcA hcB hX hY hF hXl hYl hXm hYm hXY
  go_enter Tryd.func19, Tryd.ntmps19
  go_wp2_with (first
    | (go_at_call 36; have HX := HA; clear HA; refine (refleaf_any _ leaf w HX.out (by omega) HG.out).mono ?_; rintro e w1 ⟨rfl, hb1⟩; have hw1 := hb1; have HB1 := Lib.hid (HB.out.below hb1); have HP1 := Lib.hid (HP.out.below hb1); have HQ1 := Lib.hid (HQ.out.below hb1); have HG1 := Lib.hid (HG.out.below hb1); clear hb1)
    | (go_at_call 41; have HX := HP1; clear HP1; refine (refcomes_any w1 (lfH leaf) i n _ P HX.out (by omega) HG1.out).mono ?_; rintro e w2 ⟨rfl, hb2⟩; rw [← HvA.out, ← HsA.out]; unfold hv; have hw2 := hw1.trans (hb2.mono hw1.size); have hs2 := hw2.size; have HB2 := Lib.hid (HB1.out.below hb2); have HQ2 := Lib.hid (HQ1.out.below hb2); have HG2 := Lib.hid (HG1.out.below hb2); clear hb2)
    | (refine wpList_store_row rfl 30 (.tmp 15) (.tmp 29) rfl w2.heap.size (bytesV A.b).toArray rfl rfl 30 z32.toArray (by exact Blk.newL w2 z32 _) (by exact hv_row _) (by exact z32_old _) (by exact hv_one _) ?_; obtain ⟨w3, hw3⟩ : ∃ w3, w3 = (w2.alloc (.cells #[.int .u8 0, .int .u8 0, .int .u8 0, .int .u8 0, .int .u8 0, .int .u8 0, .int .u8 0, .int .u8 0, .int .u8 0, .int .u8 0, .int .u8 0, .int .u8 0, .int .u8 0, .int .u8 0, .int .u8 0, .int .u8 0, .int .u8 0, .int .u8 0, .int .u8 0, .int .u8 0, .int .u8 0, .int .u8 0, .int .u8 0, .int .u8 0, .int .u8 0, .int .u8 0, .int .u8 0, .int .u8 0, .int .u8 0, .int .u8 0, .int .u8 0, .int .u8 0] 30)).setRow w2.heap.size (bytesV A.b).toArray := ⟨_, rfl⟩; rw [← hw3]; have hb3 : Below w2.heap.size w2 w3 := (by rw [hw3]; exact below_setRow ((Below.refl _ _).alloc (Nat.le_refl _) _) (Nat.le_refl _) _); have hA3 : Blk w3 w2.heap.size (bytesV A.b) 30 := (by rw [hw3]; exact (Blk.newL w2 z32 _).setRow _); have HA3 := Lib.hid hA3; have hw3b := hw2.trans (hb3.mono hs2); have HB3 := Lib.hid (HB2.out.below hb3); have HQ3 := Lib.hid (HQ2.out.below hb3); have HG3 := Lib.hid (HG2.out.below hb3); clear hb3 hA3 hw3 hw1 hw2)
    | (go_at_call 36; refine (refleaf_any _ other w3 HB3.out (by omega) HG3.out).mono ?_; rintro e w4 ⟨rfl, hb4⟩; have hw4 := hw3b.trans (hb4.mono hw3b.size); have HA4 := Lib.hid (HA3.out.below hb4 HA3.out.lt); have HQ4 := Lib.hid (HQ3.out.below hb4); have HG4 := Lib.hid (HG3.out.below hb4); clear hb4)
    | (go_at_call 41; refine (refcomes_any w4 (lfH other) i n _ Q HQ4.out (by omega) HG4.out).mono ?_; rintro e w5 ⟨rfl, hb5⟩; rw [← HvB.out, ← HsB.out]; unfold hv; have hw5 := hw4.trans (hb5.mono hw4.size); have hs5 := hw5.size; have HA5 := Lib.hid (HA4.out.below hb5 HA4.out.lt); clear hb5)
    | (refine wpList_store_row rfl 30 (.tmp 17) (.tmp 38) rfl w5.heap.size (bytesV A.b).toArray rfl rfl 30 z32.toArray (by exact Blk.newL w5 z32 _) (by exact hv_row _) (by exact z32_old _) (by exact hv_one _) ?_; obtain ⟨w6, hw6⟩ : ∃ w6, w6 = (w5.alloc (.cells #[.int .u8 0, .int .u8 0, .int .u8 0, .int .u8 0, .int .u8 0, .int .u8 0, .int .u8 0, .int .u8 0, .int .u8 0, .int .u8 0, .int .u8 0, .int .u8 0, .int .u8 0, .int .u8 0, .int .u8 0, .int .u8 0, .int .u8 0, .int .u8 0, .int .u8 0, .int .u8 0, .int .u8 0, .int .u8 0, .int .u8 0, .int .u8 0, .int .u8 0, .int .u8 0, .int .u8 0, .int .u8 0, .int .u8 0, .int .u8 0, .int .u8 0, .int .u8 0] 30)).setRow w5.heap.size (bytesV A.b).toArray := ⟨_, rfl⟩; rw [← hw6]; have hb6 : Below w5.heap.size w5 w6 := (by rw [hw6]; exact below_setRow ((Below.refl _ _).alloc (Nat.le_refl _) _) (Nat.le_refl _) _); have hB6 : Blk w6 w5.heap.size (bytesV A.b) 30 := (by rw [hw6]; exact (Blk.newL w5 z32 _).setRow _); have HA6 := Lib.hid (HA5.out.below hb6 HA5.out.lt); have HB6 := Lib.hid hB6; have hw6b := hw5.trans (hb6.mono hs5); have HT6 := Lib.hid (HT0.out.below hw6b); have HU6 := Lib.hid (HU0.out.below hw6b); have HP6 := Lib.hid (HP.out.below hw6b); have HQ6 := Lib.hid (HQ.out.below hw6b); have HG6 := Lib.hid (HG.out.below hw6b); clear hb6 hB6 hw6)
    | (refine wpList_load_rowIf rfl 30 (.tmp 15) rfl w2.heap.size rfl 30 (bytesV A.b).toArray (0, 0) _ (by exact HA6.out) Tryd.underlying30 rfl (by exact hv_row _) ?_)
    | (refine wpList_load_rowIf rfl 30 (.tmp 17) rfl w5.heap.size rfl 30 (bytesV A.b).toArray (0, 0) _ (by exact HB6.out) Tryd.underlying30 rfl (by exact hv_row _) ?_)
    | fail)
  clear heq HB HT0 HU0 HP HQ HA6 HB6 HA3 HB3 HG3 HQ3 HA4 HQ4 HG4 HA5 HB1 HQ1 HG1 HB2 HQ2 HG2
  have hs6 := hw6b.size
  have HXb' := Lib.hid (show X.length = L + 1 by rw [HL.out]; exact HXl.out)
  clear hXb lp lq
  go_loopw [19] (fun sv wr => ∃ m : Nat, sv = .int .i64 ((m : Int) - 1) ∧ m ≤ L + 1 ∧ firstB F = firstB (F.drop (L + 1 - m)) ∧ Below w6.heap.size w6 wr) (fun sv _ => (intOf sv + 1).toNat)
  case atStart => exact ⟨L + 1, by go_num, Nat.le_refl _, by rw [Nat.sub_self]; rfl, Below.refl _ _⟩
  case round =>
    obtain ⟨m, rfl, hm, hf, hw⟩ := hrel
    have hsz := hw.size
    have HFm := Lib.hid hf
    clear hf
    by_cases h0 : m = 0
    · have hge : ¬ (0 : Int) ≤ (m : Int) - 1 := by omega
      have hend : firstB F = none := by
        rw [HFm.out, List.drop_eq_nil_of_le (by rw [HF.out, List.length_zip, HXb'.out]; omega)]
        rfl
      have HN := Lib.hid hend
      clear hend
      go_wp2_with fail
      go_ret3
      rw [HN.out]
      exact ⟨extR_none _, hw6b.trans (hw.mono hs6)⟩
    · obtain ⟨k, rfl⟩ : ∃ k, m = k + 1 := ⟨m - 1, by omega⟩
      have hge : (0 : Int) ≤ k := by omega
      have hk : ((k + 1 : Nat) : Int) - 1 = k := by omega
      rw [hk]
      clear h0 hk
      obtain ⟨s, hs⟩ : ∃ s, X[L - k]? = some s := ⟨_, List.getElem?_eq_getElem (by rw [HXb'.out]; omega)⟩
      obtain ⟨t, ht⟩ : ∃ t, Y[L - k]? = some t := ⟨_, List.getElem?_eq_getElem (by rw [← HXY.out, HXb'.out]; omega)⟩
      have ls := HXm.out s (List.mem_of_getElem? hs)
      have lt := HYm.out t (List.mem_of_getElem? ht)
      have hat := firstB_at (show F[L - k]? = some (s, t) by rw [HF.out]; exact zip_at hs ht)
      have e1 := HXr.out (L - k) (by rw [← HL.out]; omega)
      have e2 := HYr.out (L - k) (by rw [← HL.out]; omega)
      rw [← HL.out, show L - (L - k) = k by omega] at e1 e2
      have E1 := Lib.hid (e1.trans hs)
      have E2 := Lib.hid (e2.trans ht)
      have HAt := Lib.hid hat
      obtain ⟨R, hR⟩ : ∃ R, R = clashB s t := ⟨_, rfl⟩
      have HR := Lib.hid hR
      have HTw := Lib.hid (HT6.out.below hw)
      have HUw := Lib.hid (HU6.out.below hw)
      have HPw := Lib.hid (HP6.out.below hw)
      have HQw := Lib.hid (HQ6.out.below hw)
      have HGw := Lib.hid (HG6.out.below hw)
      have hLP : L = P.length := HL.out
      have HLQ := Lib.hid HPQ.out
      clear hs ht hat e1 e2 hR hLP
      cases R with
      | false =>
        have hnx : firstB F = firstB (F.drop (L + 1 - k)) := by rw [HFm.out, show L + 1 - (k + 1) = L - k by omega, HAt.out, ← HR.out, show L + 1 - k = L - k + 1 by omega]; rfl
        have HNX := Lib.hid hnx
        clear hnx
        go_wp2_with (first
          | (go_at_call 42; have HX := HTw; clear HTw; refine (above_any _ leaf i n _ P (by omega) HlP.out (by rw [← HL.out]; exact hLb) h1 hn hi k wr s HX.out HPw.out HGw.out E1.out).mono ?_; rintro e w7 ⟨⟨v7, rfl, hv7⟩, hb7⟩; have hw7 := hw.trans (hb7.mono hsz); have HX7 := Lib.hid hv7; have HU7 := Lib.hid (HUw.out.below hb7); have HQ7 := Lib.hid (HQw.out.below hb7); have HG7 := Lib.hid (HGw.out.below hb7); clear hb7 hv7)
          | (go_at_call 42; refine (above_any _ other i n _ Q (by omega) HlQ.out (by rw [HPQ.out, ← HL.out]; exact hLb) h1 hn hi k w7 t HU7.out HQ7.out HG7.out E2.out).mono ?_; rintro e w8 ⟨⟨v8, rfl, hv8⟩, hb8⟩; have hw8 := hw7.trans (hb8.mono hw7.size); have HX8 := Lib.hid (HX7.out.below hb8); have HY8 := Lib.hid hv8; have HG8 := Lib.hid (HG7.out.below hb8); clear hb8 hv8)
          | (go_at_call 17; refine (refis_any _ _ s t w8 HX8.out HY8.out (by omega) (by omega) HG8.out).mono ?_; rintro e w9 ⟨rfl, hb9⟩; rw [← HR.out]; have hw9 := hw8.trans (hb9.mono hw8.size); have HX9 := Lib.hid (HX8.out.below hb9); have HY9 := Lib.hid (HY8.out.below hb9); clear hb9)
          | fail)
        exact ⟨⟨k, by go_num, by omega, HNX.out, hw9⟩, by simp [intOf]⟩
      | true =>
        have hnx : firstB F = some (s, t) := by rw [HFm.out, show L + 1 - (k + 1) = L - k by omega, HAt.out, ← HR.out]; rfl
        have HNX := Lib.hid hnx
        clear hnx
        go_wp2_with (first
          | (go_at_call 42; have HX := HTw; clear HTw; refine (above_any _ leaf i n _ P (by omega) HlP.out (by rw [← HL.out]; exact hLb) h1 hn hi k wr s HX.out HPw.out HGw.out E1.out).mono ?_; rintro e w7 ⟨⟨v7, rfl, hv7⟩, hb7⟩; have hw7 := hw.trans (hb7.mono hsz); have HX7 := Lib.hid hv7; have HU7 := Lib.hid (HUw.out.below hb7); have HQ7 := Lib.hid (HQw.out.below hb7); have HG7 := Lib.hid (HGw.out.below hb7); clear hb7 hv7)
          | (go_at_call 42; refine (above_any _ other i n _ Q (by omega) HlQ.out (by rw [HPQ.out, ← HL.out]; exact hLb) h1 hn hi k w7 t HU7.out HQ7.out HG7.out E2.out).mono ?_; rintro e w8 ⟨⟨v8, rfl, hv8⟩, hb8⟩; have hw8 := hw7.trans (hb8.mono hw7.size); have HX8 := Lib.hid (HX7.out.below hb8); have HY8 := Lib.hid hv8; have HG8 := Lib.hid (HG7.out.below hb8); clear hb8 hv8)
          | (go_at_call 17; refine (refis_any _ _ s t w8 HX8.out HY8.out (by omega) (by omega) HG8.out).mono ?_; rintro e w9 ⟨rfl, hb9⟩; rw [← HR.out]; have hw9 := hw8.trans (hb9.mono hw8.size); have HX9 := Lib.hid (HX8.out.below hb9); have HY9 := Lib.hid (HY8.out.below hb9); clear hb9)
          | fail)
        go_ret3
        rw [HNX.out]
        exact ⟨⟨_, _, rfl, HX9.out, HY9.out⟩, hw6b.trans (hw9.mono hs6)⟩
theorem refpaths_any (va vb : Value) (leaf other : List UInt8) (i n : Int) (pv qv : Value) (P Q : List H) (w : World) (ha : Bytes w va leaf) (hb : Bytes w vb other) (la : leaf.length ≤ 274877906944) (lb : other.length ≤ 274877906944) (hp : Hs w pv P) (hq : Hs w qv Q) (lp : P.length ≤ 4000) (lq : Q.length ≤ 4000) (hg : Glob w) :
    Calls Tryd.prog 19 #[va, vb, .int .i64 i, .int .i64 n, pv, qv] w fun e w' => ExtR (pathsB leaf other i n P Q) e w' ∧ Below w.heap.size w w' := by
  by_cases hc : comesR (lfH leaf) i n P ≠ none ∧ comesR (lfH other) i n Q ≠ none ∧ comesR (lfH leaf) i n P = comesR (lfH other) i n Q
  · rw [show pathsB leaf other i n P Q = firstB (pairsB leaf other i.toNat n.toNat P Q) from if_pos hc]
    obtain ⟨h1, _, h3⟩ := hc
    obtain ⟨A, hA⟩ := Option.ne_none_iff_exists'.1 h1
    have hB := h3.symm.trans hA
    obtain ⟨a, b, rfl, rfl, q1, q2, q3, q4⟩ := comesR_some hA
    obtain ⟨a', b', e1, e2, _, _, _, q5⟩ := comesR_some hB
    have e1' : a = a' := by omega
    have e2' : b = b' := by omega
    subst e1' e2'
    exact refpaths_some va vb leaf other a b pv qv P Q w ha hb la lb hp hq lp lq hg q1 q2 q3 q4 q5 A hA hB
  · rw [show pathsB leaf other i n P Q = none from if_neg hc]
    exact refpaths_none va vb leaf other i n pv qv P Q w ha hb la lb hp hq lp lq hg hc
end Go.Proofs.YthgkaegkkkghhaaDoor
