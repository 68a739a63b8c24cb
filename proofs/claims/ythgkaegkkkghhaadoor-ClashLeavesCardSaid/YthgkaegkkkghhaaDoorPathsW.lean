/- The walk of clash.Paths. The walk of clash.Paths where both paths come to one root. Conditions: what each part says. -/
import Derived.Test.YthgkaegkkkghhaaDoorTextsB
import Derived.Test.YthgkaegkkkghhaaDoorClashY
import Derived.Test.YthgkaegkkkghhaaDoorComesW
/-! PathsA: The walk of clash.Paths. Conditions: the leaves and the paths can be read, at most 2^38 bytes, 4000 hashes; the package's tables read as they are laid. -/
namespace Go.Proofs.YthgkaegkkkghhaaDoor
open Go.RowKit

def pairsB (leaf other : List UInt8) (i n : Nat) (P Q : List H) : List (List UInt8 × List UInt8) :=
  (textsB (0 :: leaf) ((sidesN n i).zip P)).reverse.zip (textsB (0 :: other) ((sidesN n i).zip Q)).reverse
/-- The clash of two leaves' paths. -/
def pathsB (leaf other : List UInt8) (i n : Int) (P Q : List H) : Option (List UInt8 × List UInt8) :=
  if comesR (lfH leaf) i n P ≠ none ∧ comesR (lfH other) i n Q ≠ none ∧ comesR (lfH leaf) i n P = comesR (lfH other) i n Q then firstB (pairsB leaf other i.toNat n.toNat P Q) else none
theorem comesR_some {x h : H} {i n : Int} {P : List H} (hc : comesR x i n P = some h) : ∃ a b : Nat, i = a ∧ n = b ∧ 1 ≤ b ∧ b ≤ 1048576 ∧ a < b ∧ (sidesN b a).length = P.length := by
  unfold comesR at hc
  split at hc
  · rename_i h
    refine ⟨i.toNat, n.toNat, by omega, by omega, by omega, by omega, by omega, ?_⟩
    unfold comesN at hc
    split at hc
    · assumption
    · cases hc
  · cases hc
theorem firstB_at {l : List (List UInt8 × List UInt8)} {j : Nat} {x y : List UInt8} (h : l[j]? = some (x, y)) : firstB (l.drop j) = if clashB x y then some (x, y) else firstB (l.drop (j + 1)) := by
  obtain ⟨h1, h2⟩ := List.getElem?_eq_some_iff.1 h
  rw [List.drop_eq_getElem_cons h1, h2]
  rfl
set_option maxRecDepth 100000 in
set_option maxHeartbeats 4000000 in
theorem paths_none (va vb : Value) (leaf other : List UInt8) (i n : Int) (pv qv : Value) (P Q : List H) (w : World) (ha : Bytes w va leaf) (hb : Bytes w vb other) (la : leaf.length ≤ 274877906944) (lb : other.length ≤ 274877906944) (hp : Hs w pv P) (hq : Hs w qv Q) (lp : P.length ≤ 4000) (lq : Q.length ≤ 4000) (hg : Glob w)
    (hc : ¬ (comesR (lfH leaf) i n P ≠ none ∧ comesR (lfH other) i n Q ≠ none ∧ comesR (lfH leaf) i n P = comesR (lfH other) i n Q)) :
    Calls Tryd.prog 18 #[va, vb, .int .i64 i, .int .i64 n, pv, qv] w fun e w' => ExtR none e w' ∧ Below w.heap.size w w' := by
  obtain ⟨RA, hRA⟩ : ∃ R, R = comesR (lfH leaf) i n P := ⟨_, rfl⟩
  obtain ⟨RB, hRB⟩ : ∃ R, R = comesR (lfH other) i n Q := ⟨_, rfl⟩
  rw [← hRA, ← hRB] at hc
  obtain ⟨xa, ca, rfl, _⟩ := ha.form
  obtain ⟨xb, cb, rfl, _⟩ := hb.form
  have HA := Lib.hid ha
  have HB := Lib.hid hb
  have HP := Lib.hid hp
  have HQ := Lib.hid hq
  have HG := Lib.hid hg
  have HRA := Lib.hid hRA
  have HRB := Lib.hid hRB
  obtain ⟨A, hA⟩ : ∃ A, A = RA.getD z0H := ⟨_, rfl⟩
  obtain ⟨B, hB⟩ : ∃ B, B = RB.getD z0H := ⟨_, rfl⟩
  obtain ⟨sA, hsA⟩ : ∃ s, s = RA.isSome := ⟨_, rfl⟩
  obtain ⟨sB, hsB⟩ : ∃ s, s = RB.isSome := ⟨_, rfl⟩
  have HsA := Lib.hid (hsA.trans (by rw [hRA]) : sA = (comesR (lfH leaf) i n P).isSome)
  have HsB := Lib.hid (hsB.trans (by rw [hRB]) : sB = (comesR (lfH other) i n Q).isSome)
  have HvA := Lib.hid (hA.trans (by rw [hRA]) : A = (comesR (lfH leaf) i n P).getD z0H)
  have HvB := Lib.hid (hB.trans (by rw [hRB]) : B = (comesR (lfH other) i n Q).getD z0H)
  have hcase : sA = false ∨ (sA = true ∧ sB = false) ∨ (sA = true ∧ sB = true ∧ A ≠ B) := by
    cases RA with
    | none => exact .inl hsA
    | some a =>
      cases RB with
      | none => exact .inr (.inl ⟨hsA, hsB⟩)
      | some b =>
        refine .inr (.inr ⟨hsA, hsB, fun e => hc ⟨by simp, by simp, ?_⟩⟩)
        rw [hA, hB] at e
        exact congrArg some e
  clear ha hb hp hq hg hRA hRB hA hB hsA hsB hc HRA HRB
  rcases hcase with h1 | ⟨h1, h2⟩ | ⟨h1, h2, h3⟩
  · subst h1
    go_enter Tryd.func18, Tryd.ntmps18
    go_wp2_with (first
      | (go_at_call 21; have HX := HA; clear HA; refine (leaf_any _ leaf w HX.out (by omega) HG.out).mono ?_; rintro e w1 ⟨rfl, hb1⟩; have hw1 := hb1; have HB1 := Lib.hid (HB.out.below hb1); have HP1 := Lib.hid (HP.out.below hb1); have HQ1 := Lib.hid (HQ.out.below hb1); have HG1 := Lib.hid (HG.out.below hb1); clear hb1)
      | (go_at_call 23; have HX := HP1; clear HP1; refine (comes_any w1 (lfH leaf) i n _ P HX.out (by omega) HG1.out).mono ?_; rintro e w2 ⟨rfl, hb2⟩; rw [← HvA.out, ← HsA.out]; unfold hv; have hw2 := hw1.trans (hb2.mono hw1.size); have hs2 := hw2.size; have HB2 := Lib.hid (HB1.out.below hb2); have HQ2 := Lib.hid (HQ1.out.below hb2); have HG2 := Lib.hid (HG1.out.below hb2); clear hb2)
      | (refine wpList_store_row rfl 30 (.tmp 15) (.tmp 29) rfl w2.heap.size (bytesV A.b).toArray rfl rfl 30 z32.toArray (by exact Blk.newL w2 z32 _) (by exact hv_row _) (by exact z32_old _) (by exact hv_one _) ?_; obtain ⟨w3, hw3⟩ : ∃ w3, w3 = (w2.alloc (.cells #[.int .u8 0, .int .u8 0, .int .u8 0, .int .u8 0, .int .u8 0, .int .u8 0, .int .u8 0, .int .u8 0, .int .u8 0, .int .u8 0, .int .u8 0, .int .u8 0, .int .u8 0, .int .u8 0, .int .u8 0, .int .u8 0, .int .u8 0, .int .u8 0, .int .u8 0, .int .u8 0, .int .u8 0, .int .u8 0, .int .u8 0, .int .u8 0, .int .u8 0, .int .u8 0, .int .u8 0, .int .u8 0, .int .u8 0, .int .u8 0, .int .u8 0, .int .u8 0] 30)).setRow w2.heap.size (bytesV A.b).toArray := ⟨_, rfl⟩; rw [← hw3]; have hb3 : Below w2.heap.size w2 w3 := (by rw [hw3]; exact below_setRow ((Below.refl _ _).alloc (Nat.le_refl _) _) (Nat.le_refl _) _); have hA3 : Blk w3 w2.heap.size (bytesV A.b) 30 := (by rw [hw3]; exact (Blk.newL w2 z32 _).setRow _); have HA3 := Lib.hid hA3; have hw3b := hw2.trans (hb3.mono hs2); have HB3 := Lib.hid (HB2.out.below hb3); have HQ3 := Lib.hid (HQ2.out.below hb3); have HG3 := Lib.hid (HG2.out.below hb3); clear hb3 hA3 hw3 hw1 hw2)
      | (go_at_call 21; refine (leaf_any _ other w3 HB3.out (by omega) HG3.out).mono ?_; rintro e w4 ⟨rfl, hb4⟩; have hw4 := hw3b.trans (hb4.mono hw3b.size); have HA4 := Lib.hid (HA3.out.below hb4 HA3.out.lt); have HQ4 := Lib.hid (HQ3.out.below hb4); have HG4 := Lib.hid (HG3.out.below hb4); clear hb4)
      | (go_at_call 23; refine (comes_any w4 (lfH other) i n _ Q HQ4.out (by omega) HG4.out).mono ?_; rintro e w5 ⟨rfl, hb5⟩; rw [← HvB.out, ← HsB.out]; unfold hv; have hw5 := hw4.trans (hb5.mono hw4.size); have hs5 := hw5.size; have HA5 := Lib.hid (HA4.out.below hb5 HA4.out.lt); clear hb5)
      | (refine wpList_store_row rfl 30 (.tmp 17) (.tmp 38) rfl w5.heap.size (bytesV B.b).toArray rfl rfl 30 z32.toArray (by exact Blk.newL w5 z32 _) (by exact hv_row _) (by exact z32_old _) (by exact hv_one _) ?_; obtain ⟨w6, hw6⟩ : ∃ w6, w6 = (w5.alloc (.cells #[.int .u8 0, .int .u8 0, .int .u8 0, .int .u8 0, .int .u8 0, .int .u8 0, .int .u8 0, .int .u8 0, .int .u8 0, .int .u8 0, .int .u8 0, .int .u8 0, .int .u8 0, .int .u8 0, .int .u8 0, .int .u8 0, .int .u8 0, .int .u8 0, .int .u8 0, .int .u8 0, .int .u8 0, .int .u8 0, .int .u8 0, .int .u8 0, .int .u8 0, .int .u8 0, .int .u8 0, .int .u8 0, .int .u8 0, .int .u8 0, .int .u8 0, .int .u8 0] 30)).setRow w5.heap.size (bytesV B.b).toArray := ⟨_, rfl⟩; rw [← hw6]; have hb6 : Below w5.heap.size w5 w6 := (by rw [hw6]; exact below_setRow ((Below.refl _ _).alloc (Nat.le_refl _) _) (Nat.le_refl _) _); have hB6 : Blk w6 w5.heap.size (bytesV B.b) 30 := (by rw [hw6]; exact (Blk.newL w5 z32 _).setRow _); have HA6 := Lib.hid (HA5.out.below hb6 HA5.out.lt); have HB6 := Lib.hid hB6; have hw6b := hw5.trans (hb6.mono hs5); clear hb6 hB6 hw6)
      | (refine wpList_load_rowIf rfl 30 (.tmp 15) rfl w2.heap.size rfl 30 (bytesV A.b).toArray (0, 0) _ (by exact HA6.out) Tryd.underlying30 rfl (by exact hv_row _) ?_)
      | (refine wpList_load_rowIf rfl 30 (.tmp 17) rfl w5.heap.size rfl 30 (bytesV B.b).toArray (0, 0) _ (by exact HB6.out) Tryd.underlying30 rfl (by exact hv_row _) ?_)
      | fail)
    go_ret3
    exact ⟨extR_none _, hw6b⟩
  · subst h1
    subst h2
    go_enter Tryd.func18, Tryd.ntmps18
    go_wp2_with (first
      | (go_at_call 21; have HX := HA; clear HA; refine (leaf_any _ leaf w HX.out (by omega) HG.out).mono ?_; rintro e w1 ⟨rfl, hb1⟩; have hw1 := hb1; have HB1 := Lib.hid (HB.out.below hb1); have HP1 := Lib.hid (HP.out.below hb1); have HQ1 := Lib.hid (HQ.out.below hb1); have HG1 := Lib.hid (HG.out.below hb1); clear hb1)
      | (go_at_call 23; have HX := HP1; clear HP1; refine (comes_any w1 (lfH leaf) i n _ P HX.out (by omega) HG1.out).mono ?_; rintro e w2 ⟨rfl, hb2⟩; rw [← HvA.out, ← HsA.out]; unfold hv; have hw2 := hw1.trans (hb2.mono hw1.size); have hs2 := hw2.size; have HB2 := Lib.hid (HB1.out.below hb2); have HQ2 := Lib.hid (HQ1.out.below hb2); have HG2 := Lib.hid (HG1.out.below hb2); clear hb2)
      | (refine wpList_store_row rfl 30 (.tmp 15) (.tmp 29) rfl w2.heap.size (bytesV A.b).toArray rfl rfl 30 z32.toArray (by exact Blk.newL w2 z32 _) (by exact hv_row _) (by exact z32_old _) (by exact hv_one _) ?_; obtain ⟨w3, hw3⟩ : ∃ w3, w3 = (w2.alloc (.cells #[.int .u8 0, .int .u8 0, .int .u8 0, .int .u8 0, .int .u8 0, .int .u8 0, .int .u8 0, .int .u8 0, .int .u8 0, .int .u8 0, .int .u8 0, .int .u8 0, .int .u8 0, .int .u8 0, .int .u8 0, .int .u8 0, .int .u8 0, .int .u8 0, .int .u8 0, .int .u8 0, .int .u8 0, .int .u8 0, .int .u8 0, .int .u8 0, .int .u8 0, .int .u8 0, .int .u8 0, .int .u8 0, .int .u8 0, .int .u8 0, .int .u8 0, .int .u8 0] 30)).setRow w2.heap.size (bytesV A.b).toArray := ⟨_, rfl⟩; rw [← hw3]; have hb3 : Below w2.heap.size w2 w3 := (by rw [hw3]; exact below_setRow ((Below.refl _ _).alloc (Nat.le_refl _) _) (Nat.le_refl _) _); have hA3 : Blk w3 w2.heap.size (bytesV A.b) 30 := (by rw [hw3]; exact (Blk.newL w2 z32 _).setRow _); have HA3 := Lib.hid hA3; have hw3b := hw2.trans (hb3.mono hs2); have HB3 := Lib.hid (HB2.out.below hb3); have HQ3 := Lib.hid (HQ2.out.below hb3); have HG3 := Lib.hid (HG2.out.below hb3); clear hb3 hA3 hw3 hw1 hw2)
      | (go_at_call 21; refine (leaf_any _ other w3 HB3.out (by omega) HG3.out).mono ?_; rintro e w4 ⟨rfl, hb4⟩; have hw4 := hw3b.trans (hb4.mono hw3b.size); have HA4 := Lib.hid (HA3.out.below hb4 HA3.out.lt); have HQ4 := Lib.hid (HQ3.out.below hb4); have HG4 := Lib.hid (HG3.out.below hb4); clear hb4)
      | (go_at_call 23; refine (comes_any w4 (lfH other) i n _ Q HQ4.out (by omega) HG4.out).mono ?_; rintro e w5 ⟨rfl, hb5⟩; rw [← HvB.out, ← HsB.out]; unfold hv; have hw5 := hw4.trans (hb5.mono hw4.size); have hs5 := hw5.size; have HA5 := Lib.hid (HA4.out.below hb5 HA4.out.lt); clear hb5)
      | (refine wpList_store_row rfl 30 (.tmp 17) (.tmp 38) rfl w5.heap.size (bytesV B.b).toArray rfl rfl 30 z32.toArray (by exact Blk.newL w5 z32 _) (by exact hv_row _) (by exact z32_old _) (by exact hv_one _) ?_; obtain ⟨w6, hw6⟩ : ∃ w6, w6 = (w5.alloc (.cells #[.int .u8 0, .int .u8 0, .int .u8 0, .int .u8 0, .int .u8 0, .int .u8 0, .int .u8 0, .int .u8 0, .int .u8 0, .int .u8 0, .int .u8 0, .int .u8 0, .int .u8 0, .int .u8 0, .int .u8 0, .int .u8 0, .int .u8 0, .int .u8 0, .int .u8 0, .int .u8 0, .int .u8 0, .int .u8 0, .int .u8 0, .int .u8 0, .int .u8 0, .int .u8 0, .int .u8 0, .int .u8 0, .int .u8 0, .int .u8 0, .int .u8 0, .int .u8 0] 30)).setRow w5.heap.size (bytesV B.b).toArray := ⟨_, rfl⟩; rw [← hw6]; have hb6 : Below w5.heap.size w5 w6 := (by rw [hw6]; exact below_setRow ((Below.refl _ _).alloc (Nat.le_refl _) _) (Nat.le_refl _) _); have hB6 : Blk w6 w5.heap.size (bytesV B.b) 30 := (by rw [hw6]; exact (Blk.newL w5 z32 _).setRow _); have HA6 := Lib.hid (HA5.out.below hb6 HA5.out.lt); have HB6 := Lib.hid hB6; have hw6b := hw5.trans (hb6.mono hs5); clear hb6 hB6 hw6)
      | (refine wpList_load_rowIf rfl 30 (.tmp 15) rfl w2.heap.size rfl 30 (bytesV A.b).toArray (0, 0) _ (by exact HA6.out) Tryd.underlying30 rfl (by exact hv_row _) ?_)
      | (refine wpList_load_rowIf rfl 30 (.tmp 17) rfl w5.heap.size rfl 30 (bytesV B.b).toArray (0, 0) _ (by exact HB6.out) Tryd.underlying30 rfl (by exact hv_row _) ?_)
      | fail)
    go_ret3
    exact ⟨extR_none _, hw6b⟩
  · subst h1
    subst h2
    have heq := fun w => ne_hash w A B h3
    clear h3
    go_enter Tryd.func18, Tryd.ntmps18
    go_wp2_with (first
      | (go_at_call 21; have HX := HA; clear HA; refine (leaf_any _ leaf w HX.out (by omega) HG.out).mono ?_; rintro e w1 ⟨rfl, hb1⟩; have hw1 := hb1; have HB1 := Lib.hid (HB.out.below hb1); have HP1 := Lib.hid (HP.out.below hb1); have HQ1 := Lib.hid (HQ.out.below hb1); have HG1 := Lib.hid (HG.out.below hb1); clear hb1)
      | (go_at_call 23; have HX := HP1; clear HP1; refine (comes_any w1 (lfH leaf) i n _ P HX.out (by omega) HG1.out).mono ?_; rintro e w2 ⟨rfl, hb2⟩; rw [← HvA.out, ← HsA.out]; unfold hv; have hw2 := hw1.trans (hb2.mono hw1.size); have hs2 := hw2.size; have HB2 := Lib.hid (HB1.out.below hb2); have HQ2 := Lib.hid (HQ1.out.below hb2); have HG2 := Lib.hid (HG1.out.below hb2); clear hb2)
      | (refine wpList_store_row rfl 30 (.tmp 15) (.tmp 29) rfl w2.heap.size (bytesV A.b).toArray rfl rfl 30 z32.toArray (by exact Blk.newL w2 z32 _) (by exact hv_row _) (by exact z32_old _) (by exact hv_one _) ?_; obtain ⟨w3, hw3⟩ : ∃ w3, w3 = (w2.alloc (.cells #[.int .u8 0, .int .u8 0, .int .u8 0, .int .u8 0, .int .u8 0, .int .u8 0, .int .u8 0, .int .u8 0, .int .u8 0, .int .u8 0, .int .u8 0, .int .u8 0, .int .u8 0, .int .u8 0, .int .u8 0, .int .u8 0, .int .u8 0, .int .u8 0, .int .u8 0, .int .u8 0, .int .u8 0, .int .u8 0, .int .u8 0, .int .u8 0, .int .u8 0, .int .u8 0, .int .u8 0, .int .u8 0, .int .u8 0, .int .u8 0, .int .u8 0, .int .u8 0] 30)).setRow w2.heap.size (bytesV A.b).toArray := ⟨_, rfl⟩; rw [← hw3]; have hb3 : Below w2.heap.size w2 w3 := (by rw [hw3]; exact below_setRow ((Below.refl _ _).alloc (Nat.le_refl _) _) (Nat.le_refl _) _); have hA3 : Blk w3 w2.heap.size (bytesV A.b) 30 := (by rw [hw3]; exact (Blk.newL w2 z32 _).setRow _); have HA3 := Lib.hid hA3; have hw3b := hw2.trans (hb3.mono hs2); have HB3 := Lib.hid (HB2.out.below hb3); have HQ3 := Lib.hid (HQ2.out.below hb3); have HG3 := Lib.hid (HG2.out.below hb3); clear hb3 hA3 hw3 hw1 hw2)
      | (go_at_call 21; refine (leaf_any _ other w3 HB3.out (by omega) HG3.out).mono ?_; rintro e w4 ⟨rfl, hb4⟩; have hw4 := hw3b.trans (hb4.mono hw3b.size); have HA4 := Lib.hid (HA3.out.below hb4 HA3.out.lt); have HQ4 := Lib.hid (HQ3.out.below hb4); have HG4 := Lib.hid (HG3.out.below hb4); clear hb4)
      | (go_at_call 23; refine (comes_any w4 (lfH other) i n _ Q HQ4.out (by omega) HG4.out).mono ?_; rintro e w5 ⟨rfl, hb5⟩; rw [← HvB.out, ← HsB.out]; unfold hv; have hw5 := hw4.trans (hb5.mono hw4.size); have hs5 := hw5.size; have HA5 := Lib.hid (HA4.out.below hb5 HA4.out.lt); clear hb5)
      | (refine wpList_store_row rfl 30 (.tmp 17) (.tmp 38) rfl w5.heap.size (bytesV B.b).toArray rfl rfl 30 z32.toArray (by exact Blk.newL w5 z32 _) (by exact hv_row _) (by exact z32_old _) (by exact hv_one _) ?_; obtain ⟨w6, hw6⟩ : ∃ w6, w6 = (w5.alloc (.cells #[.int .u8 0, .int .u8 0, .int .u8 0, .int .u8 0, .int .u8 0, .int .u8 0, .int .u8 0, .int .u8 0, .int .u8 0, .int .u8 0, .int .u8 0, .int .u8 0, .int .u8 0, .int .u8 0, .int .u8 0, .int .u8 0, .int .u8 0, .int .u8 0, .int .u8 0, .int .u8 0, .int .u8 0, .int .u8 0, .int .u8 0, .int .u8 0, .int .u8 0, .int .u8 0, .int .u8 0, .int .u8 0, .int .u8 0, .int .u8 0, .int .u8 0, .int .u8 0] 30)).setRow w5.heap.size (bytesV B.b).toArray := ⟨_, rfl⟩; rw [← hw6]; have hb6 : Below w5.heap.size w5 w6 := (by rw [hw6]; exact below_setRow ((Below.refl _ _).alloc (Nat.le_refl _) _) (Nat.le_refl _) _); have hB6 : Blk w6 w5.heap.size (bytesV B.b) 30 := (by rw [hw6]; exact (Blk.newL w5 z32 _).setRow _); have HA6 := Lib.hid (HA5.out.below hb6 HA5.out.lt); have HB6 := Lib.hid hB6; have hw6b := hw5.trans (hb6.mono hs5); clear hb6 hB6 hw6)
      | (refine wpList_load_rowIf rfl 30 (.tmp 15) rfl w2.heap.size rfl 30 (bytesV A.b).toArray (0, 0) _ (by exact HA6.out) Tryd.underlying30 rfl (by exact hv_row _) ?_)
      | (refine wpList_load_rowIf rfl 30 (.tmp 17) rfl w5.heap.size rfl 30 (bytesV B.b).toArray (0, 0) _ (by exact HB6.out) Tryd.underlying30 rfl (by exact hv_row _) ?_)
      | fail)
    go_ret3
    exact ⟨extR_none _, hw6b⟩
end Go.Proofs.YthgkaegkkkghhaaDoor

/-! PathsB: The walk of clash.Paths where both paths come to one root. Conditions: the leaves and the paths can be read, at most 2^38 bytes, 4000 hashes; the package's tables read as they are laid. -/
namespace Go.Proofs.YthgkaegkkkghhaaDoor
open Go.RowKit

theorem zip_at {X Y : List (List UInt8)} {j : Nat} {x y : List UInt8} (hx : X[j]? = some x) (hy : Y[j]? = some y) : (X.zip Y)[j]? = some (x, y) := List.getElem?_zip_eq_some.2 ⟨hx, hy⟩
set_option maxRecDepth 100000 in
set_option maxHeartbeats 8000000 in
theorem paths_some (va vb : Value) (leaf other : List UInt8) (i n : Nat) (pv qv : Value) (P Q : List H) (w : World) (ha : Bytes w va leaf) (hb : Bytes w vb other) (la : leaf.length ≤ 274877906944) (lb : other.length ≤ 274877906944) (hp : Hs w pv P) (hq : Hs w qv Q) (lp : P.length ≤ 4000) (lq : Q.length ≤ 4000) (hg : Glob w)
    (h1 : 1 ≤ n) (hn : n ≤ 1048576) (hi : i < n) (hlP : (sidesN n i).length = P.length) (hlQ : (sidesN n i).length = Q.length) (A : H) (hcA : comesR (lfH leaf) i n P = some A) (hcB : comesR (lfH other) i n Q = some A) :
    Calls Tryd.prog 18 #[va, vb, .int .i64 i, .int .i64 n, pv, qv] w fun e w' => ExtR (firstB (pairsB leaf other i n P Q)) e w' ∧ Below w.heap.size w w' := by
  obtain ⟨xa, ca, rfl, _⟩ := ha.form
  obtain ⟨xb, cb, rfl, _⟩ := hb.form
  have HA := Lib.hid ha
  have HB := Lib.hid hb
  have HT0 := Lib.hid ha
  have HU0 := Lib.hid hb
  have HP := Lib.hid hp
  have HQ := Lib.hid hq
  have HG := Lib.hid hg
  have HvA := Lib.hid (show A = (comesR (lfH leaf) i n P).getD z0H by rw [hcA]; rfl)
  have HvB := Lib.hid (show A = (comesR (lfH other) i n Q).getD z0H by rw [hcB]; rfl)
  have HsA := Lib.hid (show true = (comesR (lfH leaf) i n P).isSome by rw [hcA]; rfl)
  have HsB := Lib.hid (show true = (comesR (lfH other) i n Q).isSome by rw [hcB]; rfl)
  have heq := fun w => is_hash w A
  obtain ⟨X, hX⟩ : ∃ X, X = (textsB (0 :: leaf) ((sidesN n i).zip P)).reverse := ⟨_, rfl⟩
  obtain ⟨Y, hY⟩ : ∃ Y, Y = (textsB (0 :: other) ((sidesN n i).zip Q)).reverse := ⟨_, rfl⟩
  obtain ⟨F, hF⟩ : ∃ F, F = X.zip Y := ⟨_, rfl⟩
  rw [show pairsB leaf other i n P Q = F by rw [hF, hX, hY]; rfl]
  have hXl : X.length = P.length + 1 := by rw [hX, List.length_reverse, textsB_len, List.length_zip, hlP, Nat.min_self]
  have hYl : Y.length = Q.length + 1 := by rw [hY, List.length_reverse, textsB_len, List.length_zip, hlQ, Nat.min_self]
  have hXm : ∀ u ∈ X, u.length ≤ 549755813888 := fun u hu => by rw [hX, List.mem_reverse] at hu; exact textsB_le _ 549755813888 (by decide) _ (by simp; omega) u hu
  have hYm : ∀ u ∈ Y, u.length ≤ 549755813888 := fun u hu => by rw [hY, List.mem_reverse] at hu; exact textsB_le _ 549755813888 (by decide) _ (by simp; omega) u hu
  have HX0 := Lib.hid hX
  have HY0 := Lib.hid hY
  have HF := Lib.hid hF
  have HXl := Lib.hid hXl
  have HYl := Lib.hid hYl
  have HXm := Lib.hid hXm
  have HYm := Lib.hid hYm
  have hXb : X.length ≤ 4001 := by omega
  have hXY : X.length = Y.length := by omega
  have HXY := Lib.hid hXY
  clear ha hb hp hq hg hcA hcB hX hY hF hXl hYl hXm hYm hXY
  go_enter Tryd.func18, Tryd.ntmps18
  go_wp2_with (first
    | (go_at_call 21; have HX := HA; clear HA; refine (leaf_any _ leaf w HX.out (by omega) HG.out).mono ?_; rintro e w1 ⟨rfl, hb1⟩; have hw1 := hb1; have HB1 := Lib.hid (HB.out.below hb1); have HP1 := Lib.hid (HP.out.below hb1); have HQ1 := Lib.hid (HQ.out.below hb1); have HG1 := Lib.hid (HG.out.below hb1); clear hb1)
    | (go_at_call 23; have HX := HP1; clear HP1; refine (comes_any w1 (lfH leaf) i n _ P HX.out (by omega) HG1.out).mono ?_; rintro e w2 ⟨rfl, hb2⟩; rw [← HvA.out, ← HsA.out]; unfold hv; have hw2 := hw1.trans (hb2.mono hw1.size); have hs2 := hw2.size; have HB2 := Lib.hid (HB1.out.below hb2); have HQ2 := Lib.hid (HQ1.out.below hb2); have HG2 := Lib.hid (HG1.out.below hb2); clear hb2)
    | (refine wpList_store_row rfl 30 (.tmp 15) (.tmp 29) rfl w2.heap.size (bytesV A.b).toArray rfl rfl 30 z32.toArray (by exact Blk.newL w2 z32 _) (by exact hv_row _) (by exact z32_old _) (by exact hv_one _) ?_; obtain ⟨w3, hw3⟩ : ∃ w3, w3 = (w2.alloc (.cells #[.int .u8 0, .int .u8 0, .int .u8 0, .int .u8 0, .int .u8 0, .int .u8 0, .int .u8 0, .int .u8 0, .int .u8 0, .int .u8 0, .int .u8 0, .int .u8 0, .int .u8 0, .int .u8 0, .int .u8 0, .int .u8 0, .int .u8 0, .int .u8 0, .int .u8 0, .int .u8 0, .int .u8 0, .int .u8 0, .int .u8 0, .int .u8 0, .int .u8 0, .int .u8 0, .int .u8 0, .int .u8 0, .int .u8 0, .int .u8 0, .int .u8 0, .int .u8 0] 30)).setRow w2.heap.size (bytesV A.b).toArray := ⟨_, rfl⟩; rw [← hw3]; have hb3 : Below w2.heap.size w2 w3 := (by rw [hw3]; exact below_setRow ((Below.refl _ _).alloc (Nat.le_refl _) _) (Nat.le_refl _) _); have hA3 : Blk w3 w2.heap.size (bytesV A.b) 30 := (by rw [hw3]; exact (Blk.newL w2 z32 _).setRow _); have HA3 := Lib.hid hA3; have hw3b := hw2.trans (hb3.mono hs2); have HB3 := Lib.hid (HB2.out.below hb3); have HQ3 := Lib.hid (HQ2.out.below hb3); have HG3 := Lib.hid (HG2.out.below hb3); clear hb3 hA3 hw3 hw1 hw2)
    | (go_at_call 21; refine (leaf_any _ other w3 HB3.out (by omega) HG3.out).mono ?_; rintro e w4 ⟨rfl, hb4⟩; have hw4 := hw3b.trans (hb4.mono hw3b.size); have HA4 := Lib.hid (HA3.out.below hb4 HA3.out.lt); have HQ4 := Lib.hid (HQ3.out.below hb4); have HG4 := Lib.hid (HG3.out.below hb4); clear hb4)
    | (go_at_call 23; refine (comes_any w4 (lfH other) i n _ Q HQ4.out (by omega) HG4.out).mono ?_; rintro e w5 ⟨rfl, hb5⟩; rw [← HvB.out, ← HsB.out]; unfold hv; have hw5 := hw4.trans (hb5.mono hw4.size); have hs5 := hw5.size; have HA5 := Lib.hid (HA4.out.below hb5 HA4.out.lt); clear hb5)
    | (refine wpList_store_row rfl 30 (.tmp 17) (.tmp 38) rfl w5.heap.size (bytesV A.b).toArray rfl rfl 30 z32.toArray (by exact Blk.newL w5 z32 _) (by exact hv_row _) (by exact z32_old _) (by exact hv_one _) ?_; obtain ⟨w6, hw6⟩ : ∃ w6, w6 = (w5.alloc (.cells #[.int .u8 0, .int .u8 0, .int .u8 0, .int .u8 0, .int .u8 0, .int .u8 0, .int .u8 0, .int .u8 0, .int .u8 0, .int .u8 0, .int .u8 0, .int .u8 0, .int .u8 0, .int .u8 0, .int .u8 0, .int .u8 0, .int .u8 0, .int .u8 0, .int .u8 0, .int .u8 0, .int .u8 0, .int .u8 0, .int .u8 0, .int .u8 0, .int .u8 0, .int .u8 0, .int .u8 0, .int .u8 0, .int .u8 0, .int .u8 0, .int .u8 0, .int .u8 0] 30)).setRow w5.heap.size (bytesV A.b).toArray := ⟨_, rfl⟩; rw [← hw6]; have hb6 : Below w5.heap.size w5 w6 := (by rw [hw6]; exact below_setRow ((Below.refl _ _).alloc (Nat.le_refl _) _) (Nat.le_refl _) _); have hB6 : Blk w6 w5.heap.size (bytesV A.b) 30 := (by rw [hw6]; exact (Blk.newL w5 z32 _).setRow _); have HA6 := Lib.hid (HA5.out.below hb6 HA5.out.lt); have HB6 := Lib.hid hB6; have hw6b := hw5.trans (hb6.mono hs5); have HT6 := Lib.hid (HT0.out.below hw6b); have HU6 := Lib.hid (HU0.out.below hw6b); have HP6 := Lib.hid (HP.out.below hw6b); have HQ6 := Lib.hid (HQ.out.below hw6b); have HG6 := Lib.hid (HG.out.below hw6b); clear hb6 hB6 hw6)
    | (refine wpList_load_rowIf rfl 30 (.tmp 15) rfl w2.heap.size rfl 30 (bytesV A.b).toArray (0, 0) _ (by exact HA6.out) Tryd.underlying30 rfl (by exact hv_row _) ?_)
    | (refine wpList_load_rowIf rfl 30 (.tmp 17) rfl w5.heap.size rfl 30 (bytesV A.b).toArray (0, 0) _ (by exact HB6.out) Tryd.underlying30 rfl (by exact hv_row _) ?_)
    | (go_at_call 40; have HX := HT6; clear HT6; refine (texts_any _ leaf i n _ P w6 HX.out (by omega) HP6.out hlP lp h1 hn hi HG6.out).mono ?_; rintro e w7 ⟨⟨v7, vs7, rfl, hp7⟩, hb7⟩; rw [← HX0.out] at hp7; obtain ⟨k1, d1, rfl, _⟩ := hp7.sl.form; have hw7 := hw6b.trans (hb7.mono hw6b.size); have HX7 := Lib.hid hp7; have HT7 := Lib.hid (HU6.out.below hb7); have HQ7 := Lib.hid (HQ6.out.below hb7); have HG7 := Lib.hid (HG6.out.below hb7); clear hb7 hp7)
    | (go_at_call 40; refine (texts_any _ other i n _ Q w7 HT7.out (by omega) HQ7.out hlQ lq h1 hn hi HG7.out).mono ?_; rintro e w8 ⟨⟨v8, vs8, rfl, hp8⟩, hb8⟩; rw [← HY0.out] at hp8; obtain ⟨k2, d2, rfl, _⟩ := hp8.sl.form; have hw8 := hw7.trans (hb8.mono hw7.size); have HX8 := Lib.hid (HX7.out.below hb8); have HY8 := Lib.hid hp8; have HG8 := Lib.hid (HG7.out.below hb8); clear hb8 hp8)
    | fail)
  clear heq HB HT0 HU0 HP HQ HA6 HB6 HA3 HB3 HG3 HQ3 HA4 HQ4 HG4 HA5 HB1 HQ1 HG1 HB2 HQ2 HG2 HT7 HQ7 HG7 HU6 HP6 HQ6 HG6 HX7
  have hs8 := hw8.size
  go_loopw [63] (fun jv wr => ∃ j : Nat, jv = .int .i64 j ∧ j ≤ X.length ∧ firstB F = firstB (F.drop j) ∧ Below w8.heap.size w8 wr) (fun jv _ => X.length - (intOf jv).toNat)
  case atStart => exact ⟨0, rfl, Nat.zero_le _, rfl, Below.refl _ _⟩
  case round =>
    obtain ⟨j, rfl, hj, hf, hw⟩ := hrel
    have hsz := hw.size
    have HFj := Lib.hid hf
    clear hf
    by_cases hlt : j < X.length
    · have hlt' : (j : Int) < X.length := by omega
      obtain ⟨b1, o1, p1, s, rfl, _, c1, _, hs, hX1⟩ := (HX8.out.below hw).at hlt
      obtain ⟨b2, o2, p2, t, rfl, _, c2, _, ht, hY1⟩ := (HY8.out.below hw).at (k := j) (by have := HXY.out; omega)
      have i1 : (0 : Int) ≤ j ∧ (j : Int) < X.length := ⟨by omega, hlt'⟩
      have i2 : (0 : Int) ≤ j ∧ (j : Int) < Y.length := ⟨by omega, by have := HXY.out; omega⟩
      have ls := HXm.out s (List.mem_of_getElem? hs)
      have lt := HYm.out t (List.mem_of_getElem? ht)
      have hat := firstB_at (show F[j]? = some (s, t) by rw [HF.out]; exact zip_at hs ht)
      have HAt := Lib.hid hat
      have HX1 := Lib.hid hX1
      have HY1 := Lib.hid hY1
      have C1 := Lib.hid c1
      have C2 := Lib.hid c2
      have hl1 := World.block_lt_of_cell? _ _ c1
      have hl2 := World.block_lt_of_cell? _ _ c2
      obtain ⟨R, hR⟩ : ∃ R, R = clashB s t := ⟨_, rfl⟩
      have HR := Lib.hid hR
      have HGw := Lib.hid (HG8.out.below hw)
      clear hs ht hat hX1 hY1 c1 c2 hR
      go_wp2_with fail
      refine wp_region_mono 9 (wr.heap.size) [(fun v _ => v = .slice (some ⟨b1, o1, none⟩) X.length d1), (fun v _ => v = .int .i64 j), (fun v _ => v = .pointer (some ⟨b1, o1 + j, none⟩)), (fun v _ => v = p1), (fun v _ => v = .slice (some ⟨b2, o2, none⟩) Y.length d2), (fun v _ => v = .int .i64 j), (fun v _ => v = .pointer (some ⟨b2, o2 + j, none⟩)), (fun v _ => v = p2), (fun v _ => v = .bool R)] (by kernel_rfl) (by kernel_rfl) (Nat.le_refl _) ?mkept _ rfl ?mops ?mfin
      case mkept =>
        repeat (refine List.forall_mem_cons.2 ⟨by first | exact fun _ _ _ _ h => h | exact fun _ _ _ hb h => Parts.below h hb | exact fun _ _ _ hb h => IsSl.below h hb, ?_⟩)
        exact fun _ h => by cases h
      case mops =>
        simp only [List.take_succ_cons, List.take_zero, monoAll, List.getD_cons_zero, List.getD_cons_succ]
        iterate 9
        
         (refine ⟨fun x wr hb hd Qg hK => ?_, ?_⟩
          · as_aux_lemma =>
            simp only [fill, Act.put, List.setIfInBounds_toArray, List.set_cons_succ, List.set_cons_zero, needs, Region.binds, List.filter_cons, List.filter_nil, List.map_cons, List.map_nil, if_true, List.mem_cons, List.not_mem_nil, or_false, forall_eq_or_imp, forall_eq, List.getD_cons_zero, List.getD_cons_succ, false_implies, implies_true] at hd hK ⊢
            (try simp only [hd] at hK ⊢)
            first
            | (show wpList _ _ _ [⟨some 69, .load _ _, _, _, _, _⟩] _ _; have c0 := (hb.cell (p := ⟨b1, o1 + j, none⟩) hl1).trans C1.out; go_wp2_with fail; exact hK _ _ rfl (Below.refl _ _))
            | (show wpList _ _ _ [⟨some 73, .load _ _, _, _, _, _⟩] _ _; have c0 := (hb.cell (p := ⟨b2, o2 + j, none⟩) hl2).trans C2.out; go_wp2_with fail; exact hK _ _ rfl (Below.refl _ _))
            | (show wpList _ _ _ [⟨some 74, .call _, _, _, _, _⟩] _ _; go_wp2_with (go_at_call 16; refine (cis_any p1 p2 s t wr (HX1.out.below hb) (HY1.out.below hb) (by omega) (by omega) (HGw.out.below hb)).mono ?_; rintro e w5 ⟨rfl, hb5⟩); exact hK _ _ (by rw [HR.out]) hb5)
            | (go_wp2_with fail; exact hK _ _ rfl (Below.refl _ _)))
        trivial
      case mfin =>
        intro z w9 hb9 hR9
        have x8 := hR9 8 (by decide)
        simp only [List.getD_cons_zero, List.getD_cons_succ] at x8
        have hw9 := hw.trans (hb9.mono hsz)
        have hs9 := hw9.size
        have hb9s := hb9.size
        have D1 := Lib.hid ((hb9.cell (p := ⟨b1, o1 + j, none⟩) hl1).trans C1.out)
        have D2 := Lib.hid ((hb9.cell (p := ⟨b2, o2 + j, none⟩) hl2).trans C2.out)
        have HX9 := Lib.hid (HX1.out.below hb9)
        have HY9 := Lib.hid (HY1.out.below hb9)
        clear hR9 hb9 C1 C2 HX1 HY1 HGw
        simp only [List.drop_succ_cons, List.drop_zero]
        generalize List.toArray _ = L0
        simp only [List.take_succ_cons, List.take_zero, List.map_cons, List.map_nil, fill, Act.put, List.setIfInBounds_toArray, List.set_cons_succ, List.set_cons_zero, x8]
        clear x8
        cases R with
        | false =>
          have hnx : firstB F = firstB (F.drop (j + 1)) := by rw [HFj.out, HAt.out, ← HR.out]; rfl
          have HNX := Lib.hid hnx
          clear hnx
          go_wp2_with fail
          exact ⟨⟨j + 1, by go_num, by omega, HNX.out, hw9⟩, by simp [intOf]; omega⟩
        | true =>
          have hnx : firstB F = some (s, t) := by rw [HFj.out, HAt.out, ← HR.out]; rfl
          have HNX := Lib.hid hnx
          clear hnx
          go_wp2_with fail
          refine wp_region_mono 11 (w9.heap.size) [(fun v _ => v = .slice (some ⟨b1, o1, none⟩) X.length d1), (fun v _ => v = .int .i64 j), (fun v _ => v = .pointer (some ⟨b1, o1 + j, none⟩)), (fun v _ => v = p1), (fun v _ => v = .slice (some ⟨b2, o2, none⟩) Y.length d2), (fun v _ => v = .int .i64 j), (fun v _ => v = .pointer (some ⟨b2, o2 + j, none⟩)), (fun v _ => v = p2), (fun v _ => v = p1), (fun v _ => v = p2), (fun v _ => v = .bool true)] (by kernel_rfl) (by kernel_rfl) (Nat.le_refl _) ?mkept _ rfl ?mops ?mfin
          case mkept =>
            repeat (refine List.forall_mem_cons.2 ⟨by first | exact fun _ _ _ _ h => h | exact fun _ _ _ hb h => Parts.below h hb | exact fun _ _ _ hb h => IsSl.below h hb, ?_⟩)
            exact fun _ h => by cases h
          case mops =>
            simp only [List.take_succ_cons, List.take_zero, monoAll, List.getD_cons_zero, List.getD_cons_succ]
            iterate 11
            
             (refine ⟨fun x wr hb hd Qg hK => ?_, ?_⟩
              · as_aux_lemma =>
                simp only [fill, Act.put, List.setIfInBounds_toArray, List.set_cons_succ, List.set_cons_zero, needs, Region.binds, List.filter_cons, List.filter_nil, List.map_cons, List.map_nil, if_true, List.mem_cons, List.not_mem_nil, or_false, forall_eq_or_imp, forall_eq, List.getD_cons_zero, List.getD_cons_succ, false_implies, implies_true] at hd hK ⊢
                (try simp only [hd] at hK ⊢)
                first
                | (show wpList _ _ _ [⟨some 78, .load _ _, _, _, _, _⟩] _ _; have c0 := (hb.cell (p := ⟨b1, o1 + j, none⟩) (by show b1 < _; omega)).trans D1.out; go_wp2_with fail; exact hK _ _ rfl (Below.refl _ _))
                | (show wpList _ _ _ [⟨some 82, .load _ _, _, _, _, _⟩] _ _; have c0 := (hb.cell (p := ⟨b2, o2 + j, none⟩) (by show b2 < _; omega)).trans D2.out; go_wp2_with fail; exact hK _ _ rfl (Below.refl _ _))
                | (go_wp2_with fail; exact hK _ _ rfl (Below.refl _ _)))
            trivial
          case mfin =>
            intro z w10 hb10 hR10
            have y8 := hR10 8 (by decide)
            have y9 := hR10 9 (by decide)
            have y10 := hR10 10 (by decide)
            simp only [List.getD_cons_zero, List.getD_cons_succ] at y8 y9 y10
            have hw10 := (hw8.trans (hw9.mono hs8)).trans (hb10.mono (Nat.le_trans hs8 hs9))
            have HX10 := Lib.hid (HX9.out.below hb10)
            have HY10 := Lib.hid (HY9.out.below hb10)
            clear hR10 hb10
            simp only [List.drop_succ_cons, List.drop_zero]
            generalize List.toArray _ = L0
            simp only [List.take_succ_cons, List.take_zero, List.map_cons, List.map_nil, fill, Act.put, List.setIfInBounds_toArray, List.set_cons_succ, List.set_cons_zero, y8, y9, y10]
            clear y8 y9 y10
            go_wp2_with fail
            go_ret3
            rw [HNX.out]
            exact ⟨⟨_, _, rfl, HX10.out, HY10.out⟩, hw10⟩
    · have hlt' : ¬ (j : Int) < X.length := by omega
      have hend : firstB F = none := by
        rw [HFj.out, List.drop_eq_nil_of_le (by rw [HF.out, List.length_zip]; omega)]
        rfl
      have HN := Lib.hid hend
      clear hend
      go_wp2_with fail
      go_ret3
      rw [HN.out]
      exact ⟨extR_none _, hw8.trans (hw.mono hs8)⟩
theorem paths_any (va vb : Value) (leaf other : List UInt8) (i n : Int) (pv qv : Value) (P Q : List H) (w : World) (ha : Bytes w va leaf) (hb : Bytes w vb other) (la : leaf.length ≤ 274877906944) (lb : other.length ≤ 274877906944) (hp : Hs w pv P) (hq : Hs w qv Q) (lp : P.length ≤ 4000) (lq : Q.length ≤ 4000) (hg : Glob w) :
    Calls Tryd.prog 18 #[va, vb, .int .i64 i, .int .i64 n, pv, qv] w fun e w' => ExtR (pathsB leaf other i n P Q) e w' ∧ Below w.heap.size w w' := by
  by_cases hc : comesR (lfH leaf) i n P ≠ none ∧ comesR (lfH other) i n Q ≠ none ∧ comesR (lfH leaf) i n P = comesR (lfH other) i n Q
  · rw [show pathsB leaf other i n P Q = firstB (pairsB leaf other i.toNat n.toNat P Q) from if_pos hc]
    obtain ⟨h1, _, h3⟩ := hc
    obtain ⟨A, hA⟩ := Option.ne_none_iff_exists'.1 h1
    have hB := h3.symm.trans hA
    obtain ⟨a, b, rfl, rfl, q1, q2, q3, q4⟩ := comesR_some hA
    obtain ⟨a', b', e1, e2, _, _, _, q5⟩ := comesR_some hB
    have e1' : a = a' := by omega
    have e2' : b = b' := by omega
    subst e1' e2'
    exact paths_some va vb leaf other a b pv qv P Q w ha hb la lb hp hq lp lq hg q1 q2 q3 q4 q5 A hA hB
  · rw [show pathsB leaf other i n P Q = none from if_neg hc]
    exact paths_none va vb leaf other i n pv qv P Q w ha hb la lb hp hq lp lq hg hc
end Go.Proofs.YthgkaegkkkghhaaDoor
