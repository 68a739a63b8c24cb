/- The digest of parts that the caller has just laid in a new block. Conditions: each part can be read; together at most 2^46 bytes; the package's tables read as they are laid. -/
import Derived.Test.YtkfplliipogagaaDoorShaN
import Derived.Deep.Slices
namespace Go.Proofs.YtkfplliipogagaaDoor
open Go.RowKit

theorem Bytes.one {w : World} {v : Value} {l : List UInt8} (h : Bytes w v l) : v.oneCell' = true := by
  obtain ⟨_, _, rfl, _⟩ := h.form
  rfl
theorem Bytes.below {w w' : World} {v : Value} {l : List UInt8} (h : Bytes w v l) (hb : Below w.heap.size w w') : Bytes w' v l := IsSl.below h hb
theorem bytes_nil (w : World) : Bytes w (.slice none 0 0) [] := IsSl.nil w 1
theorem elem_of {P : Program} {t e : TypeId} (h : P.underlying t = some (.slice e)) : P.elem t = e := by simp [Program.elem, h]
/-- A part of a slice of bytes. -/
theorem slice_mid {P : Program} {w : World} {v : Value} {l : List UInt8} {t e : TypeId} (h : Bytes w v l) (ht : P.underlying t = some (.slice e)) (hsz : ∀ w, (sizeOf e).run P w = .ok 1 w) (i j : Nat) (hij : i ≤ j) (hj : j ≤ l.length) :
    ∃ a c, (∀ w' : World, (Instr.slice t v (some (.int .i64 (i : Int))) (some (.int .i64 (j : Int))) none).run P w' = .ok (.slice a (j - i) c) w') ∧ Bytes w (.slice a (j - i) c) ((l.drop i).take (j - i)) := by
  have he := elem_of ht
  have ht' : P.underlying t = some (.slice (P.elem t)) := by rw [he]; exact ht
  have hlen : ((l.drop i).take (j - i)).length = j - i := by rw [List.length_take, List.length_drop]; omega
  rcases h.2.2 with ⟨rfl, hl⟩ | ⟨ad, cap, rfl, hc, hr⟩
  · obtain rfl : j = 0 := by omega
    obtain rfl : i = 0 := by omega
    refine ⟨none, 0, fun w' => ?_, IsSl.nil w 1⟩
    rw [show ((0 : Nat) : Int) = 0 from rfl, run_slice_lh w' t none 0 0 ht' .i64 .i64 0 0 (by decide) (by decide) (by decide), he, hsz]
    rfl
  · refine ⟨if cap = i then some ad else (some ad).map (·.add (i * 1)), cap - i, fun w' => ?_, ?_⟩
    · rw [run_slice_lh w' t (some ad) l.length cap ht' .i64 .i64 i j (by omega) (by omega) (by omega), he, hsz]
      simp only [Result.andThen_ok, sliced, Int.toNat_natCast]
    · refine ⟨by rw [bytesV_len, Nat.mul_one], bytesV_one _, ?_⟩
      by_cases hci : cap = i
      · rw [if_pos hci]
        refine .inr ⟨ad, cap - i, by rw [hlen], by omega, fun q u hu => ?_⟩
        have := (List.getElem?_eq_some_iff.1 hu).1
        rw [bytesV_len, hlen] at this
        omega
      · rw [if_neg hci]
        refine .inr ⟨ad.add (i * 1), cap - i, by rw [hlen]; rfl, by rw [hlen]; omega, fun q u hu => ?_⟩
        unfold bytesV at hu
        rw [List.getElem?_map] at hu
        obtain ⟨c, hc1, rfl⟩ := Option.map_eq_some_iff.1 hu
        rw [List.getElem?_take] at hc1
        split at hc1
        · rw [List.getElem?_drop] at hc1
          have := hr (i + q) _ (bytesV_at l (i + q) c hc1)
          rw [← this, Nat.mul_one, Go.Deep.add_add]
        · cases hc1
theorem slice_head {P : Program} {w : World} {v : Value} {l : List UInt8} {t e : TypeId} (h : Bytes w v l) (ht : P.underlying t = some (.slice e)) (hsz : ∀ w, (sizeOf e).run P w = .ok 1 w) (j : Nat) (hj : j ≤ l.length) :
    ∃ a c, (∀ w' : World, (Instr.slice t v none (some (.int .i64 (j : Int))) none).run P w' = .ok (.slice a j c) w') ∧ Bytes w (.slice a j c) (l.take j) := by
  obtain ⟨a, c, h1, h2⟩ := slice_mid h ht hsz 0 j (by omega) hj
  rw [Nat.sub_zero, List.drop_zero] at h2
  refine ⟨a, c, fun w' => ?_, h2⟩
  rw [← Nat.sub_zero j, ← h1 w', Nat.sub_zero]
  obtain ⟨xa, cap, rfl, hc⟩ := h.form
  have he := elem_of ht
  have ht' : P.underlying t = some (.slice (P.elem t)) := by rw [he]; exact ht
  rw [show ((0 : Nat) : Int) = 0 from rfl, run_slice_h w' t xa l.length cap ht' .i64 j (by omega) (by omega), run_slice_lh w' t xa l.length cap ht' .i64 .i64 0 j (by decide) (by omega) (by omega)]
  rfl
/-- These values are these texts. -/
inductive Texts (w : World) : List Value → List (List UInt8) → Prop where
  | nil : Texts w [] []
  | cons {v : Value} {l : List UInt8} {vs : List Value} {ls : List (List UInt8)} : Bytes w v l → Texts w vs ls → Texts w (v :: vs) (l :: ls)
theorem Texts.len {w : World} {vs : List Value} {ls : List (List UInt8)} (h : Texts w vs ls) : vs.length = ls.length := by
  induction h with
  | nil => rfl
  | cons _ _ ih => rw [List.length_cons, List.length_cons, ih]
theorem Texts.one {w : World} {vs : List Value} {ls : List (List UInt8)} (h : Texts w vs ls) : ∀ u ∈ vs, u.oneCell' = true := by
  induction h with
  | nil => exact fun _ h => by cases h
  | cons h1 _ ih =>
    intro u hu
    cases hu with
    | head => exact h1.one
    | tail _ hu => exact ih u hu
theorem Texts.at {w : World} {vs : List Value} {ls : List (List UInt8)} (h : Texts w vs ls) : ∀ (i : Nat) (x : Value) (l : List UInt8), vs[i]? = some x → ls[i]? = some l → Bytes w x l := by
  induction h with
  | nil => exact fun _ _ _ h => by cases h
  | cons h1 _ ih =>
    intro i x l hx hl
    cases i with
    | zero =>
      cases hx
      cases hl
      exact h1
    | succ i => exact ih i x l hx hl
theorem Texts.kept {w w' : World} {vs : List Value} {ls : List (List UInt8)} (h : Texts w vs ls) (hb : Below w.heap.size w w') : Texts w' vs ls := by
  induction h with
  | nil => exact .nil
  | cons h1 _ ih => exact .cons (h1.below hb) ih
theorem Texts.parts {w : World} {vs : List Value} {ls : List (List UInt8)} (h : Texts w vs ls) (e : TypeId) {n : Nat} (hn : ls.length = n) : Parts (w.alloc (.cells vs.toArray e)) (.slice (some ⟨w.heap.size, 0, none⟩) n n) ls vs :=
  parts_alloc w vs ls e rfl hn h.len h.one h.at

theorem sum_at (w : World) (vs : List Value) (ls : List (List UInt8)) (e : TypeId) {n : Nat} (h : Texts w vs ls) (hn : ls.length = n) (t : List UInt8) (ht : cat ls = t) (hsz : t.length ≤ 70368744177664) (hln : n ≤ 140737488355328) (hg : Glob w) :
    Calls Tryd.prog 27 #[.slice (some ⟨w.heap.size, 0, none⟩) n n] (w.alloc (.cells vs.toArray e)) fun e w' => e = .returned (.agg (bytesV (sumN t)).toArray) ∧ Below w.heap.size w w' := by
  subst ht
  refine (sum_any _ ls vs _ (h.parts e hn) hsz (by omega) (hg.below ((Below.refl _ _).alloc (Nat.le_refl _) _))).mono ?_
  rintro e w' ⟨rfl, hb⟩
  rw [sum_nat]
  exact ⟨rfl, Below.trans ((Below.refl _ _).alloc (Nat.le_refl _) _) (hb.mono (by simp))⟩
theorem sum_atB (w : World) (vs : List Value) (ls : List (List UInt8)) (e : TypeId) {n B : Nat} (hB : w.heap.size = B) (h : Texts w vs ls) (hn : ls.length = n) (t : List UInt8) (ht : cat ls = t) (hsz : t.length ≤ 70368744177664) (hln : n ≤ 140737488355328) (hg : Glob w) :
    Calls Tryd.prog 27 #[.slice (some ⟨B, 0, none⟩) n n] (w.alloc (.cells vs.toArray e)) fun e w' => e = .returned (.agg (bytesV (sumN t)).toArray) ∧ Below w.heap.size w w' := by
  subst hB
  exact sum_at w vs ls e h hn t ht hsz hln hg
end Go.Proofs.YtkfplliipogagaaDoor
