/- The digest of parts that the caller has just laid in a new block. Conditions: each part can be read; together at most 2^46 bytes; the package's tables read as they are laid. -/
import Derived.Test.YtjjoiefngoghpaaDoorShaN
namespace Go.Proofs.YtjjoiefngoghpaaDoor
open Go.RowKit

theorem Bytes.one {w : World} {v : Value} {l : List UInt8} (h : Bytes w v l) : v.oneCell' = true := by
  obtain ⟨_, _, rfl, _⟩ := h.form
  rfl
theorem Bytes.below {w w' : World} {v : Value} {l : List UInt8} (h : Bytes w v l) (hb : Below w.heap.size w w') : Bytes w' v l := IsSl.below h hb
theorem bytes_nil (w : World) : Bytes w (.slice none 0 0) [] := IsSl.nil w 1
/-- These values are these texts. -/
inductive Texts (w : World) : List Value → List (List UInt8) → Prop where
  | nil : Texts w [] []
  | cons {v : Value} {l : List UInt8} {vs : List Value} {ls : List (List UInt8)} : Bytes w v l → Texts w vs ls → Texts w (v :: vs) (l :: ls)
theorem Texts.len {w : World} {vs : List Value} {ls : List (List UInt8)} (h : Texts w vs ls) : vs.length = ls.length := by
  induction h with
  | nil => rfl
  | cons _ _ ih => rw [List.length_cons, List.length_cons, ih]
theorem Texts.one {w : World} {vs : List Value} {ls : List (List UInt8)} (h : Texts w vs ls) : ∀ u ∈ vs, u.oneCell' = true := by
  induction h with
  | nil => exact fun _ h => by cases h
  | cons h1 _ ih =>
    intro u hu
    cases hu with
    | head => exact h1.one
    | tail _ hu => exact ih u hu
theorem Texts.at {w : World} {vs : List Value} {ls : List (List UInt8)} (h : Texts w vs ls) : ∀ (i : Nat) (x : Value) (l : List UInt8), vs[i]? = some x → ls[i]? = some l → Bytes w x l := by
  induction h with
  | nil => exact fun _ _ _ h => by cases h
  | cons h1 _ ih =>
    intro i x l hx hl
    cases i with
    | zero =>
      cases hx
      cases hl
      exact h1
    | succ i => exact ih i x l hx hl
theorem Texts.kept {w w' : World} {vs : List Value} {ls : List (List UInt8)} (h : Texts w vs ls) (hb : Below w.heap.size w w') : Texts w' vs ls := by
  induction h with
  | nil => exact .nil
  | cons h1 _ ih => exact .cons (h1.below hb) ih
theorem Texts.parts {w : World} {vs : List Value} {ls : List (List UInt8)} (h : Texts w vs ls) (e : TypeId) {n : Nat} (hn : ls.length = n) : Parts (w.alloc (.cells vs.toArray e)) (.slice (some ⟨w.heap.size, 0, none⟩) n n) ls vs :=
  parts_alloc w vs ls e rfl hn h.len h.one h.at

theorem sum_at (w : World) (vs : List Value) (ls : List (List UInt8)) (e : TypeId) {n : Nat} (h : Texts w vs ls) (hn : ls.length = n) (t : List UInt8) (ht : cat ls = t) (hsz : t.length ≤ 70368744177664) (hln : n ≤ 140737488355328) (hg : Glob w) :
    Calls Tryd.prog 21 #[.slice (some ⟨w.heap.size, 0, none⟩) n n] (w.alloc (.cells vs.toArray e)) fun e w' => e = .returned (.agg (bytesV (sumN t)).toArray) ∧ Below w.heap.size w w' := by
  subst ht
  refine (sum_any _ ls vs _ (h.parts e hn) hsz (by omega) (hg.below ((Below.refl _ _).alloc (Nat.le_refl _) _))).mono ?_
  rintro e w' ⟨rfl, hb⟩
  rw [sum_nat]
  exact ⟨rfl, Below.trans ((Below.refl _ _).alloc (Nat.le_refl _) _) (hb.mono (by simp))⟩
end Go.Proofs.YtjjoiefngoghpaaDoor
