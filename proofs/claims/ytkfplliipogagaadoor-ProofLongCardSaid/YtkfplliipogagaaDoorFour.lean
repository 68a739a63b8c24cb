/- Path and Prove, and the reference's, whatever the number. Conditions: the list can be read, at most 2^40 hashes; the package's tables read as they are laid. -/
import Derived.Test.YtkfplliipogagaaDoorRef6G
import Derived.Test.YtkfplliipogagaaDoorRef6W
import Derived.Test.YtkfplliipogagaaDoorPathW
namespace Go.Proofs.YtkfplliipogagaaDoor
open Go.RowKit

def pathR (l : List H) (i : Int) : List H := if 0 ≤ i ∧ i < l.length then pathN ndH e0H l i.toNat else []
def subR (l : List H) (m : Int) : List H := if 1 ≤ m ∧ m ≤ l.length then subN ndH e0H l m.toNat true else []
theorem path_i (v : Value) (l : List H) (i : Int) (w : World) (hle : l.length ≤ 1099511627776) (hs : Hs w v l) (hg : Glob w) :
    Calls Tryd.prog 34 #[v, .int .i64 i] w fun e w' => (∃ v', e = .returned (.tuple #[v', .bool (decide (0 ≤ i ∧ i < l.length))]) ∧ Hs w' v' (pathR l i)) ∧ Below w.heap.size w w' := by
  unfold pathR
  by_cases h : 0 ≤ i ∧ i < l.length
  · rw [if_pos h, decide_eq_true h]
    obtain ⟨a, rfl⟩ : ∃ a : Nat, i = a := ⟨i.toNat, by omega⟩
    exact (path_any l.length v l a w rfl hle hs hg (by omega)).mono fun e w' ⟨⟨v', h1, h2⟩, h3⟩ => ⟨⟨v', h1, h2.hs⟩, h3⟩
  · rw [if_neg h, decide_eq_false h]
    exact (path_none v l i w hs (by omega)).mono fun e w' ⟨h1, h2⟩ => ⟨⟨_, h1, Hs.nil _⟩, h2 ▸ Below.refl _ _⟩
theorem refpath_i (v : Value) (l : List H) (i : Int) (w : World) (hle : l.length ≤ 1099511627776) (hs : Hs w v l) (hg : Glob w) :
    Calls Tryd.prog 35 #[v, .int .i64 i] w fun e w' => (∃ v', e = .returned (.tuple #[v', .bool (decide (0 ≤ i ∧ i < l.length))]) ∧ Hs w' v' (pathR l i)) ∧ Below w.heap.size w w' := by
  unfold pathR
  by_cases h : 0 ≤ i ∧ i < l.length
  · rw [if_pos h, decide_eq_true h]
    obtain ⟨a, rfl⟩ : ∃ a : Nat, i = a := ⟨i.toNat, by omega⟩
    exact refpath_any v l a w hle hs hg (by omega)
  · rw [if_neg h, decide_eq_false h]
    exact (refpath_none v l i w hs (by omega)).mono fun e w' ⟨h1, h2⟩ => ⟨⟨_, h1, Hs.nil _⟩, h2 ▸ Below.refl _ _⟩
theorem prove_i (v : Value) (l : List H) (m : Int) (w : World) (hle : l.length ≤ 1099511627776) (hs : Hs w v l) (hg : Glob w) :
    Calls Tryd.prog 36 #[v, .int .i64 m] w fun e w' => (∃ v', e = .returned (.tuple #[v', .bool (decide (1 ≤ m ∧ m ≤ l.length))]) ∧ Hs w' v' (subR l m)) ∧ Below w.heap.size w w' := by
  unfold subR
  by_cases h : 1 ≤ m ∧ m ≤ l.length
  · rw [if_pos h, decide_eq_true h]
    obtain ⟨a, rfl⟩ : ∃ a : Nat, m = a := ⟨m.toNat, by omega⟩
    exact (prove_any v l a w hle hs hg (by omega) (by omega)).mono fun e w' ⟨⟨v', h1, h2⟩, h3⟩ => ⟨⟨v', h1, h2.hs⟩, h3⟩
  · rw [if_neg h, decide_eq_false h]
    exact (prove_none v l m w hs (by omega)).mono fun e w' ⟨h1, h2⟩ => ⟨⟨_, h1, Hs.nil _⟩, h2 ▸ Below.refl _ _⟩
theorem refprove_i (v : Value) (l : List H) (m : Int) (w : World) (hle : l.length ≤ 1099511627776) (hs : Hs w v l) (hg : Glob w) :
    Calls Tryd.prog 37 #[v, .int .i64 m] w fun e w' => (∃ v', e = .returned (.tuple #[v', .bool (decide (1 ≤ m ∧ m ≤ l.length))]) ∧ Hs w' v' (subR l m)) ∧ Below w.heap.size w w' := by
  unfold subR
  by_cases h : 1 ≤ m ∧ m ≤ l.length
  · rw [if_pos h, decide_eq_true h]
    obtain ⟨a, rfl⟩ : ∃ a : Nat, m = a := ⟨m.toNat, by omega⟩
    exact refprove_any v l a w hle hs hg (by omega) (by omega)
  · rw [if_neg h, decide_eq_false h]
    exact (refprove_none v l m w hs (by omega)).mono fun e w' ⟨h1, h2⟩ => ⟨⟨_, h1, Hs.nil _⟩, h2 ▸ Below.refl _ _⟩
theorem refprove_len (l : List H) (m : Int) (h : l.length ≤ 1099511627776) : (subR l m).length ≤ 41 := by
  unfold subR
  split
  · exact sub_few l _ true (by omega) (by omega) h
  · simp
theorem path_few (l : List H) (i : Int) (h : l.length ≤ 1099511627776) : (pathR l i).length ≤ 40 := by
  unfold pathR
  split
  · exact path_len l _ (by omega) h
  · simp
end Go.Proofs.YtkfplliipogagaaDoor
