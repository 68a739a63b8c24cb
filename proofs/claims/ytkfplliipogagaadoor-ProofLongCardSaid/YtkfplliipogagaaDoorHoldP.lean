/- What paths and proofs come to, in plain Lean: for the laws of layer 6. No condition. -/
import Derived.Test.YtkfplliipogagaaDoorFour
namespace Go.Proofs.YtkfplliipogagaaDoor
open Go.RowKit

theorem comesR_path (l : List H) (i : Nat) (x : H) (h : l[i]? = some x) (hn : l.length ≤ 1048576) : comesR x i l.length (pathN ndH e0H l i) = some (rootN ndH e0H l) := by
  have hi := (List.getElem?_eq_some_iff.1 h).1
  unfold comesR
  rw [if_pos (by omega)]
  exact comes_path ndH e0H l i x h
theorem in_path (l : List H) (i : Nat) (x : H) (h : l[i]? = some x) (hn : l.length ≤ 1048576) : inR x (rootN ndH e0H l) i l.length (pathN ndH e0H l i) = true := by
  unfold inR
  rw [comesR_path l i x h hn]
  simp
theorem bothR_sub (l : List H) (m : Nat) (h1 : 1 ≤ m) (h2 : m ≤ l.length) (hn : l.length ≤ 1048576) : bothR (rootN ndH e0H (l.take m)) m l.length (subN ndH e0H l m true) = some (rootN ndH e0H (l.take m), rootN ndH e0H l) := by
  unfold bothR
  rw [if_pos (by omega)]
  exact both_sub ndH e0H l m h1 h2
theorem beg_sub (l : List H) (m : Nat) (h1 : 1 ≤ m) (h2 : m ≤ l.length) (hn : l.length ≤ 1048576) : begR m l.length (rootN ndH e0H (l.take m)) (rootN ndH e0H l) (subN ndH e0H l m true) = true := by
  unfold begR
  rw [if_neg (by omega), bothR_sub l m h1 h2 hn]
  simp
theorem digitsN_pos (n : Nat) (h : 0 < n) : digitsN n = digitsN (n / 2) + 1 := by rw [digitsN, dif_neg (by omega)]
theorem digitsN_zero : digitsN 0 = 0 := by rw [digitsN, dif_pos rfl]
theorem digitsN_le : ∀ (n : Nat), digitsN n ≤ n := by
  intro n
  induction n using Nat.strongRecOn with
  | _ n ih =>
    by_cases h : n = 0
    · subst h; rw [digitsN_zero]; exact Nat.le_refl _
    · rw [digitsN_pos n (by omega)]
      have := ih (n / 2) (by omega)
      omega
theorem path_digits (l : List H) (i : Nat) (hi : i < l.length) : (pathN ndH e0H l i).length ≤ digitsN l.length := by
  obtain ⟨x, hx⟩ : ∃ x, l[i]? = some x := ⟨_, List.getElem?_eq_getElem hi⟩
  rw [(path_both ndH e0H _ l i x rfl hx).1]
  exact sidesN_len _ _ _ (Nat.le_of_lt (digitsN_lt _))
theorem sub_digits (l : List H) (m : Nat) (h1 : 1 ≤ m) (h2 : m ≤ l.length) : (subN ndH e0H l m true).length ≤ digitsN l.length + 1 := by
  rw [sub_len ndH e0H l m h1 h2]
  have := sidesM_len (digitsN l.length) l.length m (Nat.le_of_lt (digitsN_lt _))
  split <;> omega
/-- A path of another length comes to nothing. -/
theorem comesR_len (x : H) (i n : Int) (P : List H) (h : P.length ≠ (sidesN n.toNat i.toNat).length) : comesR x i n P = none := by
  unfold comesR
  split
  · unfold comesN
    rw [if_neg (fun e => h e.symm)]
  · rfl
theorem path_sides (l : List H) (i : Nat) (hi : i < l.length) : (pathN ndH e0H l i).length = (sidesN l.length i).length := by
  obtain ⟨x, hx⟩ : ∃ x, l[i]? = some x := ⟨_, List.getElem?_eq_getElem hi⟩
  exact (path_both ndH e0H _ l i x rfl hx).1
theorem comesR_longer (l : List H) (i : Nat) (x : H) (P : List H) (hi : i < l.length) (h : P.length ≠ (pathN ndH e0H l i).length) : comesR x i l.length P = none := by
  refine comesR_len x i l.length P ?_
  rw [path_sides l i hi] at h
  simpa using h
theorem bothR_longer (l : List H) (m : Nat) (x : H) (P : List H) (h1 : 1 ≤ m) (h2 : m ≤ l.length) (h : P.length ≠ (subN ndH e0H l m true).length) : bothR x m l.length P = none := by
  unfold bothR
  split
  · refine both_len ndH x _ _ P ?_
    rw [sub_len ndH e0H l m h1 h2] at h
    simpa using h
  · rfl
theorem sub_self (l : List H) : subN ndH e0H l l.length true = [] := by rw [subN_end l l.length true rfl]; rfl
theorem bothR_self (x : H) (n : Nat) (h1 : 1 ≤ n) (hn : n ≤ 1048576) : bothR x n n [] = some (x, x) := by
  unfold bothR
  rw [if_pos (by omega)]
  show bothN ndH x n n [] = _
  unfold bothN
  rw [wholeN, dif_pos (.inr rfl), sidesM, dif_pos (.inr rfl)]
  rfl
theorem beg_self (x y : H) (n : Nat) (h1 : 1 ≤ n) (hn : n ≤ 1048576) : begR n n x y [] = (x.b == y.b) := by
  unfold begR
  rw [if_neg (by omega), bothR_self x n h1 hn]
  simp
theorem beg_none (y : H) (n : Nat) (P : List H) (hn : n ≤ 1048576) : begR 0 n e0H y P = decide (P.length = 0) := by
  unfold begR
  rw [if_pos rfl]
  rw [decide_eq_true (by omega : (0 : Int) ≤ n), decide_eq_true (by omega : (n : Int) ≤ 1048576)]
  simp
end Go.Proofs.YtkfplliipogagaaDoor
