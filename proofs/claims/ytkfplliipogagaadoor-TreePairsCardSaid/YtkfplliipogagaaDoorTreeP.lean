/- Plain law of lists' roots: how a list is split, and its root, over a node function that is left open. No condition. -/
import Derived.Test.YtkfplliipogagaaDoorSlice
namespace Go.Proofs.YtkfplliipogagaaDoor

/-- The greatest power of two below n; 0 of n below 2. -/
def splitN (n : Nat) : Nat := if n < 2 then 0 else 2 ^ Nat.log2 (n - 1)
theorem splitN_pow (n : Nat) (h : 2 ≤ n) : splitN n = 2 ^ Nat.log2 (n - 1) := by unfold splitN; rw [if_neg (by omega)]
theorem splitN_lt (n : Nat) (h : 2 ≤ n) : splitN n < n := by
  rw [splitN_pow n h]
  have := Nat.log2_self_le (n := n - 1) (by omega)
  omega
theorem splitN_pos (n : Nat) (h : 2 ≤ n) : 0 < splitN n := by
  rw [splitN_pow n h]
  exact Nat.pow_pos (by decide)
theorem splitN_half (n : Nat) (h : 2 ≤ n) : n ≤ 2 * splitN n := by
  rw [splitN_pow n h]
  have : n - 1 < 2 ^ (Nat.log2 (n - 1) + 1) := Nat.lt_log2_self
  rw [Nat.pow_succ] at this
  omega
theorem splitN_unique (n j : Nat) (h1 : 2 ^ j < n) (h2 : n ≤ 2 ^ (j + 1)) : splitN n = 2 ^ j := by
  have hp : 0 < 2 ^ j := Nat.pow_pos (by decide)
  rw [splitN_pow n (by omega)]
  congr 1
  refine (Nat.log2_eq_iff (by omega)).2 ⟨by omega, by omega⟩

section
variable {α : Type} (nd : α → α → α) (e : α)
/-- A list's root. -/
def rootN (l : List α) : α :=
  if _h : l.length < 2 then l.headD e else nd (rootN (l.take (splitN l.length))) (rootN (l.drop (splitN l.length)))
termination_by l.length
decreasing_by
  · rw [List.length_take]; have := splitN_lt l.length (by omega); omega
  · rw [List.length_drop]; have := splitN_pos l.length (by omega); omega
theorem rootN_nil : rootN nd e [] = e := by rw [rootN]; rfl
theorem rootN_one (x : α) : rootN nd e [x] = x := by rw [rootN]; rfl
theorem rootN_two (l : List α) (h : 2 ≤ l.length) : rootN nd e l = nd (rootN nd e (l.take (splitN l.length))) (rootN nd e (l.drop (splitN l.length))) := by
  rw [rootN, dif_neg (by omega)]
/-- The nodes of pairs, an odd last one kept. -/
def pairsN : List α → List α
  | x :: y :: l => nd x y :: pairsN l
  | l => l
theorem pairsN_len : ∀ l : List α, (pairsN nd l).length = (l.length + 1) / 2
  | [] => by simp [pairsN]
  | [_] => by simp [pairsN]
  | x :: y :: l => by
    have := pairsN_len l
    simp only [pairsN, List.length_cons, this]
    omega
theorem pairsN_app : ∀ (a b : List α), a.length % 2 = 0 → pairsN nd (a ++ b) = pairsN nd a ++ pairsN nd b
  | [], _, _ => by simp [pairsN]
  | [_], _, h => by simp at h
  | x :: y :: a, b, h => by
    have := pairsN_app a b (by simp at h; omega)
    simp only [pairsN, List.cons_append, this]
theorem splitN_pairs (n : Nat) (h : 3 ≤ n) : 2 * splitN ((n + 1) / 2) = splitN n := by
  have h1 := splitN_lt n (by omega)
  have h2 := splitN_half n (by omega)
  have h3 := splitN_pow n (by omega)
  obtain ⟨j, hj⟩ : ∃ j, j = Nat.log2 (n - 1) := ⟨_, rfl⟩
  rw [← hj] at h3
  cases j with
  | zero => rw [h3] at h2; simp at h2; omega
  | succ j =>
    rw [Nat.pow_succ] at h3
    have : splitN ((n + 1) / 2) = 2 ^ j := splitN_unique _ j (by omega) (by rw [Nat.pow_succ]; omega)
    rw [this, h3]
    omega
theorem rootN_pairs : ∀ (n : Nat) (l : List α), l.length = n → rootN nd e (pairsN nd l) = rootN nd e l := by
  intro n
  induction n using Nat.strongRecOn with
  | _ n ih =>
    intro l hn
    match l, hn with
    | [], _ => simp [pairsN]
    | [_], _ => simp [pairsN]
    | [x, y], _ =>
      rw [rootN_two nd e [x, y] (by simp)]
      rw [show pairsN nd [x, y] = [nd x y] by simp [pairsN], rootN_one]
      rw [show splitN [x, y].length = 1 from splitN_unique 2 0 (by decide) (by decide)]
      simp [rootN_one]
    | x :: y :: z :: l, hn =>
      obtain ⟨L, hL⟩ : ∃ L, L = x :: y :: z :: l := ⟨_, rfl⟩
      rw [← hL] at hn ⊢
      have h3 : 3 ≤ n := by rw [← hn, hL]; simp
      have hlt := splitN_lt n (by omega)
      have hpos := splitN_pos n (by omega)
      have hsp := splitN_pairs n h3
      have hpl := pairsN_len nd L
      rw [rootN_two nd e L (by omega), rootN_two nd e (pairsN nd L) (by omega), hpl, hn]
      have hcut : pairsN nd L = pairsN nd (L.take (splitN n)) ++ pairsN nd (L.drop (splitN n)) := by
        rw [← pairsN_app nd _ _ (by rw [List.length_take]; omega), List.take_append_drop]
      have hpt : (pairsN nd (L.take (splitN n))).length = splitN ((n + 1) / 2) := by rw [pairsN_len, List.length_take]; omega
      have e1 : (pairsN nd L).take (splitN ((n + 1) / 2)) = pairsN nd (L.take (splitN n)) := by rw [hcut, List.take_append_of_le_length (by omega), List.take_of_length_le (by omega)]
      have e2 : (pairsN nd L).drop (splitN ((n + 1) / 2)) = pairsN nd (L.drop (splitN n)) := by rw [hcut, ← hpt, List.drop_left]
      rw [e1, e2, ih (splitN n) hlt (L.take (splitN n)) (by rw [List.length_take]; omega), ih (n - splitN n) (by omega) (L.drop (splitN n)) (by rw [List.length_drop]; omega)]
/-- The whole trees' roots, the last one first. -/
def stackN (l : List α) : List α :=
  if h0 : l = [] then [] else if l.length % 2 = 0 then stackN (pairsN nd l) else l.getLast h0 :: stackN (pairsN nd l.dropLast)
termination_by l.length
decreasing_by
  · have := List.length_pos_iff.2 h0; rw [pairsN_len]; omega
  · have := List.length_pos_iff.2 h0; rw [pairsN_len, List.length_dropLast]; omega
theorem stackN_nil : stackN nd [] = [] := by rw [stackN]; simp
theorem stackN_even (l : List α) (h : l.length % 2 = 0) : stackN nd l = stackN nd (pairsN nd l) := by
  by_cases h0 : l = []
  · subst h0; rfl
  · rw [stackN, dif_neg h0, if_pos h]
theorem stackN_odd (l : List α) (x : α) (h : l.length % 2 = 0) : stackN nd (l ++ [x]) = x :: stackN nd (pairsN nd l) := by
  rw [stackN, dif_neg (by simp), if_neg (by simp; omega)]
  simp
/-- One leaf more, with carries. -/
def addN1 (n : Nat) (st : List α) (h : α) : List α :=
  if _h : n % 2 = 1 then (match st with | t :: st => addN1 (n / 2) st (nd t h) | [] => [h]) else h :: st
termination_by n
theorem addN1_odd (n : Nat) (h : n % 2 = 1) (t : α) (st : List α) (x : α) : addN1 nd n (t :: st) x = addN1 nd (n / 2) st (nd t x) := by rw [addN1.eq_def, dif_pos h]
theorem addN1_even (n : Nat) (h : ¬ n % 2 = 1) (st : List α) (x : α) : addN1 nd n st x = x :: st := by rw [addN1.eq_def, dif_neg h]
theorem pairsN_snoc2 (l : List α) (x y : α) (h : l.length % 2 = 0) : pairsN nd (l ++ [x, y]) = pairsN nd l ++ [nd x y] := by
  rw [pairsN_app nd l _ h]
  simp [pairsN]
theorem odd_snoc (l : List α) (h : l.length % 2 = 1) : ∃ q x, l = q ++ [x] ∧ q.length % 2 = 0 := by
  have h0 : l ≠ [] := fun e => by subst e; simp at h
  exact ⟨l.dropLast, l.getLast h0, (List.dropLast_concat_getLast h0).symm, by rw [List.length_dropLast]; omega⟩
theorem stackN_add : ∀ (n : Nat) (l : List α) (h : α), l.length = n → stackN nd (l ++ [h]) = addN1 nd n (stackN nd l) h := by
  intro n
  induction n using Nat.strongRecOn with
  | _ n ih =>
    intro l h hn
    by_cases ho : n % 2 = 1
    · obtain ⟨q, x, rfl, hq⟩ := odd_snoc l (by omega)
      have hlen : q.length + 1 = n := by simpa using hn
      rw [stackN_odd nd q x hq, addN1_odd nd n ho]
      rw [List.append_assoc, List.singleton_append, stackN_even nd _ (by simp; omega), pairsN_snoc2 nd q x h hq]
      exact ih (n / 2) (by omega) (pairsN nd q) (nd x h) (by rw [pairsN_len]; omega)
    · rw [addN1_even nd n ho, stackN_odd nd l h (by omega), ← stackN_even nd l (by omega)]
/-- The root of whole trees, the last one first. -/
def rootS (st : List α) : α := match st with | [] => e | t :: st => st.foldl (fun out s => nd s out) t
theorem rootS_add : ∀ (n : Nat) (l : List α) (h : α), l.length = n → rootS nd e (addN1 nd n (stackN nd l) h) = (stackN nd l).foldl (fun out s => nd s out) h := by
  intro n
  induction n using Nat.strongRecOn with
  | _ n ih =>
    intro l h hn
    by_cases ho : n % 2 = 1
    · obtain ⟨q, x, rfl, hq⟩ := odd_snoc l (by omega)
      have hlen : q.length + 1 = n := by simpa using hn
      rw [stackN_odd nd q x hq, addN1_odd nd n ho]
      exact ih (n / 2) (by omega) (pairsN nd q) (nd x h) (by rw [pairsN_len]; omega)
    · rw [addN1_even nd n ho]
      rfl
theorem rootS_stack : ∀ (n : Nat) (l : List α), l.length = n → rootS nd e (stackN nd l) = rootN nd e l := by
  intro n
  induction n using Nat.strongRecOn with
  | _ n ih =>
    intro l hn
    by_cases h0 : l = []
    · subst h0
      rw [stackN_nil, rootN_nil]
      rfl
    have hp := List.length_pos_iff.2 h0
    by_cases ho : n % 2 = 1
    · obtain ⟨q, x, rfl, hq⟩ := odd_snoc l (by omega)
      have hlen : q.length + 1 = n := by simpa using hn
      by_cases hq0 : q = []
      · subst hq0
        rw [List.nil_append, rootN_one, show ([x] : List α) = [] ++ [x] from rfl, stackN_odd nd [] x rfl]
        rw [show pairsN nd ([] : List α) = [] by simp [pairsN], stackN_nil]
        rfl
      · have hqp := List.length_pos_iff.2 hq0
        rw [← rootN_pairs nd e _ (q ++ [x]) rfl, pairsN_app nd q [x] hq, show pairsN nd [x] = [x] by simp [pairsN]]
        rw [← ih (q.length / 2 + 1) (by omega) (pairsN nd q ++ [x]) (by rw [List.length_append, pairsN_len]; simp; omega)]
        rw [stackN_add nd _ (pairsN nd q) x rfl, rootS_add nd e _ (pairsN nd q) x rfl, stackN_odd nd q x hq]
        rfl
    · rw [stackN_even nd l (by omega), ih (n / 2) (by omega) (pairsN nd l) (by rw [pairsN_len]; omega), rootN_pairs nd e _ l rfl]
/-- How many ones n has, written in two digits. -/
def onesN (n : Nat) : Nat := if h : n = 0 then 0 else n % 2 + onesN (n / 2)
termination_by n
theorem stackN_len : ∀ (n : Nat) (l : List α), l.length = n → (stackN nd l).length = onesN n := by
  intro n
  induction n using Nat.strongRecOn with
  | _ n ih =>
    intro l hn
    by_cases h0 : l = []
    · subst h0
      subst hn
      rw [stackN_nil, onesN]
      simp
    have hp := List.length_pos_iff.2 h0
    rw [onesN, dif_neg (by omega)]
    by_cases ho : n % 2 = 1
    · obtain ⟨q, x, rfl, hq⟩ := odd_snoc l (by omega)
      have hlen : q.length + 1 = n := by simpa using hn
      rw [stackN_odd nd q x hq, List.length_cons, ih (n / 2) (by omega) (pairsN nd q) (by rw [pairsN_len]; omega)]
      omega
    · rw [stackN_even nd l (by omega), ih (n / 2) (by omega) (pairsN nd l) (by rw [pairsN_len]; omega)]
      omega
/-- The greatest power of two that is not above n (n at least 1). -/
def topN (n : Nat) : Nat := 2 ^ Nat.log2 n
theorem topN_pos (n : Nat) : 0 < topN n := Nat.pow_pos (by decide)
theorem topN_le (n : Nat) (h : 0 < n) : topN n ≤ n := Nat.log2_self_le (by omega)
theorem topN_unique (n j : Nat) (h1 : 2 ^ j ≤ n) (h2 : n < 2 ^ (j + 1)) : topN n = 2 ^ j := by
  have hp : 0 < 2 ^ j := Nat.pow_pos (by decide)
  unfold topN
  congr 1
  exact (Nat.log2_eq_iff (by omega)).2 ⟨h1, h2⟩
theorem topN_bounds (n : Nat) (h : 0 < n) : ∃ j, topN n = 2 ^ j ∧ 2 ^ j ≤ n ∧ n < 2 ^ (j + 1) :=
  ⟨Nat.log2 n, rfl, Nat.log2_self_le (by omega), Nat.lt_log2_self⟩
theorem topN_double (n : Nat) (h : 0 < n) (c : Nat) (hc : c < 2) : topN (2 * n + c) = 2 * topN n := by
  obtain ⟨j, e, h1, h2⟩ := topN_bounds n h
  rw [e, topN_unique (2 * n + c) (j + 1) (by rw [Nat.pow_succ]; omega) (by rw [Nat.pow_succ, Nat.pow_succ]; rw [Nat.pow_succ] at h2; omega), Nat.pow_succ]
  omega
/-- The whole trees' roots, the first one first. -/
def treesN (l : List α) : List α :=
  if _h : l.length = 0 then [] else rootN nd e (l.take (topN l.length)) :: treesN (l.drop (topN l.length))
termination_by l.length
decreasing_by
  rw [List.length_drop]; have := topN_pos l.length; omega
theorem treesN_nil : treesN nd e [] = [] := by rw [treesN]; rfl
theorem treesN_pos (l : List α) (h : 0 < l.length) : treesN nd e l = rootN nd e (l.take (topN l.length)) :: treesN nd e (l.drop (topN l.length)) := by
  rw [treesN, dif_neg (by omega)]
theorem treesN_pairs : ∀ (n : Nat) (l : List α), l.length = n → l.length % 2 = 0 → treesN nd e (pairsN nd l) = treesN nd e l := by
  intro n
  induction n using Nat.strongRecOn with
  | _ n ih =>
    intro l hn he
    by_cases h0 : l.length = 0
    · have := List.eq_nil_of_length_eq_zero h0
      subst this
      simp [pairsN]
    · have hpl := pairsN_len nd l
      obtain ⟨m, hm⟩ : ∃ m, l.length = 2 * m := ⟨l.length / 2, by omega⟩
      have hpm : (pairsN nd l).length = m := by omega
      have ht := topN_double m (by omega) 0 (by decide)
      rw [Nat.add_zero] at ht
      have htp := topN_pos m
      have htl := topN_le m (by omega)
      rw [treesN_pos nd e l (by omega), treesN_pos nd e (pairsN nd l) (by omega), hpm, hm, ht]
      have hcut : pairsN nd l = pairsN nd (l.take (2 * topN m)) ++ pairsN nd (l.drop (2 * topN m)) := by
        rw [← pairsN_app nd _ _ (by rw [List.length_take]; omega), List.take_append_drop]
      have hpt : (pairsN nd (l.take (2 * topN m))).length = topN m := by rw [pairsN_len, List.length_take]; omega
      have e1 : (pairsN nd l).take (topN m) = pairsN nd (l.take (2 * topN m)) := by rw [hcut, List.take_append_of_le_length (by omega), List.take_of_length_le (by omega)]
      have e2 : (pairsN nd l).drop (topN m) = pairsN nd (l.drop (2 * topN m)) := by rw [hcut, List.drop_append_of_le_length (by omega), List.drop_eq_nil_of_le (by omega), List.nil_append]
      rw [e1, e2, rootN_pairs nd e _ _ rfl, ih (l.drop (2 * topN m)).length (by rw [List.length_drop]; omega) _ rfl (by rw [List.length_drop]; omega)]
theorem treesN_snoc : ∀ (n : Nat) (q : List α) (x : α), q.length = n → q.length % 2 = 0 → treesN nd e (q ++ [x]) = treesN nd e q ++ [x] := by
  intro n
  induction n using Nat.strongRecOn with
  | _ n ih =>
    intro q x hn he
    by_cases h0 : q.length = 0
    · have := List.eq_nil_of_length_eq_zero h0
      subst this
      rw [List.nil_append, treesN_pos nd e [x] (by simp), treesN_nil]
      rw [show topN [x].length = 1 from topN_unique 1 0 (by decide) (by decide)]
      simp [rootN_one, treesN_nil]
    · obtain ⟨m, hm⟩ : ∃ m, q.length = 2 * m := ⟨q.length / 2, by omega⟩
      have t0 := topN_double m (by omega) 0 (by decide)
      have t1 := topN_double m (by omega) 1 (by decide)
      rw [Nat.add_zero] at t0
      have htp := topN_pos m
      have htl := topN_le m (by omega)
      rw [treesN_pos nd e (q ++ [x]) (by simp), treesN_pos nd e q (by omega), List.length_append, List.length_singleton, hm, t1, t0]
      rw [List.take_append_of_le_length (by omega), List.drop_append_of_le_length (by omega)]
      rw [ih (q.drop (2 * topN m)).length (by rw [List.length_drop]; omega) _ x rfl (by rw [List.length_drop]; omega)]
      rfl
theorem stackN_trees : ∀ (n : Nat) (l : List α), l.length = n → (stackN nd l).reverse = treesN nd e l := by
  intro n
  induction n using Nat.strongRecOn with
  | _ n ih =>
    intro l hn
    by_cases h0 : l = []
    · subst h0
      rw [stackN_nil, treesN_nil]
      rfl
    have hp := List.length_pos_iff.2 h0
    by_cases ho : n % 2 = 1
    · obtain ⟨q, x, rfl, hq⟩ := odd_snoc l (by omega)
      have hlen : q.length + 1 = n := by simpa using hn
      rw [stackN_odd nd q x hq, List.reverse_cons, treesN_snoc nd e _ q x rfl hq, ih (n / 2) (by omega) (pairsN nd q) (by rw [pairsN_len]; omega), treesN_pairs nd e _ q rfl hq]
    · rw [stackN_even nd l (by omega), ih (n / 2) (by omega) (pairsN nd l) (by rw [pairsN_len]; omega), treesN_pairs nd e _ l rfl (by omega)]
theorem onesN_pow (j : Nat) : onesN (2 ^ j) = 1 := by
  induction j with
  | zero => rw [onesN, onesN]; simp
  | succ j ih =>
    have hp : 0 < 2 ^ j := Nat.pow_pos (by decide)
    rw [onesN, dif_neg (by rw [Nat.pow_succ]; omega), Nat.pow_succ, Nat.mul_mod_left, Nat.mul_div_cancel _ (by decide), ih]
theorem onesN_le : ∀ (n : Nat), onesN n ≤ n := by
  intro n
  induction n using Nat.strongRecOn with
  | _ n ih =>
    rw [onesN]
    by_cases h : n = 0
    · rw [dif_pos h]; exact Nat.zero_le _
    · rw [dif_neg h]
      have := ih (n / 2) (by omega)
      omega
theorem stackN_few (n : Nat) (l : List α) (h : l.length = n) : (stackN nd l).length ≤ n := by
  rw [stackN_len nd n l h]
  exact onesN_le n
/-- A whole tree's stack is its root alone. -/
theorem stackN_whole (l : List α) (j : Nat) (h : l.length = 2 ^ j) : stackN nd l = [rootN nd e l] := by
  have h1 := stackN_len nd _ l rfl
  rw [h, onesN_pow] at h1
  obtain ⟨t, ht⟩ := List.length_eq_one_iff.1 h1
  have h2 := rootS_stack nd e _ l rfl
  rw [ht] at h2 ⊢
  rw [← h2]
  rfl
end
end Go.Proofs.YtkfplliipogagaaDoor
