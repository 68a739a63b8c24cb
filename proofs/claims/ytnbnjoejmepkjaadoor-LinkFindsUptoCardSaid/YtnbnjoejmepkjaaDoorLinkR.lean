/- Plain law of links: of a link either the first list begins the other, or two texts are told that differ with one digest. No condition. Plain facts of links: how many hashes a proof needs; whether a proof is a link, as the walk has it. No condition. Conditions: what each part says. -/
import Derived.Test.YtnbnjoejmepkjaaDoorHashP
import Derived.Test.YtnbnjoejmepkjaaDoorRef6V
/-! LinkP: Plain law of links: of a link either the first list begins the other, or two texts are told that differ with one digest. No condition. -/
namespace Go.Proofs.YtnbnjoejmepkjaaDoor

/-- What a proof, its last hash first, says of a list's root. -/
def saidB (old : H) (n m : Nat) (w : Bool) (rp : List H) : H :=
  if _h : n < 2 ∨ m = n then (if w then old else rp.headD e0H) else
    if m ≤ splitN n then ndH (saidB old (splitN n) m w rp.tail) (rp.headD e0H) else ndH (rp.headD e0H) (saidB old (n - splitN n) (m - splitN n) false rp.tail)
termination_by n
decreasing_by
  · exact splitN_lt n (by omega)
  · have := splitN_pos n (by omega); omega
/-- The texts of the nodes from a list's root down: what is said, what is so. -/
def nodesB (old : H) (b : List (List UInt8)) (m : Nat) (w : Bool) (rp : List H) : List (List UInt8 × List UInt8) :=
  if _h : b.length < 2 ∨ m = b.length then [] else
    if m ≤ splitN b.length then (1 :: ((saidB old (splitN b.length) m w rp.tail).b ++ (rp.headD e0H).b), textB b) :: nodesB old (b.take (splitN b.length)) m w rp.tail
    else (1 :: ((rp.headD e0H).b ++ (saidB old (b.length - splitN b.length) (m - splitN b.length) false rp.tail).b), textB b) :: nodesB old (b.drop (splitN b.length)) (m - splitN b.length) false rp.tail
termination_by b.length
decreasing_by
  · rw [List.length_take]; have := splitN_lt b.length (by omega); omega
  · rw [List.length_drop]; have := splitN_pos b.length (by omega); omega
/-- Whether a list begins another one. -/
def beginsB (a b : List (List UInt8)) : Bool := decide (a.length ≤ b.length) && (a == b.take a.length)
/-- Whether a proof is a link: the first list's root, and the other's, are what the proof comes to. -/
def provesB (m n : Nat) (old all : H) (p : List H) : Bool :=
  if m = 0 then decide (p.length = 0) && (old == e0H) else
    match bothN ndH old n m p with
    | some (x, y) => (x == old) && (y == all)
    | none => false
def linkB (a b : List (List UInt8)) (p : List H) : Bool := decide (a.length ≤ b.length) && provesB a.length b.length (rootB a) (rootB b) p
/-- The clash of a link. -/
def findB (a b : List (List UInt8)) (p : List H) : Option (List UInt8 × List UInt8) :=
  if !linkB a b p || beginsB a b then none else
    match firstB (nodesB (rootB a) b a.length true p.reverse) with
    | some r => some r
    | none => extractB a (b.take a.length)
theorem said_up (old : H) : ∀ (n m : Nat) (w : Bool) (rp : List H) (x y : H) (r : List H), up2 ndH old n m w rp = some ((x, y), r) → saidB old n m w rp = y := by
  intro n
  induction n using Nat.strongRecOn with
  | _ n ih =>
    intro m w rp x y r h
    rw [up2.eq_def] at h
    rw [saidB]
    by_cases h2 : n < 2 ∨ m = n
    · rw [dif_pos h2] at h ⊢
      cases w with
      | true => simp at h ⊢; exact h.1.2
      | false =>
        cases rp with
        | nil => simp at h
        | cons o rp => simp at h ⊢; exact h.1.2
    · rw [dif_neg h2] at h ⊢
      have hlt := splitN_lt n (by omega)
      have hpos := splitN_pos n (by omega)
      cases rp with
      | nil => simp at h
      | cons o rp =>
        simp only at h
        by_cases hk : m ≤ splitN n
        · rw [if_pos hk] at h ⊢
          obtain ⟨⟨⟨x', y'⟩, r'⟩, hu, he⟩ := Option.map_eq_some_iff.1 h
          simp only [Prod.mk.injEq] at he
          rw [List.tail_cons, ih _ hlt m w rp x' y' r' hu, List.headD_cons]
          exact he.1.2
        · rw [if_neg hk] at h ⊢
          obtain ⟨⟨⟨x', y'⟩, r'⟩, hu, he⟩ := Option.map_eq_some_iff.1 h
          simp only [Prod.mk.injEq] at he
          rw [List.tail_cons, ih _ (by omega) _ false rp x' y' r' hu, List.headD_cons]
          exact he.1.2
theorem clash_same {x y : List UInt8} (h : clashB x y = false) (hs : sumN x = sumN y) : x = y := by
  unfold clashB at h
  rw [hs] at h
  simpa using h
/-- No clash at the nodes: the first list's root is that of the other's beginning. -/
theorem nodes_same (old : H) : ∀ (n : Nat) (b : List (List UInt8)) (m : Nat) (w : Bool) (rp : List H) (x : H) (r : List H), b.length = n → 1 ≤ m → m ≤ n → up2 ndH old n m w rp = some ((x, rootB b), r) →
    (∀ z ∈ nodesB old b m w rp, clashB z.1 z.2 = false) → (if wholeN n m w then old = rootB (b.take m) else x = rootB (b.take m)) := by
  intro n
  induction n using Nat.strongRecOn with
  | _ n ih =>
    intro b m w rp x r hn hm1 hm2 hu hz
    rw [up2.eq_def] at hu
    rw [wholeN]
    by_cases h2 : n < 2 ∨ m = n
    · rw [dif_pos h2] at hu ⊢
      have ht : b.take m = b := List.take_of_length_le (by omega)
      rw [ht]
      cases w with
      | true =>
        simp at hu ⊢
        exact hu.1.2
      | false =>
        cases rp with
        | nil => simp at hu
        | cons o rp =>
          simp at hu ⊢
          rw [← hu.1.1, hu.1.2]
    · rw [dif_neg h2] at hu ⊢
      rw [nodesB, dif_neg (by omega), hn] at hz
      have hlt := splitN_lt n (by omega)
      have hpos := splitN_pos n (by omega)
      have hroot := rootB_two b (by omega)
      have htext := textB_two b (by omega)
      rw [hn] at hroot htext
      cases rp with
      | nil => simp at hu
      | cons o rp =>
        simp only [List.tail_cons, List.headD_cons] at hu hz
        by_cases hk : m ≤ splitN n
        · rw [if_pos hk] at hu hz ⊢
          obtain ⟨⟨⟨x', y'⟩, r'⟩, hu', he⟩ := Option.map_eq_some_iff.1 hu
          simp only [Prod.mk.injEq] at he
          obtain ⟨⟨rfl, he2⟩, rfl⟩ := he
          have hs := said_up old _ m w rp _ _ _ hu'
          have h0 := hz _ List.mem_cons_self
          rw [hs] at h0
          have h1 := clash_same h0 (by rw [sum_text b (by omega), ← he2]; rfl)
          rw [htext] at h1
          obtain ⟨e1, _⟩ := app32 (List.cons.inj h1).2
          rw [e1] at hu'
          have := ih _ hlt (b.take (splitN n)) m w rp _ _ (by rw [List.length_take]; omega) hm1 hk hu' (fun z hz' => hz z (List.mem_cons_of_mem _ hz'))
          rw [List.take_take, Nat.min_eq_left hk] at this
          exact this
        · rw [if_neg hk] at hu hz ⊢
          obtain ⟨⟨⟨x', y'⟩, r'⟩, hu', he⟩ := Option.map_eq_some_iff.1 hu
          simp only [Prod.mk.injEq] at he
          obtain ⟨⟨rfl, he2⟩, rfl⟩ := he
          have hs := said_up old _ _ false rp _ _ _ hu'
          have h0 := hz _ List.mem_cons_self
          rw [hs] at h0
          have h1 := clash_same h0 (by rw [sum_text b (by omega), ← he2]; rfl)
          rw [htext] at h1
          obtain ⟨e1, e2⟩ := app32 (List.cons.inj h1).2
          rw [e2] at hu'
          have := ih _ (by omega) (b.drop (splitN n)) (m - splitN n) false rp _ _ (by rw [List.length_drop]; omega) (by omega) (by omega) hu' (fun z hz' => hz z (List.mem_cons_of_mem _ hz'))
          rw [wholeN_false, if_neg (by simp)] at this ⊢
          have ht := rootN_take ndH e0H (b.map lfH) m (by simpa [hn] using hk) (by simpa [hn] using hm2) (by simp; omega)
          simp only [List.length_map, hn] at ht
          rw [this, e1]
          simp only [rootB, List.map_take, List.map_drop]
          exact ht.symm
/-- Of a link either the first list begins the other, or what is found is a clash. -/
theorem find_or (a b : List (List UInt8)) (p : List H) (hl : linkB a b p = true) (hb : beginsB a b = false) : ∃ x y, findB a b p = some (x, y) ∧ clashB x y = true := by
  have hle : a.length ≤ b.length := by
    unfold linkB at hl
    simp at hl
    exact hl.1
  have hpr : provesB a.length b.length (rootB a) (rootB b) p = true := by
    unfold linkB at hl
    simp at hl
    exact hl.2
  have hne : a ≠ b.take a.length := fun e => by
    unfold beginsB at hb
    simp [hle] at hb
    exact hb e
  unfold findB
  rw [hl, hb]
  simp only [Bool.not_true, Bool.or_self, Bool.false_eq_true, if_false]
  cases hf : firstB (nodesB (rootB a) b a.length true p.reverse) with
  | some r =>
    obtain ⟨x, y⟩ := r
    exact ⟨x, y, rfl, firstB_clash _ _ _ hf⟩
  | none =>
    have hz := firstB_none _ hf
    have hroot : rootB a = rootB (b.take a.length) := by
      unfold provesB at hpr
      split at hpr
      · rename_i h0
        have := List.eq_nil_of_length_eq_zero h0
        subst this
        rfl
      · rename_i h0
        rw [bothN_up] at hpr
        cases hu : up2 ndH (rootB a) b.length a.length true p.reverse with
        | none => rw [hu] at hpr; simp at hpr
        | some q =>
          obtain ⟨⟨x, y⟩, r⟩ := q
          rw [hu] at hpr
          cases r with
          | cons _ _ => simp at hpr
          | nil =>
            simp at hpr
            obtain ⟨hx, hy⟩ := hpr
            rw [hy] at hu
            have := nodes_same (rootB a) _ b a.length true p.reverse x [] rfl (by omega) hle hu hz
            split at this
            · exact this
            · rw [← hx]; exact this
    unfold extractB
    rw [if_neg (by
      rintro (h | h | h)
      · exact h (by rw [List.length_take]; omega)
      · exact hne h
      · exact h hroot)]
    exact ⟨_, _, rfl, down_clash _ a (b.take a.length) rfl (by rw [List.length_take]; omega) hne hroot⟩
end Go.Proofs.YtnbnjoejmepkjaaDoor

/-! LinkQ: Plain facts of links: how many hashes a proof needs; whether a proof is a link, as the walk has it. No condition. -/
namespace Go.Proofs.YtnbnjoejmepkjaaDoor

/-- How many hashes are taken on the way down. -/
def needsB (n m : Nat) (w : Bool) : Nat := (sidesM n m).length + (if wholeN n m w then 0 else 1)
theorem needsB_end (n m : Nat) (w : Bool) (h : n < 2 ∨ m = n) : needsB n m w = if w then 0 else 1 := by
  unfold needsB
  rw [sidesM_end n m h, wholeN_end n m w h]
  simp
theorem needsB_left (n m : Nat) (w : Bool) (h : ¬ (n < 2 ∨ m = n)) (hk : m ≤ splitN n) : needsB n m w = needsB (splitN n) m w + 1 := by
  unfold needsB
  rw [sidesM_left n m h hk, wholeN_left n m w h hk, List.length_append, List.length_singleton]
  omega
theorem needsB_right (n m : Nat) (w : Bool) (h : ¬ (n < 2 ∨ m = n)) (hk : ¬ m ≤ splitN n) : needsB n m w = needsB (n - splitN n) (m - splitN n) false + 1 := by
  unfold needsB
  rw [sidesM_right n m h hk, wholeN_right n m w h hk, List.length_append, List.length_singleton]
  omega
theorem both_needs {old : H} {n m : Nat} {P : List H} {q : H × H} (h : bothN ndH old n m P = some q) : P.length = needsB n m true := by
  unfold bothN at h
  unfold needsB
  split at h
  · rename_i hw
    rw [if_pos hw]
    split at h
    · rename_i hl
      omega
    · cases h
  · rename_i hw
    rw [if_neg hw]
    cases P with
    | nil => cases h
    | cons p t =>
      simp only at h
      split at h
      · rename_i hl
        rw [List.length_cons]
        omega
      · cases h
theorem beq_H (x y : H) : (x == y) = (x.b == y.b) := by
  rw [Bool.eq_iff_iff, beq_iff_eq, beq_iff_eq]
  exact H.ext_iff
theorem begR_proves (m n : Nat) (x y : H) (P : List H) (hm : m ≤ n) (hn : n ≤ 1048576) : begR m n x y P = provesB m n x y P := by
  unfold begR provesB
  by_cases h0 : m = 0
  · subst h0
    rw [if_pos (show ((0 : Nat) : Int) = 0 from rfl), if_pos (show (0 : Nat) = 0 from rfl), beq_H, decide_eq_true (show (0 : Int) ≤ (n : Int) by omega), decide_eq_true (show (n : Int) ≤ 1048576 by omega)]
    simp only [Bool.true_and]
  · rw [if_neg (by omega), if_neg h0]
    unfold bothR
    rw [if_pos (by omega), show ((n : Int)).toNat = n from rfl, show ((m : Int)).toNat = m from rfl]
    cases bothN ndH x n m P with
    | none => rfl
    | some q =>
      obtain ⟨u, v⟩ := q
      simp only [Option.isSome_some, Bool.true_and, Option.getD_some]
      rw [beq_H, beq_H]
/-- What a link needs. -/
theorem link_needs {a b : List (List UInt8)} {P : List H} (h : linkB a b P = true) (ha : a ≠ []) : a.length ≤ b.length ∧ P.length = needsB b.length a.length true := by
  unfold linkB at h
  rw [Bool.and_eq_true, decide_eq_true_iff] at h
  refine ⟨h.1, ?_⟩
  have h2 := h.2
  unfold provesB at h2
  rw [if_neg (fun e => ha (List.eq_nil_of_length_eq_zero e))] at h2
  cases hb : bothN ndH (rootB a) b.length a.length P with
  | none => rw [hb] at h2; cases h2
  | some q => exact both_needs hb
end Go.Proofs.YtnbnjoejmepkjaaDoor
