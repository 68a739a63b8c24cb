/- A region that draws its order, of which the first n operations may lay new blocks, in whatever order: each is shown once, in a frame with letters at the region's slots, from what is so of the operations that it waits for; what is said of an operation's value stays so while memory only grows. One walk serves every order. The condition: the Bool monoB, and that the program follows the row on mixed orders. -/
import Derived.Test.YtkfplliipogagaaDoorLater
namespace Go.Proofs.YtkfplliipogagaaDoor
open Go Go.BigFrame Go.RowKit
section
variable {P : Program} {ops : Array Oper} {md : Region.Mode}

def over (Q : Exit → Act → World → Prop) (K : Act → World → Prop) : Exit → Act → World → Prop := fun e a w => match e with
  | .normal => K a w
  | e => Q e a w
theorem wp_over {Q : Exit → Act → World → Prop} {K K' : Act → World → Prop} {o : Oper} {a : Act} {w : World} (h : o.wp P a w K (over Q K')) : o.wp P a w K Q := by
  unfold Oper.wp at *
  generalize (execOp a.eval o).run P w = r at *
  cases r with
  | ok n w' =>
    cases n <;> simp only [Oper.upon] at h ⊢ <;>
      first
        | exact h
        | exact Calls.mono h (fun e w'' he => by cases e <;> exact he)
  | halt x w' => cases x <;> simp only [Oper.upon] at h ⊢ <;> exact h

/-- The frame with letters at the region's slots. -/
def fill (x : Nat → Value) : List (Option Tmp) → Nat → Act → Act
  | [], _, a => a
  | d :: ds, i, a => fill x ds (i + 1) (a.put d (x i))
theorem put_put (a : Act) (d : Option Tmp) (v u : Value) : (a.put d v).put d u = a.put d u := by
  cases d with
  | none => rfl
  | some d => simp [Act.put]
theorem put_comm (a : Act) (d d' : Option Tmp) (v u : Value) (h : d ≠ d' ∨ d = none) : (a.put d v).put d' u = (a.put d' u).put d v := by
  cases d with
  | none => rfl
  | some d =>
    cases d' with
    | none => rfl
    | some d' =>
      have hne : d ≠ d' := by
        rcases h with h | h
        · intro e; exact h (by rw [e])
        · cases h
      simp only [Act.put]
      rw [Array.setIfInBounds_comm _ _ hne]
theorem fill_put (x : Nat → Value) (d : Option Tmp) (v : Value) : ∀ (ds : List (Option Tmp)) (i : Nat) (a : Act), (d ∉ ds ∨ d = none) → fill x ds i (a.put d v) = (fill x ds i a).put d v
  | [], _, _, _ => rfl
  | d' :: ds, i, a, h => by
    have h1 : d ≠ d' ∨ d = none := h.imp (fun h e => h (by rw [e]; exact List.mem_cons_self)) id
    have h2 : d ∉ ds ∨ d = none := h.imp (fun h e => h (List.mem_cons_of_mem _ e)) id
    simp only [fill]
    rw [put_comm a d d' v (x i) h1, fill_put x d v ds (i + 1) _ h2]
theorem fill_congr (x y : Nat → Value) : ∀ (ds : List (Option Tmp)) (i : Nat) (a : Act), (∀ k, i ≤ k → x k = y k) → fill x ds i a = fill y ds i a
  | [], _, _, _ => rfl
  | d :: ds, i, a, h => by
    simp only [fill]
    rw [h i (Nat.le_refl _)]
    exact fill_congr x y ds (i + 1) _ (fun k hk => h k (by omega))
def upd (x : Nat → Value) (i : Nat) (v : Value) : Nat → Value := fun k => if k = i then v else x k
def apartB : List (Option Tmp) → Bool
  | [] => true
  | d :: ds => (!ds.contains d || d == none) && apartB ds
theorem fill_upd (x : Nat → Value) (v : Value) : ∀ (ds : List (Option Tmp)) (i j : Nat) (a : Act) (d : Option Tmp), apartB ds = true → ds[j]? = some d → (fill x ds i a).put d v = fill (upd x (i + j) v) ds i a
  | [], _, _, _, _, _, h => by simp at h
  | d' :: ds, i, j, a, d, hB, h => by
    simp only [apartB, Bool.and_eq_true, Bool.or_eq_true, Bool.not_eq_true', beq_iff_eq] at hB
    obtain ⟨h1, h2⟩ := hB
    have h1' : d' ∉ ds ∨ d' = none := h1.imp (fun h e => by rw [List.contains_iff_mem.2 e] at h; cases h) id
    cases j with
    | zero =>
      have e : d' = d := by simpa using h
      subst e
      simp only [fill, Nat.add_zero]
      rw [← fill_put x d' v ds (i + 1) _ h1', put_put]
      rw [show upd x i v i = v by simp [upd]]
      exact fill_congr _ _ ds (i + 1) _ (fun k hk => by simp [upd]; omega)
    | succ j =>
      simp only [fill]
      rw [fill_upd x v ds (i + 1) j _ d h2 (by simpa using h)]
      rw [show i + 1 + j = i + (j + 1) by omega, show upd x (i + (j + 1)) v i = x i by simp [upd]]
theorem fill_self : ∀ (ds : List (Option Tmp)) (i : Nat) (x : Nat → Value) (a : Act), (∀ k d, ds[k]? = some (some d) → x (i + k) = a.tmps.getD d undef) → fill x ds i a = a
  | [], _, _, _, _ => rfl
  | d :: ds, i, x, a, h => by
    have e : a.put d (x i) = a := by
      cases d with
      | none => rfl
      | some d =>
        rw [show x i = a.tmps.getD d undef from h 0 d rfl]
        simp only [Act.put]
        congr 1
        apply Array.ext
        · simp
        · intro k h1 h2
          by_cases hk : d = k
          · subst hk
            simp [h2]
          · rw [Array.getElem_setIfInBounds]
            rw [if_neg hk]
    simp only [fill]
    rw [e]
    exact fill_self ds (i + 1) x a (fun k d' hk => by rw [show i + 1 + k = i + (k + 1) by omega]; exact h (k + 1) d' (by simpa using hk))

def unl (listed : Array Bool) : Nat → Nat
  | 0 => 0
  | n + 1 => unl listed n + (if listed.getD n true = true then 0 else 1)
theorem unl_zero (listed : Array Bool) : ∀ n, unl listed n = 0 → ∀ i, i < n → listed.getD i true = true
  | 0, _, i, hi => by omega
  | n + 1, h, i, hi => by
    simp only [unl] at h
    by_cases e : i = n
    · subst e
      by_cases h2 : listed.getD i true = true
      · exact h2
      · rw [if_neg h2] at h; omega
    · exact unl_zero listed n (by omega) i (by omega)
theorem unl_pos (listed : Array Bool) : ∀ n, 0 < unl listed n → ∃ i, i < n ∧ listed.getD i true = false ∧ ∀ j, j < i → listed.getD j true = true
  | 0, h => by simp [unl] at h
  | n + 1, h => by
    by_cases h0 : 0 < unl listed n
    · obtain ⟨i, h1, h2, h3⟩ := unl_pos listed n h0
      exact ⟨i, by omega, h2, h3⟩
    · simp only [unl] at h
      refine ⟨n, by omega, ?_, unl_zero listed n (by omega)⟩
      cases hl : listed.getD n true with
      | false => rfl
      | true => rw [hl, if_pos rfl] at h; omega
theorem unl_set_ge (listed : Array Bool) (i : Nat) : ∀ n, n ≤ i → unl (listed.setIfInBounds i true) n = unl listed n
  | 0, _ => rfl
  | n + 1, h => by
    simp only [unl]
    rw [unl_set_ge listed i n (by omega), getD_set_ne true (by omega)]
theorem unl_set (listed : Array Bool) (i : Nat) (hu : listed.getD i true = false) : ∀ n, i < n → unl (listed.setIfInBounds i true) n + 1 = unl listed n
  | 0, h => by omega
  | n + 1, h => by
    simp only [unl]
    by_cases e : i = n
    · subst e
      have hi : i < listed.size := by
        rcases Nat.lt_or_ge i listed.size with h' | h'
        · exact h'
        · simp [Array.getElem?_eq_none h'] at hu
      rw [unl_set_ge listed i i (Nat.le_refl _), hu]
      simp [hi]
    · rw [← unl_set listed i hu n (by omega), getD_set_ne true e]
      omega

def needs (md : Region.Mode) (o : Oper) : List Nat := (o.after.toList.filter (Region.binds md)).map (·.on)
theorem needs_mem {md : Region.Mode} {o : Oper} {j : Nat} (h : j ∈ needs md o) : ∃ e ∈ o.after, Region.binds md e = true ∧ e.on = j := by
  unfold needs at h
  obtain ⟨e, he, rfl⟩ := List.mem_map.1 h
  obtain ⟨h1, h2⟩ := List.mem_filter.1 he
  exact ⟨e, by simpa using h1, h2, rfl⟩
def backB (md : Region.Mode) (ops : Array Oper) : Bool := (List.range ops.size).all fun i => ((ops[i]?).map fun o => o.after.all fun e => !Region.binds md e || decide (e.on < i)).getD true
def listedH (m n : Nat) : Array Bool := ((List.range m).map fun i => decide (i < n)).toArray
def tailWaitsB (md : Region.Mode) (ops : Array Oper) (n : Nat) : Bool := (List.range ops.size).all fun t => decide (t < n) || (decide (n < t) && Region.waitsFor md ops t (t - 1)) || (List.range n).all fun i => Region.waitsFor md ops t i
def monoB (ops : Array Oper) (n : Nat) : Bool :=
  decide (n ≤ ops.size) && backB .any ops && apartB ((ops.toList.take n).map (·.dst)) && tailWaitsB .any ops n && Region.seqB .any ops (ops.size - n) n (listedH ops.size n)
def Kept (R : Value → World → Prop) : Prop := ∀ v w w', Below w.heap.size w w' → R v w → R v w'
def monoAll (P : Program) (md : Region.Mode) (ops : Array Oper) (R : Nat → Value → World → Prop) (ds : List (Option Tmp)) (a0 : Act) (B : Nat) (w0 : World) : List Oper → Nat → Prop
  | [], _ => True
  | o :: rest, i => (∀ (x : Nat → Value) (w : World), Below B w0 w → (∀ j ∈ needs md o, R j (x j) w) → ∀ Qg : Exit → Act → World → Prop,
      (∀ v w', R i v w' → Below w.heap.size w w' → Qg .normal ((fill x ds 0 a0).put o.dst v) w') → wpList P ops Qg [o] (fill x ds 0 a0) w) ∧ monoAll P md ops R ds a0 B w0 rest (i + 1)
theorem monoAll_at {R : Nat → Value → World → Prop} {ds : List (Option Tmp)} {a0 : Act} {B : Nat} {w0 : World} : ∀ (l : List Oper) (i j : Nat) (o : Oper), monoAll P md ops R ds a0 B w0 l i → l[j]? = some o →
    ∀ (x : Nat → Value) (w : World), Below B w0 w → (∀ k ∈ needs md o, R k (x k) w) → ∀ Qg : Exit → Act → World → Prop,
      (∀ v w', R (i + j) v w' → Below w.heap.size w w' → Qg .normal ((fill x ds 0 a0).put o.dst v) w') → wpList P ops Qg [o] (fill x ds 0 a0) w
  | [], _, _, _, _, h => by simp at h
  | o' :: l, i, j, o, h, ho => by
    cases j with
    | zero =>
      have e : o' = o := by simpa using ho
      subst e
      exact h.1
    | succ j =>
      have := monoAll_at l (i + 1) j o h.2 (by simpa using ho)
      rw [show i + 1 + j = i + (j + 1) by omega] at this
      exact this

theorem wpAny_mono {Q : Exit → Act → World → Prop} {R : Nat → Value → World → Prop} {n B : Nat} {a0 : Act} {w0 : World} {l : List Oper} (hl : l.toArray = ops) (hK : ∀ j, Kept (R j)) (hBw : B ≤ w0.heap.size)
    (hback : backB md ops = true) (hn : n ≤ ops.size) (hap : apartB ((l.take n).map (·.dst)) = true) (htw : tailWaitsB md ops n = true) (hseq : Region.seqB md ops (ops.size - n) n (listedH ops.size n) = true)
    (hops : monoAll P md ops R ((l.take n).map (·.dst)) a0 B w0 (l.take n) 0)
    (hfin : ∀ (x : Nat → Value) (w : World), Below B w0 w → (∀ j, j < n → R j (x j) w) → wpList P ops Q (l.drop n) (fill x ((l.take n).map (·.dst)) 0 a0) w) :
    ∀ (g : Nat) (listed : Array Bool) (x : Nat → Value) (w : World), listed.size = ops.size → (∀ t, n ≤ t → t < ops.size → listed.getD t true = false) → unl listed n = g → Below B w0 w →
      (∀ j, j < n → listed.getD j true = true → R j (x j) w) → wpAny P md ops Q (g + (ops.size - n)) listed (fill x ((l.take n).map (·.dst)) 0 a0) w := by
  have hsz : ops.size = l.length := by rw [← hl]; simp
  intro g
  induction g with
  | zero =>
    intro listed x w hs ht hu hb hR
    have hall := unl_zero listed n hu
    have e : listed = listedH ops.size n := by
      apply Array.ext
      · simp [listedH, hs]
      · intro i h1 h2
        simp only [listedH, List.getElem_toArray, List.getElem_map, List.getElem_range]
        by_cases hi : i < n
        · have := hall i hi
          simp [h1] at this
          simp [hi, this]
        · have := ht i (by omega) (by omega)
          simp [h1] at this
          simp [hi, this]
    rw [Nat.zero_add]
    have h := hfin x w hb (fun j hj => hR j hj (hall j hj))
    have hd : (l.drop n).length = ops.size - n := by rw [List.length_drop, hsz]
    rw [← hd]
    refine wpAny_of_seq (l.drop n) n listed _ w (fun j => ?_) ?_ h
    · rw [← hl]; simp
    · rw [e, hd]; exact hseq
  | succ g ih =>
    intro listed x w hs ht hu hb hR
    rw [show g + 1 + (ops.size - n) = (g + (ops.size - n)) + 1 by omega]
    obtain ⟨i0, hi0, hun0, hmin⟩ := unl_pos listed n (by omega)
    refine ⟨fun h0 => ?_, fun i hi => ?_⟩
    · exfalso
      have hmem : i0 ∈ Region.ready md ops listed := by
        have h1 := List.all_eq_true.1 hback i0 (List.mem_range.2 (by omega))
        have ho : ops[i0]? = some ops[i0] := Array.getElem?_eq_getElem (by omega)
        rw [ho] at h1
        simp only [Option.map_some, Option.getD_some] at h1
        refine mem_ready.2 ⟨hun0, _, ho, fun e he hb => ?_⟩
        have h2 := Array.all_eq_true_iff_forall_mem.1 h1 e he
        rw [hb] at h2
        have h3 : e.on < i0 := by simpa using h2
        have h4 := hmin e.on h3
        have h5 : e.on < listed.size := by omega
        simp [h5] at h4 ⊢
        exact h4
      rw [h0] at hmem
      cases hmem
    · obtain ⟨hun, o, ho, hall⟩ := mem_ready.1 hi
      have his : i < ops.size := (Array.getElem?_eq_some_iff.1 ho).1
      have hin : i < n := by
        rcases Nat.lt_or_ge i n with h | h
        · exact h
        · exfalso
          have h1 := List.all_eq_true.1 htw i (List.mem_range.2 his)
          simp only [Bool.or_eq_true, Bool.and_eq_true, decide_eq_true_eq] at h1
          rcases h1 with (h1 | h1) | h1
          · omega
          · obtain ⟨oj, hoj, e, he, hb', hon⟩ := Region.waitsFor_spec h1.2
            have e2 : oj = o := Option.some.inj (hoj.symm.trans ho)
            subst e2
            have h2 := hall e he hb'
            rw [hon, getD_both (ht (i - 1) (by omega) (by omega))] at h2
            cases h2
          · have h2 := List.all_eq_true.1 h1 i0 (List.mem_range.2 hi0)
            obtain ⟨oj, hoj, e, he, hb', hon⟩ := Region.waitsFor_spec h2
            have e2 : oj = o := Option.some.inj (hoj.symm.trans ho)
            subst e2
            have h3 := hall e he hb'
            rw [hon, getD_both hun0] at h3
            cases h3
      have hol : l[i]? = some o := by rw [← ho, ← hl]; simp
      have hot : (l.take n)[i]? = some o := by rw [List.getElem?_take, if_pos hin]; exact hol
      have hod : ((l.take n).map (·.dst))[i]? = some o.dst := by rw [List.getElem?_map, hot]; rfl
      have hstep := monoAll_at (l.take n) 0 i o hops hot x w hb (fun k hk => by
        obtain ⟨e, he, hb', rfl⟩ := needs_mem hk
        have h1 := hall e he hb'
        have h2 := List.all_eq_true.1 hback i (List.mem_range.2 his)
        rw [ho] at h2
        simp only [Option.map_some, Option.getD_some] at h2
        have h3 := Array.all_eq_true_iff_forall_mem.1 h2 e he
        rw [hb'] at h3
        have h4 : e.on < i := by simpa using h3
        have h5 : e.on < listed.size := by omega
        refine hR e.on (by omega) ?_
        simp [h5] at h1 ⊢
        exact h1)
        (over Q (wpAny P md ops Q (g + (ops.size - n)) (listed.setIfInBounds i true))) (fun v w' hRv hbw => ?_)
      · simp only [wpList] at hstep
        unfold wpOp
        simp only [ho]
        split
        · rename_i hw
          rw [if_pos hw] at hstep
          exact hstep.imp wp_over id
        · rename_i hw
          rw [if_neg hw] at hstep
          exact hstep
      · show wpAny P md ops Q (g + (ops.size - n)) (listed.setIfInBounds i true) _ w'
        rw [fill_upd x v _ 0 i a0 o.dst hap hod, Nat.zero_add]
        have hBw' : B ≤ w.heap.size := Nat.le_trans hBw hb.size
        refine ih _ _ _ (by simpa using hs) (fun t h1 h2 => ?_) ?_ (hb.trans (hbw.mono hBw')) (fun j hj hlj => ?_)
        · rw [getD_set_ne true (by omega)]
          exact ht t h1 h2
        · have := unl_set listed i hun n hin
          omega
        · by_cases e : j = i
          · subst e
            simpa [upd] using (by simpa using hRv : R j v w')
          · rw [getD_set_ne true (Ne.symm e)] at hlj
            simp only [upd, if_neg e]
            exact hK j _ _ _ hbw (hR j hj hlj)

theorem wp_region_mono {id : Nat} {Q : Exit → Act → World → Prop} {a0 : Act} {w0 : World} {l : List Oper} (n B : Nat) (Rs : List (Value → World → Prop)) (hm : P.follows .mixedOrders = true) (hB : monoB l.toArray n = true)
    (hBw : B ≤ w0.heap.size) (hK : ∀ R ∈ Rs, Kept R) (ds : List (Option Tmp)) (hds : (l.take n).map (·.dst) = ds)
    (hops : monoAll P .any l.toArray (fun j => Rs.getD j fun _ _ => True) ds a0 B w0 (l.take n) 0)
    (hfin : ∀ (x : Nat → Value) (w : World), Below B w0 w → (∀ j, j < n → (Rs.getD j fun _ _ => True) (x j) w) → wpList P l.toArray Q (l.drop n) (fill x ds 0 a0) w) : (Code.region id l.toArray true).wp P Q a0 w0 := by
  subst hds
  simp only [monoB, Bool.and_eq_true, decide_eq_true_eq] at hB
  obtain ⟨⟨⟨⟨hn, hback⟩, hap⟩, htw⟩, hseq⟩ := hB
  refine wp_region_any hm ?_
  have hK' : ∀ j, Kept (Rs.getD j fun _ _ => True) := fun j => by
    rw [List.getD_eq_getElem?_getD]
    cases h : Rs[j]? with
    | none => exact fun _ _ _ _ _ => trivial
    | some R => exact hK R (List.mem_of_getElem? h)
  have hu2 : ∀ k, k ≤ l.toArray.size → unl (Array.replicate l.toArray.size false) k = k := fun k => by
    induction k with
    | zero => exact fun _ => rfl
    | succ k ih =>
      intro hk
      simp only [unl]
      rw [ih (by omega), if_neg]
      rw [getD_in (by rw [Array.size_replicate]; omega) (getD_replicate_false _ _)]
      exact Bool.false_ne_true
  obtain ⟨x0, e0⟩ : ∃ x0 : Nat → Value, fill x0 ((l.take n).map (·.dst)) 0 a0 = a0 := ⟨fun k => match ((l.take n).map (·.dst))[k]? with
      | some (some d) => a0.tmps.getD d undef
      | _ => undef, fill_self _ 0 _ a0 (fun k d hk => by rw [Nat.zero_add, hk])⟩
  have hlast := wpAny_mono (P := P) (md := .any) (Q := Q) (R := fun j => Rs.getD j fun _ _ => True) (n := n) (B := B) (a0 := a0) (w0 := w0) (l := l) rfl hK' hBw hback hn (by simpa using hap) htw hseq hops hfin
    n (Array.replicate l.toArray.size false) x0 ({ w0 with drawn := w0.drawn + 1 } : World) (by simp) (fun t _ ht => getD_in (by simpa using ht) (getD_replicate_false _ _)) (hu2 n hn) (show Below B w0 w0.drew from Below.drew (Below.refl _ _))
    (fun j hj hlj => by rw [getD_in (by rw [Array.size_replicate]; omega) (getD_replicate_false _ _)] at hlj; cases hlj)
  rw [e0, show n + (l.toArray.size - n) = l.toArray.size by omega] at hlast
  exact hlast
theorem wpList_load_rowIf {rest : List Oper} {o : Oper} {a : Act} {w : World} {Q : Exit → Act → World → Prop} (hw : Region.wanted o (yielded ops a.tmps) = true) (ty : TypeId) (x : Operand) (ho : o.op = .load ty x)
    (g : Nat) (hx : a.eval x = .pointer (some ⟨g, 0, none⟩)) (t : TypeId) (cs : Array Value) (fr : Nat × Nat) (d : TypeDesc) (hg : w.heap[g]? = some (.cells cs t fr))
    (hu : P.underlying ty = some d) (hd : (match d with | .struct _ | .array _ _ => true | _ => false) = true) (hi : (P.info? ty).map (·.size) = some cs.size)
    (h : wpList P ops Q rest (a.put o.dst (.agg cs)) w) : wpList P ops Q (o :: rest) a w := by
  simp only [wpList]
  rw [if_pos hw]
  exact .inl (wp_load_row ty x ho g hx t cs fr d hg hu hd hi h)
end
end Go.Proofs.YtkfplliipogagaaDoor
