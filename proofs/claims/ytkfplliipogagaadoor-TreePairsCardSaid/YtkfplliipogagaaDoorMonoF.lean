/- wp_region_mono once more, for regions in which some operations lay a block of their own (alloc): the pointers of those are apart; and the tail may wait for the head through others (at most five between). Condition: the Bool monoFB, and that the program follows the row on mixed orders. -/
import Derived.Test.YtkfplliipogagaaDoorMono
import Derived.Test.YtkfplliipogagaaDoorBase
namespace Go.Proofs.YtkfplliipogagaaDoor
open Go Go.BigFrame Go.RowKit
section
variable {P : Program} {ops : Array Oper} {md : Region.Mode}

def waitsIn (md : Region.Mode) (ops : Array Oper) : Nat → Nat → Nat → Bool
  | 0, t, i => Region.waitsFor md ops t i
  | f + 1, t, i => Region.waitsFor md ops t i || (List.range ops.size).any fun k => Region.waitsFor md ops t k && waitsIn md ops f k i
def Closed (md : Region.Mode) (ops : Array Oper) (listed : Array Bool) : Prop := ∀ j oj, ops[j]? = some oj → listed.getD j false = true → ∀ e ∈ oj.after, Region.binds md e = true → listed.getD e.on false = true
theorem getD_replicate_false' (n i : Nat) : (Array.replicate n false).getD i false = false := getD_replicate_false n i
theorem waitsIn_listed {listed : Array Bool} (hc : Closed md ops listed) : ∀ (f t i : Nat) (ot : Oper), ops[t]? = some ot → (∀ e ∈ ot.after, Region.binds md e = true → listed.getD e.on false = true) → waitsIn md ops f t i = true → listed.getD i false = true := by
  intro f
  induction f with
  | zero =>
    intro t i ot ho hall h
    obtain ⟨o', ho', e, he, hb, rfl⟩ := Region.waitsFor_spec h
    obtain rfl := Option.some.inj (ho.symm.trans ho')
    exact hall e he hb
  | succ f ih =>
    intro t i ot ho hall h
    simp only [waitsIn, Bool.or_eq_true, List.any_eq_true, Bool.and_eq_true] at h
    rcases h with h | ⟨k, hk, h1, h2⟩
    · obtain ⟨o', ho', e, he, hb, rfl⟩ := Region.waitsFor_spec h
      obtain rfl := Option.some.inj (ho.symm.trans ho')
      exact hall e he hb
    · obtain ⟨o', ho', e, he, hb, rfl⟩ := Region.waitsFor_spec h1
      obtain rfl := Option.some.inj (ho.symm.trans ho')
      have hl := hall e he hb
      have hlt : e.on < ops.size := List.mem_range.1 hk
      exact ih e.on i ops[e.on] (Array.getElem?_eq_getElem hlt) (hc e.on _ (Array.getElem?_eq_getElem hlt) hl) h2
def tailWaitsF (md : Region.Mode) (ops : Array Oper) (n : Nat) : Bool := (List.range ops.size).all fun t => decide (t < n) || (decide (n < t) && Region.waitsFor md ops t (t - 1)) || (List.range n).all fun i => waitsIn md ops 5 t i
def monoFB (ops : Array Oper) (n : Nat) : Bool :=
  decide (n ≤ ops.size) && backB .any ops && apartB ((ops.toList.take n).map (·.dst)) && tailWaitsF .any ops n && Region.seqB .any ops (ops.size - n) n (listedH ops.size n)
/-- The value points to a block that was laid between these two. -/
def New (w w' : World) (v : Value) : Prop := ∃ g, v = .pointer (some ⟨g, 0, none⟩) ∧ w.heap.size ≤ g ∧ g < w'.heap.size
def Old (w : World) (v : Value) : Prop := ∃ g, v = .pointer (some ⟨g, 0, none⟩) ∧ g < w.heap.size
theorem new_alloc (w : World) (o : Obj) : New w (w.alloc o) (.pointer (some ⟨w.heap.size, 0, none⟩)) := ⟨_, rfl, Nat.le_refl _, by simp⟩
theorem new_apart {w w' : World} {v u : Value} (h : New w w' v) (h' : Old w u) : v ≠ u := by
  obtain ⟨g, rfl, h1, _⟩ := h
  obtain ⟨g', rfl, h2⟩ := h'
  intro e
  simp at e
structure Apart (fr : List Nat) (listed : Array Bool) (x : Nat → Value) (w : World) : Prop where
  old : ∀ j ∈ fr, listed.getD j true = true → Old w (x j)
  ne : ∀ i ∈ fr, ∀ j ∈ fr, i ≠ j → listed.getD i true = true → listed.getD j true = true → x i ≠ x j
def monoAllF (P : Program) (md : Region.Mode) (ops : Array Oper) (fr : List Nat) (R : Nat → Value → World → Prop) (ds : List (Option Tmp)) (a0 : Act) (B : Nat) (w0 : World) : List Oper → Nat → Prop
  | [], _ => True
  | o :: rest, i => (∀ (x : Nat → Value) (w : World), Below B w0 w → (∀ j ∈ needs md o, R j (x j) w) → ∀ Qg : Exit → Act → World → Prop,
      (∀ v w', R i v w' → (i ∈ fr → New w w' v) → Below w.heap.size w w' → Qg .normal ((fill x ds 0 a0).put o.dst v) w') → wpList P ops Qg [o] (fill x ds 0 a0) w) ∧ monoAllF P md ops fr R ds a0 B w0 rest (i + 1)
theorem monoAllF_at {fr : List Nat} {R : Nat → Value → World → Prop} {ds : List (Option Tmp)} {a0 : Act} {B : Nat} {w0 : World} : ∀ (l : List Oper) (i j : Nat) (o : Oper), monoAllF P md ops fr R ds a0 B w0 l i → l[j]? = some o →
    ∀ (x : Nat → Value) (w : World), Below B w0 w → (∀ k ∈ needs md o, R k (x k) w) → ∀ Qg : Exit → Act → World → Prop,
      (∀ v w', R (i + j) v w' → (i + j ∈ fr → New w w' v) → Below w.heap.size w w' → Qg .normal ((fill x ds 0 a0).put o.dst v) w') → wpList P ops Qg [o] (fill x ds 0 a0) w
  | [], _, _, _, _, h => by simp at h
  | o' :: l, i, j, o, h, ho => by
    cases j with
    | zero =>
      have e : o' = o := by simpa using ho
      subst e
      exact h.1
    | succ j =>
      have := monoAllF_at l (i + 1) j o h.2 (by simpa using ho)
      rw [show i + 1 + j = i + (j + 1) by omega] at this
      exact this

theorem wpAny_monoF {fr : List Nat} {Q : Exit → Act → World → Prop} {R : Nat → Value → World → Prop} {n B : Nat} {a0 : Act} {w0 : World} {l : List Oper} (hl : l.toArray = ops) (hK : ∀ j, Kept (R j)) (hBw : B ≤ w0.heap.size)
    (hfr : ∀ j ∈ fr, j < n) (hback : backB md ops = true) (hn : n ≤ ops.size) (hap : apartB ((l.take n).map (·.dst)) = true) (htw : tailWaitsF md ops n = true) (hseq : Region.seqB md ops (ops.size - n) n (listedH ops.size n) = true)
    (hops : monoAllF P md ops fr R ((l.take n).map (·.dst)) a0 B w0 (l.take n) 0)
    (hfin : ∀ (x : Nat → Value) (w : World), Below B w0 w → (∀ j, j < n → R j (x j) w) → (∀ i ∈ fr, ∀ j ∈ fr, i ≠ j → x i ≠ x j) → wpList P ops Q (l.drop n) (fill x ((l.take n).map (·.dst)) 0 a0) w) :
    ∀ (g : Nat) (listed : Array Bool) (x : Nat → Value) (w : World), listed.size = ops.size → (∀ t, n ≤ t → t < ops.size → listed.getD t true = false) → unl listed n = g → Below B w0 w →
      (∀ j, j < n → listed.getD j true = true → R j (x j) w) → Closed md ops listed → Apart fr listed x w → wpAny P md ops Q (g + (ops.size - n)) listed (fill x ((l.take n).map (·.dst)) 0 a0) w := by
  have hsz : ops.size = l.length := by rw [← hl]; simp
  intro g
  induction g with
  | zero =>
    intro listed x w hs ht hu hb hR hcl hap2
    have hall := unl_zero listed n hu
    have e : listed = listedH ops.size n := by
      apply Array.ext
      · simp [listedH, hs]
      · intro i h1 h2
        simp only [listedH, List.getElem_toArray, List.getElem_map, List.getElem_range]
        by_cases hi : i < n
        · have := hall i hi
          simp [h1] at this
          simp [hi, this]
        · have := ht i (by omega) (by omega)
          simp [h1] at this
          simp [hi, this]
    rw [Nat.zero_add]
    have h := hfin x w hb (fun j hj => hR j hj (hall j hj)) (fun i hi j hj hne => hap2.ne i hi j hj hne (hall i (hfr i hi)) (hall j (hfr j hj)))
    have hd : (l.drop n).length = ops.size - n := by rw [List.length_drop, hsz]
    rw [← hd]
    refine wpAny_of_seq (l.drop n) n listed _ w (fun j => ?_) ?_ h
    · rw [← hl]; simp
    · rw [e, hd]; exact hseq
  | succ g ih =>
    intro listed x w hs ht hu hb hR hcl hap2
    rw [show g + 1 + (ops.size - n) = (g + (ops.size - n)) + 1 by omega]
    obtain ⟨i0, hi0, hun0, hmin⟩ := unl_pos listed n (by omega)
    refine ⟨fun h0 => ?_, fun i hi => ?_⟩
    · exfalso
      have hmem : i0 ∈ Region.ready md ops listed := by
        have h1 := List.all_eq_true.1 hback i0 (List.mem_range.2 (by omega))
        have ho : ops[i0]? = some ops[i0] := Array.getElem?_eq_getElem (by omega)
        rw [ho] at h1
        simp only [Option.map_some, Option.getD_some] at h1
        refine mem_ready.2 ⟨hun0, _, ho, fun e he hb => ?_⟩
        have h2 := Array.all_eq_true_iff_forall_mem.1 h1 e he
        rw [hb] at h2
        have h3 : e.on < i0 := by simpa using h2
        have h4 := hmin e.on h3
        have h5 : e.on < listed.size := by omega
        simp [h5] at h4 ⊢
        exact h4
      rw [h0] at hmem
      cases hmem
    · obtain ⟨hun, o, ho, hall⟩ := mem_ready.1 hi
      have his : i < ops.size := (Array.getElem?_eq_some_iff.1 ho).1
      have hin : i < n := by
        rcases Nat.lt_or_ge i n with h | h
        · exact h
        · exfalso
          have h1 := List.all_eq_true.1 htw i (List.mem_range.2 his)
          simp only [Bool.or_eq_true, Bool.and_eq_true, decide_eq_true_eq] at h1
          rcases h1 with (h1 | h1) | h1
          · omega
          · obtain ⟨oj, hoj, e, he, hb', hon⟩ := Region.waitsFor_spec h1.2
            have e2 : oj = o := Option.some.inj (hoj.symm.trans ho)
            subst e2
            have h2 := hall e he hb'
            rw [hon, getD_both (ht (i - 1) (by omega) (by omega))] at h2
            cases h2
          · have h2 := List.all_eq_true.1 h1 i0 (List.mem_range.2 hi0)
            have h3 := waitsIn_listed hcl 5 i i0 o ho hall h2
            rw [getD_both hun0] at h3
            cases h3
      have hol : l[i]? = some o := by rw [← ho, ← hl]; simp
      have hot : (l.take n)[i]? = some o := by rw [List.getElem?_take, if_pos hin]; exact hol
      have hod : ((l.take n).map (·.dst))[i]? = some o.dst := by rw [List.getElem?_map, hot]; rfl
      have hstep := monoAllF_at (l.take n) 0 i o hops hot x w hb (fun k hk => by
        obtain ⟨e, he, hb', rfl⟩ := needs_mem hk
        have h1 := hall e he hb'
        have h2 := List.all_eq_true.1 hback i (List.mem_range.2 his)
        rw [ho] at h2
        simp only [Option.map_some, Option.getD_some] at h2
        have h3 := Array.all_eq_true_iff_forall_mem.1 h2 e he
        rw [hb'] at h3
        have h4 : e.on < i := by simpa using h3
        have h5 : e.on < listed.size := by omega
        refine hR e.on (by omega) ?_
        simp [h5] at h1 ⊢
        exact h1)
        (over Q (wpAny P md ops Q (g + (ops.size - n)) (listed.setIfInBounds i true))) (fun v w' hRv hnw hbw => ?_)
      · simp only [wpList] at hstep
        unfold wpOp
        simp only [ho]
        split
        · rename_i hw
          rw [if_pos hw] at hstep
          exact hstep.imp wp_over id
        · rename_i hw
          rw [if_neg hw] at hstep
          exact hstep
      · show wpAny P md ops Q (g + (ops.size - n)) (listed.setIfInBounds i true) _ w'
        rw [fill_upd x v _ 0 i a0 o.dst hap hod, Nat.zero_add]
        have hBw' : B ≤ w.heap.size := Nat.le_trans hBw hb.size
        refine ih _ _ _ (by simpa using hs) (fun t h1 h2 => ?_) ?_ (hb.trans (hbw.mono hBw')) (fun j hj hlj => ?_) ?_ ?_
        · rw [getD_set_ne true (by omega)]
          exact ht t h1 h2
        · have := unl_set listed i hun n hin
          omega
        · by_cases e : j = i
          · subst e
            simpa [upd] using (by simpa using hRv : R j v w')
          · rw [getD_set_ne true (Ne.symm e)] at hlj
            simp only [upd, if_neg e]
            exact hK j _ _ _ hbw (hR j hj hlj)
        · intro j oj hoj hlj e he hbe
          have hkeep : ∀ t, listed.getD t false = true → (listed.setIfInBounds i true).getD t false = true := fun t ht' => by
            by_cases e' : i = t
            · subst e'
              have : i < listed.size := by omega
              simp [this]
            · rw [getD_set_ne false e']
              exact ht'
          by_cases e' : i = j
          · subst e'
            have e2 : oj = o := Option.some.inj (hoj.symm.trans ho)
            subst e2
            exact hkeep _ (hall e he hbe)
          · rw [getD_set_ne false e'] at hlj
            exact hkeep _ (hcl j oj hoj hlj e he hbe)
        · have hnv : i ∈ fr → New w w' v := by simpa using hnw
          refine ⟨fun j hj hlj => ?_, fun a ha b hb2 hne hla hlb => ?_⟩
          · by_cases e : j = i
            · subst e
              obtain ⟨g, h1, _, h2⟩ := hnv hj
              exact ⟨g, by simpa [upd] using h1, h2⟩
            · rw [getD_set_ne true (Ne.symm e)] at hlj
              obtain ⟨g, h1, h2⟩ := hap2.old j hj hlj
              refine ⟨g, ?_, Nat.lt_of_lt_of_le h2 hbw.size⟩
              simp only [upd, if_neg e]
              exact h1
          · by_cases e1 : a = i
            · subst e1
              have e2 : b ≠ a := fun h => hne h.symm
              rw [getD_set_ne true (Ne.symm e2)] at hlb
              have := new_apart (hnv ha) (hap2.old b hb2 hlb)
              simpa [upd, e2] using this
            · by_cases e2 : b = i
              · subst e2
                rw [getD_set_ne true (Ne.symm e1)] at hla
                have := new_apart (hnv hb2) (hap2.old a ha hla)
                simpa [upd, e1] using this.symm
              · rw [getD_set_ne true (Ne.symm e1)] at hla
                rw [getD_set_ne true (Ne.symm e2)] at hlb
                simpa [upd, e1, e2] using hap2.ne a ha b hb2 hne hla hlb

theorem wp_region_monoF {id : Nat} {Q : Exit → Act → World → Prop} {a0 : Act} {w0 : World} {l : List Oper} (n B : Nat) (fr : List Nat) (Rs : List (Value → World → Prop)) (hm : P.follows .mixedOrders = true) (hB : monoFB l.toArray n = true)
    (hfr : (fr.all fun j => decide (j < n)) = true) (hBw : B ≤ w0.heap.size) (hK : ∀ R ∈ Rs, Kept R) (ds : List (Option Tmp)) (hds : (l.take n).map (·.dst) = ds)
    (hops : monoAllF P .any l.toArray fr (fun j => Rs.getD j fun _ _ => True) ds a0 B w0 (l.take n) 0)
    (hfin : ∀ (x : Nat → Value) (w : World), Below B w0 w → (∀ j, j < n → (Rs.getD j fun _ _ => True) (x j) w) → (∀ i ∈ fr, ∀ j ∈ fr, i ≠ j → x i ≠ x j) → wpList P l.toArray Q (l.drop n) (fill x ds 0 a0) w) : (Code.region id l.toArray true).wp P Q a0 w0 := by
  subst hds
  simp only [monoFB, Bool.and_eq_true, decide_eq_true_eq] at hB
  obtain ⟨⟨⟨⟨hn, hback⟩, hap⟩, htw⟩, hseq⟩ := hB
  refine wp_region_any hm ?_
  have hK' : ∀ j, Kept (Rs.getD j fun _ _ => True) := fun j => by
    rw [List.getD_eq_getElem?_getD]
    cases h : Rs[j]? with
    | none => exact fun _ _ _ _ _ => trivial
    | some R => exact hK R (List.mem_of_getElem? h)
  have hu2 : ∀ k, k ≤ l.toArray.size → unl (Array.replicate l.toArray.size false) k = k := fun k => by
    induction k with
    | zero => exact fun _ => rfl
    | succ k ih =>
      intro hk
      simp only [unl]
      rw [ih (by omega), if_neg]
      rw [getD_in (by rw [Array.size_replicate]; omega) (getD_replicate_false _ _)]
      exact Bool.false_ne_true
  obtain ⟨x0, e0⟩ : ∃ x0 : Nat → Value, fill x0 ((l.take n).map (·.dst)) 0 a0 = a0 := ⟨fun k => match ((l.take n).map (·.dst))[k]? with
      | some (some d) => a0.tmps.getD d undef
      | _ => undef, fill_self _ 0 _ a0 (fun k d hk => by rw [Nat.zero_add, hk])⟩
  have hlast := wpAny_monoF (P := P) (md := .any) (Q := Q) (R := fun j => Rs.getD j fun _ _ => True) (n := n) (B := B) (a0 := a0) (w0 := w0) (l := l) rfl hK' hBw (fun j hj => by simpa using List.all_eq_true.1 hfr j hj) hback hn (by simpa using hap) htw hseq hops hfin
    n (Array.replicate l.toArray.size false) x0 ({ w0 with drawn := w0.drawn + 1 } : World) (by simp) (fun t _ ht => getD_in (by simpa using ht) (getD_replicate_false _ _)) (hu2 n hn) (show Below B w0 w0.drew from Below.drew (Below.refl _ _))
    (fun j hj hlj => by rw [getD_in (by rw [Array.size_replicate]; omega) (getD_replicate_false _ _)] at hlj; cases hlj)
    (fun j oj hoj hlj => by rw [getD_replicate_false'] at hlj; cases hlj) ⟨(fun j hj hlj => by rw [getD_in (by rw [Array.size_replicate]; have := List.all_eq_true.1 hfr j hj; simp at this; omega) (getD_replicate_false _ _)] at hlj; cases hlj), (fun a ha b hb hne hla hlb => by rw [getD_in (by rw [Array.size_replicate]; have := List.all_eq_true.1 hfr a ha; simp at this; omega) (getD_replicate_false _ _)] at hla; cases hla)⟩
  rw [e0, show n + (l.toArray.size - n) = l.toArray.size by omega] at hlast
  exact hlast
/-- The value points to a block of its own, laid behind B, with these cells. -/
def RowAt (l : List Value) (e : TypeId) (B : Nat) (v : Value) (w : World) : Prop := ∃ g, v = .pointer (some ⟨g, 0, none⟩) ∧ B ≤ g ∧ Blk w g l e
theorem RowAt.below {l : List Value} {e : TypeId} {B : Nat} {v : Value} {w w' : World} (h : RowAt l e B v w) (hb : Below w.heap.size w w') : RowAt l e B v w' := by
  obtain ⟨g, h1, h2, h3⟩ := h
  exact ⟨g, h1, h2, h3.below hb h3.lt⟩
end
end Go.Proofs.YtkfplliipogagaaDoor
