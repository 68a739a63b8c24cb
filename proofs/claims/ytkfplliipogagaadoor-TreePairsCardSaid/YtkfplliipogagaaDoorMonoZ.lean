/- wp_region_monoF once more, for regions in which some operations (zs) are pure (they yield one value in every world and read no memory) and may come early or late: these are taken first. Condition: the Bool monoZB, and that the program follows the row on mixed orders. -/
import Derived.Test.YtkfplliipogagaaDoorMonoF
import Derived.Test.YtkfplliipogagaaDoorForced
import Derived.Deep.MidRow
namespace Go.Proofs.YtkfplliipogagaaDoor
open Go Go.BigFrame Go.RowKit
section
variable {P : Program} {ops : Array Oper} {md : Region.Mode}

def listedZ (m n : Nat) (zs : List Nat) : Array Bool := ((List.range m).map fun i => decide (i < n) || zs.contains i).toArray
def tailWaitsZ (md : Region.Mode) (ops : Array Oper) (n : Nat) (zs : List Nat) : Bool := (List.range ops.size).all fun t => decide (t < n) || zs.contains t || ((List.range ops.size).any fun r => decide (n ≤ r) && !zs.contains r && Region.waitsFor md ops t r) || (List.range n).all fun i => zs.contains i || waitsIn md ops 5 t i
def closedB (md : Region.Mode) (ops : Array Oper) (listed : Array Bool) : Bool := (List.range ops.size).all fun j => !listed.getD j false || ((ops[j]?).map fun o => o.after.all fun e => !Region.binds md e || listed.getD e.on false).getD true
theorem closedB_spec {listed : Array Bool} (h : closedB md ops listed = true) : Closed md ops listed := by
  intro j oj hoj hlj e he hb
  have hj : j < ops.size := (Array.getElem?_eq_some_iff.1 hoj).1
  have h1 := List.all_eq_true.1 h j (List.mem_range.2 hj)
  rw [hlj, hoj] at h1
  simp only [Bool.not_true, Bool.false_or, Option.map_some, Option.getD_some] at h1
  have h2 := Array.all_eq_true_iff_forall_mem.1 h1 e he
  rw [hb] at h2
  simpa using h2
def monoZB (ops : Array Oper) (n : Nat) (zs rs : List Nat) : Bool :=
  Region.noSelect ops && decide (n ≤ ops.size) && backB .any ops && apartB ((ops.toList.take n).map (·.dst)) && tailWaitsZ .any ops n zs && forcedB .any ops rs (listedZ ops.size n zs) && ((zs ++ rs).all fun i => decide (i < ops.size)) &&
    pureB .any ops zs (Array.replicate ops.size false) && closedB .any ops (marked zs (Array.replicate ops.size false)) && decide (unl (marked zs (Array.replicate ops.size false)) n + rs.length + zs.length = ops.size) &&
    ((List.range ops.size).all fun i => (marked zs (Array.replicate ops.size false)).getD i true == zs.contains i) && decide ((marked zs (Array.replicate ops.size false)).size = ops.size)
theorem wpAny_monoZ {fr : List Nat} {Q : Exit → Act → World → Prop} {R : Nat → Value → World → Prop} {n B : Nat} {a0 : Act} {w0 : World} {l : List Oper} (hl : l.toArray = ops) (hK : ∀ j, Kept (R j)) (hBw : B ≤ w0.heap.size)
    (hfr : ∀ j ∈ fr, j < n) (hback : backB md ops = true) (hn : n ≤ ops.size) (hap : apartB ((l.take n).map (·.dst)) = true) (zs rs : List Nat) (htw : tailWaitsZ md ops n zs = true) (hseq : forcedB md ops rs (listedZ ops.size n zs) = true) (hrs : (rs.all fun i => decide (i < ops.size)) = true)
    (hops : monoAllF P md ops fr R ((l.take n).map (·.dst)) a0 B w0 (l.take n) 0)
    (hfin : ∀ (x : Nat → Value) (w : World), Below B w0 w → (∀ j, j < n → R j (x j) w) → (∀ i ∈ fr, ∀ j ∈ fr, i ≠ j → x i ≠ x j) → wpList P ops Q (rs.map fun i => l.getD i default) (fill x ((l.take n).map (·.dst)) 0 a0) w) :
    ∀ (g : Nat) (listed : Array Bool) (x : Nat → Value) (w : World), listed.size = ops.size → (∀ t, n ≤ t → t < ops.size → t ∉ zs → listed.getD t true = false) → (∀ t ∈ zs, listed.getD t true = true) → unl listed n = g → Below B w0 w →
      (∀ j, j < n → listed.getD j true = true → R j (x j) w) → Closed md ops listed → Apart fr listed x w → wpAny P md ops Q (g + rs.length) listed (fill x ((l.take n).map (·.dst)) 0 a0) w := by
  have hsz : ops.size = l.length := by rw [← hl]; simp
  intro g
  induction g with
  | zero =>
    intro listed x w hs ht hzl hu hb hR hcl hap2
    have hall := unl_zero listed n hu
    have e : listed = listedZ ops.size n zs := by
      apply Array.ext
      · simp [listedZ, hs]
      · intro i h1 h2
        simp only [listedZ, List.getElem_toArray, List.getElem_map, List.getElem_range]
        by_cases hi : i < n
        · have := hall i hi
          simp [h1] at this
          simp [hi, this]
        · by_cases hz : i ∈ zs
          · have := hzl i hz
            simp [h1] at this
            simp [hz, this]
          · have := ht i (by omega) (by omega) hz
            simp [h1] at this
            simp [hi, hz, this]
    rw [Nat.zero_add]
    have h := hfin x w hb (fun j hj => hR j hj (hall j hj)) (fun i hi j hj hne => hap2.ne i hi j hj hne (hall i (hfr i hi)) (hall j (hfr j hj)))
    refine wpAny_forced rs listed _ w (by rw [e]; exact hseq) ?_
    subst hl
    have hf : (fun x : Nat => l.toArray[x]?) = (fun x : Nat => l[x]?) := by funext x; simp
    rw [hf, pick_eq l rs (by simpa using hrs)]
    exact h
  | succ g ih =>
    intro listed x w hs ht hzl hu hb hR hcl hap2
    rw [show g + 1 + rs.length = (g + rs.length) + 1 by omega]
    obtain ⟨i0, hi0, hun0, hmin⟩ := unl_pos listed n (by omega)
    refine ⟨fun h0 => ?_, fun i hi => ?_⟩
    · exfalso
      have hmem : i0 ∈ Region.ready md ops listed := by
        have h1 := List.all_eq_true.1 hback i0 (List.mem_range.2 (by omega))
        have ho : ops[i0]? = some ops[i0] := Array.getElem?_eq_getElem (by omega)
        rw [ho] at h1
        simp only [Option.map_some, Option.getD_some] at h1
        refine mem_ready.2 ⟨hun0, _, ho, fun e he hb => ?_⟩
        have h2 := Array.all_eq_true_iff_forall_mem.1 h1 e he
        rw [hb] at h2
        have h3 : e.on < i0 := by simpa using h2
        have h4 := hmin e.on h3
        have h5 : e.on < listed.size := by omega
        simp [h5] at h4 ⊢
        exact h4
      rw [h0] at hmem
      cases hmem
    · obtain ⟨hun, o, ho, hall⟩ := mem_ready.1 hi
      have his : i < ops.size := (Array.getElem?_eq_some_iff.1 ho).1
      have hin : i < n := by
        rcases Nat.lt_or_ge i n with h | h
        · exact h
        · exfalso
          have hiz : i ∉ zs := fun hz => by
            have := hzl i hz
            rw [hun] at this
            cases this
          have h1 := List.all_eq_true.1 htw i (List.mem_range.2 his)
          simp only [Bool.or_eq_true, decide_eq_true_eq] at h1
          rcases h1 with ((h1 | h1) | h1) | h1
          · omega
          · exact hiz (by simpa using h1)
          · obtain ⟨r, hr, h2⟩ := List.any_eq_true.1 h1
            simp only [Bool.and_eq_true, decide_eq_true_eq, Bool.not_eq_true'] at h2
            obtain ⟨oj, hoj, e, he, hb', hon⟩ := Region.waitsFor_spec h2.2
            have e2 : oj = o := Option.some.inj (hoj.symm.trans ho)
            subst e2
            have h3 := hall e he hb'
            rw [hon, getD_both (ht r h2.1.1 (List.mem_range.1 hr) (fun hz => by have := h2.1.2; simp [hz] at this))] at h3
            cases h3
          · have h2 := List.all_eq_true.1 h1 i0 (List.mem_range.2 hi0)
            rw [Bool.or_eq_true] at h2
            rcases h2 with h2 | h2
            · have := hzl i0 (by simpa using h2)
              rw [hun0] at this
              cases this
            · have h3 := waitsIn_listed hcl 5 i i0 o ho hall h2
              rw [getD_both hun0] at h3
              cases h3
      have hol : l[i]? = some o := by rw [← ho, ← hl]; simp
      have hot : (l.take n)[i]? = some o := by rw [List.getElem?_take, if_pos hin]; exact hol
      have hod : ((l.take n).map (·.dst))[i]? = some o.dst := by rw [List.getElem?_map, hot]; rfl
      have hstep := monoAllF_at (l.take n) 0 i o hops hot x w hb (fun k hk => by
        obtain ⟨e, he, hb', rfl⟩ := needs_mem hk
        have h1 := hall e he hb'
        have h2 := List.all_eq_true.1 hback i (List.mem_range.2 his)
        rw [ho] at h2
        simp only [Option.map_some, Option.getD_some] at h2
        have h3 := Array.all_eq_true_iff_forall_mem.1 h2 e he
        rw [hb'] at h3
        have h4 : e.on < i := by simpa using h3
        have h5 : e.on < listed.size := by omega
        refine hR e.on (by omega) ?_
        simp [h5] at h1 ⊢
        exact h1)
        (over Q (wpAny P md ops Q (g + rs.length) (listed.setIfInBounds i true))) (fun v w' hRv hnw hbw => ?_)
      · simp only [wpList] at hstep
        unfold wpOp
        simp only [ho]
        split
        · rename_i hw
          rw [if_pos hw] at hstep
          exact hstep.imp wp_over id
        · rename_i hw
          rw [if_neg hw] at hstep
          exact hstep
      · show wpAny P md ops Q (g + rs.length) (listed.setIfInBounds i true) _ w'
        rw [fill_upd x v _ 0 i a0 o.dst hap hod, Nat.zero_add]
        have hBw' : B ≤ w.heap.size := Nat.le_trans hBw hb.size
        refine ih _ _ _ (by simpa using hs) (fun t h1 h2 h3 => ?_) (fun t hz => ?_) ?_ (hb.trans (hbw.mono hBw')) (fun j hj hlj => ?_) ?_ ?_
        · rw [getD_set_ne true (by omega)]
          exact ht t h1 h2 h3
        · have h1 := hzl t hz
          by_cases e' : i = t
          · subst e'
            rw [hun] at h1
            cases h1
          · rw [getD_set_ne true e']
            exact h1
        · have := unl_set listed i hun n hin
          omega
        · by_cases e : j = i
          · subst e
            simpa [upd] using (by simpa using hRv : R j v w')
          · rw [getD_set_ne true (Ne.symm e)] at hlj
            simp only [upd, if_neg e]
            exact hK j _ _ _ hbw (hR j hj hlj)
        · intro j oj hoj hlj e he hbe
          have hkeep : ∀ t, listed.getD t false = true → (listed.setIfInBounds i true).getD t false = true := fun t ht' => by
            by_cases e' : i = t
            · subst e'
              have : i < listed.size := by omega
              simp [this]
            · rw [getD_set_ne false e']
              exact ht'
          by_cases e' : i = j
          · subst e'
            have e2 : oj = o := Option.some.inj (hoj.symm.trans ho)
            subst e2
            exact hkeep _ (hall e he hbe)
          · rw [getD_set_ne false e'] at hlj
            exact hkeep _ (hcl j oj hoj hlj e he hbe)
        · have hnv : i ∈ fr → New w w' v := by simpa using hnw
          refine ⟨fun j hj hlj => ?_, fun a ha b hb2 hne hla hlb => ?_⟩
          · by_cases e : j = i
            · subst e
              obtain ⟨g, h1, _, h2⟩ := hnv hj
              exact ⟨g, by simpa [upd] using h1, h2⟩
            · rw [getD_set_ne true (Ne.symm e)] at hlj
              obtain ⟨g, h1, h2⟩ := hap2.old j hj hlj
              refine ⟨g, ?_, Nat.lt_of_lt_of_le h2 hbw.size⟩
              simp only [upd, if_neg e]
              exact h1
          · by_cases e1 : a = i
            · subst e1
              have e2 : b ≠ a := fun h => hne h.symm
              rw [getD_set_ne true (Ne.symm e2)] at hlb
              have := new_apart (hnv ha) (hap2.old b hb2 hlb)
              simpa [upd, e2] using this
            · by_cases e2 : b = i
              · subst e2
                rw [getD_set_ne true (Ne.symm e1)] at hla
                have := new_apart (hnv hb2) (hap2.old a ha hla)
                simpa [upd, e1] using this.symm
              · rw [getD_set_ne true (Ne.symm e1)] at hla
                rw [getD_set_ne true (Ne.symm e2)] at hlb
                simpa [upd, e1, e2] using hap2.ne a ha b hb2 hne hla hlb

def valD (ds : List (Option Tmp)) (a : Act) (k : Nat) : Value := match ds[k]? with
  | some (some d) => a.tmps.getD d undef
  | _ => undef
theorem wp_region_monoZ {id : Nat} {Q : Exit → Act → World → Prop} {a0 : Act} {w0 : World} {l : List Oper} (n B : Nat) (zs rs fr : List Nat) (Rs : List (Value → World → Prop)) (hm : P.follows .mixedOrders = true) (hB : monoZB l.toArray n zs rs = true)
    (hfr : (fr.all fun j => decide (j < n) && !zs.contains j) = true) (hQ : ∀ c a w d v, Q (.panic c) (Act.put a d v) w → Q (.panic c) a w) (hBw : B ≤ w0.heap.size) (hK : ∀ R ∈ Rs, Kept R) (ds : List (Option Tmp)) (hds : (l.take n).map (·.dst) = ds)
    (L R : List Oper) (hL : (zs.map fun i => l.getD i default) = L) (hR : (rs.map fun i => l.getD i default) = R)
    (h : wpPure P (fun a' => monoAllF P .any l.toArray fr (fun j => Rs.getD j fun _ _ => True) ds a' B w0 (l.take n) 0 ∧ (∀ j ∈ zs, j < n → ∀ w, (Rs.getD j fun _ _ => True) (valD ds a' j) w) ∧
      ∀ (x : Nat → Value) (w : World), Below B w0 w → (∀ j, j < n → (Rs.getD j fun _ _ => True) (x j) w) → (∀ i ∈ fr, ∀ j ∈ fr, i ≠ j → x i ≠ x j) → wpList P l.toArray Q R (fill x ds 0 a') w) L a0) : (Code.region id l.toArray true).wp P Q a0 w0 := by
  subst hds hR hL
  simp only [monoZB, Bool.and_eq_true, decide_eq_true_eq, List.all_append] at hB
  obtain ⟨⟨⟨⟨⟨⟨⟨⟨⟨⟨⟨hsel, hn⟩, hback⟩, hap⟩, htw⟩, hseq⟩, hzs, hrs⟩, hpu⟩, hcl⟩, hun⟩, hmk⟩, hms⟩ := hB
  rw [← pick_eq l _ hzs] at h
  refine wp_region_any hm ?_
  have hK' : ∀ j, Kept (Rs.getD j fun _ _ => True) := fun j => by
    rw [List.getD_eq_getElem?_getD]
    cases h : Rs[j]? with
    | none => exact fun _ _ _ _ _ => trivial
    | some R => exact hK R (List.mem_of_getElem? h)
  have hmk2 : ∀ t, t < l.toArray.size → (marked zs (Array.replicate l.toArray.size false)).getD t true = zs.contains t := fun t ht => by
    have := List.all_eq_true.1 hmk t (List.mem_range.2 ht)
    exact eq_of_beq this
  have hzsz : ∀ t ∈ zs, t < l.toArray.size := fun t ht => by simpa using List.all_eq_true.1 hzs t ht
  suffices goal : wpAny P .any l.toArray Q (unl (marked zs (Array.replicate l.toArray.size false)) n + rs.length + zs.length) (Array.replicate l.toArray.size false) a0 { w0 with drawn := w0.drawn + 1 } by
    rwa [hun] at goal
  have hf : (fun x : Nat => l.toArray[x]?) = (fun x : Nat => l[x]?) := by funext x; simp
  refine wpAny_pure (md := .any) hsel hQ zs _ a0 hpu (by rw [hf]; exact h) (fun a' ha' => ?_)
  obtain ⟨hops, hz, hfin⟩ := ha'
  obtain ⟨x0, ex0, e0⟩ : ∃ x0 : Nat → Value, x0 = valD ((l.take n).map (·.dst)) a' ∧ fill x0 ((l.take n).map (·.dst)) 0 a' = a' := ⟨_, rfl, fill_self _ 0 _ a' (fun k d hk => by unfold valD; rw [Nat.zero_add, hk])⟩
  have hlast := wpAny_monoZ (P := P) (md := .any) (Q := Q) (fr := fr) (R := fun j => Rs.getD j fun _ _ => True) (n := n) (B := B) (a0 := a') (w0 := w0) (l := l) rfl hK' hBw (fun j hj => by have := List.all_eq_true.1 hfr j hj; simp at this; exact this.1) hback hn (by simpa using hap) zs rs htw hseq hrs hops hfin
    _ (marked zs (Array.replicate l.toArray.size false)) x0 ({ w0 with drawn := w0.drawn + 1 } : World) hms
    (fun t h1 h2 h3 => by rw [hmk2 t h2]; simpa using h3) (fun t ht => by rw [hmk2 t (hzsz t ht)]; simpa using ht) rfl (show Below B w0 w0.drew from Below.drew (Below.refl _ _))
    (fun j hj hlj => by rw [hmk2 j (by omega)] at hlj; rw [ex0]; exact hz j (by simpa using hlj) hj _)
    (closedB_spec hcl)
    ⟨(fun j hj hlj => by have h1 := List.all_eq_true.1 hfr j hj; simp at h1; rw [hmk2 j (by omega)] at hlj; exact absurd (by simpa using hlj) h1.2),
      (fun a ha b hb hne hla hlb => by have h1 := List.all_eq_true.1 hfr a ha; simp at h1; rw [hmk2 a (by omega)] at hla; exact absurd (by simpa using hla) h1.2)⟩
  rw [e0] at hlast
  exact hlast
theorem wpList_load_midIf {rest : List Oper} {o : Oper} {a : Act} {w : World} {Q : Exit → Act → World → Prop} (hw : Region.wanted o (yielded ops a.tmps) = true) (ty : TypeId) (x : Operand) (ho : o.op = .load ty x)
    (b off : Nat) (hx : a.eval x = .pointer (some ⟨b, off, none⟩)) (cs : List Value) (d : TypeDesc) (hc : w.rangeAt b off cs)
    (hu : P.underlying ty = some d) (hd : d.isRow = true) (hi : (P.info? ty).map (·.size) = some cs.length)
    (h : wpList P ops Q rest (a.put o.dst (.agg cs.toArray)) w) : wpList P ops Q (o :: rest) a w := by
  simp only [wpList]
  rw [if_pos hw]
  exact .inl (wp_load_mid ty x ho b off hx cs d hc hu hd hi h)
end
end Go.Proofs.YtkfplliipogagaaDoor
