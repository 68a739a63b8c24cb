/- A region that draws its order, of which some operations are pure (they yield one value in every world and read no memory) and may come early or late, and the others stand in one forced order: one walk serves every order. The condition: the Bool forcedTailB, and that the program follows the row on mixed orders. -/
import Derived.Test.YtkfplliipogagaaDoorRegion
namespace Go.Proofs.YtkfplliipogagaaDoor
open Go Go.BigFrame
section
variable {P : Program} {ops : Array Oper} {md : Region.Mode}

/-- Operations that yield one value each in every world. -/
def wpPure (P : Program) (K : Act → Prop) : List Oper → Act → Prop
  | [], a => K a
  | o :: rest, a => ∃ v, o.guard = none ∧ (∀ w', (execOp a.eval o).run P w' = .ok (.value v) w') ∧ wpPure P K rest (a.put o.dst v)
theorem wpPure_move {K : Act → Prop} {o : Oper} {rest : List Oper} {a : Act} (x : Operand) (ho : o.op = .move x) (hg : o.guard = none) (h : wpPure P K rest (a.put o.dst (a.eval x))) : wpPure P K (o :: rest) a :=
  ⟨_, hg, fun w' => by rw [run_move x ho], h⟩
theorem wpPure_run {K : Act → Prop} {o : Oper} {rest : List Oper} {a : Act} (v : Value) (hg : o.guard = none) (hr : ∀ w', (execOp a.eval o).run P w' = .ok (.value v) w') (h : wpPure P K rest (a.put o.dst v)) : wpPure P K (o :: rest) a :=
  ⟨v, hg, hr, h⟩
theorem wpPure_nil {K : Act → Prop} {a : Act} (h : K a) : wpPure P K [] a := h
def pureB (md : Region.Mode) (ops : Array Oper) : List Nat → Array Bool → Bool
  | [], _ => true
  | i :: zs, listed => Region.free md ops listed i && (Region.ready md ops listed).contains i && pureB md ops zs (listed.setIfInBounds i true)
def forcedB (md : Region.Mode) (ops : Array Oper) : List Nat → Array Bool → Bool
  | [], listed => (Region.ready md ops listed).isEmpty
  | r :: rs, listed => decide (Region.ready md ops listed = [r]) && forcedB md ops rs (listed.setIfInBounds r true)
theorem wpAny_forced {Q : Exit → Act → World → Prop} : ∀ (rs : List Nat) (listed : Array Bool) (a : Act) (w : World), forcedB md ops rs listed = true → wpList P ops Q (rs.filterMap (ops[·]?)) a w → wpAny P md ops Q rs.length listed a w
  | [], _, _, _, hB, h => ⟨by simpa [forcedB] using hB, h⟩
  | r :: rs, listed, a, w, hB, h => by
    simp only [forcedB, Bool.and_eq_true, decide_eq_true_eq] at hB
    refine ⟨fun h1 => (by rw [hB.1] at h1; cases h1), fun i hi => ?_⟩
    rw [hB.1] at hi
    obtain rfl : i = r := by simpa using hi
    have hr : i ∈ Region.ready md ops listed := by rw [hB.1]; simp
    obtain ⟨_, o, h0, _⟩ := mem_ready.1 hr
    simp only [List.filterMap_cons, h0] at h
    have hw : wpOp P ops Q i (wpList P ops Q (rs.filterMap (ops[·]?))) a w := by unfold wpOp; simp only [h0]; exact h
    exact wpOp_mono (fun a' w' h' => wpAny_forced rs _ a' w' hB.2 h') hw
theorem wpAny_pure {Q : Exit → Act → World → Prop} {K : Act → Prop} {fuel : Nat} {w : World} (hs : Region.noSelect ops = true)
    (hQ : ∀ c a w d v, Q (.panic c) (Act.put a d v) w → Q (.panic c) a w) : ∀ (zs : List Nat) (listed : Array Bool) (a : Act), pureB md ops zs listed = true →
    wpPure P K (zs.filterMap (ops[·]?)) a → (∀ a', K a' → wpAny P md ops Q fuel (marked zs listed) a' w) → wpAny P md ops Q (fuel + zs.length) listed a w
  | [], _, _, _, h, hk => hk _ h
  | i :: zs, listed, a, hB, h, hk => by
    simp only [pureB, Bool.and_eq_true] at hB
    obtain ⟨⟨hf, hr⟩, hB'⟩ := hB
    obtain ⟨_, o, ho, _⟩ := mem_ready.1 (show i ∈ Region.ready md ops listed by simpa using hr)
    simp only [List.filterMap_cons, ho] at h
    obtain ⟨v, hg, hv, hK⟩ := h
    have hw : Region.wanted o (yielded ops a.tmps) = true := by simp [Region.wanted, hg]
    exact wpAny_take (v := v) ho hs hf hr (fun c a' w' h => hQ c a' w' _ _ h) (.inl ⟨hw, hv⟩) (wpAny_pure hs hQ zs (listed.setIfInBounds i true) _ hB' hK hk)
def forcedTailB (ops : Array Oper) (zs rs : List Nat) : Bool :=
  Region.noSelect ops && ((zs ++ rs).all fun i => decide (i < ops.size)) && decide (zs.length + rs.length = ops.size) && pureB .any ops zs (Array.replicate ops.size false) && forcedB .any ops rs (marked zs (Array.replicate ops.size false))
theorem wp_region_forced {id : Nat} {Q : Exit → Act → World → Prop} {a : Act} {w : World} {l : List Oper} (zs rs : List Nat) (hm : P.follows .mixedOrders = true) (hB : forcedTailB l.toArray zs rs = true)
    (hQ : ∀ c a w d v, Q (.panic c) (Act.put a d v) w → Q (.panic c) a w)
    (L R : List Oper) (hL : (zs.map fun i => l.getD i default) = L) (hR : (rs.map fun i => l.getD i default) = R)
    (h : wpPure P (fun a' => ∀ nq, wpList P l.toArray Q R a' (w.drewN nq)) L a) : (Code.region id l.toArray true).wp P Q a w := by
  simp only [forcedTailB, Bool.and_eq_true, decide_eq_true_eq, List.all_append] at hB
  obtain ⟨⟨⟨⟨hsel, hzs, hrs⟩, hlen⟩, hpu⟩, hfo⟩ := hB
  rw [← hL, ← pick_eq l _ hzs] at h
  rw [← hR, ← pick_eq l _ hrs] at h
  refine wp_region_any hm ?_
  have hsz : l.toArray.size = rs.length + zs.length := by omega
  suffices goal : wpAny P .any l.toArray Q (rs.length + zs.length) (Array.replicate l.toArray.size false) a { w with drawn := w.drawn + 1 } by
    rwa [← hsz] at goal
  exact wpAny_pure (md := .any) hsel hQ zs _ a hpu (by simpa using h) (fun a' ha' => wpAny_forced rs _ a' _ hfo (by
    have h1 : wpList P l.toArray Q (rs.filterMap (l.toArray[·]?)) a' (w.drewN 1) := by
      have := ha' 1
      simpa using this
    exact h1))
end
end Go.Proofs.YtkfplliipogagaaDoor
