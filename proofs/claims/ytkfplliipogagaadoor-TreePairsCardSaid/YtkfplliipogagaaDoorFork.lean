/- A region that draws its order, of which some operations are pure (taken first), two may stand in either order, and the others behind them in one forced order: two walks serve every order. The condition: the Bool forkB, and that the program follows the row on mixed orders. -/
import Derived.Test.YtkfplliipogagaaDoorForced
namespace Go.Proofs.YtkfplliipogagaaDoor
open Go Go.BigFrame
section
variable {P : Program} {ops : Array Oper} {md : Region.Mode}

def forkB (ops : Array Oper) (zs : List Nat) (i j : Nat) (rs : List Nat) : Bool :=
  Region.noSelect ops && ((zs ++ i :: j :: rs).all fun i => decide (i < ops.size)) && decide (zs.length + (rs.length + 2) = ops.size) && pureB .any ops zs (Array.replicate ops.size false) &&
    decide (Region.ready .any ops (marked zs (Array.replicate ops.size false)) = [i, j]) && forcedB .any ops (j :: rs) ((marked zs (Array.replicate ops.size false)).setIfInBounds i true) && forcedB .any ops (i :: rs) ((marked zs (Array.replicate ops.size false)).setIfInBounds j true)
theorem wp_region_fork {id : Nat} {Q : Exit → Act → World → Prop} {a : Act} {w : World} {l : List Oper} (zs : List Nat) (i j : Nat) (rs : List Nat) (hm : P.follows .mixedOrders = true) (hB : forkB l.toArray zs i j rs = true)
    (hQ : ∀ c a w d v, Q (.panic c) (Act.put a d v) w → Q (.panic c) a w)
    (L R1 R2 : List Oper) (hL : (zs.map fun i => l.getD i default) = L) (hR1 : ((i :: j :: rs).map fun i => l.getD i default) = R1) (hR2 : ((j :: i :: rs).map fun i => l.getD i default) = R2)
    (h : wpPure P (fun a' => ∀ nq, wpList P l.toArray Q R1 a' (w.drewN nq) ∧ wpList P l.toArray Q R2 a' (w.drewN nq)) L a) : (Code.region id l.toArray true).wp P Q a w := by
  simp only [forkB, Bool.and_eq_true, decide_eq_true_eq, List.all_append] at hB
  obtain ⟨⟨⟨⟨⟨⟨hsel, hzs, hrs⟩, hlen⟩, hpu⟩, hrd⟩, hf1⟩, hf2⟩ := hB
  have hrs2 : ((j :: i :: rs).all fun i => decide (i < l.toArray.size)) = true := by
    simp only [List.all_cons, Bool.and_eq_true] at hrs ⊢
    exact ⟨hrs.2.1, hrs.1, hrs.2.2⟩
  rw [← hL, ← pick_eq l _ hzs] at h
  rw [← hR1, ← hR2, ← pick_eq l _ hrs, ← pick_eq l _ hrs2] at h
  have hf : (fun x : Nat => l.toArray[x]?) = (fun x : Nat => l[x]?) := by funext x; simp
  rw [← hf] at h
  refine wp_region_any hm ?_
  suffices goal : wpAny P .any l.toArray Q ((rs.length + 2) + zs.length) (Array.replicate l.toArray.size false) a { w with drawn := w.drawn + 1 } by
    rwa [show rs.length + 2 + zs.length = l.toArray.size by omega] at goal
  refine wpAny_pure (md := .any) hsel hQ zs _ a hpu h (fun a' ha' => ?_)
  obtain ⟨h1, h2⟩ := ha' 1
  refine ⟨fun h0 => (by rw [hrd] at h0; cases h0), fun k hk => ?_⟩
  have hk' := hk
  rw [hrd] at hk
  obtain ⟨_, o, h0, _⟩ := mem_ready.1 hk'
  simp only [List.mem_cons, List.not_mem_nil, or_false] at hk
  rcases hk with rfl | rfl
  · simp only [List.filterMap_cons, h0] at h1
    have hw : wpOp P l.toArray Q k (wpList P l.toArray Q ((j :: rs).filterMap (l.toArray[·]?))) a' (w.drewN 1) := by unfold wpOp; simp only [h0]; exact h1
    exact wpOp_mono (fun a2 w2 h' => wpAny_forced (j :: rs) _ a2 w2 hf1 h') hw
  · simp only [List.filterMap_cons, h0] at h2
    have hw : wpOp P l.toArray Q k (wpList P l.toArray Q ((i :: rs).filterMap (l.toArray[·]?))) a' (w.drewN 1) := by unfold wpOp; simp only [h0]; exact h2
    exact wpOp_mono (fun a2 w2 h' => wpAny_forced (i :: rs) _ a2 w2 hf2 h') hw
end
end Go.Proofs.YtkfplliipogagaaDoor
