/- The tied card of ProofEnds, proved: for every input the law returns true, and each argument reads behind the call as it read before. Condition: what the row says (the listed tables read as laid; the card ties that to the program's text). -/
import Derived.Test.YtkfplliipogagaaDoorRow2
import Derived.Test.YtkfplliipogagaaDoorOpenA
import Derived.Test.YtkfplliipogagaaDoorLawPEnds
namespace Go.Proofs.YtkfplliipogagaaDoor
open Go.ChangeShapes Go.WideShapes Go.ChangeAt Go.WideMaps Go.WideElems Go.RowKit

theorem proofEnds_walk {H : Type} {enc : TypeId × Value → H} (W : World) (base : Nat) (args : Array Value) (ds : List (DataW H)) (p : List MemPlace) (hA : DataW.TrodAll enc Tryd.prog W 0 (fun _ => true) true [31, 24] args.toList ds p)
    (hval : ∀ (j : Nat) t v, #[31, 24][j]? = some t → args[j]? = some v → Value.okWide Tryd.prog W .any base t v) (hg : Glob W) :
    Calls Tryd.prog 15 args W fun e w' => e = .returned (.bool true) ∧ Below W.heap.size W w' := by
  obtain ⟨v0, v1, d0, d1, p0, p1, rfl, rfl, rfl, h0, h1⟩ := trodAll_two hA
  obtain ⟨l, hl, _⟩ := open_hashes Tryd.underlying31 Tryd.underlying24 Tryd.underlying5 (by kernel_rfl) (by kernel_rfl) (hval 0 31 v0 rfl rfl) h0
  obtain ⟨a, ha, rfl⟩ := open_hash Tryd.underlying24 Tryd.underlying5 (by kernel_rfl) (by kernel_rfl) (hval 1 24 v1 rfl rfl) h1
  exact pends_any v0 l ⟨a, ha⟩ W hl hg

set_option maxRecDepth 100000 in
theorem proofEnds_lifted (os : Os) (started : os.Started) (H : Type) (enc : TypeId × Value → H) :
    ReturnsInHanded {} Tryd.checked os 15 .any (fun w args => (Rows.proofEndsSpec.pre enc Tryd.prog Tryd.f15 [] false w args ∧ laidMetH Tryd.prog laidL w) ∧ sizedMet enc Tryd.prog Tryd.f15 (OpenSpec.ofChange Rows.proofEndsSpec) false w args)
      (Rows.proofEndsSpec.post enc Tryd.prog Tryd.f15 false true false false) := by
  refine returnsInHanded_of_change_and (C := Tryd.checked) (X := fun w _ => laidMetH Tryd.prog laidL w) (fun _ _ _ hh h => h.of_heap hh) own started (by kernel_rfl) Tryd.func15
    (ChangeSpec.witness_shaped (enc := enc) (C := Tryd.checked) (os := os) (X := fun w _ => laidMetH Tryd.prog laidL w) false (World.doorLaid Tryd.prog 400 os) #[.slice none 0 0, .agg (Array.replicate 32 (.int .u8 0))] 8 rfl (World.shaped_of_RefB (by kernel_rfl) (by kernel_rfl)) (by kernel_rfl) (by kernel_rfl) (by kernel_rfl) (door_met os _)) ?_
  intro W base args ds gs before hval0 hW _ _ hL _
  have hval : ∀ (j : Nat) t v, Tryd.f15.params[j]? = some t → args[j]? = some v → Value.okWide Tryd.prog W .any base t v := hval0
  have hW' := hW
  obtain ⟨p, q, hA0, hV, rfl, hfz, hnd⟩ := hW
  have hA : DataW.TrodAll enc Tryd.prog W 0 (fun _ => true) true Tryd.f15.params.toList args.toList ds p := hA0
  obtain ⟨rfl, rfl⟩ := trodVars_none hV
  rw [Tryd.params15] at hA hval
  simp only [List.append_nil] at hW'
  refine (proofEnds_walk W base args ds p hA hval (glob_of_laid hL)).mono fun e W' ⟨he, hb⟩ => ?_
  subst he
  have hlen := trodAll_len hA
  have e1 : Rows.proofEndsSpec.fn H (ds ++ []) = { results := [.lit (.bool true)], args := ds } := by
    rw [List.append_nil]
    match ds, hlen with
    | [x0, x1], _ => rfl
  refine ⟨_, rfl, _, _, _, [], p, [], hW', ?_, ?_, ?_, hb.frame _, fun h => by cases h⟩
  · rw [e1]; exact trodAll_mk1 (shut_bool Tryd.underlying4 true)
  · rw [e1]; exact trodAll_below laidOut hb (by kernel_rfl) hA (fun x hx => hW'.lt x hx)
  · rw [e1]; rfl

theorem proofEnds_holds : Rows.ProofEndsSaid :=
  OpenClaim.holds_of_wide 15 Tryd.f15 rfl rfl rfl rfl rfl rfl rfl ⟨rfl, rfl, rfl, rfl, rfl⟩ rfl rfl rfl rfl rfl (by kernel_rfl) Tryd.func15 (by kernel_rfl)
    (of_decide_eq_true (by kernel_rfl)) (by unfold Func.isWrapper; rw [if_neg (of_decide_eq_false (by kernel_rfl))]; exact ⟨rfl, rfl⟩)
    (fun os started H enc _ => proofEnds_lifted os started H enc)

theorem proofEnds_card : Rows.ProofEndsCardSaid :=
  Claim7.holds_tied_plain_at .later [] [.data, .data] true Rows.proofEndsCard.stood.harness Rows.proofEndsCard.stood.looks
    proofEnds_holds (fun _ h => by cases h) (by kernel_rfl) (fun _ h => by cases h) proofEnds_row_tie rfl ⟨rfl, rfl⟩ (by kernel_rfl) rfl
    (fun f fn hf hfn => by
      obtain rfl : f = 15 := (Option.some.inj ((show Tryd.prog.funcNamed "inspeximus/inspeximuslaw06.ProofEnds" = some 15 by kernel_rfl).symm.trans hf)).symm
      obtain rfl : fn = Tryd.f15 := (Option.some.inj (Tryd.func15.symm.trans hfn)).symm
      exact ⟨by kernel_rfl, fun j t ht => by
        rw [Tryd.params15] at ht
        have hm := Array.mem_of_getElem? ht
        have hall : (#[31, 24].all fun u => !Tryd.prog.wantsStandIn u) = true := by kernel_rfl
        have := Array.all_eq_true_iff_forall_mem.1 hall t hm
        exact (show Tryd.prog.wantsStandIn t = false by simpa using this)⟩)
    (by kernel_rfl)
#print axioms proofEnds_card

end Go.Proofs.YtkfplliipogagaaDoor
