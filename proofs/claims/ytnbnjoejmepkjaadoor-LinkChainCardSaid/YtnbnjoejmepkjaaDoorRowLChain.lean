/- The tied card of LinkChain, proved: for every input the law returns true, and each argument reads behind the call as it read before. Condition: what the row says (the listed tables read as laid; the card ties that to the program's text). -/
import Derived.Test.YtnbnjoejmepkjaaDoorRowTwo
import Derived.Test.YtnbnjoejmepkjaaDoorOpenA
import Derived.Test.YtnbnjoejmepkjaaDoorLawLChain
namespace Go.Proofs.YtnbnjoejmepkjaaDoor
open Go.ChangeShapes Go.WideShapes Go.ChangeAt Go.WideMaps Go.WideElems Go.RowKit

theorem linkChain_walk {H : Type} {enc : TypeId × Value → H} (W : World) (base : Nat) (args : Array Value) (ds : List (DataW H)) (p : List MemPlace) (hA : DataW.TrodAll enc Tryd.prog W 0 (fun _ => true) true [22, 5, 5] args.toList ds p)
    (hval : ∀ (j : Nat) t v, #[22, 5, 5][j]? = some t → args[j]? = some v → Value.okWide Tryd.prog W .any base t v) (hz : ∀ (j : Nat) (t : TypeId) (d : DataW H), [22, 5, 5][j]? = some t → ds[j]? = some d → ∀ n ∈ d.weights Tryd.prog t, n ≤ reachBytes) (hg : Glob W) :
    Calls Tryd.prog 7 args W fun e w' => e = .returned (.bool true) ∧ Below W.heap.size W w' := by
  obtain ⟨v0, v1, v2, d0, d1, d2, p0, p1, p2, rfl, rfl, rfl, h0, h1, h2⟩ := trodAll_three hA
  obtain ⟨b, x0, hp0, hn0, hm0⟩ := open_parts_w Tryd.underlying22 Tryd.underlying26 Tryd.underlying5 (by kernel_rfl) (by kernel_rfl) (by kernel_rfl) (by kernel_rfl) (hval 0 22 v0 rfl rfl) h0 (hz 0 _ _ rfl rfl)
  obtain ⟨m, rfl, hm⟩ := okWide_u8 Tryd.underlying5 (hval 1 5 v1 rfl rfl)
  obtain ⟨n, rfl, hn⟩ := okWide_u8 Tryd.underlying5 (hval 2 5 v2 rfl rfl)
  exact lchain_any v0 b x0 m n hm hn W hp0 hn0 hg

set_option maxRecDepth 100000 in
theorem linkChain_lifted (os : Os) (started : os.Started) (H : Type) (enc : TypeId × Value → H) :
    ReturnsInHanded {} Tryd.checked os 7 .any (fun w args => (Rows.linkChainSpec.pre enc Tryd.prog Tryd.f7 [] false w args ∧ laidMetH Tryd.prog laidL w) ∧ sizedMet enc Tryd.prog Tryd.f7 (OpenSpec.ofChange Rows.linkChainSpec) false w args)
      (Rows.linkChainSpec.post enc Tryd.prog Tryd.f7 false true false false) := by
  refine returnsInHanded_of_change_and (C := Tryd.checked) (X := fun w _ => laidMetH Tryd.prog laidL w) (fun _ _ _ hh h => h.of_heap hh) own started (by kernel_rfl) Tryd.func7
    (ChangeSpec.witness_shaped (enc := enc) (C := Tryd.checked) (os := os) (X := fun w _ => laidMetH Tryd.prog laidL w) false (World.doorLaid Tryd.prog 400 os) #[.slice none 0 0, .int .u8 0, .int .u8 0] 8 rfl (World.shaped_of_RefB (by kernel_rfl) (by kernel_rfl)) (by kernel_rfl) (by kernel_rfl) (by kernel_rfl) (door_met os _)) ?_
  intro W base args ds gs before hval0 hW _ hZ hL _
  have hval : ∀ (j : Nat) t v, Tryd.f7.params[j]? = some t → args[j]? = some v → Value.okWide Tryd.prog W .any base t v := hval0
  have hW' := hW
  obtain ⟨p, q, hA0, hV, rfl, hfz, hnd⟩ := hW
  have hA : DataW.TrodAll enc Tryd.prog W 0 (fun _ => true) true Tryd.f7.params.toList args.toList ds p := hA0
  obtain ⟨rfl, rfl⟩ := trodVars_none hV
  rw [Tryd.params7] at hA hval hZ
  simp only [List.append_nil] at hW'
  refine (linkChain_walk W base args ds p hA hval (fun j t d ht hd => weights_arg hZ ht hd) (glob_of_laid hL)).mono fun e W' ⟨he, hb⟩ => ?_
  subst he
  have hlen := trodAll_len hA
  have e1 : Rows.linkChainSpec.fn H (ds ++ []) = { results := [.lit (.bool true)], args := ds } := by
    rw [List.append_nil]
    match ds, hlen with
    | [x0, x1, x2], _ => rfl
  refine ⟨_, rfl, _, _, _, [], p, [], hW', ?_, ?_, ?_, hb.frame _, fun h => by cases h⟩
  · rw [e1]; exact trodAll_mk1 (shut_bool Tryd.underlying4 true)
  · rw [e1]; exact trodAll_below laidOut hb (by kernel_rfl) hA (fun x hx => hW'.lt x hx)
  · rw [e1]; rfl

theorem linkChain_holds : Rows.LinkChainSaid :=
  OpenClaim.holds_of_wide 7 Tryd.f7 rfl rfl rfl rfl rfl rfl rfl ⟨rfl, rfl, rfl, rfl, rfl⟩ rfl rfl rfl rfl rfl (by kernel_rfl) Tryd.func7 (by kernel_rfl)
    (of_decide_eq_true (by kernel_rfl)) (by unfold Func.isWrapper; rw [if_neg (of_decide_eq_false (by kernel_rfl))]; exact ⟨rfl, rfl⟩)
    (fun os started H enc _ => linkChain_lifted os started H enc)

theorem linkChain_card : Rows.LinkChainCardSaid :=
  Claim7.holds_tied_plain_at .later [] [.data, .data] true Rows.linkChainCard.stood.harness Rows.linkChainCard.stood.looks
    linkChain_holds (fun _ h => by cases h) (by kernel_rfl) (fun _ h => by cases h) linkChain_row_tie rfl ⟨rfl, rfl⟩ (by kernel_rfl) rfl
    (fun f fn hf hfn => by
      obtain rfl : f = 7 := (Option.some.inj ((show Tryd.prog.funcNamed "inspeximus/inspeximuslaw20.LinkChain" = some 7 by kernel_rfl).symm.trans hf)).symm
      obtain rfl : fn = Tryd.f7 := (Option.some.inj (Tryd.func7.symm.trans hfn)).symm
      exact ⟨by kernel_rfl, fun j t ht => by
        rw [Tryd.params7] at ht
        have hm := Array.mem_of_getElem? ht
        have hall : (#[22, 5, 5].all fun u => !Tryd.prog.wantsStandIn u) = true := by kernel_rfl
        have := Array.all_eq_true_iff_forall_mem.1 hall t hm
        exact (show Tryd.prog.wantsStandIn t = false by simpa using this)⟩)
    (by kernel_rfl)
#print axioms linkChain_card

end Go.Proofs.YtnbnjoejmepkjaaDoor
