/- The tied card of WitnessNone, proved: for every input the law returns true, and each argument reads behind the call as it read before. Condition: what the row says (the listed tables read as laid; the card ties that to the program's text). -/
import Derived.Test.YtldokkbfahobgaaDoorRowTwo
import Derived.Test.YtldokkbfahobgaaDoorOpenA
import Derived.Test.YtldokkbfahobgaaDoorOpenB
import Derived.Test.YtldokkbfahobgaaDoorNoneW
namespace Go.Proofs.YtldokkbfahobgaaDoor
open Go.ChangeShapes Go.WideShapes Go.ChangeAt Go.WideMaps Go.WideElems Go.RowKit

theorem wnone_any (pv wv hsv : Value) (ps ws h : List H) (need mask : Int) (w : World) (hp : Hs w pv ps) (hw : Hs w wv ws) (hh : Hs w hsv h) (hg : Glob w) :
    Calls Tryd.prog 6 #[keysV pv wv need, hsv, .int .i64 mask] w fun e w' => e = .returned (.bool true) ∧ Below w.heap.size w w' := by
  by_cases hc : h.length ≤ 60 ∧ mayB ps.length ws.length need = true ∧ 0 ≤ mask ∧ mask ≤ 255
  · obtain ⟨hl, hm, h0, h1⟩ := hc
    exact wnone_yes pv wv hsv ps ws h need mask w hp hw hh hg hl hm h0 h1
  · exact wnone_no pv wv hsv ps ws h need mask w hp hw hh hg (fun _ _ h3 hm h0 h1 => hc ⟨h3, hm, h0, h1⟩)
set_option maxRecDepth 100000 in
theorem witnessNone_walk {H : Type} {enc : TypeId × Value → H} (W : World) (base : Nat) (args : Array Value) (ds : List (DataW H)) (p : List MemPlace) (hA : DataW.TrodAll enc Tryd.prog W 0 (fun _ => true) true [24, 22, 3] args.toList ds p)
    (hval : ∀ (j : Nat) t v, #[24, 22, 3][j]? = some t → args[j]? = some v → Value.okWide Tryd.prog W .any base t v) (hg : Glob W) :
    Calls Tryd.prog 6 args W fun e w' => e = .returned (.bool true) ∧ Below W.heap.size W w' := by
  obtain ⟨v0, v1, v2, d0, d1, d2, p0, p1, p2, rfl, rfl, rfl, h0, h1, h2⟩ := trodAll_three hA
  obtain ⟨pv, wv, need, ps, ws, rfl, _, hps, hws, _, _⟩ := open_keys (hval 0 24 v0 rfl rfl) h0
  obtain ⟨l, hl, _⟩ := open_hashes Tryd.underlying22 Tryd.underlying31 Tryd.underlying5 (by kernel_rfl) (by kernel_rfl) (hval 1 22 v1 rfl rfl) h1
  obtain ⟨m, rfl⟩ := okWide_int Tryd.underlying3 (hval 2 3 v2 rfl rfl)
  exact wnone_any pv wv v1 ps ws l need m W hps hws hl hg

set_option maxRecDepth 100000 in
theorem witnessNone_lifted (os : Os) (started : os.Started) (H : Type) (enc : TypeId × Value → H) :
    ReturnsInHanded {} Tryd.checked os 6 .any (fun w args => (Rows.witnessNoneSpec.pre enc Tryd.prog Tryd.f6 [] false w args ∧ laidMetH Tryd.prog laidL w) ∧ sizedMet enc Tryd.prog Tryd.f6 (OpenSpec.ofChange Rows.witnessNoneSpec) false w args)
      (Rows.witnessNoneSpec.post enc Tryd.prog Tryd.f6 false true false false) := by
  refine returnsInHanded_of_change_and (C := Tryd.checked) (X := fun w _ => laidMetH Tryd.prog laidL w) (fun _ _ _ hh h => h.of_heap hh) own started (by kernel_rfl) Tryd.func6
    (ChangeSpec.witness_shaped (enc := enc) (C := Tryd.checked) (os := os) (X := fun w _ => laidMetH Tryd.prog laidL w) false (World.doorLaid Tryd.prog 400 os) #[.agg #[.slice none 0 0, .slice none 0 0, .int .i64 0], .slice none 0 0, .int .i64 0] 8 rfl (World.shaped_of_RefB (by kernel_rfl) (by kernel_rfl)) (by kernel_rfl) (by kernel_rfl) (by kernel_rfl) (door_met os _)) ?_
  intro W base args ds gs before hval0 hW _ _ hL _
  have hval : ∀ (j : Nat) t v, Tryd.f6.params[j]? = some t → args[j]? = some v → Value.okWide Tryd.prog W .any base t v := hval0
  have hW' := hW
  obtain ⟨p, q, hA0, hV, rfl, hfz, hnd⟩ := hW
  have hA : DataW.TrodAll enc Tryd.prog W 0 (fun _ => true) true Tryd.f6.params.toList args.toList ds p := hA0
  obtain ⟨rfl, rfl⟩ := trodVars_none hV
  rw [Tryd.params6] at hA hval
  simp only [List.append_nil] at hW'
  refine (witnessNone_walk W base args ds p hA hval (glob_of_laid hL)).mono fun e W' ⟨he, hb⟩ => ?_
  subst he
  have hlen := trodAll_len hA
  have e1 : Rows.witnessNoneSpec.fn H (ds ++ []) = { results := [.lit (.bool true)], args := ds } := by
    rw [List.append_nil]
    match ds, hlen with
    | [x0, x1, x2], _ => rfl
  refine ⟨_, rfl, _, _, _, [], p, [], hW', ?_, ?_, ?_, hb.frame _, fun h => by cases h⟩
  · rw [e1]; exact trodAll_mk1 (shut_bool Tryd.underlying4 true)
  · rw [e1]; exact trodAll_below laidOut hb (by kernel_rfl) hA (fun x hx => hW'.lt x hx)
  · rw [e1]; rfl

theorem witnessNone_holds : Rows.WitnessNoneSaid :=
  OpenClaim.holds_of_wide 6 Tryd.f6 rfl rfl rfl rfl rfl rfl rfl ⟨rfl, rfl, rfl, rfl, rfl⟩ rfl rfl rfl rfl rfl (by kernel_rfl) Tryd.func6 (by kernel_rfl)
    (of_decide_eq_true (by kernel_rfl)) (by unfold Func.isWrapper; rw [if_neg (of_decide_eq_false (by kernel_rfl))]; exact ⟨rfl, rfl⟩)
    (fun os started H enc _ => witnessNone_lifted os started H enc)

theorem witnessNone_card : Rows.WitnessNoneCardSaid :=
  Claim7.holds_tied_plain_at .later [] [.data, .data] true Rows.witnessNoneCard.stood.harness Rows.witnessNoneCard.stood.looks
    witnessNone_holds (fun _ h => by cases h) (by kernel_rfl) (fun _ h => by cases h) witnessNone_row_tie rfl ⟨rfl, rfl⟩ (by kernel_rfl) rfl
    (fun f fn hf hfn => by
      obtain rfl : f = 6 := (Option.some.inj ((show Tryd.prog.funcNamed "inspeximus/inspeximuslaw16.WitnessNone" = some 6 by kernel_rfl).symm.trans hf)).symm
      obtain rfl : fn = Tryd.f6 := (Option.some.inj (Tryd.func6.symm.trans hfn)).symm
      exact ⟨by kernel_rfl, fun j t ht => by
        rw [Tryd.params6] at ht
        have hm := Array.mem_of_getElem? ht
        have hall : (#[24, 22, 3].all fun u => !Tryd.prog.wantsStandIn u) = true := by kernel_rfl
        have := Array.all_eq_true_iff_forall_mem.1 hall t hm
        exact (show Tryd.prog.wantsStandIn t = false by simpa using this)⟩)
    (by kernel_rfl)
#print axioms witnessNone_card

end Go.Proofs.YtldokkbfahobgaaDoor
