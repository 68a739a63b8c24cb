/- The tied card of WitnessCollects, proved: for every input the law returns true, and each argument reads behind the call as it read before. Condition: what the row says (the listed tables read as laid; the card ties that to the program's text). -/
import Derived.Test.YtldokkbfahobgaaDoorRowTwo
import Derived.Test.YtldokkbfahobgaaDoorOpenA
import Derived.Test.YtldokkbfahobgaaDoorOpenB
import Derived.Test.YtldokkbfahobgaaDoorCollectsW
namespace Go.Proofs.YtldokkbfahobgaaDoor
open Go.ChangeShapes Go.WideShapes Go.ChangeAt Go.WideMaps Go.WideElems Go.RowKit

theorem wcoll_any (pv wv hsv szv mkv : Value) (ps ws h : List H) (need : Int) (sl ml : List UInt8) (w : World) (hp : Hs w pv ps) (hw : Hs w wv ws) (hh : Hs w hsv h) (hg : Glob w) (hsz : Bytes w szv sl) (hmk : Bytes w mkv ml) :
    Calls Tryd.prog 4 #[keysV pv wv need, hsv, szv, mkv] w fun e w' => e = .returned (.bool true) ∧ Below w.heap.size w w' := by
  obtain ⟨xs, cs, rfl, _⟩ := hsz.form
  obtain ⟨xm, cm, rfl, _⟩ := hmk.form
  by_cases hc : h.length ≤ 60 ∧ sl.length ≤ 12 ∧ mayB ps.length ws.length need = true
  · exact wcoll_yes pv wv hsv ps ws h need xs xm cs cm sl ml w hp hw hh hg hsz hmk hc.1 hc.2.1 hc.2.2
  · exact wcoll_no pv wv hsv ps ws h need xs xm sl.length cs ml.length cm w hp hw hh hg (fun _ _ h3 h4 hm => hc ⟨h3, h4, hm⟩)
set_option maxRecDepth 100000 in
theorem witnessCollects_walk {H : Type} {enc : TypeId × Value → H} (W : World) (base : Nat) (args : Array Value) (ds : List (DataW H)) (p : List MemPlace) (hA : DataW.TrodAll enc Tryd.prog W 0 (fun _ => true) true [24, 22, 48, 48] args.toList ds p)
    (hval : ∀ (j : Nat) t v, #[24, 22, 48, 48][j]? = some t → args[j]? = some v → Value.okWide Tryd.prog W .any base t v) (hg : Glob W) :
    Calls Tryd.prog 4 args W fun e w' => e = .returned (.bool true) ∧ Below W.heap.size W w' := by
  obtain ⟨v0, v1, v2, v3, d0, d1, d2, d3, p0, p1, p2, p3, rfl, rfl, rfl, h0, h1, h2, h3⟩ := trodAll_four hA
  obtain ⟨pv, wv, need, ps, ws, rfl, _, hps, hws, _, _⟩ := open_keys (hval 0 24 v0 rfl rfl) h0
  obtain ⟨l, hl, _⟩ := open_hashes Tryd.underlying22 Tryd.underlying31 Tryd.underlying5 (by kernel_rfl) (by kernel_rfl) (hval 1 22 v1 rfl rfl) h1
  obtain ⟨sl, hsl, _⟩ := open_bytes Tryd.underlying48 Tryd.underlying5 (by kernel_rfl) (hval 2 48 v2 rfl rfl) h2
  obtain ⟨ml, hml, _⟩ := open_bytes Tryd.underlying48 Tryd.underlying5 (by kernel_rfl) (hval 3 48 v3 rfl rfl) h3
  exact wcoll_any pv wv v1 v2 v3 ps ws l need sl ml W hps hws hl hg hsl hml

set_option maxRecDepth 100000 in
theorem witnessCollects_lifted (os : Os) (started : os.Started) (H : Type) (enc : TypeId × Value → H) :
    ReturnsInHanded {} Tryd.checked os 4 .any (fun w args => (Rows.witnessCollectsSpec.pre enc Tryd.prog Tryd.f4 [] false w args ∧ laidMetH Tryd.prog laidL w) ∧ sizedMet enc Tryd.prog Tryd.f4 (OpenSpec.ofChange Rows.witnessCollectsSpec) false w args)
      (Rows.witnessCollectsSpec.post enc Tryd.prog Tryd.f4 false true false false) := by
  refine returnsInHanded_of_change_and (C := Tryd.checked) (X := fun w _ => laidMetH Tryd.prog laidL w) (fun _ _ _ hh h => h.of_heap hh) own started (by kernel_rfl) Tryd.func4
    (ChangeSpec.witness_shaped (enc := enc) (C := Tryd.checked) (os := os) (X := fun w _ => laidMetH Tryd.prog laidL w) false (World.doorLaid Tryd.prog 400 os) #[.agg #[.slice none 0 0, .slice none 0 0, .int .i64 0], .slice none 0 0, .slice none 0 0, .slice none 0 0] 8 rfl (World.shaped_of_RefB (by kernel_rfl) (by kernel_rfl)) (by kernel_rfl) (by kernel_rfl) (by kernel_rfl) (door_met os _)) ?_
  intro W base args ds gs before hval0 hW _ _ hL _
  have hval : ∀ (j : Nat) t v, Tryd.f4.params[j]? = some t → args[j]? = some v → Value.okWide Tryd.prog W .any base t v := hval0
  have hW' := hW
  obtain ⟨p, q, hA0, hV, rfl, hfz, hnd⟩ := hW
  have hA : DataW.TrodAll enc Tryd.prog W 0 (fun _ => true) true Tryd.f4.params.toList args.toList ds p := hA0
  obtain ⟨rfl, rfl⟩ := trodVars_none hV
  rw [Tryd.params4] at hA hval
  simp only [List.append_nil] at hW'
  refine (witnessCollects_walk W base args ds p hA hval (glob_of_laid hL)).mono fun e W' ⟨he, hb⟩ => ?_
  subst he
  have hlen := trodAll_len hA
  have e1 : Rows.witnessCollectsSpec.fn H (ds ++ []) = { results := [.lit (.bool true)], args := ds } := by
    rw [List.append_nil]
    match ds, hlen with
    | [x0, x1, x2, x3], _ => rfl
  refine ⟨_, rfl, _, _, _, [], p, [], hW', ?_, ?_, ?_, hb.frame _, fun h => by cases h⟩
  · rw [e1]; exact trodAll_mk1 (shut_bool Tryd.underlying4 true)
  · rw [e1]; exact trodAll_below laidOut hb (by kernel_rfl) hA (fun x hx => hW'.lt x hx)
  · rw [e1]; rfl

theorem witnessCollects_holds : Rows.WitnessCollectsSaid :=
  OpenClaim.holds_of_wide 4 Tryd.f4 rfl rfl rfl rfl rfl rfl rfl ⟨rfl, rfl, rfl, rfl, rfl⟩ rfl rfl rfl rfl rfl (by kernel_rfl) Tryd.func4 (by kernel_rfl)
    (of_decide_eq_true (by kernel_rfl)) (by unfold Func.isWrapper; rw [if_neg (of_decide_eq_false (by kernel_rfl))]; exact ⟨rfl, rfl⟩)
    (fun os started H enc _ => witnessCollects_lifted os started H enc)

theorem witnessCollects_card : Rows.WitnessCollectsCardSaid :=
  Claim7.holds_tied_plain_at .later [] [.data, .data] true Rows.witnessCollectsCard.stood.harness Rows.witnessCollectsCard.stood.looks
    witnessCollects_holds (fun _ h => by cases h) (by kernel_rfl) (fun _ h => by cases h) witnessCollects_row_tie rfl ⟨rfl, rfl⟩ (by kernel_rfl) rfl
    (fun f fn hf hfn => by
      obtain rfl : f = 4 := (Option.some.inj ((show Tryd.prog.funcNamed "inspeximus/inspeximuslaw16.WitnessCollects" = some 4 by kernel_rfl).symm.trans hf)).symm
      obtain rfl : fn = Tryd.f4 := (Option.some.inj (Tryd.func4.symm.trans hfn)).symm
      exact ⟨by kernel_rfl, fun j t ht => by
        rw [Tryd.params4] at ht
        have hm := Array.mem_of_getElem? ht
        have hall : (#[24, 22, 48, 48].all fun u => !Tryd.prog.wantsStandIn u) = true := by kernel_rfl
        have := Array.all_eq_true_iff_forall_mem.1 hall t hm
        exact (show Tryd.prog.wantsStandIn t = false by simpa using this)⟩)
    (by kernel_rfl)
#print axioms witnessCollects_card

end Go.Proofs.YtldokkbfahobgaaDoor
