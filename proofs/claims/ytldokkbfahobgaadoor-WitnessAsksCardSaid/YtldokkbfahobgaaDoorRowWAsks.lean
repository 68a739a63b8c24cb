/- The tied card of WitnessAsks, proved: for every input the law returns true, and each argument reads behind the call as it read before. Condition: what the row says (the listed tables read as laid; the card ties that to the program's text). -/
import Derived.Test.YtldokkbfahobgaaDoorRowTwo
import Derived.Test.YtldokkbfahobgaaDoorOpenA
import Derived.Test.YtldokkbfahobgaaDoorOpenB
import Derived.Test.YtldokkbfahobgaaDoorAsksW
namespace Go.Proofs.YtldokkbfahobgaaDoor
open Go.ChangeShapes Go.WideShapes Go.ChangeAt Go.WideMaps Go.WideElems Go.RowKit

theorem wasks_any (pv wv lv : Value) (ps ws : List H) (l : List AskA) (need n : Int) (w : World) (hp : Hs w pv ps) (hw : Hs w wv ws) (hl : Asks w lv l) (hg : Glob w) :
    Calls Tryd.prog 3 #[keysV pv wv need, .int .i64 n, lv] w fun e w' => e = .returned (.bool true) ∧ Below w.heap.size w w' := by
  obtain ⟨xa, ca, rfl, _⟩ := hl.sl.form
  by_cases hc : ps.length ≤ 20 ∧ ws.length ≤ 20 ∧ l.length ≤ 30
  · obtain ⟨h1, h2, h3⟩ := hc
    cases hnew : newB ps.length ws.length need n with
    | false => exact wasks_nil pv wv xa ca l.length ps ws need n w hp hw hg h1 h2 h3 hnew
    | true =>
      unfold newB at hnew
      simp only [Bool.and_eq_true, decide_eq_true_iff] at hnew
      obtain ⟨hm, hn0, hn1⟩ := hnew
      obtain ⟨k, rfl⟩ : ∃ k : Nat, n = k := ⟨n.toNat, by omega⟩
      exact wasks_yes pv wv xa ca k ps ws l need w hp hw hl hg h3 hm (by omega)
  · exact wasks_no pv wv xa ca l.length ps ws need n w hp hw hg (fun h1 h2 h3 => hc ⟨h1, h2, h3⟩)
section
variable {T : Type} {enc : TypeId × Value → T} {w : World} {base : Nat} {held : Bool}
set_option maxRecDepth 100000 in
theorem open_asks {r : Reach} {b0 : Nat} {v : Value} {d : DataW T} {ps : List MemPlace} (hval : Value.okWide Tryd.prog w r b0 25 v) (hd : DataW.Trod enc Tryd.prog w base (fun _ => true) held 25 v d ps) : ∃ l : List AskA, Asks w v l := by
  obtain ⟨a, len, cap, rfl⟩ := okWide_slice Tryd.underlying25 hval
  obtain ⟨fuel, hf⟩ := hd
  obtain ⟨l, hl, _⟩ := trod_asks hf
  exact ⟨l, hl⟩
end
set_option maxRecDepth 100000 in
theorem witnessAsks_walk {H : Type} {enc : TypeId × Value → H} (W : World) (base : Nat) (args : Array Value) (ds : List (DataW H)) (p : List MemPlace) (hA : DataW.TrodAll enc Tryd.prog W 0 (fun _ => true) true [24, 3, 25] args.toList ds p)
    (hval : ∀ (j : Nat) t v, #[24, 3, 25][j]? = some t → args[j]? = some v → Value.okWide Tryd.prog W .any base t v) (hg : Glob W) :
    Calls Tryd.prog 3 args W fun e w' => e = .returned (.bool true) ∧ Below W.heap.size W w' := by
  obtain ⟨v0, v1, v2, d0, d1, d2, p0, p1, p2, rfl, rfl, rfl, h0, h1, h2⟩ := trodAll_three hA
  obtain ⟨pv, wv, need, ps, ws, rfl, _, hps, hws, _, _⟩ := open_keys (hval 0 24 v0 rfl rfl) h0
  obtain ⟨n, rfl⟩ := okWide_int Tryd.underlying3 (hval 1 3 v1 rfl rfl)
  obtain ⟨l, hl⟩ := open_asks (hval 2 25 v2 rfl rfl) h2
  exact wasks_any pv wv v2 ps ws l need n W hps hws hl hg

set_option maxRecDepth 100000 in
theorem witnessAsks_lifted (os : Os) (started : os.Started) (H : Type) (enc : TypeId × Value → H) :
    ReturnsInHanded {} Tryd.checked os 3 .any (fun w args => (Rows.witnessAsksSpec.pre enc Tryd.prog Tryd.f3 [] false w args ∧ laidMetH Tryd.prog laidL w) ∧ sizedMet enc Tryd.prog Tryd.f3 (OpenSpec.ofChange Rows.witnessAsksSpec) false w args)
      (Rows.witnessAsksSpec.post enc Tryd.prog Tryd.f3 false true false false) := by
  refine returnsInHanded_of_change_and (C := Tryd.checked) (X := fun w _ => laidMetH Tryd.prog laidL w) (fun _ _ _ hh h => h.of_heap hh) own started (by kernel_rfl) Tryd.func3
    (ChangeSpec.witness_shaped (enc := enc) (C := Tryd.checked) (os := os) (X := fun w _ => laidMetH Tryd.prog laidL w) false (World.doorLaid Tryd.prog 400 os) #[.agg #[.slice none 0 0, .slice none 0 0, .int .i64 0], .int .i64 0, .slice none 0 0] 8 rfl (World.shaped_of_RefB (by kernel_rfl) (by kernel_rfl)) (by kernel_rfl) (by kernel_rfl) (by kernel_rfl) (door_met os _)) ?_
  intro W base args ds gs before hval0 hW _ _ hL _
  have hval : ∀ (j : Nat) t v, Tryd.f3.params[j]? = some t → args[j]? = some v → Value.okWide Tryd.prog W .any base t v := hval0
  have hW' := hW
  obtain ⟨p, q, hA0, hV, rfl, hfz, hnd⟩ := hW
  have hA : DataW.TrodAll enc Tryd.prog W 0 (fun _ => true) true Tryd.f3.params.toList args.toList ds p := hA0
  obtain ⟨rfl, rfl⟩ := trodVars_none hV
  rw [Tryd.params3] at hA hval
  simp only [List.append_nil] at hW'
  refine (witnessAsks_walk W base args ds p hA hval (glob_of_laid hL)).mono fun e W' ⟨he, hb⟩ => ?_
  subst he
  have hlen := trodAll_len hA
  have e1 : Rows.witnessAsksSpec.fn H (ds ++ []) = { results := [.lit (.bool true)], args := ds } := by
    rw [List.append_nil]
    match ds, hlen with
    | [x0, x1, x2], _ => rfl
  refine ⟨_, rfl, _, _, _, [], p, [], hW', ?_, ?_, ?_, hb.frame _, fun h => by cases h⟩
  · rw [e1]; exact trodAll_mk1 (shut_bool Tryd.underlying4 true)
  · rw [e1]; exact trodAll_below laidOut hb (by kernel_rfl) hA (fun x hx => hW'.lt x hx)
  · rw [e1]; rfl

theorem witnessAsks_holds : Rows.WitnessAsksSaid :=
  OpenClaim.holds_of_wide 3 Tryd.f3 rfl rfl rfl rfl rfl rfl rfl ⟨rfl, rfl, rfl, rfl, rfl⟩ rfl rfl rfl rfl rfl (by kernel_rfl) Tryd.func3 (by kernel_rfl)
    (of_decide_eq_true (by kernel_rfl)) (by unfold Func.isWrapper; rw [if_neg (of_decide_eq_false (by kernel_rfl))]; exact ⟨rfl, rfl⟩)
    (fun os started H enc _ => witnessAsks_lifted os started H enc)

theorem witnessAsks_card : Rows.WitnessAsksCardSaid :=
  Claim7.holds_tied_plain_at .later [] [.data, .data] true Rows.witnessAsksCard.stood.harness Rows.witnessAsksCard.stood.looks
    witnessAsks_holds (fun _ h => by cases h) (by kernel_rfl) (fun _ h => by cases h) witnessAsks_row_tie rfl ⟨rfl, rfl⟩ (by kernel_rfl) rfl
    (fun f fn hf hfn => by
      obtain rfl : f = 3 := (Option.some.inj ((show Tryd.prog.funcNamed "inspeximus/inspeximuslaw16.WitnessAsks" = some 3 by kernel_rfl).symm.trans hf)).symm
      obtain rfl : fn = Tryd.f3 := (Option.some.inj (Tryd.func3.symm.trans hfn)).symm
      exact ⟨by kernel_rfl, fun j t ht => by
        rw [Tryd.params3] at ht
        have hm := Array.mem_of_getElem? ht
        have hall : (#[24, 3, 25].all fun u => !Tryd.prog.wantsStandIn u) = true := by kernel_rfl
        have := Array.all_eq_true_iff_forall_mem.1 hall t hm
        exact (show Tryd.prog.wantsStandIn t = false by simpa using this)⟩)
    (by kernel_rfl)
#print axioms witnessAsks_card

end Go.Proofs.YtldokkbfahobgaaDoor
