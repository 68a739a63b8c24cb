/- The tied card of ShaFills, proved: for every input the law returns true, and each argument reads behind the call as it read before. Condition: what the row says (the listed tables read as laid; the card ties that to the program's text). -/
import Derived.Test.YtjjoiefngoghpaaDoorRow0
import Derived.Test.YtjjoiefngoghpaaDoorLawFills
namespace Go.Proofs.YtjjoiefngoghpaaDoor
open Go.ChangeShapes Go.WideShapes Go.ChangeAt Go.WideMaps Go.WideElems Go.RowKit

set_option maxRecDepth 100000 in
theorem shaFills_lifted (os : Os) (started : os.Started) (H : Type) (enc : TypeId × Value → H) :
    ReturnsInHanded {} Tryd.checked os 6 .any (fun w args => (Rows.shaFillsSpec.pre enc Tryd.prog Tryd.f6 [] false w args ∧ laidMetH Tryd.prog laidL w) ∧ sizedMet enc Tryd.prog Tryd.f6 (OpenSpec.ofChange Rows.shaFillsSpec) false w args)
      (Rows.shaFillsSpec.post enc Tryd.prog Tryd.f6 false true false false) := by
  refine returnsInHanded_of_change_and (C := Tryd.checked) (X := fun w _ => laidMetH Tryd.prog laidL w) (fun _ _ _ hh h => h.of_heap hh) own started (by kernel_rfl) Tryd.func6
    (ChangeSpec.witness_shaped (enc := enc) (C := Tryd.checked) (os := os) (X := fun w _ => laidMetH Tryd.prog laidL w) false (World.doorLaid Tryd.prog 400 os) #[.int .i64 0] 8 rfl (World.shaped_of_RefB (by kernel_rfl) (by kernel_rfl)) (by kernel_rfl) (by kernel_rfl) (by kernel_rfl) (door_met os _)) ?_
  intro W base args ds gs before hval0 hW _ _ hL _
  have hval : ∀ (j : Nat) t v, Tryd.f6.params[j]? = some t → args[j]? = some v → Value.okWide Tryd.prog W .any base t v := hval0
  have hW' := hW
  obtain ⟨p, q, hA0, hV, rfl, hfz, hnd⟩ := hW
  have hA : DataW.TrodAll enc Tryd.prog W 0 (fun _ => true) true Tryd.f6.params.toList args.toList ds p := hA0
  rw [Tryd.params6] at hA hval
  obtain ⟨v0, d0, rfl, rfl, h0⟩ := trodAll_one hA
  obtain ⟨rfl, rfl⟩ := trodVars_none hV
  obtain ⟨n, rfl, rfl, rfl, wn⟩ := open_int Tryd.underlying3 (hval 0 3 v0 rfl rfl) h0
  have hg := glob_of_laid hL
  clear hA0 hval0
  simp only [List.append_nil] at hW'
  have e1 : Rows.shaFillsSpec.fn H ([.lit (.int .i64 n)] ++ []) = { results := [.lit (.bool true)], args := [.lit (.int .i64 n)] } := by simp [Rows.shaFillsSpec]
  have fin : ∀ W', Below W.heap.size W W' → ∃ v, (Ending.returned (Value.bool true) = .returned v ∧ Rows.shaFillsSpec.post enc Tryd.prog Tryd.f6 false true false false W #[.int .i64 n] v W') := by
    intro W' hb
    refine ⟨_, rfl, ?_⟩
    refine ⟨_, _, _, [], [], [], hW', ?_, ?_, ?_, hb.frame _, fun h => by cases h⟩
    · rw [e1]; exact trodAll_mk1 (shut_bool Tryd.underlying4 true)
    · rw [e1]; exact trodAll_mk1 (shut_int Tryd.underlying3 wn)
    · rw [e1]; rfl
  by_cases hc : n < 0 ∨ 1000000 < n
  · refine (fills_out n W hg hc).mono fun e W' ⟨he, hb⟩ => ?_
    subst he
    exact fin W' hb
  · obtain ⟨m, rfl⟩ := Int.eq_ofNat_of_zero_le (show 0 ≤ n by omega)
    refine (fills_in m W hg (by omega)).mono fun e W' ⟨he, hb⟩ => ?_
    subst he
    exact fin W' hb

theorem shaFills_holds : Rows.ShaFillsSaid :=
  OpenClaim.holds_of_wide 6 Tryd.f6 rfl rfl rfl rfl rfl rfl rfl ⟨rfl, rfl, rfl, rfl, rfl⟩ rfl rfl rfl rfl rfl (by kernel_rfl) Tryd.func6 (by kernel_rfl)
    (of_decide_eq_true (by kernel_rfl)) (by unfold Func.isWrapper; rw [if_neg (of_decide_eq_false (by kernel_rfl))]; exact ⟨rfl, rfl⟩)
    (fun os started H enc _ => shaFills_lifted os started H enc)

theorem shaFills_card : Rows.ShaFillsCardSaid :=
  Claim7.holds_tied_plain_at .later [] [.data, .data, .data] true Rows.shaFillsCard.stood.harness false
    shaFills_holds (fun _ h => by cases h) (by kernel_rfl) (fun _ h => by cases h) shaFills_row_tie rfl ⟨rfl, rfl⟩ (by kernel_rfl) rfl
    (fun f fn hf hfn => by
      obtain rfl : f = 6 := (Option.some.inj ((show Tryd.prog.funcNamed "inspeximus/inspeximuslaw01.ShaFills" = some 6 by kernel_rfl).symm.trans hf)).symm
      obtain rfl : fn = Tryd.f6 := (Option.some.inj (Tryd.func6.symm.trans hfn)).symm
      exact ⟨by kernel_rfl, fun j t ht => by
        rw [Tryd.params6] at ht
        have hm := Array.mem_of_getElem? ht
        have hall : (#[3].all fun u => !Tryd.prog.wantsStandIn u) = true := by kernel_rfl
        have := Array.all_eq_true_iff_forall_mem.1 hall t hm
        exact (show Tryd.prog.wantsStandIn t = false by simpa using this)⟩)
    (by kernel_rfl)
#print axioms shaFills_card
end Go.Proofs.YtjjoiefngoghpaaDoor
