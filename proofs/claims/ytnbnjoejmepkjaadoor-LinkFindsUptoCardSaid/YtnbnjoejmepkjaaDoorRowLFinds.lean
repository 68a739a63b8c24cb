/- The tied upto card of LinkFinds, proved: for every input of bulk at most 2^20 the law returns true, and each argument reads behind the call as it read before. Condition: what the row says (the bulk; the listed tables read as laid; the card ties that to the program's text). -/
import Derived.Test.YtnbnjoejmepkjaaDoorRowTwo
import Derived.Test.YtnbnjoejmepkjaaDoorOpenV
import Derived.Test.YtnbnjoejmepkjaaDoorLawLFinds
import Derived.Deep.DeepHandedRow
import Derived.Deep.DeepWitnessRowRef
namespace Go.Proofs.YtnbnjoejmepkjaaDoor
open Go.ChangeShapes Go.WideShapes Go.ChangeAt Go.WideMaps Go.WideElems Go.RowKit

theorem linkFinds_walk {H : Type} {enc : TypeId × Value → H} (W : World) (base : Nat) (args : Array Value) (ds : List (DataW H)) (p : List MemPlace) (hA : DataW.TrodAll enc Tryd.prog W 0 (fun _ => true) true [22, 22, 23] args.toList ds p)
    (hval : ∀ (j : Nat) t v, #[22, 22, 23][j]? = some t → args[j]? = some v → Value.okWide Tryd.prog W .any base t v) (hk : Rows.uptoBulkAll ds ≤ 1048576) (hg : Glob W) :
    Calls Tryd.prog 3 args W fun e w' => e = .returned (.bool true) ∧ Below W.heap.size W w' := by
  obtain ⟨v0, v1, v2, d0, d1, d2, p0, p1, p2, rfl, rfl, rfl, h0, h1, h2⟩ := trodAll_three hA
  have k0 : Rows.uptoBulk d0 ≤ 1048576 := Nat.le_trans (bulk_part (List.mem_cons_self)) hk
  have k1 : Rows.uptoBulk d1 ≤ 1048576 := Nat.le_trans (bulk_part (List.mem_cons_of_mem _ List.mem_cons_self)) hk
  have k2 : Rows.uptoBulk d2 ≤ 1048576 := Nat.le_trans (bulk_part (List.mem_cons_of_mem _ (List.mem_cons_of_mem _ List.mem_cons_self))) hk
  obtain ⟨a, x0, hp0, hn0, hm0⟩ := open_parts_u Tryd.underlying22 Tryd.underlying26 Tryd.underlying5 (by kernel_rfl) (by kernel_rfl) (hval 0 22 v0 rfl rfl) h0 k0
  obtain ⟨b, x1, hp1, hn1, hm1⟩ := open_parts_u Tryd.underlying22 Tryd.underlying26 Tryd.underlying5 (by kernel_rfl) (by kernel_rfl) (hval 1 22 v1 rfl rfl) h1 k1
  obtain ⟨P, hp2, hn2⟩ := open_hashes_u Tryd.underlying23 Tryd.underlying32 Tryd.underlying5 (by kernel_rfl) (by kernel_rfl) (hval 2 23 v2 rfl rfl) h2 k2
  exact lfinds_any v0 v1 v2 a b x0 x1 P W hp0 hp1 hp2 hn0 hm0 hn1 hm1 hn2 hg

theorem linkFinds_contract (H : Type) (enc : TypeId × Value → H) (W : World) (base : Nat) (args : Array Value) (ds gs : List (DataW H)) (before : List MemPlace)
    (hval0 : ∀ (j : Nat) t v, Tryd.f3.params[j]? = some t → args[j]? = some v → Value.okWide Tryd.prog W .any base t v)
    (hW : DataW.Whole enc Tryd.prog Tryd.f3.params.toList Rows.linkFindsSpec.vars false W args.toList ds gs before) (hK : Rows.uptoBulkAll (ds ++ gs) ≤ 1048576) (hL : laidMetH Tryd.prog laidL W) :
    Calls Tryd.prog 3 args W fun e W' => ∃ v, e = .returned v ∧ Rows.linkFindsSpec.post enc Tryd.prog Tryd.f3 false true false false W args v W' := by
  have hval : ∀ (j : Nat) t v, Tryd.f3.params[j]? = some t → args[j]? = some v → Value.okWide Tryd.prog W .any base t v := hval0
  have hW' := hW
  obtain ⟨p, q, hA0, hV, rfl, hfz, hnd⟩ := hW
  have hA : DataW.TrodAll enc Tryd.prog W 0 (fun _ => true) true Tryd.f3.params.toList args.toList ds p := hA0
  obtain ⟨rfl, rfl⟩ := trodVars_none hV
  rw [Tryd.params3] at hA hval
  simp only [List.append_nil] at hW'
  refine (linkFinds_walk W base args ds p hA hval (by rw [List.append_nil] at hK; exact hK) (glob_of_laid hL)).mono fun e W' ⟨he, hb⟩ => ?_
  subst he
  have hlen := trodAll_len hA
  have e1 : Rows.linkFindsSpec.fn H (ds ++ []) = { results := [.lit (.bool true)], args := ds } := by
    rw [List.append_nil]
    match ds, hlen with
    | [x0, x1, x2], _ => rfl
  refine ⟨_, rfl, _, _, _, [], p, [], hW', ?_, ?_, ?_, hb.frame _, fun h => by cases h⟩
  · rw [e1]; exact trodAll_mk1 (shut_bool Tryd.underlying4 true)
  · rw [e1]; exact trodAll_below laidOut hb (by kernel_rfl) hA (fun x hx => hW'.lt x hx)
  · rw [e1]; rfl

set_option maxRecDepth 100000 in
theorem linkFinds_lifted (os : Os) (started : os.Started) (H : Type) (enc : TypeId × Value → H) (F : Stop.Interp) :
    ReturnsInHanded {} Tryd.checked os 3 .any ((Rows.OpenSpec.upto Rows.linkFindsSpec).preRow enc Tryd.prog Tryd.f3 Rows.linkFindsUptoRow.domain false Rows.linkFindsUptoRow.laid) (((Rows.OpenSpec.upto Rows.linkFindsSpec).at F).post enc Tryd.prog Tryd.f3 false true false false) := by
  have hm : (DataW.whole enc Tryd.prog ((World.doorLaid Tryd.prog 400 os).forCall (fun _ _ => 0) ⟨#[], #[.slice none 0 0, .slice none 0 0, .slice none 0 0], []⟩).memory Tryd.f3.params.toList Rows.linkFindsSpec.vars false (#[.slice none 0 0, .slice none 0 0, .slice none 0 0] : Array Value).toList 8).map (fun x => Rows.uptoSmall H (x.1 ++ x.2.1)) = some true := by kernel_rfl
  obtain ⟨x, hx, hk⟩ := Option.map_eq_some_iff.1 hm
  refine returnsInHanded_of_row (C := Tryd.checked) (s := Rows.OpenSpec.upto Rows.linkFindsSpec) own started (by kernel_rfl) Tryd.func3
    (witness_row_atRef (enc := enc) (C := Tryd.checked) false (World.doorLaid Tryd.prog 400 os) #[.slice none 0 0, .slice none 0 0, .slice none 0 0] rfl (by kernel_rfl) (by kernel_rfl) (by kernel_rfl)
      (OpenSpec.preRow_of_cond 8 hx rfl (fun k hk' => by cases hk'; exact hk) (by kernel_rfl) (door_met os _))) ?_
  intro W base args ds gs before hval hW _ hcond _ hL _ _
  exact linkFinds_contract H enc W base args ds gs before hval hW (of_decide_eq_true (hcond _ rfl)) hL

theorem linkFinds_holds : Rows.LinkFindsUptoSaid :=
  OpenClaim.holds_of_cond 3 Tryd.f3 rfl rfl rfl rfl rfl rfl rfl ⟨rfl, rfl, rfl, rfl, rfl⟩ rfl rfl rfl rfl rfl (by kernel_rfl) Tryd.func3 (by kernel_rfl)
    (of_decide_eq_true (by kernel_rfl)) (by unfold Func.isWrapper; rw [if_neg (of_decide_eq_false (by kernel_rfl))]; exact ⟨rfl, rfl⟩)
    (fun os started H enc _ F => by rw [OpenClaim.pre_eq_preRow]; exact linkFinds_lifted os started H enc F)

theorem linkFinds_card : Rows.LinkFindsUptoCardSaid :=
  Claim7.holds_tied_plain_at .later [] [.data, .data] true Rows.linkFindsUptoCard.stood.harness Rows.linkFindsUptoCard.stood.looks
    linkFinds_holds (fun _ h => by cases h) (by kernel_rfl) (fun _ h => by cases h) linkFindsUpto_row_tie rfl ⟨rfl, rfl⟩ (by kernel_rfl) rfl
    (fun f fn hf hfn => by
      obtain rfl : f = 3 := (Option.some.inj ((show Tryd.prog.funcNamed "inspeximus/inspeximuslaw20.LinkFinds" = some 3 by kernel_rfl).symm.trans hf)).symm
      obtain rfl : fn = Tryd.f3 := (Option.some.inj (Tryd.func3.symm.trans hfn)).symm
      exact ⟨by kernel_rfl, fun j t ht => by
        rw [Tryd.params3] at ht
        have hm := Array.mem_of_getElem? ht
        have hall : (#[22, 22, 23].all fun u => !Tryd.prog.wantsStandIn u) = true := by kernel_rfl
        have := Array.all_eq_true_iff_forall_mem.1 hall t hm
        exact (show Tryd.prog.wantsStandIn t = false by simpa using this)⟩)
    (by kernel_rfl)
#print axioms linkFinds_card

end Go.Proofs.YtnbnjoejmepkjaaDoor
