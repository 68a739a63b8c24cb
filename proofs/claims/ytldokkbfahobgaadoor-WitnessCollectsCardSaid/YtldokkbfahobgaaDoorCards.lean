/-
  DERIVED. GIVEN WITH THE SEED: THE CARDS: each row of YtldokkbfahobgaaDoorRows.lean that lists a variable, with what it lists TIED to the program's text (the seventh form; the later family's looks); each row that meets fmt, with fmt's text TOLD by the authors' own Lean function (tested against real Go, not proved from fmt's source: count such statements apart). THE CARD IS WHAT COUNTS. Prove the row's statement (the work); the ties are given (YtldokkbfahobgaaDoorTie.lean); close each card by the builder's one call (the guide's Derived/Test/ToyasCard.lean, 'card_holds'). Laid BY PROGRAM, IN A SANDBOX (cutbox-door.mjs). By AI agents, Wed Nov 11 2026. No macro, syntax, notation, axiom, sorry.
-/
import Derived.Test.YtldokkbfahobgaaDoorRows
import GoSem.ClaimSeven
namespace Go.Proofs.YtldokkbfahobgaaDoor
namespace Rows

/-- THE TIED CARD OF 'inspeximuslaw16.WitnessAsks'. -/
def witnessAsksCard : Claim7 := { stood := { row := witnessAsksRow, standIns := [], harness := (true, "7a97057fdb90d9f18de4e9efba8016df133da82a49f766f2303b9408a1bc1df5"), looks := true }, kinds := [], alts := [], laidByText := true, laidKinds := [.data, .data], laidTests := true, laidLooks := .later }
def WitnessAsksCardSaid : Prop := Claim7.holds Tryd.pinned (.plain (OpenSpec.ofChange witnessAsksSpec)) witnessAsksCard

/-- THE TIED CARD OF 'inspeximuslaw16.WitnessCollects'. -/
def witnessCollectsCard : Claim7 := { stood := { row := witnessCollectsRow, standIns := [], harness := (true, "7a97057fdb90d9f18de4e9efba8016df133da82a49f766f2303b9408a1bc1df5"), looks := true }, kinds := [], alts := [], laidByText := true, laidKinds := [.data, .data], laidTests := true, laidLooks := .later }
def WitnessCollectsCardSaid : Prop := Claim7.holds Tryd.pinned (.plain (OpenSpec.ofChange witnessCollectsSpec)) witnessCollectsCard

/-- THE TIED CARD OF 'inspeximuslaw16.WitnessGrows'. -/
def witnessGrowsCard : Claim7 := { stood := { row := witnessGrowsRow, standIns := [], harness := (true, "7a97057fdb90d9f18de4e9efba8016df133da82a49f766f2303b9408a1bc1df5"), looks := true }, kinds := [], alts := [], laidByText := true, laidKinds := [.data, .data], laidTests := true, laidLooks := .later }
def WitnessGrowsCardSaid : Prop := Claim7.holds Tryd.pinned (.plain (OpenSpec.ofChange witnessGrowsSpec)) witnessGrowsCard

/-- THE TIED CARD OF 'inspeximuslaw16.WitnessNone'. -/
def witnessNoneCard : Claim7 := { stood := { row := witnessNoneRow, standIns := [], harness := (true, "7a97057fdb90d9f18de4e9efba8016df133da82a49f766f2303b9408a1bc1df5"), looks := true }, kinds := [], alts := [], laidByText := true, laidKinds := [.data, .data], laidTests := true, laidLooks := .later }
def WitnessNoneCardSaid : Prop := Claim7.holds Tryd.pinned (.plain (OpenSpec.ofChange witnessNoneSpec)) witnessNoneCard

/-- THE TIED CARD OF 'inspeximuslaw16.WitnessBoth'. -/
def witnessBothCard : Claim7 := { stood := { row := witnessBothRow, standIns := [], harness := (true, "7a97057fdb90d9f18de4e9efba8016df133da82a49f766f2303b9408a1bc1df5"), looks := true }, kinds := [], alts := [], laidByText := true, laidKinds := [.data, .data], laidTests := true, laidLooks := .later }
def WitnessBothCardSaid : Prop := Claim7.holds Tryd.pinned (.plain (OpenSpec.ofChange witnessBothSpec)) witnessBothCard

/-- THE SECOND FORM's CARD OF 'inspeximuslaw16.WitnessAsks'. -/
def witnessAsksUptoCard : Claim7 := { stood := { row := witnessAsksUptoRow, standIns := [], harness := (true, "7a97057fdb90d9f18de4e9efba8016df133da82a49f766f2303b9408a1bc1df5"), looks := true }, kinds := [], alts := [], laidByText := true, laidKinds := [.data, .data], laidTests := true, laidLooks := .later }
def WitnessAsksUptoCardSaid : Prop := Claim7.holds Tryd.pinned (.plain (OpenSpec.upto witnessAsksSpec)) witnessAsksUptoCard

/-- THE SECOND FORM's CARD OF 'inspeximuslaw16.WitnessCollects'. -/
def witnessCollectsUptoCard : Claim7 := { stood := { row := witnessCollectsUptoRow, standIns := [], harness := (true, "7a97057fdb90d9f18de4e9efba8016df133da82a49f766f2303b9408a1bc1df5"), looks := true }, kinds := [], alts := [], laidByText := true, laidKinds := [.data, .data], laidTests := true, laidLooks := .later }
def WitnessCollectsUptoCardSaid : Prop := Claim7.holds Tryd.pinned (.plain (OpenSpec.upto witnessCollectsSpec)) witnessCollectsUptoCard

/-- THE SECOND FORM's CARD OF 'inspeximuslaw16.WitnessGrows'. -/
def witnessGrowsUptoCard : Claim7 := { stood := { row := witnessGrowsUptoRow, standIns := [], harness := (true, "7a97057fdb90d9f18de4e9efba8016df133da82a49f766f2303b9408a1bc1df5"), looks := true }, kinds := [], alts := [], laidByText := true, laidKinds := [.data, .data], laidTests := true, laidLooks := .later }
def WitnessGrowsUptoCardSaid : Prop := Claim7.holds Tryd.pinned (.plain (OpenSpec.upto witnessGrowsSpec)) witnessGrowsUptoCard

/-- THE SECOND FORM's CARD OF 'inspeximuslaw16.WitnessNone'. -/
def witnessNoneUptoCard : Claim7 := { stood := { row := witnessNoneUptoRow, standIns := [], harness := (true, "7a97057fdb90d9f18de4e9efba8016df133da82a49f766f2303b9408a1bc1df5"), looks := true }, kinds := [], alts := [], laidByText := true, laidKinds := [.data, .data], laidTests := true, laidLooks := .later }
def WitnessNoneUptoCardSaid : Prop := Claim7.holds Tryd.pinned (.plain (OpenSpec.upto witnessNoneSpec)) witnessNoneUptoCard

/-- THE SECOND FORM's CARD OF 'inspeximuslaw16.WitnessBoth'. -/
def witnessBothUptoCard : Claim7 := { stood := { row := witnessBothUptoRow, standIns := [], harness := (true, "7a97057fdb90d9f18de4e9efba8016df133da82a49f766f2303b9408a1bc1df5"), looks := true }, kinds := [], alts := [], laidByText := true, laidKinds := [.data, .data], laidTests := true, laidLooks := .later }
def WitnessBothUptoCardSaid : Prop := Claim7.holds Tryd.pinned (.plain (OpenSpec.upto witnessBothSpec)) witnessBothUptoCard
end Rows
end Go.Proofs.YtldokkbfahobgaaDoor
