/-
  DERIVED. GIVEN WITH THE SEED: THE CARDS: each row of YthgkaegkkkghhaaDoorRows.lean that lists a variable, with what it lists TIED to the program's text (the seventh form; the later family's looks); each row that meets fmt, with fmt's text TOLD by the authors' own Lean function (tested against real Go, not proved from fmt's source: count such statements apart). THE CARD IS WHAT COUNTS. Prove the row's statement (the work); the ties are given (YthgkaegkkkghhaaDoorTie.lean); close each card by the builder's one call (the guide's Derived/Test/ToyasCard.lean, 'card_holds'). Laid BY PROGRAM, IN A SANDBOX (cutbox-door.mjs). By AI agents, Wed Nov 11 2026. No macro, syntax, notation, axiom, sorry.
-/
import Derived.Test.YthgkaegkkkghhaaDoorRows
import GoSem.ClaimSeven
namespace Go.Proofs.YthgkaegkkkghhaaDoor
namespace Rows

/-- THE TIED CARD OF 'inspeximuslaw07.ClashLists'. -/
def clashListsCard : Claim7 := { stood := { row := clashListsRow, standIns := [], harness := (true, "f5d2e908fe6aff1a1cc9afbb584e82ea060a60f0e3351aee38f1c9cca875abf4"), looks := true }, kinds := [], alts := [], laidByText := true, laidKinds := [.data, .data, .data], laidTests := true, laidLooks := .later }
def ClashListsCardSaid : Prop := Claim7.holds Tryd.pinned (.plain (OpenSpec.ofChange clashListsSpec)) clashListsCard

/-- THE TIED CARD OF 'inspeximuslaw07.ClashPaths'. -/
def clashPathsCard : Claim7 := { stood := { row := clashPathsRow, standIns := [], harness := (true, "f5d2e908fe6aff1a1cc9afbb584e82ea060a60f0e3351aee38f1c9cca875abf4"), looks := true }, kinds := [], alts := [], laidByText := true, laidKinds := [.data, .data, .data], laidTests := true, laidLooks := .later }
def ClashPathsCardSaid : Prop := Claim7.holds Tryd.pinned (.plain (OpenSpec.ofChange clashPathsSpec)) clashPathsCard

/-- THE TIED CARD OF 'inspeximuslaw07.ClashIs'. -/
def clashIsCard : Claim7 := { stood := { row := clashIsRow, standIns := [], harness := (true, "f5d2e908fe6aff1a1cc9afbb584e82ea060a60f0e3351aee38f1c9cca875abf4"), looks := true }, kinds := [], alts := [], laidByText := true, laidKinds := [.data, .data, .data], laidTests := true, laidLooks := .later }
def ClashIsCardSaid : Prop := Claim7.holds Tryd.pinned (.plain (OpenSpec.ofChange clashIsSpec)) clashIsCard

/-- THE TIED CARD OF 'inspeximuslaw07.ClashLeaves'. -/
def clashLeavesCard : Claim7 := { stood := { row := clashLeavesRow, standIns := [], harness := (true, "f5d2e908fe6aff1a1cc9afbb584e82ea060a60f0e3351aee38f1c9cca875abf4"), looks := true }, kinds := [], alts := [], laidByText := true, laidKinds := [.data, .data, .data], laidTests := true, laidLooks := .later }
def ClashLeavesCardSaid : Prop := Claim7.holds Tryd.pinned (.plain (OpenSpec.ofChange clashLeavesSpec)) clashLeavesCard

/-- THE TIED CARD OF 'inspeximuslaw07.ClashNone'. -/
def clashNoneCard : Claim7 := { stood := { row := clashNoneRow, standIns := [], harness := (true, "f5d2e908fe6aff1a1cc9afbb584e82ea060a60f0e3351aee38f1c9cca875abf4"), looks := true }, kinds := [], alts := [], laidByText := true, laidKinds := [.data, .data, .data], laidTests := true, laidLooks := .later }
def ClashNoneCardSaid : Prop := Claim7.holds Tryd.pinned (.plain (OpenSpec.ofChange clashNoneSpec)) clashNoneCard

/-- THE TIED CARD OF 'inspeximuslaw07.ClashLong'. -/
def clashLongCard : Claim7 := { stood := { row := clashLongRow, standIns := [], harness := (true, "f5d2e908fe6aff1a1cc9afbb584e82ea060a60f0e3351aee38f1c9cca875abf4"), looks := true }, kinds := [], alts := [], laidByText := true, laidKinds := [.data, .data, .data], laidTests := true, laidLooks := .later }
def ClashLongCardSaid : Prop := Claim7.holds Tryd.pinned (.plain (OpenSpec.ofChange clashLongSpec)) clashLongCard

/-- THE SECOND FORM's CARD OF 'inspeximuslaw07.ClashLists'. -/
def clashListsUptoCard : Claim7 := { stood := { row := clashListsUptoRow, standIns := [], harness := (true, "f5d2e908fe6aff1a1cc9afbb584e82ea060a60f0e3351aee38f1c9cca875abf4"), looks := true }, kinds := [], alts := [], laidByText := true, laidKinds := [.data, .data, .data], laidTests := true, laidLooks := .later }
def ClashListsUptoCardSaid : Prop := Claim7.holds Tryd.pinned (.plain (OpenSpec.upto clashListsSpec)) clashListsUptoCard

/-- THE SECOND FORM's CARD OF 'inspeximuslaw07.ClashPaths'. -/
def clashPathsUptoCard : Claim7 := { stood := { row := clashPathsUptoRow, standIns := [], harness := (true, "f5d2e908fe6aff1a1cc9afbb584e82ea060a60f0e3351aee38f1c9cca875abf4"), looks := true }, kinds := [], alts := [], laidByText := true, laidKinds := [.data, .data, .data], laidTests := true, laidLooks := .later }
def ClashPathsUptoCardSaid : Prop := Claim7.holds Tryd.pinned (.plain (OpenSpec.upto clashPathsSpec)) clashPathsUptoCard

/-- THE SECOND FORM's CARD OF 'inspeximuslaw07.ClashIs'. -/
def clashIsUptoCard : Claim7 := { stood := { row := clashIsUptoRow, standIns := [], harness := (true, "f5d2e908fe6aff1a1cc9afbb584e82ea060a60f0e3351aee38f1c9cca875abf4"), looks := true }, kinds := [], alts := [], laidByText := true, laidKinds := [.data, .data, .data], laidTests := true, laidLooks := .later }
def ClashIsUptoCardSaid : Prop := Claim7.holds Tryd.pinned (.plain (OpenSpec.upto clashIsSpec)) clashIsUptoCard

/-- THE SECOND FORM's CARD OF 'inspeximuslaw07.ClashLeaves'. -/
def clashLeavesUptoCard : Claim7 := { stood := { row := clashLeavesUptoRow, standIns := [], harness := (true, "f5d2e908fe6aff1a1cc9afbb584e82ea060a60f0e3351aee38f1c9cca875abf4"), looks := true }, kinds := [], alts := [], laidByText := true, laidKinds := [.data, .data, .data], laidTests := true, laidLooks := .later }
def ClashLeavesUptoCardSaid : Prop := Claim7.holds Tryd.pinned (.plain (OpenSpec.upto clashLeavesSpec)) clashLeavesUptoCard

/-- THE SECOND FORM's CARD OF 'inspeximuslaw07.ClashNone'. -/
def clashNoneUptoCard : Claim7 := { stood := { row := clashNoneUptoRow, standIns := [], harness := (true, "f5d2e908fe6aff1a1cc9afbb584e82ea060a60f0e3351aee38f1c9cca875abf4"), looks := true }, kinds := [], alts := [], laidByText := true, laidKinds := [.data, .data, .data], laidTests := true, laidLooks := .later }
def ClashNoneUptoCardSaid : Prop := Claim7.holds Tryd.pinned (.plain (OpenSpec.upto clashNoneSpec)) clashNoneUptoCard

/-- THE SECOND FORM's CARD OF 'inspeximuslaw07.ClashLong'. -/
def clashLongUptoCard : Claim7 := { stood := { row := clashLongUptoRow, standIns := [], harness := (true, "f5d2e908fe6aff1a1cc9afbb584e82ea060a60f0e3351aee38f1c9cca875abf4"), looks := true }, kinds := [], alts := [], laidByText := true, laidKinds := [.data, .data, .data], laidTests := true, laidLooks := .later }
def ClashLongUptoCardSaid : Prop := Claim7.holds Tryd.pinned (.plain (OpenSpec.upto clashLongSpec)) clashLongUptoCard
end Rows
end Go.Proofs.YthgkaegkkkghhaaDoor
