/-
  DERIVED. GIVEN WITH THE SEED: THE CARDS: each row of YtnbnjoejmepkjaaDoorRows.lean that lists a variable, with what it lists TIED to the program's text (the seventh form; the later family's looks); each row that meets fmt, with fmt's text TOLD by the authors' own Lean function (tested against real Go, not proved from fmt's source: count such statements apart). THE CARD IS WHAT COUNTS. Prove the row's statement (the work); the ties are given (YtnbnjoejmepkjaaDoorTie.lean); close each card by the builder's one call (the guide's Derived/Test/ToyasCard.lean, 'card_holds'). Laid BY PROGRAM, IN A SANDBOX (cutbox-door.mjs). By AI agents, Wed Nov 11 2026. No macro, syntax, notation, axiom, sorry.
-/
import Derived.Test.YtnbnjoejmepkjaaDoorRows
import GoSem.ClaimSeven
namespace Go.Proofs.YtnbnjoejmepkjaaDoor
namespace Rows

/-- THE TIED CARD OF 'inspeximuslaw20.LinkFinds'. -/
def linkFindsCard : Claim7 := { stood := { row := linkFindsRow, standIns := [], harness := (true, "39438e4d7a8db8f545e2326253659af9714822e122bc8bfb69eea4d526a00b86"), looks := true }, kinds := [], alts := [], laidByText := true, laidKinds := [.data, .data], laidTests := true, laidLooks := .later }
def LinkFindsCardSaid : Prop := Claim7.holds Tryd.pinned (.plain (OpenSpec.ofChange linkFindsSpec)) linkFindsCard

/-- THE TIED CARD OF 'inspeximuslaw20.LinkOr'. -/
def linkOrCard : Claim7 := { stood := { row := linkOrRow, standIns := [], harness := (true, "39438e4d7a8db8f545e2326253659af9714822e122bc8bfb69eea4d526a00b86"), looks := true }, kinds := [], alts := [], laidByText := true, laidKinds := [.data, .data], laidTests := true, laidLooks := .later }
def LinkOrCardSaid : Prop := Claim7.holds Tryd.pinned (.plain (OpenSpec.ofChange linkOrSpec)) linkOrCard

/-- THE TIED CARD OF 'inspeximuslaw20.LinkOwn'. -/
def linkOwnCard : Claim7 := { stood := { row := linkOwnRow, standIns := [], harness := (true, "39438e4d7a8db8f545e2326253659af9714822e122bc8bfb69eea4d526a00b86"), looks := true }, kinds := [], alts := [], laidByText := true, laidKinds := [.data, .data], laidTests := true, laidLooks := .later }
def LinkOwnCardSaid : Prop := Claim7.holds Tryd.pinned (.plain (OpenSpec.ofChange linkOwnSpec)) linkOwnCard

/-- THE TIED CARD OF 'inspeximuslaw20.LinkSame'. -/
def linkSameCard : Claim7 := { stood := { row := linkSameRow, standIns := [], harness := (true, "39438e4d7a8db8f545e2326253659af9714822e122bc8bfb69eea4d526a00b86"), looks := true }, kinds := [], alts := [], laidByText := true, laidKinds := [.data, .data], laidTests := true, laidLooks := .later }
def LinkSameCardSaid : Prop := Claim7.holds Tryd.pinned (.plain (OpenSpec.ofChange linkSameSpec)) linkSameCard

/-- THE TIED CARD OF 'inspeximuslaw20.LinkChain'. -/
def linkChainCard : Claim7 := { stood := { row := linkChainRow, standIns := [], harness := (true, "39438e4d7a8db8f545e2326253659af9714822e122bc8bfb69eea4d526a00b86"), looks := true }, kinds := [], alts := [], laidByText := true, laidKinds := [.data, .data], laidTests := true, laidLooks := .later }
def LinkChainCardSaid : Prop := Claim7.holds Tryd.pinned (.plain (OpenSpec.ofChange linkChainSpec)) linkChainCard

/-- THE SECOND FORM's CARD OF 'inspeximuslaw20.LinkFinds'. -/
def linkFindsUptoCard : Claim7 := { stood := { row := linkFindsUptoRow, standIns := [], harness := (true, "39438e4d7a8db8f545e2326253659af9714822e122bc8bfb69eea4d526a00b86"), looks := true }, kinds := [], alts := [], laidByText := true, laidKinds := [.data, .data], laidTests := true, laidLooks := .later }
def LinkFindsUptoCardSaid : Prop := Claim7.holds Tryd.pinned (.plain (OpenSpec.upto linkFindsSpec)) linkFindsUptoCard

/-- THE SECOND FORM's CARD OF 'inspeximuslaw20.LinkOr'. -/
def linkOrUptoCard : Claim7 := { stood := { row := linkOrUptoRow, standIns := [], harness := (true, "39438e4d7a8db8f545e2326253659af9714822e122bc8bfb69eea4d526a00b86"), looks := true }, kinds := [], alts := [], laidByText := true, laidKinds := [.data, .data], laidTests := true, laidLooks := .later }
def LinkOrUptoCardSaid : Prop := Claim7.holds Tryd.pinned (.plain (OpenSpec.upto linkOrSpec)) linkOrUptoCard

/-- THE SECOND FORM's CARD OF 'inspeximuslaw20.LinkOwn'. -/
def linkOwnUptoCard : Claim7 := { stood := { row := linkOwnUptoRow, standIns := [], harness := (true, "39438e4d7a8db8f545e2326253659af9714822e122bc8bfb69eea4d526a00b86"), looks := true }, kinds := [], alts := [], laidByText := true, laidKinds := [.data, .data], laidTests := true, laidLooks := .later }
def LinkOwnUptoCardSaid : Prop := Claim7.holds Tryd.pinned (.plain (OpenSpec.upto linkOwnSpec)) linkOwnUptoCard

/-- THE SECOND FORM's CARD OF 'inspeximuslaw20.LinkSame'. -/
def linkSameUptoCard : Claim7 := { stood := { row := linkSameUptoRow, standIns := [], harness := (true, "39438e4d7a8db8f545e2326253659af9714822e122bc8bfb69eea4d526a00b86"), looks := true }, kinds := [], alts := [], laidByText := true, laidKinds := [.data, .data], laidTests := true, laidLooks := .later }
def LinkSameUptoCardSaid : Prop := Claim7.holds Tryd.pinned (.plain (OpenSpec.upto linkSameSpec)) linkSameUptoCard

/-- THE SECOND FORM's CARD OF 'inspeximuslaw20.LinkChain'. -/
def linkChainUptoCard : Claim7 := { stood := { row := linkChainUptoRow, standIns := [], harness := (true, "39438e4d7a8db8f545e2326253659af9714822e122bc8bfb69eea4d526a00b86"), looks := true }, kinds := [], alts := [], laidByText := true, laidKinds := [.data, .data], laidTests := true, laidLooks := .later }
def LinkChainUptoCardSaid : Prop := Claim7.holds Tryd.pinned (.plain (OpenSpec.upto linkChainSpec)) linkChainUptoCard
end Rows
end Go.Proofs.YtnbnjoejmepkjaaDoor
