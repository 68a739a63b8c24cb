/-
  DERIVED. GIVEN WITH THE SEED: THE CARDS: each row of YtjjoiefngoghpaaDoorRows.lean that lists a variable, with what it lists TIED to the program's text (the seventh form; the later family's looks); each row that meets fmt, with fmt's text TOLD by the authors' own Lean function (tested against real Go, not proved from fmt's source: count such statements apart). THE CARD IS WHAT COUNTS. Prove the row's statement (the work); the ties are given (YtjjoiefngoghpaaDoorTie.lean); close each card by the builder's one call (the guide's Derived/Test/ToyasCard.lean, 'card_holds'). Laid BY PROGRAM, IN A SANDBOX (cutbox-door.mjs). By AI agents, Wed Nov 11 2026. No macro, syntax, notation, axiom, sorry.
-/
import Derived.Test.YtjjoiefngoghpaaDoorRows
import GoSem.ClaimSeven
namespace Go.Proofs.YtjjoiefngoghpaaDoor
namespace Rows

/-- THE TIED CARD OF 'inspeximuslaw01.ShaTurns'. -/
def shaTurnsCard : Claim7 := { stood := { row := shaTurnsRow, standIns := [], harness := (true, "fccaa19823661a503204c6155420877919ad5a329bb6ec1519c8aece48dc6ee6"), looks := false }, kinds := [], alts := [], laidByText := true, laidKinds := [.data, .data, .data], laidTests := true, laidLooks := .later }
def ShaTurnsCardSaid : Prop := Claim7.holds Tryd.pinned (.plain (OpenSpec.ofChange shaTurnsSpec)) shaTurnsCard

/-- THE TIED CARD OF 'inspeximuslaw01.ShaSums'. -/
def shaSumsCard : Claim7 := { stood := { row := shaSumsRow, standIns := [], harness := (true, "fccaa19823661a503204c6155420877919ad5a329bb6ec1519c8aece48dc6ee6"), looks := false }, kinds := [], alts := [], laidByText := true, laidKinds := [.data, .data, .data], laidTests := true, laidLooks := .later }
def ShaSumsCardSaid : Prop := Claim7.holds Tryd.pinned (.plain (OpenSpec.ofChange shaSumsSpec)) shaSumsCard

/-- THE TIED CARD OF 'inspeximuslaw01.ShaParts'. -/
def shaPartsCard : Claim7 := { stood := { row := shaPartsRow, standIns := [], harness := (true, "fccaa19823661a503204c6155420877919ad5a329bb6ec1519c8aece48dc6ee6"), looks := false }, kinds := [], alts := [], laidByText := true, laidKinds := [.data, .data, .data], laidTests := true, laidLooks := .later }
def ShaPartsCardSaid : Prop := Claim7.holds Tryd.pinned (.plain (OpenSpec.ofChange shaPartsSpec)) shaPartsCard

/-- THE TIED CARD OF 'inspeximuslaw01.ShaFills'. -/
def shaFillsCard : Claim7 := { stood := { row := shaFillsRow, standIns := [], harness := (true, "fccaa19823661a503204c6155420877919ad5a329bb6ec1519c8aece48dc6ee6"), looks := false }, kinds := [], alts := [], laidByText := true, laidKinds := [.data, .data, .data], laidTests := true, laidLooks := .later }
def ShaFillsCardSaid : Prop := Claim7.holds Tryd.pinned (.plain (OpenSpec.ofChange shaFillsSpec)) shaFillsCard

/-- THE TIED CARD OF 'inspeximuslaw01.ShaBlocks'. -/
def shaBlocksCard : Claim7 := { stood := { row := shaBlocksRow, standIns := [], harness := (true, "fccaa19823661a503204c6155420877919ad5a329bb6ec1519c8aece48dc6ee6"), looks := false }, kinds := [], alts := [], laidByText := true, laidKinds := [.data, .data, .data], laidTests := true, laidLooks := .later }
def ShaBlocksCardSaid : Prop := Claim7.holds Tryd.pinned (.plain (OpenSpec.ofChange shaBlocksSpec)) shaBlocksCard

/-- THE TIED CARD OF 'inspeximuslaw01.ShaHex'. -/
def shaHexCard : Claim7 := { stood := { row := shaHexRow, standIns := [], harness := (true, "fccaa19823661a503204c6155420877919ad5a329bb6ec1519c8aece48dc6ee6"), looks := false }, kinds := [], alts := [], laidByText := true, laidKinds := [.data, .data, .data], laidTests := true, laidLooks := .later }
def ShaHexCardSaid : Prop := Claim7.holds Tryd.pinned (.plain (OpenSpec.ofChange shaHexSpec)) shaHexCard

/-- THE TIED CARD OF 'inspeximuslaw02.MacTags'. -/
def macTagsCard : Claim7 := { stood := { row := macTagsRow, standIns := [], harness := (true, "fccaa19823661a503204c6155420877919ad5a329bb6ec1519c8aece48dc6ee6"), looks := false }, kinds := [], alts := [], laidByText := true, laidKinds := [.data, .data, .data], laidTests := true, laidLooks := .later }
def MacTagsCardSaid : Prop := Claim7.holds Tryd.pinned (.plain (OpenSpec.ofChange macTagsSpec)) macTagsCard

/-- THE TIED CARD OF 'inspeximuslaw02.MacOf'. -/
def macOfCard : Claim7 := { stood := { row := macOfRow, standIns := [], harness := (true, "fccaa19823661a503204c6155420877919ad5a329bb6ec1519c8aece48dc6ee6"), looks := false }, kinds := [], alts := [], laidByText := true, laidKinds := [.data, .data, .data], laidTests := true, laidLooks := .later }
def MacOfCardSaid : Prop := Claim7.holds Tryd.pinned (.plain (OpenSpec.ofChange macOfSpec)) macOfCard

/-- THE TIED CARD OF 'inspeximuslaw02.MacParts'. -/
def macPartsCard : Claim7 := { stood := { row := macPartsRow, standIns := [], harness := (true, "fccaa19823661a503204c6155420877919ad5a329bb6ec1519c8aece48dc6ee6"), looks := false }, kinds := [], alts := [], laidByText := true, laidKinds := [.data, .data, .data], laidTests := true, laidLooks := .later }
def MacPartsCardSaid : Prop := Claim7.holds Tryd.pinned (.plain (OpenSpec.ofChange macPartsSpec)) macPartsCard

/-- THE TIED CARD OF 'inspeximuslaw02.MacLists'. -/
def macListsCard : Claim7 := { stood := { row := macListsRow, standIns := [], harness := (true, "fccaa19823661a503204c6155420877919ad5a329bb6ec1519c8aece48dc6ee6"), looks := false }, kinds := [], alts := [], laidByText := true, laidKinds := [.data, .data, .data], laidTests := true, laidLooks := .later }
def MacListsCardSaid : Prop := Claim7.holds Tryd.pinned (.plain (OpenSpec.ofChange macListsSpec)) macListsCard

/-- THE TIED CARD OF 'inspeximuslaw02.MacWords'. -/
def macWordsCard : Claim7 := { stood := { row := macWordsRow, standIns := [], harness := (true, "fccaa19823661a503204c6155420877919ad5a329bb6ec1519c8aece48dc6ee6"), looks := false }, kinds := [], alts := [], laidByText := true, laidKinds := [.data, .data, .data], laidTests := true, laidLooks := .later }
def MacWordsCardSaid : Prop := Claim7.holds Tryd.pinned (.plain (OpenSpec.ofChange macWordsSpec)) macWordsCard

/-- THE TIED CARD OF 'inspeximuslaw02.MacFilled'. -/
def macFilledCard : Claim7 := { stood := { row := macFilledRow, standIns := [], harness := (true, "fccaa19823661a503204c6155420877919ad5a329bb6ec1519c8aece48dc6ee6"), looks := false }, kinds := [], alts := [], laidByText := true, laidKinds := [.data, .data, .data], laidTests := true, laidLooks := .later }
def MacFilledCardSaid : Prop := Claim7.holds Tryd.pinned (.plain (OpenSpec.ofChange macFilledSpec)) macFilledCard

/-- THE SECOND FORM's CARD OF 'inspeximuslaw01.ShaTurns'. -/
def shaTurnsUptoCard : Claim7 := { stood := { row := shaTurnsUptoRow, standIns := [], harness := (true, "fccaa19823661a503204c6155420877919ad5a329bb6ec1519c8aece48dc6ee6"), looks := false }, kinds := [], alts := [], laidByText := true, laidKinds := [.data, .data, .data], laidTests := true, laidLooks := .later }
def ShaTurnsUptoCardSaid : Prop := Claim7.holds Tryd.pinned (.plain (OpenSpec.upto shaTurnsSpec)) shaTurnsUptoCard

/-- THE SECOND FORM's CARD OF 'inspeximuslaw01.ShaSums'. -/
def shaSumsUptoCard : Claim7 := { stood := { row := shaSumsUptoRow, standIns := [], harness := (true, "fccaa19823661a503204c6155420877919ad5a329bb6ec1519c8aece48dc6ee6"), looks := false }, kinds := [], alts := [], laidByText := true, laidKinds := [.data, .data, .data], laidTests := true, laidLooks := .later }
def ShaSumsUptoCardSaid : Prop := Claim7.holds Tryd.pinned (.plain (OpenSpec.upto shaSumsSpec)) shaSumsUptoCard

/-- THE SECOND FORM's CARD OF 'inspeximuslaw01.ShaParts'. -/
def shaPartsUptoCard : Claim7 := { stood := { row := shaPartsUptoRow, standIns := [], harness := (true, "fccaa19823661a503204c6155420877919ad5a329bb6ec1519c8aece48dc6ee6"), looks := false }, kinds := [], alts := [], laidByText := true, laidKinds := [.data, .data, .data], laidTests := true, laidLooks := .later }
def ShaPartsUptoCardSaid : Prop := Claim7.holds Tryd.pinned (.plain (OpenSpec.upto shaPartsSpec)) shaPartsUptoCard

/-- THE SECOND FORM's CARD OF 'inspeximuslaw01.ShaFills'. -/
def shaFillsUptoCard : Claim7 := { stood := { row := shaFillsUptoRow, standIns := [], harness := (true, "fccaa19823661a503204c6155420877919ad5a329bb6ec1519c8aece48dc6ee6"), looks := false }, kinds := [], alts := [], laidByText := true, laidKinds := [.data, .data, .data], laidTests := true, laidLooks := .later }
def ShaFillsUptoCardSaid : Prop := Claim7.holds Tryd.pinned (.plain (OpenSpec.upto shaFillsSpec)) shaFillsUptoCard

/-- THE SECOND FORM's CARD OF 'inspeximuslaw01.ShaBlocks'. -/
def shaBlocksUptoCard : Claim7 := { stood := { row := shaBlocksUptoRow, standIns := [], harness := (true, "fccaa19823661a503204c6155420877919ad5a329bb6ec1519c8aece48dc6ee6"), looks := false }, kinds := [], alts := [], laidByText := true, laidKinds := [.data, .data, .data], laidTests := true, laidLooks := .later }
def ShaBlocksUptoCardSaid : Prop := Claim7.holds Tryd.pinned (.plain (OpenSpec.upto shaBlocksSpec)) shaBlocksUptoCard

/-- THE SECOND FORM's CARD OF 'inspeximuslaw01.ShaHex'. -/
def shaHexUptoCard : Claim7 := { stood := { row := shaHexUptoRow, standIns := [], harness := (true, "fccaa19823661a503204c6155420877919ad5a329bb6ec1519c8aece48dc6ee6"), looks := false }, kinds := [], alts := [], laidByText := true, laidKinds := [.data, .data, .data], laidTests := true, laidLooks := .later }
def ShaHexUptoCardSaid : Prop := Claim7.holds Tryd.pinned (.plain (OpenSpec.upto shaHexSpec)) shaHexUptoCard

/-- THE SECOND FORM's CARD OF 'inspeximuslaw02.MacTags'. -/
def macTagsUptoCard : Claim7 := { stood := { row := macTagsUptoRow, standIns := [], harness := (true, "fccaa19823661a503204c6155420877919ad5a329bb6ec1519c8aece48dc6ee6"), looks := false }, kinds := [], alts := [], laidByText := true, laidKinds := [.data, .data, .data], laidTests := true, laidLooks := .later }
def MacTagsUptoCardSaid : Prop := Claim7.holds Tryd.pinned (.plain (OpenSpec.upto macTagsSpec)) macTagsUptoCard

/-- THE SECOND FORM's CARD OF 'inspeximuslaw02.MacOf'. -/
def macOfUptoCard : Claim7 := { stood := { row := macOfUptoRow, standIns := [], harness := (true, "fccaa19823661a503204c6155420877919ad5a329bb6ec1519c8aece48dc6ee6"), looks := false }, kinds := [], alts := [], laidByText := true, laidKinds := [.data, .data, .data], laidTests := true, laidLooks := .later }
def MacOfUptoCardSaid : Prop := Claim7.holds Tryd.pinned (.plain (OpenSpec.upto macOfSpec)) macOfUptoCard

/-- THE SECOND FORM's CARD OF 'inspeximuslaw02.MacParts'. -/
def macPartsUptoCard : Claim7 := { stood := { row := macPartsUptoRow, standIns := [], harness := (true, "fccaa19823661a503204c6155420877919ad5a329bb6ec1519c8aece48dc6ee6"), looks := false }, kinds := [], alts := [], laidByText := true, laidKinds := [.data, .data, .data], laidTests := true, laidLooks := .later }
def MacPartsUptoCardSaid : Prop := Claim7.holds Tryd.pinned (.plain (OpenSpec.upto macPartsSpec)) macPartsUptoCard

/-- THE SECOND FORM's CARD OF 'inspeximuslaw02.MacLists'. -/
def macListsUptoCard : Claim7 := { stood := { row := macListsUptoRow, standIns := [], harness := (true, "fccaa19823661a503204c6155420877919ad5a329bb6ec1519c8aece48dc6ee6"), looks := false }, kinds := [], alts := [], laidByText := true, laidKinds := [.data, .data, .data], laidTests := true, laidLooks := .later }
def MacListsUptoCardSaid : Prop := Claim7.holds Tryd.pinned (.plain (OpenSpec.upto macListsSpec)) macListsUptoCard

/-- THE SECOND FORM's CARD OF 'inspeximuslaw02.MacWords'. -/
def macWordsUptoCard : Claim7 := { stood := { row := macWordsUptoRow, standIns := [], harness := (true, "fccaa19823661a503204c6155420877919ad5a329bb6ec1519c8aece48dc6ee6"), looks := false }, kinds := [], alts := [], laidByText := true, laidKinds := [.data, .data, .data], laidTests := true, laidLooks := .later }
def MacWordsUptoCardSaid : Prop := Claim7.holds Tryd.pinned (.plain (OpenSpec.upto macWordsSpec)) macWordsUptoCard

/-- THE SECOND FORM's CARD OF 'inspeximuslaw02.MacFilled'. -/
def macFilledUptoCard : Claim7 := { stood := { row := macFilledUptoRow, standIns := [], harness := (true, "fccaa19823661a503204c6155420877919ad5a329bb6ec1519c8aece48dc6ee6"), looks := false }, kinds := [], alts := [], laidByText := true, laidKinds := [.data, .data, .data], laidTests := true, laidLooks := .later }
def MacFilledUptoCardSaid : Prop := Claim7.holds Tryd.pinned (.plain (OpenSpec.upto macFilledSpec)) macFilledUptoCard
end Rows
end Go.Proofs.YtjjoiefngoghpaaDoor
