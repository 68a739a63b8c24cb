/-
  DERIVED. GIVEN WITH THE SEED: THE CARDS: each row of YtkfplliipogagaaDoorRows.lean that lists a variable, with what it lists TIED to the program's text (the seventh form; the later family's looks); each row that meets fmt, with fmt's text TOLD by the authors' own Lean function (tested against real Go, not proved from fmt's source: count such statements apart). THE CARD IS WHAT COUNTS. Prove the row's statement (the work); the ties are given (YtkfplliipogagaaDoorTie.lean); close each card by the builder's one call (the guide's Derived/Test/ToyasCard.lean, 'card_holds'). Laid BY PROGRAM, IN A SANDBOX (cutbox-door.mjs). By AI agents, Wed Nov 11 2026. No macro, syntax, notation, axiom, sorry.
-/
import Derived.Test.YtkfplliipogagaaDoorRows
import GoSem.ClaimSeven
namespace Go.Proofs.YtkfplliipogagaaDoor
namespace Rows

/-- THE TIED CARD OF 'inspeximuslaw05.TreeHashes'. -/
def treeHashesCard : Claim7 := { stood := { row := treeHashesRow, standIns := [], harness := (true, "5d18f400c07690117f87380fb5e6809cd4c3bdbb85450fcee511a1dc3062d1e3"), looks := true }, kinds := [], alts := [], laidByText := true, laidKinds := [.data, .data, .data], laidTests := true, laidLooks := .later }
def TreeHashesCardSaid : Prop := Claim7.holds Tryd.pinned (.plain (OpenSpec.ofChange treeHashesSpec)) treeHashesCard

/-- THE TIED CARD OF 'inspeximuslaw05.TreeRoots'. -/
def treeRootsCard : Claim7 := { stood := { row := treeRootsRow, standIns := [], harness := (true, "5d18f400c07690117f87380fb5e6809cd4c3bdbb85450fcee511a1dc3062d1e3"), looks := true }, kinds := [], alts := [], laidByText := true, laidKinds := [.data, .data, .data], laidTests := true, laidLooks := .later }
def TreeRootsCardSaid : Prop := Claim7.holds Tryd.pinned (.plain (OpenSpec.ofChange treeRootsSpec)) treeRootsCard

/-- THE TIED CARD OF 'inspeximuslaw05.TreeFronts'. -/
def treeFrontsCard : Claim7 := { stood := { row := treeFrontsRow, standIns := [], harness := (true, "5d18f400c07690117f87380fb5e6809cd4c3bdbb85450fcee511a1dc3062d1e3"), looks := true }, kinds := [], alts := [], laidByText := true, laidKinds := [.data, .data, .data], laidTests := true, laidLooks := .later }
def TreeFrontsCardSaid : Prop := Claim7.holds Tryd.pinned (.plain (OpenSpec.ofChange treeFrontsSpec)) treeFrontsCard

/-- THE TIED CARD OF 'inspeximuslaw05.TreeHalves'. -/
def treeHalvesCard : Claim7 := { stood := { row := treeHalvesRow, standIns := [], harness := (true, "5d18f400c07690117f87380fb5e6809cd4c3bdbb85450fcee511a1dc3062d1e3"), looks := true }, kinds := [], alts := [], laidByText := true, laidKinds := [.data, .data, .data], laidTests := true, laidLooks := .later }
def TreeHalvesCardSaid : Prop := Claim7.holds Tryd.pinned (.plain (OpenSpec.ofChange treeHalvesSpec)) treeHalvesCard

/-- THE TIED CARD OF 'inspeximuslaw05.TreeGrows'. -/
def treeGrowsCard : Claim7 := { stood := { row := treeGrowsRow, standIns := [], harness := (true, "5d18f400c07690117f87380fb5e6809cd4c3bdbb85450fcee511a1dc3062d1e3"), looks := true }, kinds := [], alts := [], laidByText := true, laidKinds := [.data, .data, .data], laidTests := true, laidLooks := .later }
def TreeGrowsCardSaid : Prop := Claim7.holds Tryd.pinned (.plain (OpenSpec.ofChange treeGrowsSpec)) treeGrowsCard

/-- THE TIED CARD OF 'inspeximuslaw05.TreePairs'. -/
def treePairsCard : Claim7 := { stood := { row := treePairsRow, standIns := [], harness := (true, "5d18f400c07690117f87380fb5e6809cd4c3bdbb85450fcee511a1dc3062d1e3"), looks := true }, kinds := [], alts := [], laidByText := true, laidKinds := [.data, .data, .data], laidTests := true, laidLooks := .later }
def TreePairsCardSaid : Prop := Claim7.holds Tryd.pinned (.plain (OpenSpec.ofChange treePairsSpec)) treePairsCard

/-- THE TIED CARD OF 'inspeximuslaw06.ProofPaths'. -/
def proofPathsCard : Claim7 := { stood := { row := proofPathsRow, standIns := [], harness := (true, "5d18f400c07690117f87380fb5e6809cd4c3bdbb85450fcee511a1dc3062d1e3"), looks := true }, kinds := [], alts := [], laidByText := true, laidKinds := [.data, .data], laidTests := true, laidLooks := .later }
def ProofPathsCardSaid : Prop := Claim7.holds Tryd.pinned (.plain (OpenSpec.ofChange proofPathsSpec)) proofPathsCard

/-- THE TIED CARD OF 'inspeximuslaw06.ProofComes'. -/
def proofComesCard : Claim7 := { stood := { row := proofComesRow, standIns := [], harness := (true, "5d18f400c07690117f87380fb5e6809cd4c3bdbb85450fcee511a1dc3062d1e3"), looks := true }, kinds := [], alts := [], laidByText := true, laidKinds := [.data, .data], laidTests := true, laidLooks := .later }
def ProofComesCardSaid : Prop := Claim7.holds Tryd.pinned (.plain (OpenSpec.ofChange proofComesSpec)) proofComesCard

/-- THE TIED CARD OF 'inspeximuslaw06.ProofHolds'. -/
def proofHoldsCard : Claim7 := { stood := { row := proofHoldsRow, standIns := [], harness := (true, "5d18f400c07690117f87380fb5e6809cd4c3bdbb85450fcee511a1dc3062d1e3"), looks := true }, kinds := [], alts := [], laidByText := true, laidKinds := [.data, .data], laidTests := true, laidLooks := .later }
def ProofHoldsCardSaid : Prop := Claim7.holds Tryd.pinned (.plain (OpenSpec.ofChange proofHoldsSpec)) proofHoldsCard

/-- THE TIED CARD OF 'inspeximuslaw06.ProofLong'. -/
def proofLongCard : Claim7 := { stood := { row := proofLongRow, standIns := [], harness := (true, "5d18f400c07690117f87380fb5e6809cd4c3bdbb85450fcee511a1dc3062d1e3"), looks := true }, kinds := [], alts := [], laidByText := true, laidKinds := [.data, .data], laidTests := true, laidLooks := .later }
def ProofLongCardSaid : Prop := Claim7.holds Tryd.pinned (.plain (OpenSpec.ofChange proofLongSpec)) proofLongCard

/-- THE TIED CARD OF 'inspeximuslaw06.ProofSame'. -/
def proofSameCard : Claim7 := { stood := { row := proofSameRow, standIns := [], harness := (true, "5d18f400c07690117f87380fb5e6809cd4c3bdbb85450fcee511a1dc3062d1e3"), looks := true }, kinds := [], alts := [], laidByText := true, laidKinds := [.data, .data], laidTests := true, laidLooks := .later }
def ProofSameCardSaid : Prop := Claim7.holds Tryd.pinned (.plain (OpenSpec.ofChange proofSameSpec)) proofSameCard

/-- THE TIED CARD OF 'inspeximuslaw06.ProofChain'. -/
def proofChainCard : Claim7 := { stood := { row := proofChainRow, standIns := [], harness := (true, "5d18f400c07690117f87380fb5e6809cd4c3bdbb85450fcee511a1dc3062d1e3"), looks := true }, kinds := [], alts := [], laidByText := true, laidKinds := [.data, .data], laidTests := true, laidLooks := .later }
def ProofChainCardSaid : Prop := Claim7.holds Tryd.pinned (.plain (OpenSpec.ofChange proofChainSpec)) proofChainCard

/-- THE TIED CARD OF 'inspeximuslaw06.ProofEnds'. -/
def proofEndsCard : Claim7 := { stood := { row := proofEndsRow, standIns := [], harness := (true, "5d18f400c07690117f87380fb5e6809cd4c3bdbb85450fcee511a1dc3062d1e3"), looks := true }, kinds := [], alts := [], laidByText := true, laidKinds := [.data, .data], laidTests := true, laidLooks := .later }
def ProofEndsCardSaid : Prop := Claim7.holds Tryd.pinned (.plain (OpenSpec.ofChange proofEndsSpec)) proofEndsCard

/-- THE SECOND FORM's CARD OF 'inspeximuslaw05.TreeHashes'. -/
def treeHashesUptoCard : Claim7 := { stood := { row := treeHashesUptoRow, standIns := [], harness := (true, "5d18f400c07690117f87380fb5e6809cd4c3bdbb85450fcee511a1dc3062d1e3"), looks := true }, kinds := [], alts := [], laidByText := true, laidKinds := [.data, .data, .data], laidTests := true, laidLooks := .later }
def TreeHashesUptoCardSaid : Prop := Claim7.holds Tryd.pinned (.plain (OpenSpec.upto treeHashesSpec)) treeHashesUptoCard

/-- THE SECOND FORM's CARD OF 'inspeximuslaw05.TreeRoots'. -/
def treeRootsUptoCard : Claim7 := { stood := { row := treeRootsUptoRow, standIns := [], harness := (true, "5d18f400c07690117f87380fb5e6809cd4c3bdbb85450fcee511a1dc3062d1e3"), looks := true }, kinds := [], alts := [], laidByText := true, laidKinds := [.data, .data, .data], laidTests := true, laidLooks := .later }
def TreeRootsUptoCardSaid : Prop := Claim7.holds Tryd.pinned (.plain (OpenSpec.upto treeRootsSpec)) treeRootsUptoCard

/-- THE SECOND FORM's CARD OF 'inspeximuslaw05.TreeFronts'. -/
def treeFrontsUptoCard : Claim7 := { stood := { row := treeFrontsUptoRow, standIns := [], harness := (true, "5d18f400c07690117f87380fb5e6809cd4c3bdbb85450fcee511a1dc3062d1e3"), looks := true }, kinds := [], alts := [], laidByText := true, laidKinds := [.data, .data, .data], laidTests := true, laidLooks := .later }
def TreeFrontsUptoCardSaid : Prop := Claim7.holds Tryd.pinned (.plain (OpenSpec.upto treeFrontsSpec)) treeFrontsUptoCard

/-- THE SECOND FORM's CARD OF 'inspeximuslaw05.TreeHalves'. -/
def treeHalvesUptoCard : Claim7 := { stood := { row := treeHalvesUptoRow, standIns := [], harness := (true, "5d18f400c07690117f87380fb5e6809cd4c3bdbb85450fcee511a1dc3062d1e3"), looks := true }, kinds := [], alts := [], laidByText := true, laidKinds := [.data, .data, .data], laidTests := true, laidLooks := .later }
def TreeHalvesUptoCardSaid : Prop := Claim7.holds Tryd.pinned (.plain (OpenSpec.upto treeHalvesSpec)) treeHalvesUptoCard

/-- THE SECOND FORM's CARD OF 'inspeximuslaw05.TreeGrows'. -/
def treeGrowsUptoCard : Claim7 := { stood := { row := treeGrowsUptoRow, standIns := [], harness := (true, "5d18f400c07690117f87380fb5e6809cd4c3bdbb85450fcee511a1dc3062d1e3"), looks := true }, kinds := [], alts := [], laidByText := true, laidKinds := [.data, .data, .data], laidTests := true, laidLooks := .later }
def TreeGrowsUptoCardSaid : Prop := Claim7.holds Tryd.pinned (.plain (OpenSpec.upto treeGrowsSpec)) treeGrowsUptoCard

/-- THE SECOND FORM's CARD OF 'inspeximuslaw05.TreePairs'. -/
def treePairsUptoCard : Claim7 := { stood := { row := treePairsUptoRow, standIns := [], harness := (true, "5d18f400c07690117f87380fb5e6809cd4c3bdbb85450fcee511a1dc3062d1e3"), looks := true }, kinds := [], alts := [], laidByText := true, laidKinds := [.data, .data, .data], laidTests := true, laidLooks := .later }
def TreePairsUptoCardSaid : Prop := Claim7.holds Tryd.pinned (.plain (OpenSpec.upto treePairsSpec)) treePairsUptoCard

/-- THE SECOND FORM's CARD OF 'inspeximuslaw06.ProofPaths'. -/
def proofPathsUptoCard : Claim7 := { stood := { row := proofPathsUptoRow, standIns := [], harness := (true, "5d18f400c07690117f87380fb5e6809cd4c3bdbb85450fcee511a1dc3062d1e3"), looks := true }, kinds := [], alts := [], laidByText := true, laidKinds := [.data, .data], laidTests := true, laidLooks := .later }
def ProofPathsUptoCardSaid : Prop := Claim7.holds Tryd.pinned (.plain (OpenSpec.upto proofPathsSpec)) proofPathsUptoCard

/-- THE SECOND FORM's CARD OF 'inspeximuslaw06.ProofComes'. -/
def proofComesUptoCard : Claim7 := { stood := { row := proofComesUptoRow, standIns := [], harness := (true, "5d18f400c07690117f87380fb5e6809cd4c3bdbb85450fcee511a1dc3062d1e3"), looks := true }, kinds := [], alts := [], laidByText := true, laidKinds := [.data, .data], laidTests := true, laidLooks := .later }
def ProofComesUptoCardSaid : Prop := Claim7.holds Tryd.pinned (.plain (OpenSpec.upto proofComesSpec)) proofComesUptoCard

/-- THE SECOND FORM's CARD OF 'inspeximuslaw06.ProofHolds'. -/
def proofHoldsUptoCard : Claim7 := { stood := { row := proofHoldsUptoRow, standIns := [], harness := (true, "5d18f400c07690117f87380fb5e6809cd4c3bdbb85450fcee511a1dc3062d1e3"), looks := true }, kinds := [], alts := [], laidByText := true, laidKinds := [.data, .data], laidTests := true, laidLooks := .later }
def ProofHoldsUptoCardSaid : Prop := Claim7.holds Tryd.pinned (.plain (OpenSpec.upto proofHoldsSpec)) proofHoldsUptoCard

/-- THE SECOND FORM's CARD OF 'inspeximuslaw06.ProofLong'. -/
def proofLongUptoCard : Claim7 := { stood := { row := proofLongUptoRow, standIns := [], harness := (true, "5d18f400c07690117f87380fb5e6809cd4c3bdbb85450fcee511a1dc3062d1e3"), looks := true }, kinds := [], alts := [], laidByText := true, laidKinds := [.data, .data], laidTests := true, laidLooks := .later }
def ProofLongUptoCardSaid : Prop := Claim7.holds Tryd.pinned (.plain (OpenSpec.upto proofLongSpec)) proofLongUptoCard

/-- THE SECOND FORM's CARD OF 'inspeximuslaw06.ProofSame'. -/
def proofSameUptoCard : Claim7 := { stood := { row := proofSameUptoRow, standIns := [], harness := (true, "5d18f400c07690117f87380fb5e6809cd4c3bdbb85450fcee511a1dc3062d1e3"), looks := true }, kinds := [], alts := [], laidByText := true, laidKinds := [.data, .data], laidTests := true, laidLooks := .later }
def ProofSameUptoCardSaid : Prop := Claim7.holds Tryd.pinned (.plain (OpenSpec.upto proofSameSpec)) proofSameUptoCard

/-- THE SECOND FORM's CARD OF 'inspeximuslaw06.ProofChain'. -/
def proofChainUptoCard : Claim7 := { stood := { row := proofChainUptoRow, standIns := [], harness := (true, "5d18f400c07690117f87380fb5e6809cd4c3bdbb85450fcee511a1dc3062d1e3"), looks := true }, kinds := [], alts := [], laidByText := true, laidKinds := [.data, .data], laidTests := true, laidLooks := .later }
def ProofChainUptoCardSaid : Prop := Claim7.holds Tryd.pinned (.plain (OpenSpec.upto proofChainSpec)) proofChainUptoCard

/-- THE SECOND FORM's CARD OF 'inspeximuslaw06.ProofEnds'. -/
def proofEndsUptoCard : Claim7 := { stood := { row := proofEndsUptoRow, standIns := [], harness := (true, "5d18f400c07690117f87380fb5e6809cd4c3bdbb85450fcee511a1dc3062d1e3"), looks := true }, kinds := [], alts := [], laidByText := true, laidKinds := [.data, .data], laidTests := true, laidLooks := .later }
def ProofEndsUptoCardSaid : Prop := Claim7.holds Tryd.pinned (.plain (OpenSpec.upto proofEndsSpec)) proofEndsUptoCard
end Rows
end Go.Proofs.YtkfplliipogagaaDoor
