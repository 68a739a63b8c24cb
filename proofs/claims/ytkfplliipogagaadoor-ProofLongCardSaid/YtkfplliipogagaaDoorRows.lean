/-
  NARROWER THAN 'FOR EVERY INPUT', by the rows' own cells (each row's printed sentence says how): TreeHashes: laid · TreeRoots: laid · TreeFronts: laid · TreeHalves: laid · TreeGrows: laid · TreePairs: laid · ProofPaths: laid · ProofComes: laid · ProofHolds: laid · ProofLong: laid · ProofSame: laid · ProofChain: laid · ProofEnds: laid.
  DERIVED. THE GIVEN ROWS OF THIS SEAT. 13 by the template 'for every input the law returns true; each argument reads behind the call as it read before'; 0 by the template 'total and deterministic' (their statements: YtkfplliipogagaaDoorTotals.lean).
  GIVEN WITH THE SEED: the statements are not yours to turn. If you find one false, say at which input.
  Laid BY PROGRAM, IN A SANDBOX (cutbox-rows.mjs): the forced cells as the released guide's own fill.sh prints them over the translation 2a73e11a0443e387… (all of the seat's roots in one cut). By AI agents, Wed Nov 11 2026. No macro, syntax, notation, axiom, sorry.
-/
import Derived.Test.YtkfplliipogagaaDoorChecked
import GoSem.Claim
import GoSem.ClaimJoined
import GoSem.ClaimMapViews
import Derived.JoinedTies
import Derived.KernelRfl
namespace Go.Proofs.YtkfplliipogagaaDoor
/- THE CELL 'sum', in the pinned program and in every row, IS THE sha256 OF THE DUMP (.gsa) THAT YtkfplliipogagaaDoorProg.lean LOADS. Nothing in Lean hashes anything: it is a label: what it is worth is what the hold of that sum in a sandbox is worth. -/
noncomputable def Tryd.pinned : Pinned := { name := "ytkfplliipogagaadoor", sum := "2a73e11a0443e38765114912a869174448c942e0baf96bcc396b88a360f3bb3f", checked := Tryd.checked }
namespace Rows
def none {H : Type} : Left H := { results := [], args := [] }

/- WHAT THE LISTED PACKAGE-LEVEL VARIABLES READ AS WHEN THE CALL BEGINS. Each datum BY PROGRAM (the guide's laid-datum.mjs) off the statement by which the dump's own 'gosem.cut.vars' lays the variable. In a bare row this is a premise. The card (YtkfplliipogagaaDoorCards.lean) ties it to the program's text. -/
def laid_inspeximus_api_K {H : Type} : DataW H := .agg [.lit (.int .u32 1116352408), .lit (.int .u32 1899447441), .lit (.int .u32 3049323471), .lit (.int .u32 3921009573), .lit (.int .u32 961987163), .lit (.int .u32 1508970993), .lit (.int .u32 2453635748), .lit (.int .u32 2870763221), .lit (.int .u32 3624381080), .lit (.int .u32 310598401), .lit (.int .u32 607225278), .lit (.int .u32 1426881987), .lit (.int .u32 1925078388), .lit (.int .u32 2162078206), .lit (.int .u32 2614888103), .lit (.int .u32 3248222580), .lit (.int .u32 3835390401), .lit (.int .u32 4022224774), .lit (.int .u32 264347078), .lit (.int .u32 604807628), .lit (.int .u32 770255983), .lit (.int .u32 1249150122), .lit (.int .u32 1555081692), .lit (.int .u32 1996064986), .lit (.int .u32 2554220882), .lit (.int .u32 2821834349), .lit (.int .u32 2952996808), .lit (.int .u32 3210313671), .lit (.int .u32 3336571891), .lit (.int .u32 3584528711), .lit (.int .u32 113926993), .lit (.int .u32 338241895), .lit (.int .u32 666307205), .lit (.int .u32 773529912), .lit (.int .u32 1294757372), .lit (.int .u32 1396182291), .lit (.int .u32 1695183700), .lit (.int .u32 1986661051), .lit (.int .u32 2177026350), .lit (.int .u32 2456956037), .lit (.int .u32 2730485921), .lit (.int .u32 2820302411), .lit (.int .u32 3259730800), .lit (.int .u32 3345764771), .lit (.int .u32 3516065817), .lit (.int .u32 3600352804), .lit (.int .u32 4094571909), .lit (.int .u32 275423344), .lit (.int .u32 430227734), .lit (.int .u32 506948616), .lit (.int .u32 659060556), .lit (.int .u32 883997877), .lit (.int .u32 958139571), .lit (.int .u32 1322822218), .lit (.int .u32 1537002063), .lit (.int .u32 1747873779), .lit (.int .u32 1955562222), .lit (.int .u32 2024104815), .lit (.int .u32 2227730452), .lit (.int .u32 2361852424), .lit (.int .u32 2428436474), .lit (.int .u32 2756734187), .lit (.int .u32 3204031479), .lit (.int .u32 3329325298)]
def laid_inspeximus_api_First {H : Type} : DataW H := .agg [.lit (.int .u32 1779033703), .lit (.int .u32 3144134277), .lit (.int .u32 1013904242), .lit (.int .u32 2773480762), .lit (.int .u32 1359893119), .lit (.int .u32 2600822924), .lit (.int .u32 528734635), .lit (.int .u32 1541459225)]
def laid_inspeximus_sha_digits {H : Type} : DataW H := .agg [.lit (.int .u8 48), .lit (.int .u8 49), .lit (.int .u8 50), .lit (.int .u8 51), .lit (.int .u8 52), .lit (.int .u8 53), .lit (.int .u8 54), .lit (.int .u8 55), .lit (.int .u8 56), .lit (.int .u8 57), .lit (.int .u8 97), .lit (.int .u8 98), .lit (.int .u8 99), .lit (.int .u8 100), .lit (.int .u8 101), .lit (.int .u8 102)]

/-- 'inspeximuslaw05.TreeHashes': WHATEVER THE INPUT: true; the input reads as it did. -/
def treeHashesSpec : ChangeSpec := { name := "treeHashes", fn := fun _ => fun
  | [d1, d2, d3, d4] => { results := [.lit (.bool true)], args := [d1, d2, d3, d4] }
  | _ => none }
def treeHashesRow : OpenClaim := { program := "ytkfplliipogagaadoor", sum := "2a73e11a0443e38765114912a869174448c942e0baf96bcc396b88a360f3bb3f", func := "inspeximus/inspeximuslaw05.TreeHashes", spec := "treeHashes", unfollowed := true, recurses := true, named := ["inspeximus/api.First", "inspeximus/api.K", "inspeximus/sha.digits"], apart := false, laid := [("inspeximus/api.K", laid_inspeximus_api_K), ("inspeximus/api.First", laid_inspeximus_api_First), ("inspeximus/sha.digits", laid_inspeximus_sha_digits)] }
def TreeHashesSaid : Prop := treeHashesRow.holds Tryd.pinned (OpenSpec.ofChange treeHashesSpec)

/-- ITS FALSE NEIGHBOUR: 'it returns false'. Refute it at one input. -/
def treeHashesWrong : ChangeSpec := { name := "treeHashes", fn := fun _ => fun
  | [d1, d2, d3, d4] => { results := [.lit (.bool false)], args := [d1, d2, d3, d4] }
  | _ => none }
def TreeHashesWrongFalsely : Prop := treeHashesRow.holds Tryd.pinned (OpenSpec.ofChange treeHashesWrong)

/-- 'inspeximuslaw05.TreeRoots': WHATEVER THE INPUT: true; the input reads as it did. -/
def treeRootsSpec : ChangeSpec := { name := "treeRoots", fn := fun _ => fun
  | [d] => { results := [.lit (.bool true)], args := [d] }
  | _ => none }
def treeRootsRow : OpenClaim := { program := "ytkfplliipogagaadoor", sum := "2a73e11a0443e38765114912a869174448c942e0baf96bcc396b88a360f3bb3f", func := "inspeximus/inspeximuslaw05.TreeRoots", spec := "treeRoots", unfollowed := true, recurses := true, named := ["inspeximus/api.First", "inspeximus/api.K", "inspeximus/sha.digits"], apart := false, laid := [("inspeximus/api.K", laid_inspeximus_api_K), ("inspeximus/api.First", laid_inspeximus_api_First), ("inspeximus/sha.digits", laid_inspeximus_sha_digits)] }
def TreeRootsSaid : Prop := treeRootsRow.holds Tryd.pinned (OpenSpec.ofChange treeRootsSpec)

/-- ITS FALSE NEIGHBOUR: 'it returns false'. Refute it at one input. -/
def treeRootsWrong : ChangeSpec := { name := "treeRoots", fn := fun _ => fun
  | [d] => { results := [.lit (.bool false)], args := [d] }
  | _ => none }
def TreeRootsWrongFalsely : Prop := treeRootsRow.holds Tryd.pinned (OpenSpec.ofChange treeRootsWrong)

/-- 'inspeximuslaw05.TreeFronts': WHATEVER THE INPUT: true; the input reads as it did. -/
def treeFrontsSpec : ChangeSpec := { name := "treeFronts", fn := fun _ => fun
  | [d] => { results := [.lit (.bool true)], args := [d] }
  | _ => none }
def treeFrontsRow : OpenClaim := { program := "ytkfplliipogagaadoor", sum := "2a73e11a0443e38765114912a869174448c942e0baf96bcc396b88a360f3bb3f", func := "inspeximus/inspeximuslaw05.TreeFronts", spec := "treeFronts", unfollowed := true, recurses := true, named := ["inspeximus/api.First", "inspeximus/api.K", "inspeximus/sha.digits"], apart := false, laid := [("inspeximus/api.K", laid_inspeximus_api_K), ("inspeximus/api.First", laid_inspeximus_api_First), ("inspeximus/sha.digits", laid_inspeximus_sha_digits)] }
def TreeFrontsSaid : Prop := treeFrontsRow.holds Tryd.pinned (OpenSpec.ofChange treeFrontsSpec)

/-- ITS FALSE NEIGHBOUR: 'it returns false'. Refute it at one input. -/
def treeFrontsWrong : ChangeSpec := { name := "treeFronts", fn := fun _ => fun
  | [d] => { results := [.lit (.bool false)], args := [d] }
  | _ => none }
def TreeFrontsWrongFalsely : Prop := treeFrontsRow.holds Tryd.pinned (OpenSpec.ofChange treeFrontsWrong)

/-- 'inspeximuslaw05.TreeHalves': WHATEVER THE INPUT: true; the input reads as it did. -/
def treeHalvesSpec : ChangeSpec := { name := "treeHalves", fn := fun _ => fun
  | [d] => { results := [.lit (.bool true)], args := [d] }
  | _ => none }
def treeHalvesRow : OpenClaim := { program := "ytkfplliipogagaadoor", sum := "2a73e11a0443e38765114912a869174448c942e0baf96bcc396b88a360f3bb3f", func := "inspeximus/inspeximuslaw05.TreeHalves", spec := "treeHalves", unfollowed := true, recurses := true, named := ["inspeximus/api.First", "inspeximus/api.K", "inspeximus/sha.digits"], apart := false, laid := [("inspeximus/api.K", laid_inspeximus_api_K), ("inspeximus/api.First", laid_inspeximus_api_First), ("inspeximus/sha.digits", laid_inspeximus_sha_digits)] }
def TreeHalvesSaid : Prop := treeHalvesRow.holds Tryd.pinned (OpenSpec.ofChange treeHalvesSpec)

/-- ITS FALSE NEIGHBOUR: 'it returns false'. Refute it at one input. -/
def treeHalvesWrong : ChangeSpec := { name := "treeHalves", fn := fun _ => fun
  | [d] => { results := [.lit (.bool false)], args := [d] }
  | _ => none }
def TreeHalvesWrongFalsely : Prop := treeHalvesRow.holds Tryd.pinned (OpenSpec.ofChange treeHalvesWrong)

/-- 'inspeximuslaw05.TreeGrows': WHATEVER THE INPUT: true; the input reads as it did. -/
def treeGrowsSpec : ChangeSpec := { name := "treeGrows", fn := fun _ => fun
  | [d1, d2] => { results := [.lit (.bool true)], args := [d1, d2] }
  | _ => none }
def treeGrowsRow : OpenClaim := { program := "ytkfplliipogagaadoor", sum := "2a73e11a0443e38765114912a869174448c942e0baf96bcc396b88a360f3bb3f", func := "inspeximus/inspeximuslaw05.TreeGrows", spec := "treeGrows", unfollowed := true, recurses := true, named := ["inspeximus/api.First", "inspeximus/api.K", "inspeximus/sha.digits"], apart := false, laid := [("inspeximus/api.K", laid_inspeximus_api_K), ("inspeximus/api.First", laid_inspeximus_api_First), ("inspeximus/sha.digits", laid_inspeximus_sha_digits)] }
def TreeGrowsSaid : Prop := treeGrowsRow.holds Tryd.pinned (OpenSpec.ofChange treeGrowsSpec)

/-- ITS FALSE NEIGHBOUR: 'it returns false'. Refute it at one input. -/
def treeGrowsWrong : ChangeSpec := { name := "treeGrows", fn := fun _ => fun
  | [d1, d2] => { results := [.lit (.bool false)], args := [d1, d2] }
  | _ => none }
def TreeGrowsWrongFalsely : Prop := treeGrowsRow.holds Tryd.pinned (OpenSpec.ofChange treeGrowsWrong)

/-- 'inspeximuslaw05.TreePairs': WHATEVER THE INPUT: true; the input reads as it did. -/
def treePairsSpec : ChangeSpec := { name := "treePairs", fn := fun _ => fun
  | [d] => { results := [.lit (.bool true)], args := [d] }
  | _ => none }
def treePairsRow : OpenClaim := { program := "ytkfplliipogagaadoor", sum := "2a73e11a0443e38765114912a869174448c942e0baf96bcc396b88a360f3bb3f", func := "inspeximus/inspeximuslaw05.TreePairs", spec := "treePairs", unfollowed := true, recurses := true, named := ["inspeximus/api.First", "inspeximus/api.K", "inspeximus/sha.digits"], apart := false, laid := [("inspeximus/api.K", laid_inspeximus_api_K), ("inspeximus/api.First", laid_inspeximus_api_First), ("inspeximus/sha.digits", laid_inspeximus_sha_digits)] }
def TreePairsSaid : Prop := treePairsRow.holds Tryd.pinned (OpenSpec.ofChange treePairsSpec)

/-- ITS FALSE NEIGHBOUR: 'it returns false'. Refute it at one input. -/
def treePairsWrong : ChangeSpec := { name := "treePairs", fn := fun _ => fun
  | [d] => { results := [.lit (.bool false)], args := [d] }
  | _ => none }
def TreePairsWrongFalsely : Prop := treePairsRow.holds Tryd.pinned (OpenSpec.ofChange treePairsWrong)

/-- 'inspeximuslaw06.ProofPaths': WHATEVER THE INPUT: true; the input reads as it did. -/
def proofPathsSpec : ChangeSpec := { name := "proofPaths", fn := fun _ => fun
  | [d1, d2, d3] => { results := [.lit (.bool true)], args := [d1, d2, d3] }
  | _ => none }
def proofPathsRow : OpenClaim := { program := "ytkfplliipogagaadoor", sum := "2a73e11a0443e38765114912a869174448c942e0baf96bcc396b88a360f3bb3f", func := "inspeximus/inspeximuslaw06.ProofPaths", spec := "proofPaths", unfollowed := true, recurses := true, named := ["inspeximus/api.First", "inspeximus/api.K"], apart := false, laid := [("inspeximus/api.K", laid_inspeximus_api_K), ("inspeximus/api.First", laid_inspeximus_api_First)] }
def ProofPathsSaid : Prop := proofPathsRow.holds Tryd.pinned (OpenSpec.ofChange proofPathsSpec)

/-- ITS FALSE NEIGHBOUR: 'it returns false'. Refute it at one input. -/
def proofPathsWrong : ChangeSpec := { name := "proofPaths", fn := fun _ => fun
  | [d1, d2, d3] => { results := [.lit (.bool false)], args := [d1, d2, d3] }
  | _ => none }
def ProofPathsWrongFalsely : Prop := proofPathsRow.holds Tryd.pinned (OpenSpec.ofChange proofPathsWrong)

/-- 'inspeximuslaw06.ProofComes': WHATEVER THE INPUT: true; the input reads as it did. -/
def proofComesSpec : ChangeSpec := { name := "proofComes", fn := fun _ => fun
  | [d1, d2, d3, d4, d5, d6] => { results := [.lit (.bool true)], args := [d1, d2, d3, d4, d5, d6] }
  | _ => none }
def proofComesRow : OpenClaim := { program := "ytkfplliipogagaadoor", sum := "2a73e11a0443e38765114912a869174448c942e0baf96bcc396b88a360f3bb3f", func := "inspeximus/inspeximuslaw06.ProofComes", spec := "proofComes", unfollowed := true, recurses := true, named := ["inspeximus/api.First", "inspeximus/api.K"], apart := false, laid := [("inspeximus/api.K", laid_inspeximus_api_K), ("inspeximus/api.First", laid_inspeximus_api_First)] }
def ProofComesSaid : Prop := proofComesRow.holds Tryd.pinned (OpenSpec.ofChange proofComesSpec)

/-- ITS FALSE NEIGHBOUR: 'it returns false'. Refute it at one input. -/
def proofComesWrong : ChangeSpec := { name := "proofComes", fn := fun _ => fun
  | [d1, d2, d3, d4, d5, d6] => { results := [.lit (.bool false)], args := [d1, d2, d3, d4, d5, d6] }
  | _ => none }
def ProofComesWrongFalsely : Prop := proofComesRow.holds Tryd.pinned (OpenSpec.ofChange proofComesWrong)

/-- 'inspeximuslaw06.ProofHolds': WHATEVER THE INPUT: true; the input reads as it did. -/
def proofHoldsSpec : ChangeSpec := { name := "proofHolds", fn := fun _ => fun
  | [d1, d2, d3] => { results := [.lit (.bool true)], args := [d1, d2, d3] }
  | _ => none }
def proofHoldsRow : OpenClaim := { program := "ytkfplliipogagaadoor", sum := "2a73e11a0443e38765114912a869174448c942e0baf96bcc396b88a360f3bb3f", func := "inspeximus/inspeximuslaw06.ProofHolds", spec := "proofHolds", unfollowed := true, recurses := true, named := ["inspeximus/api.First", "inspeximus/api.K"], apart := false, laid := [("inspeximus/api.K", laid_inspeximus_api_K), ("inspeximus/api.First", laid_inspeximus_api_First)] }
def ProofHoldsSaid : Prop := proofHoldsRow.holds Tryd.pinned (OpenSpec.ofChange proofHoldsSpec)

/-- ITS FALSE NEIGHBOUR: 'it returns false'. Refute it at one input. -/
def proofHoldsWrong : ChangeSpec := { name := "proofHolds", fn := fun _ => fun
  | [d1, d2, d3] => { results := [.lit (.bool false)], args := [d1, d2, d3] }
  | _ => none }
def ProofHoldsWrongFalsely : Prop := proofHoldsRow.holds Tryd.pinned (OpenSpec.ofChange proofHoldsWrong)

/-- 'inspeximuslaw06.ProofLong': WHATEVER THE INPUT: true; the input reads as it did. -/
def proofLongSpec : ChangeSpec := { name := "proofLong", fn := fun _ => fun
  | [d1, d2, d3] => { results := [.lit (.bool true)], args := [d1, d2, d3] }
  | _ => none }
def proofLongRow : OpenClaim := { program := "ytkfplliipogagaadoor", sum := "2a73e11a0443e38765114912a869174448c942e0baf96bcc396b88a360f3bb3f", func := "inspeximus/inspeximuslaw06.ProofLong", spec := "proofLong", unfollowed := true, recurses := true, named := ["inspeximus/api.First", "inspeximus/api.K"], apart := false, laid := [("inspeximus/api.K", laid_inspeximus_api_K), ("inspeximus/api.First", laid_inspeximus_api_First)] }
def ProofLongSaid : Prop := proofLongRow.holds Tryd.pinned (OpenSpec.ofChange proofLongSpec)

/-- ITS FALSE NEIGHBOUR: 'it returns false'. Refute it at one input. -/
def proofLongWrong : ChangeSpec := { name := "proofLong", fn := fun _ => fun
  | [d1, d2, d3] => { results := [.lit (.bool false)], args := [d1, d2, d3] }
  | _ => none }
def ProofLongWrongFalsely : Prop := proofLongRow.holds Tryd.pinned (OpenSpec.ofChange proofLongWrong)

/-- 'inspeximuslaw06.ProofSame': WHATEVER THE INPUT: true; the input reads as it did. -/
def proofSameSpec : ChangeSpec := { name := "proofSame", fn := fun _ => fun
  | [d1, d2, d3] => { results := [.lit (.bool true)], args := [d1, d2, d3] }
  | _ => none }
def proofSameRow : OpenClaim := { program := "ytkfplliipogagaadoor", sum := "2a73e11a0443e38765114912a869174448c942e0baf96bcc396b88a360f3bb3f", func := "inspeximus/inspeximuslaw06.ProofSame", spec := "proofSame", unfollowed := true, recurses := true, named := ["inspeximus/api.First", "inspeximus/api.K"], apart := false, laid := [("inspeximus/api.K", laid_inspeximus_api_K), ("inspeximus/api.First", laid_inspeximus_api_First)] }
def ProofSameSaid : Prop := proofSameRow.holds Tryd.pinned (OpenSpec.ofChange proofSameSpec)

/-- ITS FALSE NEIGHBOUR: 'it returns false'. Refute it at one input. -/
def proofSameWrong : ChangeSpec := { name := "proofSame", fn := fun _ => fun
  | [d1, d2, d3] => { results := [.lit (.bool false)], args := [d1, d2, d3] }
  | _ => none }
def ProofSameWrongFalsely : Prop := proofSameRow.holds Tryd.pinned (OpenSpec.ofChange proofSameWrong)

/-- 'inspeximuslaw06.ProofChain': WHATEVER THE INPUT: true; the input reads as it did. -/
def proofChainSpec : ChangeSpec := { name := "proofChain", fn := fun _ => fun
  | [d1, d2, d3] => { results := [.lit (.bool true)], args := [d1, d2, d3] }
  | _ => none }
def proofChainRow : OpenClaim := { program := "ytkfplliipogagaadoor", sum := "2a73e11a0443e38765114912a869174448c942e0baf96bcc396b88a360f3bb3f", func := "inspeximus/inspeximuslaw06.ProofChain", spec := "proofChain", unfollowed := true, recurses := true, named := ["inspeximus/api.First", "inspeximus/api.K"], apart := false, laid := [("inspeximus/api.K", laid_inspeximus_api_K), ("inspeximus/api.First", laid_inspeximus_api_First)] }
def ProofChainSaid : Prop := proofChainRow.holds Tryd.pinned (OpenSpec.ofChange proofChainSpec)

/-- ITS FALSE NEIGHBOUR: 'it returns false'. Refute it at one input. -/
def proofChainWrong : ChangeSpec := { name := "proofChain", fn := fun _ => fun
  | [d1, d2, d3] => { results := [.lit (.bool false)], args := [d1, d2, d3] }
  | _ => none }
def ProofChainWrongFalsely : Prop := proofChainRow.holds Tryd.pinned (OpenSpec.ofChange proofChainWrong)

/-- 'inspeximuslaw06.ProofEnds': WHATEVER THE INPUT: true; the input reads as it did. -/
def proofEndsSpec : ChangeSpec := { name := "proofEnds", fn := fun _ => fun
  | [d1, d2] => { results := [.lit (.bool true)], args := [d1, d2] }
  | _ => none }
def proofEndsRow : OpenClaim := { program := "ytkfplliipogagaadoor", sum := "2a73e11a0443e38765114912a869174448c942e0baf96bcc396b88a360f3bb3f", func := "inspeximus/inspeximuslaw06.ProofEnds", spec := "proofEnds", unfollowed := true, recurses := true, named := ["inspeximus/api.First", "inspeximus/api.K"], apart := false, laid := [("inspeximus/api.K", laid_inspeximus_api_K), ("inspeximus/api.First", laid_inspeximus_api_First)] }
def ProofEndsSaid : Prop := proofEndsRow.holds Tryd.pinned (OpenSpec.ofChange proofEndsSpec)

/-- ITS FALSE NEIGHBOUR: 'it returns false'. Refute it at one input. -/
def proofEndsWrong : ChangeSpec := { name := "proofEnds", fn := fun _ => fun
  | [d1, d2] => { results := [.lit (.bool false)], args := [d1, d2] }
  | _ => none }
def ProofEndsWrongFalsely : Prop := proofEndsRow.holds Tryd.pinned (OpenSpec.ofChange proofEndsWrong)

/- THE SECOND FORM. 'bulk': how many values and letters a reading holds, each counted each time it is reached (what is shared counts as often as it is met; a slice's spare places count too). A statement '..UptoSaid' is the law's where the arguments, and the package variables that the reading takes, are together of bulk at most 1048576: NARROWER than '..Said'. Prove '..Said' where nothing that the law and all that it calls make is longer than what came in: it says more and counts as full. Else prove '..UptoSaid'. A law counts once. -/
mutual
def uptoBulk {H : Type} : DataW H → Nat
  | .lit (.string bytes) => bytes.length + 1
  | .lit _ => 1
  | .nil => 1
  | .ptr d => uptoBulk d + 1
  | .slice elems spare => uptoBulkAll elems + uptoBulkAll spare + 1
  | .agg parts => uptoBulkAll parts + 1
  | .iface _ d => uptoBulk d + 1
  | .map entries => uptoBulkEntries entries + 1
  | .held _ => 1
def uptoBulkAll {H : Type} : List (DataW H) → Nat
  | [] => 0
  | d :: r => uptoBulk d + uptoBulkAll r
def uptoBulkEntries {H : Type} : List (Lit × DataW H) → Nat
  | [] => 0
  | x :: r => uptoBulkEntry x + uptoBulkEntries r
def uptoBulkEntry {H : Type} : Lit × DataW H → Nat
  | (.string bytes, d) => bytes.length + uptoBulk d + 1
  | (_, d) => uptoBulk d + 1
 end
def uptoSmall : (H : Type) → List (DataW H) → Bool := fun _ ds => decide (uptoBulkAll ds ≤ 1048576)
def OpenSpec.upto (s : _root_.Go.ChangeSpec) : _root_.Go.OpenSpec := { _root_.Go.OpenSpec.ofChange s with cond := some uptoSmall }

/-- 'inspeximuslaw05.TreeHashes', WHERE WHAT IT READS IS OF BULK AT MOST 1048576: true; the input reads as it did. -/
def treeHashesUptoRow : OpenClaim := { program := "ytkfplliipogagaadoor", sum := "2a73e11a0443e38765114912a869174448c942e0baf96bcc396b88a360f3bb3f", func := "inspeximus/inspeximuslaw05.TreeHashes", spec := "treeHashes", unfollowed := true, recurses := true, named := ["inspeximus/api.First", "inspeximus/api.K", "inspeximus/sha.digits"], apart := false, laid := [("inspeximus/api.K", laid_inspeximus_api_K), ("inspeximus/api.First", laid_inspeximus_api_First), ("inspeximus/sha.digits", laid_inspeximus_sha_digits)], narrowed := true }
def TreeHashesUptoSaid : Prop := treeHashesUptoRow.holds Tryd.pinned (OpenSpec.upto treeHashesSpec)

/-- 'inspeximuslaw05.TreeRoots', WHERE WHAT IT READS IS OF BULK AT MOST 1048576: true; the input reads as it did. -/
def treeRootsUptoRow : OpenClaim := { program := "ytkfplliipogagaadoor", sum := "2a73e11a0443e38765114912a869174448c942e0baf96bcc396b88a360f3bb3f", func := "inspeximus/inspeximuslaw05.TreeRoots", spec := "treeRoots", unfollowed := true, recurses := true, named := ["inspeximus/api.First", "inspeximus/api.K", "inspeximus/sha.digits"], apart := false, laid := [("inspeximus/api.K", laid_inspeximus_api_K), ("inspeximus/api.First", laid_inspeximus_api_First), ("inspeximus/sha.digits", laid_inspeximus_sha_digits)], narrowed := true }
def TreeRootsUptoSaid : Prop := treeRootsUptoRow.holds Tryd.pinned (OpenSpec.upto treeRootsSpec)

/-- 'inspeximuslaw05.TreeFronts', WHERE WHAT IT READS IS OF BULK AT MOST 1048576: true; the input reads as it did. -/
def treeFrontsUptoRow : OpenClaim := { program := "ytkfplliipogagaadoor", sum := "2a73e11a0443e38765114912a869174448c942e0baf96bcc396b88a360f3bb3f", func := "inspeximus/inspeximuslaw05.TreeFronts", spec := "treeFronts", unfollowed := true, recurses := true, named := ["inspeximus/api.First", "inspeximus/api.K", "inspeximus/sha.digits"], apart := false, laid := [("inspeximus/api.K", laid_inspeximus_api_K), ("inspeximus/api.First", laid_inspeximus_api_First), ("inspeximus/sha.digits", laid_inspeximus_sha_digits)], narrowed := true }
def TreeFrontsUptoSaid : Prop := treeFrontsUptoRow.holds Tryd.pinned (OpenSpec.upto treeFrontsSpec)

/-- 'inspeximuslaw05.TreeHalves', WHERE WHAT IT READS IS OF BULK AT MOST 1048576: true; the input reads as it did. -/
def treeHalvesUptoRow : OpenClaim := { program := "ytkfplliipogagaadoor", sum := "2a73e11a0443e38765114912a869174448c942e0baf96bcc396b88a360f3bb3f", func := "inspeximus/inspeximuslaw05.TreeHalves", spec := "treeHalves", unfollowed := true, recurses := true, named := ["inspeximus/api.First", "inspeximus/api.K", "inspeximus/sha.digits"], apart := false, laid := [("inspeximus/api.K", laid_inspeximus_api_K), ("inspeximus/api.First", laid_inspeximus_api_First), ("inspeximus/sha.digits", laid_inspeximus_sha_digits)], narrowed := true }
def TreeHalvesUptoSaid : Prop := treeHalvesUptoRow.holds Tryd.pinned (OpenSpec.upto treeHalvesSpec)

/-- 'inspeximuslaw05.TreeGrows', WHERE WHAT IT READS IS OF BULK AT MOST 1048576: true; the input reads as it did. -/
def treeGrowsUptoRow : OpenClaim := { program := "ytkfplliipogagaadoor", sum := "2a73e11a0443e38765114912a869174448c942e0baf96bcc396b88a360f3bb3f", func := "inspeximus/inspeximuslaw05.TreeGrows", spec := "treeGrows", unfollowed := true, recurses := true, named := ["inspeximus/api.First", "inspeximus/api.K", "inspeximus/sha.digits"], apart := false, laid := [("inspeximus/api.K", laid_inspeximus_api_K), ("inspeximus/api.First", laid_inspeximus_api_First), ("inspeximus/sha.digits", laid_inspeximus_sha_digits)], narrowed := true }
def TreeGrowsUptoSaid : Prop := treeGrowsUptoRow.holds Tryd.pinned (OpenSpec.upto treeGrowsSpec)

/-- 'inspeximuslaw05.TreePairs', WHERE WHAT IT READS IS OF BULK AT MOST 1048576: true; the input reads as it did. -/
def treePairsUptoRow : OpenClaim := { program := "ytkfplliipogagaadoor", sum := "2a73e11a0443e38765114912a869174448c942e0baf96bcc396b88a360f3bb3f", func := "inspeximus/inspeximuslaw05.TreePairs", spec := "treePairs", unfollowed := true, recurses := true, named := ["inspeximus/api.First", "inspeximus/api.K", "inspeximus/sha.digits"], apart := false, laid := [("inspeximus/api.K", laid_inspeximus_api_K), ("inspeximus/api.First", laid_inspeximus_api_First), ("inspeximus/sha.digits", laid_inspeximus_sha_digits)], narrowed := true }
def TreePairsUptoSaid : Prop := treePairsUptoRow.holds Tryd.pinned (OpenSpec.upto treePairsSpec)

/-- 'inspeximuslaw06.ProofPaths', WHERE WHAT IT READS IS OF BULK AT MOST 1048576: true; the input reads as it did. -/
def proofPathsUptoRow : OpenClaim := { program := "ytkfplliipogagaadoor", sum := "2a73e11a0443e38765114912a869174448c942e0baf96bcc396b88a360f3bb3f", func := "inspeximus/inspeximuslaw06.ProofPaths", spec := "proofPaths", unfollowed := true, recurses := true, named := ["inspeximus/api.First", "inspeximus/api.K"], apart := false, laid := [("inspeximus/api.K", laid_inspeximus_api_K), ("inspeximus/api.First", laid_inspeximus_api_First)], narrowed := true }
def ProofPathsUptoSaid : Prop := proofPathsUptoRow.holds Tryd.pinned (OpenSpec.upto proofPathsSpec)

/-- 'inspeximuslaw06.ProofComes', WHERE WHAT IT READS IS OF BULK AT MOST 1048576: true; the input reads as it did. -/
def proofComesUptoRow : OpenClaim := { program := "ytkfplliipogagaadoor", sum := "2a73e11a0443e38765114912a869174448c942e0baf96bcc396b88a360f3bb3f", func := "inspeximus/inspeximuslaw06.ProofComes", spec := "proofComes", unfollowed := true, recurses := true, named := ["inspeximus/api.First", "inspeximus/api.K"], apart := false, laid := [("inspeximus/api.K", laid_inspeximus_api_K), ("inspeximus/api.First", laid_inspeximus_api_First)], narrowed := true }
def ProofComesUptoSaid : Prop := proofComesUptoRow.holds Tryd.pinned (OpenSpec.upto proofComesSpec)

/-- 'inspeximuslaw06.ProofHolds', WHERE WHAT IT READS IS OF BULK AT MOST 1048576: true; the input reads as it did. -/
def proofHoldsUptoRow : OpenClaim := { program := "ytkfplliipogagaadoor", sum := "2a73e11a0443e38765114912a869174448c942e0baf96bcc396b88a360f3bb3f", func := "inspeximus/inspeximuslaw06.ProofHolds", spec := "proofHolds", unfollowed := true, recurses := true, named := ["inspeximus/api.First", "inspeximus/api.K"], apart := false, laid := [("inspeximus/api.K", laid_inspeximus_api_K), ("inspeximus/api.First", laid_inspeximus_api_First)], narrowed := true }
def ProofHoldsUptoSaid : Prop := proofHoldsUptoRow.holds Tryd.pinned (OpenSpec.upto proofHoldsSpec)

/-- 'inspeximuslaw06.ProofLong', WHERE WHAT IT READS IS OF BULK AT MOST 1048576: true; the input reads as it did. -/
def proofLongUptoRow : OpenClaim := { program := "ytkfplliipogagaadoor", sum := "2a73e11a0443e38765114912a869174448c942e0baf96bcc396b88a360f3bb3f", func := "inspeximus/inspeximuslaw06.ProofLong", spec := "proofLong", unfollowed := true, recurses := true, named := ["inspeximus/api.First", "inspeximus/api.K"], apart := false, laid := [("inspeximus/api.K", laid_inspeximus_api_K), ("inspeximus/api.First", laid_inspeximus_api_First)], narrowed := true }
def ProofLongUptoSaid : Prop := proofLongUptoRow.holds Tryd.pinned (OpenSpec.upto proofLongSpec)

/-- 'inspeximuslaw06.ProofSame', WHERE WHAT IT READS IS OF BULK AT MOST 1048576: true; the input reads as it did. -/
def proofSameUptoRow : OpenClaim := { program := "ytkfplliipogagaadoor", sum := "2a73e11a0443e38765114912a869174448c942e0baf96bcc396b88a360f3bb3f", func := "inspeximus/inspeximuslaw06.ProofSame", spec := "proofSame", unfollowed := true, recurses := true, named := ["inspeximus/api.First", "inspeximus/api.K"], apart := false, laid := [("inspeximus/api.K", laid_inspeximus_api_K), ("inspeximus/api.First", laid_inspeximus_api_First)], narrowed := true }
def ProofSameUptoSaid : Prop := proofSameUptoRow.holds Tryd.pinned (OpenSpec.upto proofSameSpec)

/-- 'inspeximuslaw06.ProofChain', WHERE WHAT IT READS IS OF BULK AT MOST 1048576: true; the input reads as it did. -/
def proofChainUptoRow : OpenClaim := { program := "ytkfplliipogagaadoor", sum := "2a73e11a0443e38765114912a869174448c942e0baf96bcc396b88a360f3bb3f", func := "inspeximus/inspeximuslaw06.ProofChain", spec := "proofChain", unfollowed := true, recurses := true, named := ["inspeximus/api.First", "inspeximus/api.K"], apart := false, laid := [("inspeximus/api.K", laid_inspeximus_api_K), ("inspeximus/api.First", laid_inspeximus_api_First)], narrowed := true }
def ProofChainUptoSaid : Prop := proofChainUptoRow.holds Tryd.pinned (OpenSpec.upto proofChainSpec)

/-- 'inspeximuslaw06.ProofEnds', WHERE WHAT IT READS IS OF BULK AT MOST 1048576: true; the input reads as it did. -/
def proofEndsUptoRow : OpenClaim := { program := "ytkfplliipogagaadoor", sum := "2a73e11a0443e38765114912a869174448c942e0baf96bcc396b88a360f3bb3f", func := "inspeximus/inspeximuslaw06.ProofEnds", spec := "proofEnds", unfollowed := true, recurses := true, named := ["inspeximus/api.First", "inspeximus/api.K"], apart := false, laid := [("inspeximus/api.K", laid_inspeximus_api_K), ("inspeximus/api.First", laid_inspeximus_api_First)], narrowed := true }
def ProofEndsUptoSaid : Prop := proofEndsUptoRow.holds Tryd.pinned (OpenSpec.upto proofEndsSpec)

end Rows
end Go.Proofs.YtkfplliipogagaaDoor
