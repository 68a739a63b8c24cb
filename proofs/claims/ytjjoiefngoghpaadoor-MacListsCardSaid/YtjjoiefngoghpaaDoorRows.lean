/-
  NARROWER THAN 'FOR EVERY INPUT', by the rows' own cells (each row's printed sentence says how): ShaTurns: laid · ShaSums: laid · ShaParts: laid · ShaFills: laid · ShaBlocks: laid · ShaHex: laid · MacTags: laid · MacOf: laid · MacParts: laid · MacLists: laid · MacWords: laid · MacFilled: laid.
  DERIVED. THE GIVEN ROWS OF THIS SEAT. 12 by the template 'for every input the law returns true; each argument reads behind the call as it read before'; 0 by the template 'total and deterministic' (their statements: YtjjoiefngoghpaaDoorTotals.lean).
  GIVEN WITH THE SEED: the statements are not yours to turn. If you find one false, say at which input.
  Laid BY PROGRAM, IN A SANDBOX (cutbox-rows.mjs): the forced cells as the released guide's own fill.sh prints them over the translation bb88483d7b74ca36… (all of the seat's roots in one cut). By AI agents, Wed Nov 11 2026. No macro, syntax, notation, axiom, sorry.
-/
import Derived.Test.YtjjoiefngoghpaaDoorChecked
import GoSem.Claim
import GoSem.ClaimJoined
import GoSem.ClaimMapViews
import Derived.JoinedTies
import Derived.KernelRfl
namespace Go.Proofs.YtjjoiefngoghpaaDoor
/- THE CELL 'sum', in the pinned program and in every row, IS THE sha256 OF THE DUMP (.gsa) THAT YtjjoiefngoghpaaDoorProg.lean LOADS. Nothing in Lean hashes anything: it is a label: what it is worth is what the hold of that sum in a sandbox is worth. -/
noncomputable def Tryd.pinned : Pinned := { name := "ytjjoiefngoghpaadoor", sum := "bb88483d7b74ca3659e3dac4563d3aede68b32596e9008fb5f98d9b647d96966", checked := Tryd.checked }
namespace Rows
def none {H : Type} : Left H := { results := [], args := [] }

/- WHAT THE LISTED PACKAGE-LEVEL VARIABLES READ AS WHEN THE CALL BEGINS. Each datum BY PROGRAM (the guide's laid-datum.mjs) off the statement by which the dump's own 'gosem.cut.vars' lays the variable. In a bare row this is a premise. The card (YtjjoiefngoghpaaDoorCards.lean) ties it to the program's text. -/
def laid_inspeximus_api_K {H : Type} : DataW H := .agg [.lit (.int .u32 1116352408), .lit (.int .u32 1899447441), .lit (.int .u32 3049323471), .lit (.int .u32 3921009573), .lit (.int .u32 961987163), .lit (.int .u32 1508970993), .lit (.int .u32 2453635748), .lit (.int .u32 2870763221), .lit (.int .u32 3624381080), .lit (.int .u32 310598401), .lit (.int .u32 607225278), .lit (.int .u32 1426881987), .lit (.int .u32 1925078388), .lit (.int .u32 2162078206), .lit (.int .u32 2614888103), .lit (.int .u32 3248222580), .lit (.int .u32 3835390401), .lit (.int .u32 4022224774), .lit (.int .u32 264347078), .lit (.int .u32 604807628), .lit (.int .u32 770255983), .lit (.int .u32 1249150122), .lit (.int .u32 1555081692), .lit (.int .u32 1996064986), .lit (.int .u32 2554220882), .lit (.int .u32 2821834349), .lit (.int .u32 2952996808), .lit (.int .u32 3210313671), .lit (.int .u32 3336571891), .lit (.int .u32 3584528711), .lit (.int .u32 113926993), .lit (.int .u32 338241895), .lit (.int .u32 666307205), .lit (.int .u32 773529912), .lit (.int .u32 1294757372), .lit (.int .u32 1396182291), .lit (.int .u32 1695183700), .lit (.int .u32 1986661051), .lit (.int .u32 2177026350), .lit (.int .u32 2456956037), .lit (.int .u32 2730485921), .lit (.int .u32 2820302411), .lit (.int .u32 3259730800), .lit (.int .u32 3345764771), .lit (.int .u32 3516065817), .lit (.int .u32 3600352804), .lit (.int .u32 4094571909), .lit (.int .u32 275423344), .lit (.int .u32 430227734), .lit (.int .u32 506948616), .lit (.int .u32 659060556), .lit (.int .u32 883997877), .lit (.int .u32 958139571), .lit (.int .u32 1322822218), .lit (.int .u32 1537002063), .lit (.int .u32 1747873779), .lit (.int .u32 1955562222), .lit (.int .u32 2024104815), .lit (.int .u32 2227730452), .lit (.int .u32 2361852424), .lit (.int .u32 2428436474), .lit (.int .u32 2756734187), .lit (.int .u32 3204031479), .lit (.int .u32 3329325298)]
def laid_inspeximus_api_First {H : Type} : DataW H := .agg [.lit (.int .u32 1779033703), .lit (.int .u32 3144134277), .lit (.int .u32 1013904242), .lit (.int .u32 2773480762), .lit (.int .u32 1359893119), .lit (.int .u32 2600822924), .lit (.int .u32 528734635), .lit (.int .u32 1541459225)]
def laid_inspeximus_sha_digits {H : Type} : DataW H := .agg [.lit (.int .u8 48), .lit (.int .u8 49), .lit (.int .u8 50), .lit (.int .u8 51), .lit (.int .u8 52), .lit (.int .u8 53), .lit (.int .u8 54), .lit (.int .u8 55), .lit (.int .u8 56), .lit (.int .u8 57), .lit (.int .u8 97), .lit (.int .u8 98), .lit (.int .u8 99), .lit (.int .u8 100), .lit (.int .u8 101), .lit (.int .u8 102)]

/-- 'inspeximuslaw01.ShaTurns': WHATEVER THE INPUT: true; the input reads as it did. -/
def shaTurnsSpec : ChangeSpec := { name := "shaTurns", fn := fun _ => fun
  | [d1, d2, d3] => { results := [.lit (.bool true)], args := [d1, d2, d3] }
  | _ => none }
def shaTurnsRow : OpenClaim := { program := "ytjjoiefngoghpaadoor", sum := "bb88483d7b74ca3659e3dac4563d3aede68b32596e9008fb5f98d9b647d96966", func := "inspeximus/inspeximuslaw01.ShaTurns", spec := "shaTurns", unfollowed := true, recurses := true, named := ["inspeximus/api.First", "inspeximus/api.K", "inspeximus/sha.digits"], apart := false, laid := [("inspeximus/api.K", laid_inspeximus_api_K), ("inspeximus/api.First", laid_inspeximus_api_First), ("inspeximus/sha.digits", laid_inspeximus_sha_digits)] }
def ShaTurnsSaid : Prop := shaTurnsRow.holds Tryd.pinned (OpenSpec.ofChange shaTurnsSpec)

/-- ITS FALSE NEIGHBOUR: 'it returns false'. Refute it at one input. -/
def shaTurnsWrong : ChangeSpec := { name := "shaTurns", fn := fun _ => fun
  | [d1, d2, d3] => { results := [.lit (.bool false)], args := [d1, d2, d3] }
  | _ => none }
def ShaTurnsWrongFalsely : Prop := shaTurnsRow.holds Tryd.pinned (OpenSpec.ofChange shaTurnsWrong)

/-- 'inspeximuslaw01.ShaSums': WHATEVER THE INPUT: true; the input reads as it did. -/
def shaSumsSpec : ChangeSpec := { name := "shaSums", fn := fun _ => fun
  | [d1, d2] => { results := [.lit (.bool true)], args := [d1, d2] }
  | _ => none }
def shaSumsRow : OpenClaim := { program := "ytjjoiefngoghpaadoor", sum := "bb88483d7b74ca3659e3dac4563d3aede68b32596e9008fb5f98d9b647d96966", func := "inspeximus/inspeximuslaw01.ShaSums", spec := "shaSums", unfollowed := true, recurses := true, named := ["inspeximus/api.First", "inspeximus/api.K", "inspeximus/sha.digits"], apart := false, laid := [("inspeximus/api.K", laid_inspeximus_api_K), ("inspeximus/api.First", laid_inspeximus_api_First), ("inspeximus/sha.digits", laid_inspeximus_sha_digits)] }
def ShaSumsSaid : Prop := shaSumsRow.holds Tryd.pinned (OpenSpec.ofChange shaSumsSpec)

/-- ITS FALSE NEIGHBOUR: 'it returns false'. Refute it at one input. -/
def shaSumsWrong : ChangeSpec := { name := "shaSums", fn := fun _ => fun
  | [d1, d2] => { results := [.lit (.bool false)], args := [d1, d2] }
  | _ => none }
def ShaSumsWrongFalsely : Prop := shaSumsRow.holds Tryd.pinned (OpenSpec.ofChange shaSumsWrong)

/-- 'inspeximuslaw01.ShaParts': WHATEVER THE INPUT: true; the input reads as it did. -/
def shaPartsSpec : ChangeSpec := { name := "shaParts", fn := fun _ => fun
  | [d1, d2, d3] => { results := [.lit (.bool true)], args := [d1, d2, d3] }
  | _ => none }
def shaPartsRow : OpenClaim := { program := "ytjjoiefngoghpaadoor", sum := "bb88483d7b74ca3659e3dac4563d3aede68b32596e9008fb5f98d9b647d96966", func := "inspeximus/inspeximuslaw01.ShaParts", spec := "shaParts", unfollowed := true, recurses := true, named := ["inspeximus/api.First", "inspeximus/api.K", "inspeximus/sha.digits"], apart := false, laid := [("inspeximus/api.K", laid_inspeximus_api_K), ("inspeximus/api.First", laid_inspeximus_api_First), ("inspeximus/sha.digits", laid_inspeximus_sha_digits)] }
def ShaPartsSaid : Prop := shaPartsRow.holds Tryd.pinned (OpenSpec.ofChange shaPartsSpec)

/-- ITS FALSE NEIGHBOUR: 'it returns false'. Refute it at one input. -/
def shaPartsWrong : ChangeSpec := { name := "shaParts", fn := fun _ => fun
  | [d1, d2, d3] => { results := [.lit (.bool false)], args := [d1, d2, d3] }
  | _ => none }
def ShaPartsWrongFalsely : Prop := shaPartsRow.holds Tryd.pinned (OpenSpec.ofChange shaPartsWrong)

/-- 'inspeximuslaw01.ShaFills': WHATEVER THE INPUT: true; the input reads as it did. -/
def shaFillsSpec : ChangeSpec := { name := "shaFills", fn := fun _ => fun
  | [d] => { results := [.lit (.bool true)], args := [d] }
  | _ => none }
def shaFillsRow : OpenClaim := { program := "ytjjoiefngoghpaadoor", sum := "bb88483d7b74ca3659e3dac4563d3aede68b32596e9008fb5f98d9b647d96966", func := "inspeximus/inspeximuslaw01.ShaFills", spec := "shaFills", unfollowed := true, recurses := true, named := ["inspeximus/api.First", "inspeximus/api.K", "inspeximus/sha.digits"], apart := false, laid := [("inspeximus/api.K", laid_inspeximus_api_K), ("inspeximus/api.First", laid_inspeximus_api_First), ("inspeximus/sha.digits", laid_inspeximus_sha_digits)] }
def ShaFillsSaid : Prop := shaFillsRow.holds Tryd.pinned (OpenSpec.ofChange shaFillsSpec)

/-- ITS FALSE NEIGHBOUR: 'it returns false'. Refute it at one input. -/
def shaFillsWrong : ChangeSpec := { name := "shaFills", fn := fun _ => fun
  | [d] => { results := [.lit (.bool false)], args := [d] }
  | _ => none }
def ShaFillsWrongFalsely : Prop := shaFillsRow.holds Tryd.pinned (OpenSpec.ofChange shaFillsWrong)

/-- 'inspeximuslaw01.ShaBlocks': WHATEVER THE INPUT: true; the input reads as it did. -/
def shaBlocksSpec : ChangeSpec := { name := "shaBlocks", fn := fun _ => fun
  | [d1, d2] => { results := [.lit (.bool true)], args := [d1, d2] }
  | _ => none }
def shaBlocksRow : OpenClaim := { program := "ytjjoiefngoghpaadoor", sum := "bb88483d7b74ca3659e3dac4563d3aede68b32596e9008fb5f98d9b647d96966", func := "inspeximus/inspeximuslaw01.ShaBlocks", spec := "shaBlocks", unfollowed := true, recurses := true, named := ["inspeximus/api.First", "inspeximus/api.K", "inspeximus/sha.digits"], apart := false, laid := [("inspeximus/api.K", laid_inspeximus_api_K), ("inspeximus/api.First", laid_inspeximus_api_First), ("inspeximus/sha.digits", laid_inspeximus_sha_digits)] }
def ShaBlocksSaid : Prop := shaBlocksRow.holds Tryd.pinned (OpenSpec.ofChange shaBlocksSpec)

/-- ITS FALSE NEIGHBOUR: 'it returns false'. Refute it at one input. -/
def shaBlocksWrong : ChangeSpec := { name := "shaBlocks", fn := fun _ => fun
  | [d1, d2] => { results := [.lit (.bool false)], args := [d1, d2] }
  | _ => none }
def ShaBlocksWrongFalsely : Prop := shaBlocksRow.holds Tryd.pinned (OpenSpec.ofChange shaBlocksWrong)

/-- 'inspeximuslaw01.ShaHex': WHATEVER THE INPUT: true; the input reads as it did. -/
def shaHexSpec : ChangeSpec := { name := "shaHex", fn := fun _ => fun
  | [d] => { results := [.lit (.bool true)], args := [d] }
  | _ => none }
def shaHexRow : OpenClaim := { program := "ytjjoiefngoghpaadoor", sum := "bb88483d7b74ca3659e3dac4563d3aede68b32596e9008fb5f98d9b647d96966", func := "inspeximus/inspeximuslaw01.ShaHex", spec := "shaHex", unfollowed := true, recurses := true, named := ["inspeximus/api.First", "inspeximus/api.K", "inspeximus/sha.digits"], apart := false, laid := [("inspeximus/api.K", laid_inspeximus_api_K), ("inspeximus/api.First", laid_inspeximus_api_First), ("inspeximus/sha.digits", laid_inspeximus_sha_digits)] }
def ShaHexSaid : Prop := shaHexRow.holds Tryd.pinned (OpenSpec.ofChange shaHexSpec)

/-- ITS FALSE NEIGHBOUR: 'it returns false'. Refute it at one input. -/
def shaHexWrong : ChangeSpec := { name := "shaHex", fn := fun _ => fun
  | [d] => { results := [.lit (.bool false)], args := [d] }
  | _ => none }
def ShaHexWrongFalsely : Prop := shaHexRow.holds Tryd.pinned (OpenSpec.ofChange shaHexWrong)

/-- 'inspeximuslaw02.MacTags': WHATEVER THE INPUT: true; the input reads as it did. -/
def macTagsSpec : ChangeSpec := { name := "macTags", fn := fun _ => fun
  | [d1, d2, d3, d4] => { results := [.lit (.bool true)], args := [d1, d2, d3, d4] }
  | _ => none }
def macTagsRow : OpenClaim := { program := "ytjjoiefngoghpaadoor", sum := "bb88483d7b74ca3659e3dac4563d3aede68b32596e9008fb5f98d9b647d96966", func := "inspeximus/inspeximuslaw02.MacTags", spec := "macTags", unfollowed := true, recurses := true, named := ["inspeximus/api.First", "inspeximus/api.K", "inspeximus/sha.digits"], apart := false, laid := [("inspeximus/api.K", laid_inspeximus_api_K), ("inspeximus/api.First", laid_inspeximus_api_First), ("inspeximus/sha.digits", laid_inspeximus_sha_digits)] }
def MacTagsSaid : Prop := macTagsRow.holds Tryd.pinned (OpenSpec.ofChange macTagsSpec)

/-- ITS FALSE NEIGHBOUR: 'it returns false'. Refute it at one input. -/
def macTagsWrong : ChangeSpec := { name := "macTags", fn := fun _ => fun
  | [d1, d2, d3, d4] => { results := [.lit (.bool false)], args := [d1, d2, d3, d4] }
  | _ => none }
def MacTagsWrongFalsely : Prop := macTagsRow.holds Tryd.pinned (OpenSpec.ofChange macTagsWrong)

/-- 'inspeximuslaw02.MacOf': WHATEVER THE INPUT: true; the input reads as it did. -/
def macOfSpec : ChangeSpec := { name := "macOf", fn := fun _ => fun
  | [d1, d2, d3, d4] => { results := [.lit (.bool true)], args := [d1, d2, d3, d4] }
  | _ => none }
def macOfRow : OpenClaim := { program := "ytjjoiefngoghpaadoor", sum := "bb88483d7b74ca3659e3dac4563d3aede68b32596e9008fb5f98d9b647d96966", func := "inspeximus/inspeximuslaw02.MacOf", spec := "macOf", unfollowed := true, recurses := true, named := ["inspeximus/api.First", "inspeximus/api.K", "inspeximus/sha.digits"], apart := false, laid := [("inspeximus/api.K", laid_inspeximus_api_K), ("inspeximus/api.First", laid_inspeximus_api_First), ("inspeximus/sha.digits", laid_inspeximus_sha_digits)] }
def MacOfSaid : Prop := macOfRow.holds Tryd.pinned (OpenSpec.ofChange macOfSpec)

/-- ITS FALSE NEIGHBOUR: 'it returns false'. Refute it at one input. -/
def macOfWrong : ChangeSpec := { name := "macOf", fn := fun _ => fun
  | [d1, d2, d3, d4] => { results := [.lit (.bool false)], args := [d1, d2, d3, d4] }
  | _ => none }
def MacOfWrongFalsely : Prop := macOfRow.holds Tryd.pinned (OpenSpec.ofChange macOfWrong)

/-- 'inspeximuslaw02.MacParts': WHATEVER THE INPUT: true; the input reads as it did. -/
def macPartsSpec : ChangeSpec := { name := "macParts", fn := fun _ => fun
  | [d1, d2, d3] => { results := [.lit (.bool true)], args := [d1, d2, d3] }
  | _ => none }
def macPartsRow : OpenClaim := { program := "ytjjoiefngoghpaadoor", sum := "bb88483d7b74ca3659e3dac4563d3aede68b32596e9008fb5f98d9b647d96966", func := "inspeximus/inspeximuslaw02.MacParts", spec := "macParts", unfollowed := true, recurses := true, named := ["inspeximus/api.First", "inspeximus/api.K", "inspeximus/sha.digits"], apart := false, laid := [("inspeximus/api.K", laid_inspeximus_api_K), ("inspeximus/api.First", laid_inspeximus_api_First), ("inspeximus/sha.digits", laid_inspeximus_sha_digits)] }
def MacPartsSaid : Prop := macPartsRow.holds Tryd.pinned (OpenSpec.ofChange macPartsSpec)

/-- ITS FALSE NEIGHBOUR: 'it returns false'. Refute it at one input. -/
def macPartsWrong : ChangeSpec := { name := "macParts", fn := fun _ => fun
  | [d1, d2, d3] => { results := [.lit (.bool false)], args := [d1, d2, d3] }
  | _ => none }
def MacPartsWrongFalsely : Prop := macPartsRow.holds Tryd.pinned (OpenSpec.ofChange macPartsWrong)

/-- 'inspeximuslaw02.MacLists': WHATEVER THE INPUT: true; the input reads as it did. -/
def macListsSpec : ChangeSpec := { name := "macLists", fn := fun _ => fun
  | [d1, d2, d3, d4] => { results := [.lit (.bool true)], args := [d1, d2, d3, d4] }
  | _ => none }
def macListsRow : OpenClaim := { program := "ytjjoiefngoghpaadoor", sum := "bb88483d7b74ca3659e3dac4563d3aede68b32596e9008fb5f98d9b647d96966", func := "inspeximus/inspeximuslaw02.MacLists", spec := "macLists", unfollowed := true, recurses := true, named := ["inspeximus/api.First", "inspeximus/api.K", "inspeximus/sha.digits"], apart := false, laid := [("inspeximus/api.K", laid_inspeximus_api_K), ("inspeximus/api.First", laid_inspeximus_api_First), ("inspeximus/sha.digits", laid_inspeximus_sha_digits)] }
def MacListsSaid : Prop := macListsRow.holds Tryd.pinned (OpenSpec.ofChange macListsSpec)

/-- ITS FALSE NEIGHBOUR: 'it returns false'. Refute it at one input. -/
def macListsWrong : ChangeSpec := { name := "macLists", fn := fun _ => fun
  | [d1, d2, d3, d4] => { results := [.lit (.bool false)], args := [d1, d2, d3, d4] }
  | _ => none }
def MacListsWrongFalsely : Prop := macListsRow.holds Tryd.pinned (OpenSpec.ofChange macListsWrong)

/-- 'inspeximuslaw02.MacWords': WHATEVER THE INPUT: true; the input reads as it did. -/
def macWordsSpec : ChangeSpec := { name := "macWords", fn := fun _ => fun
  | [d1, d2, d3] => { results := [.lit (.bool true)], args := [d1, d2, d3] }
  | _ => none }
def macWordsRow : OpenClaim := { program := "ytjjoiefngoghpaadoor", sum := "bb88483d7b74ca3659e3dac4563d3aede68b32596e9008fb5f98d9b647d96966", func := "inspeximus/inspeximuslaw02.MacWords", spec := "macWords", unfollowed := true, recurses := true, named := ["inspeximus/api.First", "inspeximus/api.K", "inspeximus/sha.digits"], apart := false, laid := [("inspeximus/api.K", laid_inspeximus_api_K), ("inspeximus/api.First", laid_inspeximus_api_First), ("inspeximus/sha.digits", laid_inspeximus_sha_digits)] }
def MacWordsSaid : Prop := macWordsRow.holds Tryd.pinned (OpenSpec.ofChange macWordsSpec)

/-- ITS FALSE NEIGHBOUR: 'it returns false'. Refute it at one input. -/
def macWordsWrong : ChangeSpec := { name := "macWords", fn := fun _ => fun
  | [d1, d2, d3] => { results := [.lit (.bool false)], args := [d1, d2, d3] }
  | _ => none }
def MacWordsWrongFalsely : Prop := macWordsRow.holds Tryd.pinned (OpenSpec.ofChange macWordsWrong)

/-- 'inspeximuslaw02.MacFilled': WHATEVER THE INPUT: true; the input reads as it did. -/
def macFilledSpec : ChangeSpec := { name := "macFilled", fn := fun _ => fun
  | [d1, d2] => { results := [.lit (.bool true)], args := [d1, d2] }
  | _ => none }
def macFilledRow : OpenClaim := { program := "ytjjoiefngoghpaadoor", sum := "bb88483d7b74ca3659e3dac4563d3aede68b32596e9008fb5f98d9b647d96966", func := "inspeximus/inspeximuslaw02.MacFilled", spec := "macFilled", unfollowed := true, recurses := true, named := ["inspeximus/api.First", "inspeximus/api.K", "inspeximus/sha.digits"], apart := false, laid := [("inspeximus/api.K", laid_inspeximus_api_K), ("inspeximus/api.First", laid_inspeximus_api_First), ("inspeximus/sha.digits", laid_inspeximus_sha_digits)] }
def MacFilledSaid : Prop := macFilledRow.holds Tryd.pinned (OpenSpec.ofChange macFilledSpec)

/-- ITS FALSE NEIGHBOUR: 'it returns false'. Refute it at one input. -/
def macFilledWrong : ChangeSpec := { name := "macFilled", fn := fun _ => fun
  | [d1, d2] => { results := [.lit (.bool false)], args := [d1, d2] }
  | _ => none }
def MacFilledWrongFalsely : Prop := macFilledRow.holds Tryd.pinned (OpenSpec.ofChange macFilledWrong)

/- THE SECOND FORM. 'bulk': how many values and letters a reading holds, each counted each time it is reached (what is shared counts as often as it is met; a slice's spare places count too). A statement '..UptoSaid' is the law's where the arguments, and the package variables that the reading takes, are together of bulk at most 1048576: NARROWER than '..Said'. Prove '..Said' where nothing that the law and all that it calls make is longer than what came in: it says more and counts as full. Else prove '..UptoSaid'. A law counts once. -/
mutual
def uptoBulk {H : Type} : DataW H → Nat
  | .lit (.string bytes) => bytes.length + 1
  | .lit _ => 1
  | .nil => 1
  | .ptr d => uptoBulk d + 1
  | .slice elems spare => uptoBulkAll elems + uptoBulkAll spare + 1
  | .agg parts => uptoBulkAll parts + 1
  | .iface _ d => uptoBulk d + 1
  | .map entries => uptoBulkEntries entries + 1
  | .held _ => 1
def uptoBulkAll {H : Type} : List (DataW H) → Nat
  | [] => 0
  | d :: r => uptoBulk d + uptoBulkAll r
def uptoBulkEntries {H : Type} : List (Lit × DataW H) → Nat
  | [] => 0
  | x :: r => uptoBulkEntry x + uptoBulkEntries r
def uptoBulkEntry {H : Type} : Lit × DataW H → Nat
  | (.string bytes, d) => bytes.length + uptoBulk d + 1
  | (_, d) => uptoBulk d + 1
 end
def uptoSmall : (H : Type) → List (DataW H) → Bool := fun _ ds => decide (uptoBulkAll ds ≤ 1048576)
def OpenSpec.upto (s : _root_.Go.ChangeSpec) : _root_.Go.OpenSpec := { _root_.Go.OpenSpec.ofChange s with cond := some uptoSmall }

/-- 'inspeximuslaw01.ShaTurns', WHERE WHAT IT READS IS OF BULK AT MOST 1048576: true; the input reads as it did. -/
def shaTurnsUptoRow : OpenClaim := { program := "ytjjoiefngoghpaadoor", sum := "bb88483d7b74ca3659e3dac4563d3aede68b32596e9008fb5f98d9b647d96966", func := "inspeximus/inspeximuslaw01.ShaTurns", spec := "shaTurns", unfollowed := true, recurses := true, named := ["inspeximus/api.First", "inspeximus/api.K", "inspeximus/sha.digits"], apart := false, laid := [("inspeximus/api.K", laid_inspeximus_api_K), ("inspeximus/api.First", laid_inspeximus_api_First), ("inspeximus/sha.digits", laid_inspeximus_sha_digits)], narrowed := true }
def ShaTurnsUptoSaid : Prop := shaTurnsUptoRow.holds Tryd.pinned (OpenSpec.upto shaTurnsSpec)

/-- 'inspeximuslaw01.ShaSums', WHERE WHAT IT READS IS OF BULK AT MOST 1048576: true; the input reads as it did. -/
def shaSumsUptoRow : OpenClaim := { program := "ytjjoiefngoghpaadoor", sum := "bb88483d7b74ca3659e3dac4563d3aede68b32596e9008fb5f98d9b647d96966", func := "inspeximus/inspeximuslaw01.ShaSums", spec := "shaSums", unfollowed := true, recurses := true, named := ["inspeximus/api.First", "inspeximus/api.K", "inspeximus/sha.digits"], apart := false, laid := [("inspeximus/api.K", laid_inspeximus_api_K), ("inspeximus/api.First", laid_inspeximus_api_First), ("inspeximus/sha.digits", laid_inspeximus_sha_digits)], narrowed := true }
def ShaSumsUptoSaid : Prop := shaSumsUptoRow.holds Tryd.pinned (OpenSpec.upto shaSumsSpec)

/-- 'inspeximuslaw01.ShaParts', WHERE WHAT IT READS IS OF BULK AT MOST 1048576: true; the input reads as it did. -/
def shaPartsUptoRow : OpenClaim := { program := "ytjjoiefngoghpaadoor", sum := "bb88483d7b74ca3659e3dac4563d3aede68b32596e9008fb5f98d9b647d96966", func := "inspeximus/inspeximuslaw01.ShaParts", spec := "shaParts", unfollowed := true, recurses := true, named := ["inspeximus/api.First", "inspeximus/api.K", "inspeximus/sha.digits"], apart := false, laid := [("inspeximus/api.K", laid_inspeximus_api_K), ("inspeximus/api.First", laid_inspeximus_api_First), ("inspeximus/sha.digits", laid_inspeximus_sha_digits)], narrowed := true }
def ShaPartsUptoSaid : Prop := shaPartsUptoRow.holds Tryd.pinned (OpenSpec.upto shaPartsSpec)

/-- 'inspeximuslaw01.ShaFills', WHERE WHAT IT READS IS OF BULK AT MOST 1048576: true; the input reads as it did. -/
def shaFillsUptoRow : OpenClaim := { program := "ytjjoiefngoghpaadoor", sum := "bb88483d7b74ca3659e3dac4563d3aede68b32596e9008fb5f98d9b647d96966", func := "inspeximus/inspeximuslaw01.ShaFills", spec := "shaFills", unfollowed := true, recurses := true, named := ["inspeximus/api.First", "inspeximus/api.K", "inspeximus/sha.digits"], apart := false, laid := [("inspeximus/api.K", laid_inspeximus_api_K), ("inspeximus/api.First", laid_inspeximus_api_First), ("inspeximus/sha.digits", laid_inspeximus_sha_digits)], narrowed := true }
def ShaFillsUptoSaid : Prop := shaFillsUptoRow.holds Tryd.pinned (OpenSpec.upto shaFillsSpec)

/-- 'inspeximuslaw01.ShaBlocks', WHERE WHAT IT READS IS OF BULK AT MOST 1048576: true; the input reads as it did. -/
def shaBlocksUptoRow : OpenClaim := { program := "ytjjoiefngoghpaadoor", sum := "bb88483d7b74ca3659e3dac4563d3aede68b32596e9008fb5f98d9b647d96966", func := "inspeximus/inspeximuslaw01.ShaBlocks", spec := "shaBlocks", unfollowed := true, recurses := true, named := ["inspeximus/api.First", "inspeximus/api.K", "inspeximus/sha.digits"], apart := false, laid := [("inspeximus/api.K", laid_inspeximus_api_K), ("inspeximus/api.First", laid_inspeximus_api_First), ("inspeximus/sha.digits", laid_inspeximus_sha_digits)], narrowed := true }
def ShaBlocksUptoSaid : Prop := shaBlocksUptoRow.holds Tryd.pinned (OpenSpec.upto shaBlocksSpec)

/-- 'inspeximuslaw01.ShaHex', WHERE WHAT IT READS IS OF BULK AT MOST 1048576: true; the input reads as it did. -/
def shaHexUptoRow : OpenClaim := { program := "ytjjoiefngoghpaadoor", sum := "bb88483d7b74ca3659e3dac4563d3aede68b32596e9008fb5f98d9b647d96966", func := "inspeximus/inspeximuslaw01.ShaHex", spec := "shaHex", unfollowed := true, recurses := true, named := ["inspeximus/api.First", "inspeximus/api.K", "inspeximus/sha.digits"], apart := false, laid := [("inspeximus/api.K", laid_inspeximus_api_K), ("inspeximus/api.First", laid_inspeximus_api_First), ("inspeximus/sha.digits", laid_inspeximus_sha_digits)], narrowed := true }
def ShaHexUptoSaid : Prop := shaHexUptoRow.holds Tryd.pinned (OpenSpec.upto shaHexSpec)

/-- 'inspeximuslaw02.MacTags', WHERE WHAT IT READS IS OF BULK AT MOST 1048576: true; the input reads as it did. -/
def macTagsUptoRow : OpenClaim := { program := "ytjjoiefngoghpaadoor", sum := "bb88483d7b74ca3659e3dac4563d3aede68b32596e9008fb5f98d9b647d96966", func := "inspeximus/inspeximuslaw02.MacTags", spec := "macTags", unfollowed := true, recurses := true, named := ["inspeximus/api.First", "inspeximus/api.K", "inspeximus/sha.digits"], apart := false, laid := [("inspeximus/api.K", laid_inspeximus_api_K), ("inspeximus/api.First", laid_inspeximus_api_First), ("inspeximus/sha.digits", laid_inspeximus_sha_digits)], narrowed := true }
def MacTagsUptoSaid : Prop := macTagsUptoRow.holds Tryd.pinned (OpenSpec.upto macTagsSpec)

/-- 'inspeximuslaw02.MacOf', WHERE WHAT IT READS IS OF BULK AT MOST 1048576: true; the input reads as it did. -/
def macOfUptoRow : OpenClaim := { program := "ytjjoiefngoghpaadoor", sum := "bb88483d7b74ca3659e3dac4563d3aede68b32596e9008fb5f98d9b647d96966", func := "inspeximus/inspeximuslaw02.MacOf", spec := "macOf", unfollowed := true, recurses := true, named := ["inspeximus/api.First", "inspeximus/api.K", "inspeximus/sha.digits"], apart := false, laid := [("inspeximus/api.K", laid_inspeximus_api_K), ("inspeximus/api.First", laid_inspeximus_api_First), ("inspeximus/sha.digits", laid_inspeximus_sha_digits)], narrowed := true }
def MacOfUptoSaid : Prop := macOfUptoRow.holds Tryd.pinned (OpenSpec.upto macOfSpec)

/-- 'inspeximuslaw02.MacParts', WHERE WHAT IT READS IS OF BULK AT MOST 1048576: true; the input reads as it did. -/
def macPartsUptoRow : OpenClaim := { program := "ytjjoiefngoghpaadoor", sum := "bb88483d7b74ca3659e3dac4563d3aede68b32596e9008fb5f98d9b647d96966", func := "inspeximus/inspeximuslaw02.MacParts", spec := "macParts", unfollowed := true, recurses := true, named := ["inspeximus/api.First", "inspeximus/api.K", "inspeximus/sha.digits"], apart := false, laid := [("inspeximus/api.K", laid_inspeximus_api_K), ("inspeximus/api.First", laid_inspeximus_api_First), ("inspeximus/sha.digits", laid_inspeximus_sha_digits)], narrowed := true }
def MacPartsUptoSaid : Prop := macPartsUptoRow.holds Tryd.pinned (OpenSpec.upto macPartsSpec)

/-- 'inspeximuslaw02.MacLists', WHERE WHAT IT READS IS OF BULK AT MOST 1048576: true; the input reads as it did. -/
def macListsUptoRow : OpenClaim := { program := "ytjjoiefngoghpaadoor", sum := "bb88483d7b74ca3659e3dac4563d3aede68b32596e9008fb5f98d9b647d96966", func := "inspeximus/inspeximuslaw02.MacLists", spec := "macLists", unfollowed := true, recurses := true, named := ["inspeximus/api.First", "inspeximus/api.K", "inspeximus/sha.digits"], apart := false, laid := [("inspeximus/api.K", laid_inspeximus_api_K), ("inspeximus/api.First", laid_inspeximus_api_First), ("inspeximus/sha.digits", laid_inspeximus_sha_digits)], narrowed := true }
def MacListsUptoSaid : Prop := macListsUptoRow.holds Tryd.pinned (OpenSpec.upto macListsSpec)

/-- 'inspeximuslaw02.MacWords', WHERE WHAT IT READS IS OF BULK AT MOST 1048576: true; the input reads as it did. -/
def macWordsUptoRow : OpenClaim := { program := "ytjjoiefngoghpaadoor", sum := "bb88483d7b74ca3659e3dac4563d3aede68b32596e9008fb5f98d9b647d96966", func := "inspeximus/inspeximuslaw02.MacWords", spec := "macWords", unfollowed := true, recurses := true, named := ["inspeximus/api.First", "inspeximus/api.K", "inspeximus/sha.digits"], apart := false, laid := [("inspeximus/api.K", laid_inspeximus_api_K), ("inspeximus/api.First", laid_inspeximus_api_First), ("inspeximus/sha.digits", laid_inspeximus_sha_digits)], narrowed := true }
def MacWordsUptoSaid : Prop := macWordsUptoRow.holds Tryd.pinned (OpenSpec.upto macWordsSpec)

/-- 'inspeximuslaw02.MacFilled', WHERE WHAT IT READS IS OF BULK AT MOST 1048576: true; the input reads as it did. -/
def macFilledUptoRow : OpenClaim := { program := "ytjjoiefngoghpaadoor", sum := "bb88483d7b74ca3659e3dac4563d3aede68b32596e9008fb5f98d9b647d96966", func := "inspeximus/inspeximuslaw02.MacFilled", spec := "macFilled", unfollowed := true, recurses := true, named := ["inspeximus/api.First", "inspeximus/api.K", "inspeximus/sha.digits"], apart := false, laid := [("inspeximus/api.K", laid_inspeximus_api_K), ("inspeximus/api.First", laid_inspeximus_api_First), ("inspeximus/sha.digits", laid_inspeximus_sha_digits)], narrowed := true }
def MacFilledUptoSaid : Prop := macFilledUptoRow.holds Tryd.pinned (OpenSpec.upto macFilledSpec)

end Rows
end Go.Proofs.YtjjoiefngoghpaaDoor
