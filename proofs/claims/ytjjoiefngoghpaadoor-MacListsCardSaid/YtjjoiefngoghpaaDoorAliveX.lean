/- The document's example of layer 2, reckoned. No condition. -/
import Derived.Test.YtjjoiefngoghpaaDoorMacE
import Derived.Test.YtjjoiefngoghpaaDoorAlive1
namespace Go.Proofs.YtjjoiefngoghpaaDoor
open Go.RowKit

def exKey : List UInt8 := [107, 101, 121]
def exA : List UInt8 := [84, 104, 101, 32, 113, 117, 105, 99, 107, 32, 98, 114, 111, 119, 110, 32, 102, 111, 120, 32]
def exB : List UInt8 := [106, 117, 109, 112, 115, 32, 111, 118, 101, 114, 32, 116, 104, 101, 32, 108, 97, 122, 121, 32, 100, 111, 103]
def exTag : List UInt8 := [247, 188, 131, 244, 48, 83, 132, 36, 177, 50, 152, 230, 170, 111, 177, 67, 239, 77, 89, 161, 73, 70, 23, 89, 151, 71, 157, 188, 45, 26, 60, 216]
theorem ex_tag : tagN exKey (exA ++ exB) = exTag := by decide +kernel
def exHex : List UInt8 := [102, 55, 98, 99, 56, 51, 102, 52, 51, 48, 53, 51, 56, 52, 50, 52, 98, 49, 51, 50, 57, 56, 101, 54, 97, 97, 54, 102, 98, 49, 52, 51, 101, 102, 52, 100, 53, 57, 97, 49, 52, 57, 52, 54, 49, 55, 53, 57, 57, 55, 52, 55, 57, 100, 98, 99, 50, 100, 49, 97, 51, 99, 100, 56]
theorem ex_hex : hexP exTag = exHex := by decide +kernel
theorem ex_of : (ofN 1 [[]] == ofN 2 [[]]) = false := by decide +kernel
theorem ex_key : (tagN exTag (wordsN [1]) == tagN exTag (wordsN [2])) = false := by decide +kernel
theorem ne_of (w : World) : (Op.equalIn 10000 31 (.agg (bytesV (ofN 1 [[]])).toArray) (.agg (bytesV (ofN 2 [[]])).toArray)).run Tryd.prog w = .ok false w := by
  rw [eq_hash w (ofN 1 [[]]) (ofN 2 [[]]) (sumN_len _) (sumN_len _), ex_of]
theorem ne_key (w : World) (T : List UInt8) (hT : T = exTag) : (Op.equalIn 10000 31 (.agg (bytesV (tagN T (wordsN [1]))).toArray) (.agg (bytesV (tagN T (wordsN [2]))).toArray)).run Tryd.prog w = .ok false w := by
  rw [hT, eq_hash w _ _ (tagN_len _ _) (tagN_len _ _), ex_key]
theorem convert_const2 {P : Program} (w : World) (A B : Obj) (T E : TypeId) (C : Array Value) (n c : Nat) (hT : P.underlying T = some (.slice E)) (hE : P.underlying E = some (.int .u8)) :
    (convert T T (.slice (some ⟨w.heap.size + 1 + 1, 0, none⟩) n c)).run P (((w.alloc A).alloc B).alloc (.cells C E)) = .ok (.slice (some ⟨w.heap.size + 1 + 1, 0, none⟩) n c) (((w.alloc A).alloc B).alloc (.cells C E (C.size, C.size + 1))) := by
  have := Lib.run_convert_bytes_const (P := P) ((w.alloc A).alloc B) T E C n c hT hE
  rw [World.size_alloc, World.size_alloc] at this
  exact this

def exW1 (w : World) : World := w.alloc (.cells (bytesV exKey).toArray 5 (3, 4))
def exW2 (w : World) : World := (exW1 w).alloc (.cells (bytesV exA).toArray 5 (20, 21))
def exW3 (w : World) : World := (exW2 w).alloc (.cells (bytesV exB).toArray 5 (23, 24))
def exVs (w : World) : List Value := [.slice (some ⟨w.heap.size + 1, 0, none⟩) 20 20, .slice (some ⟨w.heap.size + 1 + 1, 0, none⟩) 23 23]
def exW4 (w : World) : World := (exW3 w).alloc (.cells (exVs w).toArray 24)
theorem ex_laid (w : World) : Bytes (exW4 w) (.slice (some ⟨w.heap.size, 0, none⟩) 3 3) exKey ∧ Parts (exW4 w) (.slice (some ⟨w.heap.size + 1 + 1 + 1, 0, none⟩) 2 2) [exA, exB] (exVs w) ∧ Below w.heap.size w (exW4 w) := by
  have s1 : (exW1 w).heap.size = w.heap.size + 1 := World.size_alloc _ _
  have s2 : (exW2 w).heap.size = w.heap.size + 1 + 1 := by rw [exW2, World.size_alloc, s1]
  have s3 : (exW3 w).heap.size = w.heap.size + 1 + 1 + 1 := by rw [exW3, World.size_alloc, s2]
  have b1 : Below w.heap.size w (exW1 w) := (Below.refl _ _).alloc (Nat.le_refl _) _
  have b2 : Below (exW1 w).heap.size (exW1 w) (exW2 w) := (Below.refl _ _).alloc (Nat.le_refl _) _
  have b3 : Below (exW2 w).heap.size (exW2 w) (exW3 w) := (Below.refl _ _).alloc (Nat.le_refl _) _
  have b4 : Below (exW3 w).heap.size (exW3 w) (exW4 w) := (Below.refl _ _).alloc (Nat.le_refl _) _
  have k1 : Bytes (exW1 w) (.slice (some ⟨w.heap.size, 0, none⟩) 3 3) exKey := bytes_alloc w exKey _ (3, 4) rfl
  have k2 : Bytes (exW2 w) (.slice (some ⟨w.heap.size + 1, 0, none⟩) 20 20) exA := bytes_alloc (exW1 w) exA _ (20, 21) s1
  have k3 : Bytes (exW3 w) (.slice (some ⟨w.heap.size + 1 + 1, 0, none⟩) 23 23) exB := bytes_alloc (exW2 w) exB _ (23, 24) s2
  refine ⟨((k1.below b2).below b3).below b4, parts_alloc (exW3 w) (exVs w) [exA, exB] _ s3 rfl rfl (by simp [exVs, Value.oneCell']) ((Texts.cons (k2.below b3) (.cons k3 .nil)).at), ?_⟩
  exact ((b1.trans (b2.mono (by omega))).trans (b3.mono (by omega))).trans (b4.mono (by omega))
end Go.Proofs.YtjjoiefngoghpaaDoor
