/- What several texts share: bytes put together, zeros, constants that are converted, parts behind one another. No condition. -/
import Derived.Test.YtkfplliipogagaaDoorSumAt
import Derived.Test.YtkfplliipogagaaDoorEq
import Derived.Laws.MakeOwn
import Derived.Lib.SlBytesConst
namespace Go.Proofs.YtkfplliipogagaaDoor
open Go.RowKit

def keyAt (k : List UInt8) (i : Nat) : UInt8 := k[i]?.getD 0
theorem xor_u8 (x y : UInt8) : bits .xor .u8 (x.toNat : Int) (y.toNat : Int) = ((x ^^^ y).toNat : Int) := by
  have h := Nat.xor_lt_two_pow (n := 8) x.toNat_lt y.toNat_lt
  have hx := x.toNat_lt
  have hy := y.toNat_lt
  simp only [bits, ofInt_nat]
  rw [UInt8.toNat_xor]
  have e : (BitVec.ofNat IntKind.u8.bits x.toNat ^^^ BitVec.ofNat IntKind.u8.bits y.toNat).toNat = x.toNat ^^^ y.toNat := by
    show (BitVec.ofNat 8 x.toNat ^^^ BitVec.ofNat 8 y.toNat).toNat = _
    rw [BitVec.toNat_xor, BitVec.toNat_ofNat, BitVec.toNat_ofNat, Nat.mod_eq_of_lt hx, Nat.mod_eq_of_lt hy]
  rw [e]
  simp only [IntKind.wrap, IntKind.bits, IntKind.signed]
  simp
  omega
def zerosB (n : Nat) : List UInt8 := List.replicate n 0
theorem zerosB_len (n : Nat) : (zerosB n).length = n := by simp [zerosB]
theorem make_bytes (n : Nat) (hn : n ≤ 281474976710656) (w : World) :
    (Instr.makeSlice 22 (.int .i64 (n : Int)) (.int .i64 (n : Int))).run Tryd.prog w = .ok (.slice (some ⟨w.heap.size, 0, none⟩) n n) (w.alloc (.cells (bytesV (zerosB n)).toArray 5)) := by
  obtain ⟨i0, hi, hz0, hz1, hz2⟩ := info_parts info_u8
  rw [run_make w 22 5 i0 _ Tryd.underlying22 hi hz0 .i64 .i64 n n (by omega) (by omega) (by rw [hz2]; omega) (by omega)]
  rw [hz1, Nat.mul_one, Int.toNat_natCast]
  congr 4
  apply Array.ext
  · simp [madeCells, bytesV, zerosB]
  · intro i h1 h2
    simp [madeCells, bytesV, zerosB, Value.cells, Nat.mod_one]
theorem cat_cons (l : List UInt8) (ls : List (List UInt8)) : cat (l :: ls) = l ++ cat ls := rfl
theorem info_bytes : (Tryd.prog.info? 22).map (fun i => (i.zero, i.size, i.bytes)) = some (some (.slice none 0 0), 1, 24) := by kernel_rfl
theorem hash_one (l : List UInt8) : (bytesV l).toArray.all (·.oneCell') = true := by simp [bytesV, Value.oneCell']
theorem parts_owned {w : World} {base : Nat} {e : TypeId} {sv v : Value} {l : List UInt8} {ls : List (List UInt8)} {vs : List Value} {u : Value} (hown : w.ownsRow base e 1 sv (1 + ls.length) ([v] ++ vs)) (hv : Bytes w v l) (hp : Parts w u ls vs) : Parts w sv (l :: ls) (v :: vs) := by
  refine ⟨by rw [List.length_cons, List.length_cons, hp.len], ?_, ?_⟩
  · rw [List.length_cons, Nat.add_comm]
    refine ownsRow_isSl hown ?_
    intro x hx
    cases hx with
    | head => exact hv.one
    | tail _ hx => exact hp.sl.2.1 x hx
  · intro i x l' hx hl
    cases i with
    | zero =>
      cases hx
      cases hl
      exact hv
    | succ i => exact hp.each i x l' hx hl
theorem wp_world {P : Program} {c : Code} {Q : Exit → Act → World → Prop} {a : Act} {w w' : World} (h : w' = w) (hc : c.wp P Q a w') : c.wp P Q a w := h ▸ hc
theorem Parts.nil (w : World) : Parts w (.slice none 0 0) [] [] := ⟨rfl, IsSl.nil w 1, fun _ _ _ h => by cases h⟩
theorem hex_empty : hexP (sumN []) = [101, 51, 98, 48, 99, 52, 52, 50, 57, 56, 102, 99, 49, 99, 49, 52, 57, 97, 102, 98, 102, 52, 99, 56, 57, 57, 54, 102, 98, 57, 50, 52, 50, 55, 97, 101, 52, 49, 101, 52, 54, 52, 57, 98, 57, 51, 52, 99, 97, 52, 57, 53, 57, 57, 49, 98, 55, 56, 53, 50, 98, 56, 53, 53] := by
  decide +kernel
theorem convert_const1 {P : Program} (w : World) (A : Obj) (T E : TypeId) (C : Array Value) (n c : Nat) (hT : P.underlying T = some (.slice E)) (hE : P.underlying E = some (.int .u8)) :
    (convert T T (.slice (some ⟨w.heap.size + 1, 0, none⟩) n c)).run P ((w.alloc A).alloc (.cells C E)) = .ok (.slice (some ⟨w.heap.size + 1, 0, none⟩) n c) ((w.alloc A).alloc (.cells C E (C.size, C.size + 1))) := by
  have := Lib.run_convert_bytes_const (P := P) (w.alloc A) T E C n c hT hE
  rw [World.size_alloc] at this
  exact this
theorem convert_const2 {P : Program} (w : World) (A B : Obj) (T E : TypeId) (C : Array Value) (n c : Nat) (hT : P.underlying T = some (.slice E)) (hE : P.underlying E = some (.int .u8)) :
    (convert T T (.slice (some ⟨w.heap.size + 1 + 1, 0, none⟩) n c)).run P (((w.alloc A).alloc B).alloc (.cells C E)) = .ok (.slice (some ⟨w.heap.size + 1 + 1, 0, none⟩) n c) (((w.alloc A).alloc B).alloc (.cells C E (C.size, C.size + 1))) := by
  have := Lib.run_convert_bytes_const (P := P) ((w.alloc A).alloc B) T E C n c hT hE
  rw [World.size_alloc, World.size_alloc] at this
  exact this
theorem Bytes.at {w : World} {v : Value} {l : List UInt8} (h : Bytes w v l) {i : Nat} (hi : i < l.length) : ∃ b off cap, v = .slice (some ⟨b, off, none⟩) l.length cap ∧ ∀ j c, l[j]? = some c → w.cell? ⟨b, off + j, none⟩ = some (.int .u8 (c.toNat : Int)) := by
  obtain ⟨b, off, cap, rfl, _, hr, _⟩ := IsSl.pos h (by omega) (by decide)
  exact ⟨b, off, cap, rfl, fun j c hj => hr j _ (bytesV_at l j c hj)⟩
end Go.Proofs.YtkfplliipogagaaDoor
