/- Helper lemmas on blocks of cells, for the walks of this seat. No condition. -/
import Derived.WalkKit
import Derived.WalkSpells
import Derived.WalkLawsBesides
import Derived.Deep.QuietTactic
import Derived.BigQuiet
import Derived.StillTailTactics
import Derived.Lib.Hide
import Derived.Deep.MidRow
import Derived.Laws.CopyOwn
namespace Go.Proofs.YtkfplliipogagaaDoor
open Go.RowKit

/-- Block b holds just these cells, none of them frozen. -/
def Blk (w : World) (b : Nat) (l : List Value) (e : TypeId) : Prop := w.heap[b]? = some (.cells l.toArray e (0, 0))

theorem Blk.lt {w : World} {b : Nat} {l : List Value} {e : TypeId} (h : Blk w b l e) : b < w.heap.size := (Array.getElem?_eq_some_iff.1 h).1
theorem Blk.cell? {w : World} {b : Nat} {l : List Value} {e : TypeId} (h : Blk w b l e) (i : Nat) : w.cell? ⟨b, i, none⟩ = l[i]? := by
  unfold Blk at h
  simp [World.cell?, h]
theorem Blk.cell {w : World} {b : Nat} {l : List Value} {e : TypeId} (h : Blk w b l e) {i : Nat} {v : Value} (hi : l[i]? = some v) : w.cell? ⟨b, i, none⟩ = some v := by
  rw [h.cell?, hi]
theorem Blk.frozen {w : World} {b : Nat} {l : List Value} {e : TypeId} (h : Blk w b l e) (i : Nat) : w.frozen? ⟨b, i, none⟩ = false := by
  unfold Blk at h
  simp [World.frozen?, h]
theorem Blk.set {w : World} {b : Nat} {l : List Value} {e : TypeId} (h : Blk w b l e) (i : Nat) (v : Value) : Blk (w.setCell ⟨b, i, none⟩ v) b (l.set i v) e := by
  unfold Blk at h ⊢
  simp [World.setCell, Array.getElem?_modify, h]
theorem Blk.set_other {w : World} {b : Nat} {l : List Value} {e : TypeId} (h : Blk w b l e) {p : Addr} (hp : p.block ≠ b) (v : Value) : Blk (w.setCell p v) b l e := by
  unfold Blk at h ⊢
  rw [Below.heap_setCell _ _ _ _ (Ne.symm hp)]
  exact h
theorem Blk.new (w : World) (a : Array Value) (e : TypeId) : Blk (w.alloc (.cells a e)) w.heap.size a.toList e := by
  unfold Blk
  rw [heap_alloc_new]
theorem Blk.alloc {w : World} {b : Nat} {l : List Value} {e : TypeId} (h : Blk w b l e) (o : Obj) : Blk (w.alloc o) b l e := by
  unfold Blk at h ⊢
  rw [Below.heap_alloc _ _ _ (Blk.lt h)]
  exact h
theorem Blk.drew {w : World} {b : Nat} {l : List Value} {e : TypeId} (h : Blk w b l e) : Blk w.drew b l e := h
theorem Blk.drewN {w : World} {b : Nat} {l : List Value} {e : TypeId} (h : Blk w b l e) (n : Nat) : Blk (w.drewN n) b l e := by
  exact h
theorem Blk.below {w w' : World} {B b : Nat} {l : List Value} {e : TypeId} (h : Blk w b l e) (hb : Below B w w') (hB : b < B) : Blk w' b l e := by
  unfold Blk at h ⊢
  rw [hb.block b hB]
  exact h
theorem Blk.setRow {w : World} {b : Nat} {l : List Value} {e : TypeId} (h : Blk w b l e) (l' : List Value) : Blk (w.setRow b l'.toArray) b l' e :=
  setRow_heap w b l.toArray l'.toArray e (0, 0) h
theorem Blk.setRow_other {w : World} {b : Nat} {l : List Value} {e : TypeId} (h : Blk w b l e) {g : Nat} (hg : b ≠ g) (cs : Array Value) : Blk (w.setRow g cs) b l e := by
  unfold Blk at h ⊢
  rw [Go.setRow_other _ _ _ _ hg]
  exact h
theorem below_setRow {B : Nat} {a w : World} (h : Below B a w) {g : Nat} (hg : B ≤ g) (cs : Array Value) : Below B a (w.setRow g cs) :=
  h.trans ⟨rfl, rfl, rfl, by simp, fun k hk => Go.setRow_other w g k cs (by omega)⟩
/-- An element of an array value whose elements are one cell each. -/
theorem run_index_arr {P : Program} (t e n : Nat) (d : TypeDesc) (hu : P.underlying t = some (.array n e)) (he : P.underlying e = some d)
    (hd : (match d with | .struct _ | .array _ _ => true | _ => false) = false) (hs : (P.info? e).map (·.size) = some 1)
    (cs : Array Value) (i : Nat) (hi : i < n) (v : Value) (hv : cs[i]? = some v) (w : World) :
    (Instr.index t (.agg cs) (.int .i64 (i : Int))).run P w = .ok v w := by
  cases hq : P.info? e with
  | none => simp [hq] at hs
  | some inf =>
    have hs1 : inf.size = 1 := by simpa [hq] using hs
    have hagg : (isAgg e).run P w = .ok false w := by
      unfold isAgg
      rw [Sem.run_bind, run_underlying he w]
      cases d <;> simp_all
    have h1 : (0 : Int) ≤ i ∧ (i : Int) < n := ⟨by omega, by omega⟩
    simp [Instr.index, asIntOf, Sem.run_bind, run_underlying hu, h1, sizeOf, typeInfo, hq, hs1, part, hagg, hi, hv]
theorem heap_alloc3_new (w : World) (A B C : Obj) : (((w.alloc A).alloc B).alloc C).heap[w.heap.size + 1 + 1]? = some C := by
  have h := heap_alloc_new ((w.alloc A).alloc B) C
  simpa using h
theorem Blk.newL (w : World) (l : List Value) (e : TypeId) : Blk (w.alloc (.cells l.toArray e)) w.heap.size l e := Blk.new w l.toArray e
theorem Blk.newL1 (w : World) (o : Obj) (l : List Value) (e : TypeId) : Blk ((w.alloc o).alloc (.cells l.toArray e)) (w.heap.size + 1) l e := by
  have h := Blk.newL (w.alloc o) l e
  rw [World.size_alloc] at h
  exact h
theorem Blk.newL2 (w : World) (o o' : Obj) (l : List Value) (e : TypeId) : Blk (((w.alloc o).alloc o').alloc (.cells l.toArray e)) (w.heap.size + 1 + 1) l e := by
  have h := Blk.newL ((w.alloc o).alloc o') l e
  rw [World.size_alloc, World.size_alloc] at h
  exact h
theorem quiet_add {P : Program} {f : FuncId} {args : Array Value} {w : World} {a n : Nat} {v : Value}
    (h : Calls P f args (w.drewN (a + n)) fun e w' => e = .returned v ∧ ∃ m, w' = (w.drewN (a + n)).drewN m) :
    Calls P f args (w.drewN (a + n)) fun e w'' => e = .returned v ∧ ∃ m, w'' = w.drewN (a + m) :=
  h.mono fun _ _ ⟨he, m, hm⟩ => ⟨he, n + m, by rw [hm, World.drewN_drewN, Nat.add_assoc]⟩
theorem quiet_add_same {P : Program} {f : FuncId} {args : Array Value} {w : World} {a n : Nat} {v : Value}
    (h : Calls P f args (w.drewN (a + n)) fun e w' => e = .returned v ∧ w' = w.drewN (a + n)) :
    Calls P f args (w.drewN (a + n)) fun e w'' => e = .returned v ∧ ∃ m, w'' = w.drewN (a + m) :=
  h.mono fun _ _ ⟨he, hm⟩ => ⟨he, n, hm⟩
end Go.Proofs.YtkfplliipogagaaDoor
