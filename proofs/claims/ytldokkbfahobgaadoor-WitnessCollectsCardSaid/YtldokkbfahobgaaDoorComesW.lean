/- The walks of Comes' outer closure and of Comes. The walk of Comes. The walks of Comes, whatever the numbers, and of In. A pair of hashes as a value, built of two. No condition. Conditions: what each part says. -/
import Derived.Test.YtldokkbfahobgaaDoorComesU
import Derived.Test.YtldokkbfahobgaaDoorPathW
import Derived.Test.YtldokkbfahobgaaDoorHashP
import Derived.Laws.ResultCell
/-! ComesB: The walks of Comes' outer closure and of Comes. Conditions: the path can be read, at most 4096 hashes; the package's tables read as they are laid. -/
namespace Go.Proofs.YtldokkbfahobgaaDoor
open Go.RowKit

/-- What the outer closure comes to. -/
def OutPost (Z : Option (H × Nat)) (g q r : Nat) (pv : Value) (P : List H) (w1 : World) (e : Ending) (w' : World) : Prop :=
  match Z with
  | some (y, a') => e = .returned (.tuple #[]) ∧ Tk w' g q pv P a' ∧ But2 g r w1 w' ∧ Blk w' r (bytesV y.b) 31
  | none => e = .panicked [{ v := shortP, recovered := false }] ∧ But2 g r w1 w'
theorem But.row {w : World} (r : Nat) (cs : Array Value) : But r w (w.setRow r cs) := by
  have h := below_setRow (Below.refl r w) (Nat.le_refl _) cs
  exact ⟨h.os, h.tape, h.output, h.size, fun k _ hk => Go.setRow_other _ _ _ _ (by omega)⟩
theorem Tk.but {w w' : World} {r g q : Nat} {pv : Value} {P : List H} {a : Nat} (h : Tk w g q pv P a) (hb : But r w w') (h1 : g ≠ r) (h2 : q ≠ r) (h3 : 0 < P.length → ∀ ad k c, pv = .slice (some ad) k c → ad.block ≠ r) : Tk w' g q pv P a :=
  ⟨hb.blk h.at_ h1, hb.cell h.box h2, h.ne, hb.isSl h.hs h3, h.apart, h.le, h.len⟩
theorem calls_eq {P : Program} {f : FuncId} {args : Array Value} {w w' : World} {R : Ending → World → Prop} (h : w' = w) (hc : Calls P f args w' R) : Calls P f args w R := h ▸ hc
theorem run_makeFunc (fn : Fn) (first cap : Array Value) (w : World) : (Instr.makeFunc fn first cap).run Tryd.prog w = .ok (.func fn first cap) w := rfl
end Go.Proofs.YtldokkbfahobgaaDoor

/-! ComesC: The walk of Comes. Conditions: the path can be read, at most 4096 hashes; the package's tables read as they are laid. -/
namespace Go.Proofs.YtldokkbfahobgaaDoor
open Go.RowKit

def z0H : H := ⟨List.replicate 32 0, by simp⟩
theorem z0_hv : hv z0H = .agg z32.toArray := rfl
/-- What a path comes to, whatever the numbers. -/
def comesR (x : H) (i n : Int) (P : List H) : Option H := if 0 ≤ i ∧ i < n ∧ n ≤ 1048576 then comesN ndH x n.toNat i.toNat P else none
def comesV : Option H → Value
  | some h => hv h
  | none => .agg z32.toArray
theorem results_row_tmp {P : Program} {fn : Func} {p u : Tmp} {ty : TypeId} (h : fn.results = #[.cell p ty, .tmp u]) (tmps : Array Value) (w : World) (g : Nat) (t : TypeId) (cs : Array Value) (fr : Nat × Nat) (d : TypeDesc)
    (hp : tmps.getD p undef = .pointer (some ⟨g, 0, none⟩)) (hg : w.heap[g]? = some (.cells cs t fr))
    (hu : P.underlying ty = some d) (hd : (match d with | .struct _ | .array _ _ => true | _ => false) = true) (hi : (P.info? ty).map (·.size) = some cs.size) :
    (results fn tmps).run P w = .ok (.tuple #[.agg cs, tmps.getD u undef]) w := by
  rw [results_cell_tmp h, hp]
  simp [asAddr, run_loadVar_row w g t ty cs fr d hg hu hd hi]
/-- The world behind the walk's own variables. -/
def comesW (w : World) (x : H) (i n : Int) : World := (((w.alloc (.cells (bytesV x.b).toArray 31)).alloc (.cells #[.int .i64 i] 3)).alloc (.cells #[.int .i64 n] 3)).alloc (.cells z32.toArray 31)
theorem comesW_parts (w : World) (x : H) (i n : Int) : Below w.heap.size w (comesW w x i n) ∧ (comesW w x i n).heap.size = w.heap.size + 1 + 1 + 1 + 1 ∧ Blk (comesW w x i n) w.heap.size (bytesV x.b) 31 ∧ Blk (comesW w x i n) (w.heap.size + 1) [.int .i64 i] 3 ∧
    Blk (comesW w x i n) (w.heap.size + 1 + 1) [.int .i64 n] 3 ∧ Blk (comesW w x i n) (w.heap.size + 1 + 1 + 1) z32 31 := by
  unfold comesW
  refine ⟨by (repeat (first | with_reducible assumption | with_reducible exact Below.refl _ _ | ((with_reducible refine Below.setCell ?_ ?_ _); rotate_left; focus (first | omega | (simp; done) | (simp; omega))) | ((with_reducible refine Below.alloc ?_ ?_ _); rotate_left; focus (first | omega | (simp; done) | (simp; omega))) | ((with_reducible refine below_setRow ?_ ?_ _); rotate_left; focus (first | omega | (simp; done) | (simp; omega))) | (with_reducible refine below_drewN ?_ _) | (with_reducible refine Below.drew ?_))), by simp, ?_, ?_, ?_, ?_⟩
  · exact (((Blk.newL w _ _).alloc _).alloc _).alloc _
  · exact ((Blk.newL1 w _ [.int .i64 i] _).alloc _).alloc _
  · exact (Blk.newL2 w _ _ [.int .i64 n] _).alloc _
  · have := Blk.newL (((w.alloc (.cells (bytesV x.b).toArray 31)).alloc (.cells #[.int .i64 i] 3)).alloc (.cells #[.int .i64 n] 3)) z32 31
    simpa using this
theorem z32_row : (Tryd.prog.info? 31).map (·.size) = some z32.toArray.size := hv_row z0H
theorem comesW_lit (w : World) (x : H) (i n : Int) : comesW w x i n = (((w.alloc (.cells (bytesV x.b).toArray 31)).alloc (.cells #[.int .i64 i] 3)).alloc (.cells #[.int .i64 n] 3)).alloc (.cells #[.int .u8 0, .int .u8 0, .int .u8 0, .int .u8 0, .int .u8 0, .int .u8 0, .int .u8 0, .int .u8 0, .int .u8 0, .int .u8 0, .int .u8 0, .int .u8 0, .int .u8 0, .int .u8 0, .int .u8 0, .int .u8 0, .int .u8 0, .int .u8 0, .int .u8 0, .int .u8 0, .int .u8 0, .int .u8 0, .int .u8 0, .int .u8 0, .int .u8 0, .int .u8 0, .int .u8 0, .int .u8 0, .int .u8 0, .int .u8 0, .int .u8 0, .int .u8 0] 31) := by
  unfold comesW
  rw [z32_arr]
end Go.Proofs.YtldokkbfahobgaaDoor

/-! ProofIn: The walks of Comes, whatever the numbers, and of In. Conditions: the path can be read, at most 4096 hashes; the package's tables read as they are laid. -/
namespace Go.Proofs.YtldokkbfahobgaaDoor
open Go.RowKit

theorem comesV_eq (R : Option H) : comesV R = hv (R.getD z0H) := by cases R <;> rfl
def inR (x root : H) (i n : Int) (P : List H) : Bool := match comesR x i n P with
  | some h => h.b == root.b
  | none => false
end Go.Proofs.YtldokkbfahobgaaDoor

/-! Pair: A pair of hashes as a value, built of two. No condition. -/
namespace Go.Proofs.YtldokkbfahobgaaDoor
open Go.RowKit

def pairV (a b : H) : Value := .agg (bytesV (a.b ++ b.b)).toArray
def zp64 : List Value := bytesV (List.replicate 64 0)
theorem fill_two (z : Array Value) (v u : Value) : Instr.fill (([(0, 32), (32, 32)] : List (Nat × Nat)).toArray[·]?) z [(0, v), (1, u)] = Instr.fill (fun i => some (i * 32, 32)) z [(0, v), (1, u)] := by
  simp [Instr.fill]
theorem pair_zero : (Tryd.prog.info? 104).map (fun i => (i.zero, i.size)) = some (some (.agg zp64.toArray), 64) := by kernel_rfl
theorem pair_places : (match Tryd.prog.underlying 104 with
    | some (.struct fs) => fs.toList.mapM (fun f => (Tryd.prog.info? f.type).map fun i => (f.offset, i.size))
    | _ => none) = some [(0, 32), (32, 32)] := by kernel_rfl
theorem fill_pair (a b : H) : Instr.fill (fun i => some (i * 32, 32)) zp64.toArray [(0, hv a), (1, hv b)] = some (bytesV (a.b ++ b.b)).toArray := by
  have hc : ∀ v ∈ [hv a, hv b], v.cells.size = 32 := fun v hv' => by
    simp only [List.mem_cons, List.not_mem_nil, or_false] at hv'
    rcases hv' with rfl | rfl <;> simp [hv, Value.cells, bytesV_len, H.len]
  obtain ⟨r, hr, hsz, hk⟩ := Great.fill_dense (s := 32) (by decide) [hv a, hv b] 0 zp64.toArray hc (by simp [zp64, bytesV])
  have e : r = (bytesV (a.b ++ b.b)).toArray := by
    apply Array.ext_getElem?
    intro k
    rw [hk k]
    have hl : (bytesV (a.b ++ b.b)).length = 64 := by rw [bytesV_len, List.length_append, a.len, b.len]
    by_cases h64 : k < 64
    · rw [if_pos (by simp only [List.length_cons, List.length_nil]; omega), Nat.sub_zero]
      unfold bytesV
      rw [List.getElem?_toArray, List.getElem?_map]
      by_cases h32 : k < 32
      · rw [Nat.div_eq_of_lt h32, Nat.mod_eq_of_lt h32, List.getElem?_append_left (by rw [a.len]; exact h32)]
        simp [hv, Value.cells, bytesV]
      · rw [show k / 32 = 1 by omega, show k % 32 = k - 32 by omega, List.getElem?_append_right (by rw [a.len]; omega), a.len]
        simp [hv, Value.cells, bytesV]
    · rw [if_neg (by simp only [List.length_cons, List.length_nil]; omega), Array.getElem?_eq_none (by simp [zp64, bytesV]; omega), Array.getElem?_eq_none (by rw [List.size_toArray]; omega)]
  rw [← e]
  exact hr
theorem built_pair (a b : H) : Tryd.prog.built 104 [(0, hv a), (1, hv b)] = some (bytesV (a.b ++ b.b)).toArray := by
  obtain ⟨it, hit, hz⟩ := Option.map_eq_some_iff.1 pair_zero
  have hz1 : it.zero = some (.agg zp64.toArray) := congrArg Prod.fst hz
  have hp := pair_places
  unfold Program.built
  cases hu : Tryd.prog.underlying 104 with
  | none => rw [hu] at hp; cases hp
  | some d =>
    rw [hu] at hp
    cases d <;> try (cases hp; done)
    rename_i fs
    simp only [hit, hz1, hp]
    rw [fill_two]
    exact fill_pair a b
theorem build_pair (a b : H) (w : World) : (Instr.build 104 #[(0, hv a), (1, hv b)]).run Tryd.prog w = .ok (pairV a b) w := run_build w _ _ _ (built_pair a b)
theorem wpList_pair {ops : Array Oper} {rest : List Oper} {o : Oper} {a : Act} {w : World} {Q : Exit → Act → World → Prop} (hg : o.guard = none) (p q : H) (x y : Operand) (ho : o.op = .build 104 #[(0, x), (1, y)])
    (hx : a.eval x = hv p) (hy : a.eval y = hv q) (h : wpList Tryd.prog ops Q rest (a.put o.dst (pairV p q)) w) : wpList Tryd.prog ops Q (o :: rest) a w := by
  refine wpList_plain hg fun K hK => ?_
  unfold Oper.wp execOp
  simp only [ho, Sem.run_bind, List.map_toArray, List.map_cons, List.map_nil, hx, hy, build_pair p q w, Result.andThen_ok]
  exact hK _ _ h
end Go.Proofs.YtldokkbfahobgaaDoor
