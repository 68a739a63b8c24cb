/- Literals of hashes: a slice of them, laid in a new block. Condition: at most 1000. -/
import Derived.Test.YtkfplliipogagaaDoorHash
import Derived.Great.BuildSlice
namespace Go.Proofs.YtkfplliipogagaaDoor
open Go.RowKit

theorem info_hash : (Tryd.prog.info? 24).map (fun i => (i.zero, i.size, i.bytes)) = some (some (.agg z32.toArray), 32, 32) := by kernel_rfl
theorem hflat_at (vs : List H) (k : Nat) : (hflat vs)[k]? = (vs[k / 32]?).bind fun h => h.b[k % 32]? := by
  induction vs generalizing k with
  | nil => simp [hflat]
  | cons h vs ih =>
    have hl := h.len
    rw [hflat_cons]
    by_cases hk : k < 32
    · rw [List.getElem?_append_left (by omega), show k / 32 = 0 by omega, show k % 32 = k by omega]
      rfl
    · rw [List.getElem?_append_right (by omega), ih, hl, show k / 32 = (k - 32) / 32 + 1 by omega, List.getElem?_cons_succ, show k % 32 = (k - 32) % 32 by omega]
theorem build_hashes (vs : List H) (hn : 0 < vs.length) (hs : vs.length ≤ 1000) (w : World) :
    (Instr.buildSlice 31 vs.length (((vs.map hv).zipIdx 0).map fun x => (x.2, x.1)).toArray).run Tryd.prog w = .ok (.slice (some ⟨w.heap.size, 0, none⟩) vs.length vs.length) (w.alloc (.cells (bytesV (hflat vs)).toArray 24)) := by
  obtain ⟨i0, hi, hz0, hz1, hz2⟩ := info_parts info_hash
  have hc : ∀ v ∈ vs.map hv, v.cells.size = 32 := fun v hv' => by
    obtain ⟨x, _, rfl⟩ := List.mem_map.1 hv'
    simp [hv, Value.cells, bytesV_len, x.len]
  obtain ⟨r, hr, hsz, hk⟩ := Great.fill_dense (s := 32) (by decide) (vs.map hv) 0 ((Array.range (vs.length * 32)).map ((Value.agg z32.toArray).cells[· % (Value.agg z32.toArray).cells.size]!)) hc (by simp)
  have e : r = (bytesV (hflat vs)).toArray := by
    apply Array.ext_getElem?
    intro k
    rw [hk k]
    have hl : (bytesV (hflat vs)).length = vs.length * 32 := by rw [bytesV_len, hflat_len]
    rw [List.length_map]
    by_cases hlt : k < vs.length * 32
    · rw [if_pos (by omega), Nat.sub_zero]
      unfold bytesV
      rw [List.getElem?_toArray, List.getElem?_map, List.getElem?_map, hflat_at]
      cases vs[k / 32]? with
      | none => rfl
      | some x => simp [hv, Value.cells, bytesV]
    · rw [if_neg (by omega), Array.getElem?_eq_none (by rw [Array.size_map, Array.size_range]; omega), Array.getElem?_eq_none (by rw [List.size_toArray]; omega)]
  rw [e] at hr
  exact run_buildSlice w 31 24 vs.length _ _ i0 _ Tryd.underlying31 hi hz0 (by rw [hz1]; omega) (by rw [hz1]; omega) (by rw [hz1]; exact hr)
theorem wpList_hashes {ops : Array Oper} {rest : List Oper} {o : Oper} {a : Act} {w : World} {Q : Exit → Act → World → Prop} (hg : o.guard = none) (vs : List H) (n : Nat) (parts : Array (Nat × Operand)) (ho : o.op = .buildSlice 31 n parts)
    (hn : vs.length = n) (hpos : 0 < n) (hs : n ≤ 1000) (hp : (parts.map fun (i, x) => (i, a.eval x)) = (((vs.map hv).zipIdx 0).map fun x => (x.2, x.1)).toArray)
    (h : wpList Tryd.prog ops Q rest (a.put o.dst (.slice (some ⟨w.heap.size, 0, none⟩) n n)) (w.alloc (.cells (bytesV (hflat vs)).toArray 24))) : wpList Tryd.prog ops Q (o :: rest) a w := by
  subst hn
  refine wpList_plain hg fun K hK => ?_
  unfold Oper.wp execOp
  simp only [ho, Sem.run_bind, hp, build_hashes vs hpos hs w, Result.andThen_ok]
  exact hK _ _ h
theorem wpList_hashesIf {ops : Array Oper} {rest : List Oper} {o : Oper} {a : Act} {w : World} {Q : Exit → Act → World → Prop} (hw : Region.wanted o (yielded ops a.tmps) = true) (vs : List H) (n : Nat) (parts : Array (Nat × Operand)) (ho : o.op = .buildSlice 31 n parts)
    (hn : vs.length = n) (hpos : 0 < n) (hs : n ≤ 1000) (hp : (parts.map fun (i, x) => (i, a.eval x)) = (((vs.map hv).zipIdx 0).map fun x => (x.2, x.1)).toArray)
    (h : wpList Tryd.prog ops Q rest (a.put o.dst (.slice (some ⟨w.heap.size, 0, none⟩) n n)) (w.alloc (.cells (bytesV (hflat vs)).toArray 24))) : wpList Tryd.prog ops Q (o :: rest) a w := by
  subst hn
  simp only [wpList]
  rw [if_pos hw]
  refine .inl ?_
  unfold Oper.wp execOp
  simp only [ho, Sem.run_bind, hp, build_hashes vs hpos hs w, Result.andThen_ok]
  exact h
/-- The slice that it makes. -/
theorem hs_new (w : World) (vs : List H) (e : TypeId) {B n : Nat} (hB : w.heap.size = B) (hn : vs.length = n) : Hs (w.alloc (.cells (bytesV (hflat vs)).toArray e)) (.slice (some ⟨B, 0, none⟩) n n) vs := by
  subst hB hn
  exact isSl_new w _ e 32 vs.length (by rw [bytesV_len, hflat_len]) (bytesV_one _)
theorem own_new (w : World) (vs : List H) {B n base : Nat} (hB : w.heap.size = B) (hn : vs.length = n) (hb : base ≤ B) (hm : n ≤ maxLen) : (w.alloc (.cells (bytesV (hflat vs)).toArray 24)).ownsRow base 24 32 (.slice (some ⟨B, 0, none⟩) n n) n (bytesV (hflat vs)) := by
  subst hB hn
  have hl : (bytesV (hflat vs)).length = vs.length * 32 := by rw [bytesV_len, hflat_len]
  exact ⟨hl, .inr ⟨w.heap.size, vs.length, _, rfl, hb, heap_alloc_new w _, Nat.le_refl _, hm, by simpa using hl, by simp [List.take_of_length_le (Nat.le_of_eq hl)]⟩⟩
end Go.Proofs.YtkfplliipogagaaDoor
