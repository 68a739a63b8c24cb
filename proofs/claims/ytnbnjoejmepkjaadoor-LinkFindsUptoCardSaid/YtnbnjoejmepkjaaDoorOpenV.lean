/- Arguments opened with their bulk (for an upto row): how long a slice of slices of bytes, and each of them, can be; a slice of hashes. Conditions: what each part says. -/
import Derived.Test.YtnbnjoejmepkjaaDoorOpenA
import Derived.Test.YtnbnjoejmepkjaaDoorHashP
import Derived.Test.YtnbnjoejmepkjaaDoorRows
/-! OpenU: Arguments opened with their bulk (for an upto row): how long a slice of slices of bytes, and each of them, can be; a slice of hashes. Condition: what the row says of the bulk. -/
namespace Go.Proofs.YtnbnjoejmepkjaaDoor
open Go.ChangeShapes Go.WideShapes Go.Deep Go.RowKit

section
variable {T : Type} {enc : TypeId × Value → T} {P : Program} {w : World} {base : Nat} {held : Bool}
theorem bulk_one (d : DataW T) : 1 ≤ Rows.uptoBulk d := by
  cases d with
  | lit l => cases l <;> simp [Rows.uptoBulk]
  | nil => simp [Rows.uptoBulk]
  | ptr d => simp [Rows.uptoBulk]
  | slice elems spare => simp [Rows.uptoBulk]
  | agg parts => simp [Rows.uptoBulk]
  | iface t d => simp [Rows.uptoBulk]
  | map entries => simp [Rows.uptoBulk]
  | held h => simp [Rows.uptoBulk]
theorem bulk_part {d : DataW T} {l : List (DataW T)} (h : d ∈ l) : Rows.uptoBulk d ≤ Rows.uptoBulkAll l := by
  induction l with
  | nil => cases h
  | cons x r ih =>
    simp only [Rows.uptoBulkAll]
    cases List.mem_cons.1 h with
    | inl e => subst e; omega
    | inr e => have := ih e; omega
theorem bulk_len (l : List (DataW T)) : l.length ≤ Rows.uptoBulkAll l := by
  induction l with
  | nil => simp [Rows.uptoBulkAll]
  | cons x r ih => have := bulk_one x; simp only [Rows.uptoBulkAll, List.length_cons]; omega
theorem bulk_slice {elems spare : List (DataW T)} {B : Nat} (h : Rows.uptoBulk (.slice elems spare) ≤ B) : Rows.uptoBulkAll elems ≤ B := by
  simp only [Rows.uptoBulk] at h
  omega
theorem trod_bytes_u {t e : TypeId} {fuel : Nat} {v : Value} {x : DataW T × List MemPlace} {B : Nat} (ht : P.underlying t = some (.slice e)) (he : P.underlying e = some (.int .u8)) (hc : P.cellsOf e = 1)
    (h : DataW.trod enc P w base (fun _ => true) held fuel t [v] = some x) (hw : Rows.uptoBulk x.1 ≤ B) : ∃ l, Bytes w v l ∧ l.length ≤ B := by
  obtain ⟨l, hl, _⟩ := trod_bytes ht he hc h
  refine ⟨l, hl, ?_⟩
  obtain ⟨a0, c0, e0, _⟩ := hl.form
  rcases open_ints ht he hc h with ⟨hcs, _⟩ | ⟨a, len, cap, zs, hcs, _, hle, hm, hlen, hx, _⟩
  · cases hcs
    injection e0 with _ e1 _
    omega
  · cases hcs
    injection e0 with _ e1 _
    simp only [if_true] at hlen
    rw [hx] at hw
    have h1 := bulk_slice hw
    have h2 := bulk_len (T := T) (lits .u8 (zs.take len))
    simp only [lits, List.length_map, List.length_take] at h1 h2
    omega
theorem trod_parts_u {t e q : TypeId} {fuel : Nat} {v : Value} {x : DataW T × List MemPlace} {B : Nat} (ht : P.underlying t = some (.slice e)) (he : P.underlying e = some (.slice q)) (hq : P.underlying q = some (.int .u8)) (ce : P.cellsOf e = 1) (cq : P.cellsOf q = 1)
    (h : DataW.trod enc P w base (fun _ => true) held fuel t [v] = some x) (hw : Rows.uptoBulk x.1 ≤ B) : ∃ ls vs, Parts w v ls vs ∧ ls.length ≤ B ∧ ∀ l ∈ ls, l.length ≤ B := by
  rcases open_slice1 ht ce h with ⟨hcs, _⟩ | ⟨a, len, cap, m, n, V, D, Pl, hcs, _, hle, hm, hmm, hxe, hx⟩
  · cases hcs
    exact ⟨[], [], ⟨rfl, IsSl.nil w 1, fun _ _ _ h => by cases h⟩, by simp, fun _ h => by cases h⟩
  · cases hcs
    simp only [if_true] at hmm
    subst hmm
    rw [hxe] at hw
    have h1 := bulk_slice hw
    have h2 := bulk_len ((List.range len).map D)
    rw [List.length_map, List.length_range] at h2
    have hD : ∀ i, i < len → Rows.uptoBulk (D i) ≤ B := fun i hi => Nat.le_trans (bulk_part (List.mem_map.2 ⟨i, List.mem_range.2 hi, rfl⟩)) h1
    obtain ⟨L, hL⟩ := choose_lt (n := len) (α := List UInt8) (p := fun i l => Bytes w (V i) l ∧ l.length ≤ B) (fun i hi => trod_bytes_u he hq cq (hx i (by omega)).2 (hD i hi))
    refine ⟨(List.range len).map L, (List.range len).map V, ⟨by simp, ⟨by simp, fun u hu => ?_, .inr ⟨a, m, by simp, by simpa using hle, fun j u hu => ?_⟩⟩, fun i x l hx' hl => ?_⟩, by simp; omega, fun l hl => ?_⟩
    · obtain ⟨i, hi, rfl⟩ := List.mem_map.1 hu
      obtain ⟨_, _, hf, _⟩ := (hL i (List.mem_range.1 hi)).1.form
      rw [hf]; rfl
    · rw [List.getElem?_map] at hu
      obtain ⟨i, hi, rfl⟩ := Option.map_eq_some_iff.1 hu
      obtain ⟨hj, rfl⟩ := List.getElem?_eq_some_iff.1 hi
      rw [List.getElem_range]
      rw [List.length_range] at hj
      exact (hx j (by omega)).1
    · rw [List.getElem?_map] at hx' hl
      obtain ⟨i', hi', rfl⟩ := Option.map_eq_some_iff.1 hx'
      rw [hi'] at hl
      cases hl
      obtain ⟨hj, rfl⟩ := List.getElem?_eq_some_iff.1 hi'
      rw [List.getElem_range]
      rw [List.length_range] at hj
      exact (hL i hj).1
    · obtain ⟨i, hi, rfl⟩ := List.mem_map.1 hl
      exact (hL i (List.mem_range.1 hi)).2
theorem open_parts_u {r : Reach} {b0 : Nat} {t e q : TypeId} {v : Value} {d : DataW T} {ps : List MemPlace} {B : Nat} (ht : P.underlying t = some (.slice e)) (he : P.underlying e = some (.slice q)) (hq : P.underlying q = some (.int .u8)) (ce : P.cellsOf e = 1) (cq : P.cellsOf q = 1)
    (hval : Value.okWide P w r b0 t v) (hd : DataW.Trod enc P w base (fun _ => true) held t v d ps) (hw : Rows.uptoBulk d ≤ B) : ∃ ls vs, Parts w v ls vs ∧ ls.length ≤ B ∧ ∀ l ∈ ls, l.length ≤ B := by
  obtain ⟨a, len, cap, rfl⟩ := okWide_slice ht hval
  obtain ⟨fuel, hf⟩ := hd
  exact trod_parts_u ht he hq ce cq hf hw
theorem open_hashes_u {r : Reach} {b0 : Nat} {t e q : TypeId} {v : Value} {d : DataW T} {ps : List MemPlace} {B : Nat} (ht : P.underlying t = some (.slice e)) (he : P.underlying e = some (.array 32 q)) (hq : P.underlying q = some (.int .u8)) (ce : P.cellsOf e = 32) (cq : P.cellsOf q = 1)
    (hval : Value.okWide P w r b0 t v) (hd : DataW.Trod enc P w base (fun _ => true) held t v d ps) (hw : Rows.uptoBulk d ≤ B) : ∃ l : List H, Hs w v l ∧ l.length ≤ B := by
  obtain ⟨l, hl, _⟩ := open_hashes ht he hq ce cq hval hd
  refine ⟨l, hl, ?_⟩
  obtain ⟨a, len, cap, rfl⟩ := okWide_slice ht hval
  obtain ⟨fuel, hf⟩ := hd
  obtain ⟨a0, c0, e0, _⟩ := hl.form
  rcases open_slice ht hf with ⟨hcs, _⟩ | ⟨a, len, cap, m, n, D, Pl, hcs, _, hle, hm, hmm, hxe, hx⟩
  · cases hcs
    injection e0 with _ e1 _
    omega
  · cases hcs
    injection e0 with _ e1 _
    simp only [if_true] at hmm
    subst hmm
    rw [(Prod.mk.inj hxe).1] at hw
    have h1 := bulk_slice hw
    have h2 := bulk_len ((List.range len).map D)
    rw [List.length_map, List.length_range] at h2
    omega
end
end Go.Proofs.YtnbnjoejmepkjaaDoor
