/- Arguments opened: a slice of hashes, out of the row's reading of it. No condition. -/
import Derived.Test.YtkfplliipogagaaDoorOpen
import Derived.Test.YtkfplliipogagaaDoorHash
import Derived.Test.YtkfplliipogagaaDoorHashB
namespace Go.Proofs.YtkfplliipogagaaDoor
open Go.ChangeShapes Go.WideShapes Go.Deep Go.RowKit

instance instInhH : Inhabited H := ⟨⟨List.replicate 32 0, by simp⟩⟩
section
variable {T : Type} {enc : TypeId × Value → T} {P : Program} {w : World} {base : Nat} {held : Bool}
theorem trod_hashes {t e q : TypeId} {fuel : Nat} {v : Value} {x : DataW T × List MemPlace} (ht : P.underlying t = some (.slice e)) (he : P.underlying e = some (.array 32 q)) (hq : P.underlying q = some (.int .u8)) (ce : P.cellsOf e = 32) (cq : P.cellsOf q = 1)
    (h : DataW.trod enc P w base (fun _ => true) held fuel t [v] = some x) : ∃ l : List H, Hs w v l ∧ l.length ≤ maxLen := by
  rcases open_slice ht h with ⟨hcs, _⟩ | ⟨a, len, cap, m, n, D, Pl, hcs, _, hle, hm, hmm, _, hx⟩
  · cases hcs
    exact ⟨[], Hs.nil w, by simp⟩
  · cases hcs
    simp only [if_true] at hmm
    subst hmm
    rw [ce] at hx
    obtain ⟨L, hL⟩ := choose_lt (n := len) (α := H) (p := fun i x => w.cells? base (a.add (i * 32)) 32 = some (bytesV x.b)) (fun i hi => by
      obtain ⟨cs', h1, h2⟩ := hx i (by omega)
      obtain ⟨zs, hl, rfl, hw⟩ := trod_array_ints he hq cq ce h2
      exact ⟨⟨zs.map fun z => UInt8.ofNat z.toNat, by rw [List.length_map, hl]⟩, by rw [h1, bytes_of_ints hw]⟩)
    refine ⟨(List.range len).map L, ?_, by simp; omega⟩
    refine ⟨by rw [bytesV_len, hflat_len], bytesV_one _, .inr ⟨a, m, by simp, by simpa using hle, fun j u hu => ?_⟩⟩
    unfold bytesV at hu
    rw [List.getElem?_map, hflat_at, List.getElem?_map] at hu
    obtain ⟨c, hc, rfl⟩ := Option.map_eq_some_iff.1 hu
    obtain ⟨x, hx', hb⟩ := Option.bind_eq_some_iff.1 hc
    obtain ⟨i, hi, rfl⟩ := Option.map_eq_some_iff.1 hx'
    obtain ⟨hj, rfl⟩ := List.getElem?_eq_some_iff.1 hi
    rw [List.length_range] at hj
    rw [List.getElem_range] at hb
    obtain ⟨_, _, h3⟩ := World.cells?_some (hL (j / 32) hj)
    have := h3 (j % 32) (by omega)
    rw [add_add, show j / 32 * 32 + j % 32 = j by omega] at this
    rw [this]
    exact bytesV_at _ _ _ hb
theorem open_hashes {r : Reach} {b0 : Nat} {t e q : TypeId} {v : Value} {d : DataW T} {ps : List MemPlace} (ht : P.underlying t = some (.slice e)) (he : P.underlying e = some (.array 32 q)) (hq : P.underlying q = some (.int .u8)) (ce : P.cellsOf e = 32) (cq : P.cellsOf q = 1)
    (hval : Value.okWide P w r b0 t v) (hd : DataW.Trod enc P w base (fun _ => true) held t v d ps) : ∃ l : List H, Hs w v l ∧ l.length ≤ maxLen := by
  obtain ⟨a, len, cap, rfl⟩ := okWide_slice ht hval
  obtain ⟨fuel, hf⟩ := hd
  exact trod_hashes ht he hq ce cq hf
end
end Go.Proofs.YtkfplliipogagaaDoor
