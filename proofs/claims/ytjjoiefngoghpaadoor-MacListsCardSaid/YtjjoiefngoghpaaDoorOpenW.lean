/- Arguments opened with their weights: how long a slice of slices of bytes, and each of them, can be. Condition: what the row says of the weights. -/
import Derived.Test.YtjjoiefngoghpaaDoorOpen
import Derived.SizedLaws
import Derived.Test.YtjjoiefngoghpaaDoorMacE
namespace Go.Proofs.YtjjoiefngoghpaaDoor
open Go.ChangeShapes Go.WideShapes Go.Deep Go.RowKit

section
variable {H : Type} {enc : TypeId × Value → H} {P : Program} {w : World} {base : Nat} {held : Bool}

theorem weights_mem_all {e : TypeId} : ∀ {ds : List (DataW H)} {d : DataW H}, d ∈ ds → ∀ n ∈ d.weights P e, n ∈ DataW.weightsAll P e ds
  | d0 :: ds, d, hd, n, hn => by
    simp only [DataW.weightsAll, List.mem_append]
    cases hd with
    | head => exact .inl hn
    | tail _ hd => exact .inr (weights_mem_all hd n hn)

theorem trod_bytes_w {t e : TypeId} {fuel : Nat} {v : Value} {x : DataW H × List MemPlace} (ht : P.underlying t = some (.slice e)) (he : P.underlying e = some (.int .u8)) (hc : P.cellsOf e = 1) (hb : P.bytesOf e = 1)
    (h : DataW.trod enc P w base (fun _ => true) held fuel t [v] = some x) (hw : ∀ n ∈ x.1.weights P t, n ≤ reachBytes) : ∃ l, Bytes w v l ∧ l.length ≤ reachBytes := by
  obtain ⟨l, hl, _⟩ := trod_bytes ht he hc h
  refine ⟨l, hl, ?_⟩
  obtain ⟨a0, c0, e0, _⟩ := hl.form
  rcases open_ints ht he hc h with ⟨hcs, _⟩ | ⟨a, len, cap, zs, hcs, _, hle, hm, hlen, hx, _⟩
  · cases hcs
    injection e0 with _ e1 _
    omega
  · cases hcs
    injection e0 with _ e1 _
    simp only [if_true] at hlen
    rw [hx] at hw
    have := hw ((len + (zs.length - len)) * 1) (by simp [DataW.weights, ht, lits, hb]; left; omega)
    omega

theorem trod_parts_w {t e q : TypeId} {fuel : Nat} {v : Value} {x : DataW H × List MemPlace} (ht : P.underlying t = some (.slice e)) (he : P.underlying e = some (.slice q)) (hq : P.underlying q = some (.int .u8)) (ce : P.cellsOf e = 1) (cq : P.cellsOf q = 1) (be : P.bytesOf e = 24) (bq : P.bytesOf q = 1)
    (h : DataW.trod enc P w base (fun _ => true) held fuel t [v] = some x) (hw : ∀ n ∈ x.1.weights P t, n ≤ reachBytes) : ∃ ls vs, Parts w v ls vs ∧ ls.length ≤ reachBytes ∧ ∀ l ∈ ls, l.length ≤ reachBytes := by
  rcases open_slice1 ht ce h with ⟨hcs, _⟩ | ⟨a, len, cap, m, n, V, D, Pl, hcs, _, hle, hm, hmm, hxe, hx⟩
  · cases hcs
    exact ⟨[], [], ⟨rfl, IsSl.nil w 1, fun _ _ _ h => by cases h⟩, by simp, fun _ h => by cases h⟩
  · cases hcs
    simp only [if_true] at hmm
    subst hmm
    rw [hxe] at hw
    have hl24 : len ≤ reachBytes := by
      have := hw ((len + (m - len)) * 24) (by simp [DataW.weights, ht, be])
      omega
    have hD : ∀ i, i < len → ∀ n ∈ (D i).weights P e, n ≤ reachBytes := fun i hi n hn => hw n (by
      simp only [DataW.weights, ht, List.mem_cons, List.mem_append]
      exact .inr (.inl (weights_mem_all (List.mem_map.2 ⟨i, List.mem_range.2 hi, rfl⟩) n hn)))
    obtain ⟨L, hL⟩ := choose_lt (n := len) (α := List UInt8) (p := fun i l => Bytes w (V i) l ∧ l.length ≤ reachBytes) (fun i hi => trod_bytes_w he hq cq bq (hx i (by omega)).2 (hD i hi))
    refine ⟨(List.range len).map L, (List.range len).map V, ⟨by simp, ⟨by simp, fun u hu => ?_, .inr ⟨a, m, by simp, by simpa using hle, fun j u hu => ?_⟩⟩, fun i x l hx' hl => ?_⟩, by simpa using hl24, fun l hl => ?_⟩
    · obtain ⟨i, hi, rfl⟩ := List.mem_map.1 hu
      obtain ⟨_, _, hf, _⟩ := (hL i (List.mem_range.1 hi)).1.form
      rw [hf]; rfl
    · rw [List.getElem?_map] at hu
      obtain ⟨i, hi, rfl⟩ := Option.map_eq_some_iff.1 hu
      obtain ⟨hj, rfl⟩ := List.getElem?_eq_some_iff.1 hi
      rw [List.getElem_range]
      rw [List.length_range] at hj
      exact (hx j (by omega)).1
    · rw [List.getElem?_map] at hx' hl
      obtain ⟨i', hi', rfl⟩ := Option.map_eq_some_iff.1 hx'
      rw [hi'] at hl
      cases hl
      obtain ⟨hj, rfl⟩ := List.getElem?_eq_some_iff.1 hi'
      rw [List.getElem_range]
      rw [List.length_range] at hj
      exact (hL i hj).1
    · obtain ⟨i, hi, rfl⟩ := List.mem_map.1 hl
      exact (hL i (List.mem_range.1 hi)).2

theorem open_parts_w {r : Reach} {b0 : Nat} {t e q : TypeId} {v : Value} {d : DataW H} {ps : List MemPlace} (ht : P.underlying t = some (.slice e)) (he : P.underlying e = some (.slice q)) (hq : P.underlying q = some (.int .u8)) (ce : P.cellsOf e = 1) (cq : P.cellsOf q = 1) (be : P.bytesOf e = 24) (bq : P.bytesOf q = 1)
    (hval : Value.okWide P w r b0 t v) (hd : DataW.Trod enc P w base (fun _ => true) held t v d ps) (hw : ∀ n ∈ d.weights P t, n ≤ reachBytes) : ∃ ls vs, Parts w v ls vs ∧ ls.length ≤ 4611686018427387904 ∧ ∀ l ∈ ls, l.length ≤ 4611686018427387904 := by
  obtain ⟨a, len, cap, rfl⟩ := okWide_slice ht hval
  obtain ⟨fuel, hf⟩ := hd
  obtain ⟨ls, vs, h1, h2, h3⟩ := trod_parts_w ht he hq ce cq be bq hf hw
  have hr := reachBytes_lt
  exact ⟨ls, vs, h1, by omega, fun l hl => by have := h3 l hl; omega⟩
theorem open_words {r : Reach} {b0 : Nat} {t e : TypeId} {v : Value} {d : DataW H} {ps : List MemPlace} (ht : P.underlying t = some (.slice e)) (he : P.underlying e = some (.int .i64)) (hc : P.cellsOf e = 1)
    (hval : Value.okWide P w r b0 t v) (hd : DataW.Trod enc P w base (fun _ => true) held t v d ps) : ∃ ns, Ints w v ns ∧ ns.length ≤ maxLen := by
  obtain ⟨a, len, cap, rfl⟩ := okWide_slice ht hval
  obtain ⟨fuel, h⟩ := hd
  rcases open_ints ht he hc h with ⟨hcs, _⟩ | ⟨a, len, cap, zs, hcs, _, hle, hm, hlen, _, hcell, hwf⟩
  · cases hcs
    exact ⟨[], IsSl.nil w 1, by simp⟩
  · cases hcs
    simp only [if_true] at hlen
    have hl : (zs.take len).length = len := by rw [List.length_take]; omega
    refine ⟨zs.take len, ⟨by rw [intsV_len, Nat.mul_one], fun u hu => ?_, .inr ⟨a, cap, by rw [hl], by rw [hl]; exact hle, fun j u hu => ?_⟩⟩, by rw [hl]; omega⟩
    · obtain ⟨_, _, rfl⟩ := List.mem_map.1 hu
      rfl
    · unfold intsV at hu
      rw [List.getElem?_map] at hu
      obtain ⟨z, hz, rfl⟩ := Option.map_eq_some_iff.1 hu
      have hj : j < zs.length := by
        have := (List.getElem?_eq_some_iff.1 hz).1
        rw [hl] at this
        omega
      rw [hcell j hj]
      rw [List.getElem?_take] at hz
      split at hz
      · simp [List.getD, hz]
      · cases hz
theorem weights_at {ts : List TypeId} {ds : List (DataW H)} (h : (DataW.weightsEach P ts ds).all (· ≤ reachBytes) = true) {j : Nat} {t : TypeId} {d : DataW H} (ht : ts[j]? = some t) (hd : ds[j]? = some d) : ∀ n ∈ d.weights P t, n ≤ reachBytes := fun n hn => by
  have := List.all_eq_true.1 h n (DataW.weights_mem_each ht hd n hn)
  simpa using this
theorem weights_arg {ts vs : List TypeId} {ds gs : List (DataW H)} (h : (DataW.weightsEach P (ts ++ vs) (ds ++ gs)).all (· ≤ reachBytes) = true) {j : Nat} {t : TypeId} {d : DataW H} (ht : ts[j]? = some t) (hd : ds[j]? = some d) : ∀ n ∈ d.weights P t, n ≤ reachBytes :=
  weights_at h (by rw [List.getElem?_append_left (List.getElem?_eq_some_iff.1 ht).1]; exact ht) (by rw [List.getElem?_append_left (List.getElem?_eq_some_iff.1 hd).1]; exact hd)
end
end Go.Proofs.YtjjoiefngoghpaaDoor
