/- Arguments opened: a slice of bytes, a slice of slices of bytes, an array of bytes, a row of eight words, out of the row's reading of them; and carried back behind the call. No condition. Arguments opened: a slice of hashes, out of the row's reading of it. No condition. Arguments opened: six of them; a byte with its bound. No condition. Conditions: what each part says. -/
import Derived.Test.YtldokkbfahobgaaDoorShaW
import Derived.Test.YtldokkbfahobgaaDoorHashP
import Derived.Deep.Slices
import Derived.OpenShut
import Derived.ProofKit
/-! Open: Arguments opened: a slice of bytes, a slice of slices of bytes, an array of bytes, a row of eight words, out of the row's reading of them; and carried back behind the call. No condition. -/
namespace Go.Proofs.YtldokkbfahobgaaDoor
open Go.ChangeShapes Go.WideShapes Go.Deep Go.RowKit

section
variable {H : Type} {enc : TypeId × Value → H} {P : Program} {w : World} {base : Nat} {held : Bool}

theorem bytes_of_ints {zs : List Int} (h : ∀ n ∈ zs, (Lit.int .u8 n).wf = true) : zs.map (Value.int .u8) = bytesV (zs.map fun z => UInt8.ofNat z.toNat) := by
  unfold bytesV
  rw [List.map_map]
  refine List.map_congr_left fun z hz => ?_
  have := bounds_u8 (h z hz)
  simp only [Function.comp]
  congr 1
  rw [UInt8.toNat_ofNat']
  omega

theorem trod_bytes {t e : TypeId} {fuel : Nat} {v : Value} {x : DataW H × List MemPlace} (ht : P.underlying t = some (.slice e)) (he : P.underlying e = some (.int .u8)) (hc : P.cellsOf e = 1)
    (h : DataW.trod enc P w base (fun _ => true) held fuel t [v] = some x) : ∃ l, Bytes w v l ∧ l.length ≤ maxLen := by
  rcases open_ints ht he hc h with ⟨hcs, _⟩ | ⟨a, len, cap, zs, hcs, _, hle, hm, hlen, _, hcell, hwf⟩
  · cases hcs
    exact ⟨[], IsSl.nil w 1, by simp⟩
  · cases hcs
    simp only [if_true] at hlen
    have hw : ∀ n ∈ zs.take len, (Lit.int .u8 n).wf = true := fun n hn => hwf n (List.mem_of_mem_take hn)
    have hl : (zs.take len).length = len := by rw [List.length_take]; omega
    refine ⟨(zs.take len).map fun z => UInt8.ofNat z.toNat, ⟨by rw [bytesV_len, Nat.mul_one], bytesV_one _, .inr ⟨a, cap, by rw [List.length_map, hl], by rw [List.length_map, hl]; exact hle, fun j u hu => ?_⟩⟩, by rw [List.length_map, hl]; omega⟩
    rw [← bytes_of_ints hw, List.getElem?_map] at hu
    obtain ⟨z, hz, rfl⟩ := Option.map_eq_some_iff.1 hu
    have hj : j < zs.length := by
      have := (List.getElem?_eq_some_iff.1 hz).1
      rw [hl] at this
      omega
    rw [hcell j hj]
    rw [List.getElem?_take] at hz
    split at hz
    · simp [List.getD, hz]
    · cases hz

theorem open_bytes {r : Reach} {b0 : Nat} {t e : TypeId} {v : Value} {d : DataW H} {ps : List MemPlace} (ht : P.underlying t = some (.slice e)) (he : P.underlying e = some (.int .u8)) (hc : P.cellsOf e = 1)
    (hval : Value.okWide P w r b0 t v) (hd : DataW.Trod enc P w base (fun _ => true) held t v d ps) : ∃ l, Bytes w v l ∧ l.length ≤ maxLen := by
  obtain ⟨a, len, cap, rfl⟩ := okWide_slice ht hval
  obtain ⟨fuel, hf⟩ := hd
  exact trod_bytes ht he hc hf

theorem trod_parts {t e q : TypeId} {fuel : Nat} {v : Value} {x : DataW H × List MemPlace} (ht : P.underlying t = some (.slice e)) (he : P.underlying e = some (.slice q)) (hq : P.underlying q = some (.int .u8)) (ce : P.cellsOf e = 1) (cq : P.cellsOf q = 1)
    (h : DataW.trod enc P w base (fun _ => true) held fuel t [v] = some x) : ∃ ls vs, Parts w v ls vs ∧ ls.length ≤ maxLen ∧ ∀ l ∈ ls, l.length ≤ maxLen := by
  rcases open_slice1 ht ce h with ⟨hcs, _⟩ | ⟨a, len, cap, m, n, V, D, Pl, hcs, _, hle, hm, hmm, _, hx⟩
  · cases hcs
    exact ⟨[], [], ⟨rfl, IsSl.nil w 1, fun _ _ _ h => by cases h⟩, by simp, fun _ h => by cases h⟩
  · cases hcs
    simp only [if_true] at hmm
    subst hmm
    obtain ⟨L, hL⟩ := choose_lt (n := len) (α := List UInt8) (p := fun i l => Bytes w (V i) l ∧ l.length ≤ maxLen) (fun i hi => trod_bytes he hq cq (hx i (by omega)).2)
    refine ⟨(List.range len).map L, (List.range len).map V, ⟨by simp, ⟨by simp, fun u hu => ?_, .inr ⟨a, m, by simp, by simpa using hle, fun j u hu => ?_⟩⟩, fun i x l hx' hl => ?_⟩, by simp; omega, fun l hl => ?_⟩
    · obtain ⟨i, hi, rfl⟩ := List.mem_map.1 hu
      obtain ⟨_, _, hf, _⟩ := (hL i (List.mem_range.1 hi)).1.form
      rw [hf]; rfl
    · rw [List.getElem?_map] at hu
      obtain ⟨i, hi, rfl⟩ := Option.map_eq_some_iff.1 hu
      obtain ⟨hj, rfl⟩ := List.getElem?_eq_some_iff.1 hi
      rw [List.getElem_range]
      rw [List.length_range] at hj
      exact (hx j (by omega)).1
    · rw [List.getElem?_map] at hx' hl
      obtain ⟨i', hi', rfl⟩ := Option.map_eq_some_iff.1 hx'
      rw [hi'] at hl
      cases hl
      obtain ⟨hj, rfl⟩ := List.getElem?_eq_some_iff.1 hi'
      rw [List.getElem_range]
      rw [List.length_range] at hj
      exact (hL i hj).1
    · obtain ⟨i, hi, rfl⟩ := List.mem_map.1 hl
      exact (hL i (List.mem_range.1 hi)).2

theorem open_parts {r : Reach} {b0 : Nat} {t e q : TypeId} {v : Value} {d : DataW H} {ps : List MemPlace} (ht : P.underlying t = some (.slice e)) (he : P.underlying e = some (.slice q)) (hq : P.underlying q = some (.int .u8)) (ce : P.cellsOf e = 1) (cq : P.cellsOf q = 1)
    (hval : Value.okWide P w r b0 t v) (hd : DataW.Trod enc P w base (fun _ => true) held t v d ps) : ∃ ls vs, Parts w v ls vs ∧ ls.length ≤ maxLen ∧ ∀ l ∈ ls, l.length ≤ maxLen := by
  obtain ⟨a, len, cap, rfl⟩ := okWide_slice ht hval
  obtain ⟨fuel, hf⟩ := hd
  exact trod_parts ht he hq ce cq hf

theorem okWide_array {r : Reach} {b0 : Nat} {t e : TypeId} {n : Nat} {v : Value} (ht : P.underlying t = some (.array n e)) (h : Value.okWide P w r b0 t v) : ∃ cs, v = .agg cs := by
  simp only [Value.okWide, ht] at h
  obtain ⟨cs, rfl, _⟩ := h
  exact ⟨cs, rfl⟩

theorem trod_array_ints {t e : TypeId} {k : IntKind} {n fuel : Nat} {cs : List Value} {x : DataW H × List MemPlace} {sp : Nat → Bool} (ht : P.underlying t = some (.array n e)) (he : P.underlying e = some (.int k)) (hc : P.cellsOf e = 1) (hn : P.cellsOf t = n)
    (h : DataW.trod enc P w base sp held fuel t cs = some x) : ∃ zs : List Int, zs.length = n ∧ cs = zs.map (Value.int k) ∧ ∀ z ∈ zs, (Lit.int k z).wf = true := by
  obtain ⟨xs, m, _, _, hl, hxl, hx⟩ := DataW.trod_array ht h
  rw [hn] at hl
  rw [hc] at hx
  have each : ∀ i, i < n → ∃ z, cs[i]? = some (.int k z) ∧ (Lit.int k z).wf = true := by
    intro i hi
    have h1 := hx i hi
    rw [List.getElem?_eq_getElem (by omega)] at h1
    obtain ⟨z, hz, _, hw⟩ := DataW.trod_int he h1
    refine ⟨z, ?_, hw⟩
    have h2 : ((cs.drop (i * 1)).take 1)[0]? = some (.int k z) := by rw [hz]; rfl
    rw [List.getElem?_take] at h2
    simpa using h2
  obtain ⟨Z, hZ⟩ := choose_lt each
  refine ⟨(List.range n).map Z, by simp, List.ext_getElem? fun i => ?_, fun z hz => ?_⟩
  · by_cases hi : i < n
    · rw [(hZ i hi).1, List.map_map, List.getElem?_map, List.getElem?_range hi]
      rfl
    · rw [List.getElem?_eq_none (by omega), List.getElem?_eq_none (by simp; omega)]
  · obtain ⟨i, hi, rfl⟩ := List.mem_map.1 hz
    exact (hZ i (List.mem_range.1 hi)).2

theorem open_array {r : Reach} {b0 : Nat} {t e : TypeId} {k : IntKind} {n : Nat} {v : Value} {d : DataW H} {ps : List MemPlace} {sp : Nat → Bool} (ht : P.underlying t = some (.array n e)) (he : P.underlying e = some (.int k)) (hc : P.cellsOf e = 1) (hn : P.cellsOf t = n)
    (hval : Value.okWide P w r b0 t v) (hd : DataW.Trod enc P w base sp held t v d ps) : ∃ zs : List Int, zs.length = n ∧ v = .agg (zs.map (Value.int k)).toArray ∧ ∀ z ∈ zs, (Lit.int k z).wf = true := by
  obtain ⟨cs, rfl⟩ := okWide_array ht hval
  obtain ⟨fuel, hf⟩ := hd
  obtain ⟨zs, hl, hcs, hw⟩ := trod_array_ints ht he hc hn hf
  refine ⟨zs, hl, ?_, hw⟩
  rw [← hcs]
  simp [Value.cells]

/-- An array of bytes. -/
theorem open_hash {r : Reach} {b0 : Nat} {t e : TypeId} {n : Nat} {v : Value} {d : DataW H} {ps : List MemPlace} {sp : Nat → Bool} (ht : P.underlying t = some (.array n e)) (he : P.underlying e = some (.int .u8)) (hc : P.cellsOf e = 1) (hn : P.cellsOf t = n)
    (hval : Value.okWide P w r b0 t v) (hd : DataW.Trod enc P w base sp held t v d ps) : ∃ l : List UInt8, l.length = n ∧ v = hash32 l := by
  obtain ⟨zs, hl, rfl, hw⟩ := open_array ht he hc hn hval hd
  exact ⟨zs.map fun z => UInt8.ofNat z.toNat, by rw [List.length_map, hl], by rw [bytes_of_ints hw]; rfl⟩

/-- Eight words. -/
theorem open_eight {r : Reach} {b0 : Nat} {t e : TypeId} {v : Value} {d : DataW H} {ps : List MemPlace} {sp : Nat → Bool} (ht : P.underlying t = some (.array 8 e)) (he : P.underlying e = some (.int .u32)) (hc : P.cellsOf e = 1) (hn : P.cellsOf t = 8)
    (hval : Value.okWide P w r b0 t v) (hd : DataW.Trod enc P w base sp held t v d ps) : ∃ s : N8, s.Ok ∧ v = .agg s.cast.vals.toArray := by
  obtain ⟨zs, hl, rfl, hw⟩ := open_array ht he hc hn hval hd
  match zs, hl, hw with
  | [a, b, c, d, e, f, g, h], _, hw =>
    have B : ∀ z ∈ [a, b, c, d, e, f, g, h], ((z.toNat : Nat) : Int) = z ∧ z.toNat < 4294967296 := fun z hz => by
      have := bounds_u32 (hw z hz)
      omega
    refine ⟨⟨a.toNat, b.toNat, c.toNat, d.toNat, e.toNat, f.toNat, g.toNat, h.toNat⟩, ?_, ?_⟩
    · constructor <;> exact (B _ (by simp)).2
    · simp only [N8.cast, S8.vals, List.map_cons, List.map_nil]
      rw [(B a (by simp)).1, (B b (by simp)).1, (B c (by simp)).1, (B d (by simp)).1, (B e (by simp)).1, (B f (by simp)).1, (B g (by simp)).1, (B h (by simp)).1]

theorem trodAll_len {w : World} {sp : Nat → Bool} : ∀ {ts : List TypeId} {vs : List Value} {ds : List (DataW H)} {ps : List MemPlace}, DataW.TrodAll enc P w base sp held ts vs ds ps → ds.length = ts.length
  | [], [], [], _, _ => rfl
  | _ :: _, _ :: _, _ :: _, _, ⟨_, _, _, h, _⟩ => by rw [List.length_cons, List.length_cons, trodAll_len h]
  | _ :: _, [], _, _, h => h.elim
  | _ :: _, _ :: _, [], _, h => h.elim
  | [], _ :: _, _, _, h => h.elim
  | [], [], _ :: _, _, h => h.elim

/-- Behind a call that turned nothing old every argument reads as it did. -/
theorem trodAll_below {W W' : World} (hl : laidOutB P = true) (hb : Below W.heap.size W W') : ∀ {ts : List TypeId} {vs : List Value} {ds : List (DataW H)} {ps : List MemPlace}, (ts.all fun t => P.readableRec t && decide (t < P.types.size)) = true →
    DataW.TrodAll enc P W 0 (fun _ => true) true ts vs ds ps → (∀ x ∈ ps, x.block < W.heap.size) → DataW.TrodAll enc P W' 0 (fun b => decide (b < W.heap.size)) true ts vs ds ps
  | [], [], [], _, _, h, _ => h
  | t :: ts, v :: vs, d :: ds, _, hr, ⟨p, q, h1, h2, e⟩, hlt => by
    subst e
    rw [List.all_cons, Bool.and_eq_true, Bool.and_eq_true, decide_eq_true_eq] at hr
    exact ⟨p, q, Below.trod hl hr.1.1 hr.1.2 h1 hb (fun x hx => hlt x (List.mem_append_left _ hx)), trodAll_below hl hb hr.2 h2 (fun x hx => hlt x (List.mem_append_right _ hx)), rfl⟩
  | _ :: _, [], _, _, _, h, _ => h.elim
  | _ :: _, _ :: _, [], _, _, h, _ => h.elim
  | [], _ :: _, _, _, _, h, _ => h.elim
  | [], [], _ :: _, _, _, h, _ => h.elim
end
end Go.Proofs.YtldokkbfahobgaaDoor

/-! OpenH: Arguments opened: a slice of hashes, out of the row's reading of it. No condition. -/
namespace Go.Proofs.YtldokkbfahobgaaDoor
open Go.ChangeShapes Go.WideShapes Go.Deep Go.RowKit

instance instInhH : Inhabited H := ⟨⟨List.replicate 32 0, by simp⟩⟩
section
variable {T : Type} {enc : TypeId × Value → T} {P : Program} {w : World} {base : Nat} {held : Bool}
theorem trod_hashes {t e q : TypeId} {fuel : Nat} {v : Value} {x : DataW T × List MemPlace} (ht : P.underlying t = some (.slice e)) (he : P.underlying e = some (.array 32 q)) (hq : P.underlying q = some (.int .u8)) (ce : P.cellsOf e = 32) (cq : P.cellsOf q = 1)
    (h : DataW.trod enc P w base (fun _ => true) held fuel t [v] = some x) : ∃ l : List H, Hs w v l ∧ l.length ≤ maxLen := by
  rcases open_slice ht h with ⟨hcs, _⟩ | ⟨a, len, cap, m, n, D, Pl, hcs, _, hle, hm, hmm, _, hx⟩
  · cases hcs
    exact ⟨[], Hs.nil w, by simp⟩
  · cases hcs
    simp only [if_true] at hmm
    subst hmm
    rw [ce] at hx
    obtain ⟨L, hL⟩ := choose_lt (n := len) (α := H) (p := fun i x => w.cells? base (a.add (i * 32)) 32 = some (bytesV x.b)) (fun i hi => by
      obtain ⟨cs', h1, h2⟩ := hx i (by omega)
      obtain ⟨zs, hl, rfl, hw⟩ := trod_array_ints he hq cq ce h2
      exact ⟨⟨zs.map fun z => UInt8.ofNat z.toNat, by rw [List.length_map, hl]⟩, by rw [h1, bytes_of_ints hw]⟩)
    refine ⟨(List.range len).map L, ?_, by simp; omega⟩
    refine ⟨by rw [bytesV_len, hflat_len], bytesV_one _, .inr ⟨a, m, by simp, by simpa using hle, fun j u hu => ?_⟩⟩
    unfold bytesV at hu
    rw [List.getElem?_map, hflat_at, List.getElem?_map] at hu
    obtain ⟨c, hc, rfl⟩ := Option.map_eq_some_iff.1 hu
    obtain ⟨x, hx', hb⟩ := Option.bind_eq_some_iff.1 hc
    obtain ⟨i, hi, rfl⟩ := Option.map_eq_some_iff.1 hx'
    obtain ⟨hj, rfl⟩ := List.getElem?_eq_some_iff.1 hi
    rw [List.length_range] at hj
    rw [List.getElem_range] at hb
    obtain ⟨_, _, h3⟩ := World.cells?_some (hL (j / 32) hj)
    have := h3 (j % 32) (by omega)
    rw [add_add, show j / 32 * 32 + j % 32 = j by omega] at this
    rw [this]
    exact bytesV_at _ _ _ hb
theorem open_hashes {r : Reach} {b0 : Nat} {t e q : TypeId} {v : Value} {d : DataW T} {ps : List MemPlace} (ht : P.underlying t = some (.slice e)) (he : P.underlying e = some (.array 32 q)) (hq : P.underlying q = some (.int .u8)) (ce : P.cellsOf e = 32) (cq : P.cellsOf q = 1)
    (hval : Value.okWide P w r b0 t v) (hd : DataW.Trod enc P w base (fun _ => true) held t v d ps) : ∃ l : List H, Hs w v l ∧ l.length ≤ maxLen := by
  obtain ⟨a, len, cap, rfl⟩ := okWide_slice ht hval
  obtain ⟨fuel, hf⟩ := hd
  exact trod_hashes ht he hq ce cq hf
end
end Go.Proofs.YtldokkbfahobgaaDoor

/-! Open6: Arguments opened: six of them; a byte with its bound. No condition. -/
namespace Go.Proofs.YtldokkbfahobgaaDoor
open Go.ChangeShapes Go.WideShapes Go.Deep Go.RowKit

theorem okWide_u8 {P : Program} {w : World} {r : Reach} {base : Nat} {t : TypeId} {v : Value} (ht : P.underlying t = some (.int .u8)) (h : Value.okWide P w r base t v) : ∃ n : Nat, v = .int .u8 (n : Int) ∧ n < 256 := by
  obtain ⟨n, rfl⟩ := okWide_int ht h
  have h2 : IntKind.u8.has n := by
    simp only [Value.okWide, ht, Cell.okWide, Cell.ok] at h
    simp_all
  have h3 : (0 : Int) ≤ n ∧ n ≤ 255 := h2
  exact ⟨n.toNat, by rw [Int.toNat_of_nonneg h3.1], by omega⟩
section
variable {H : Type} {enc : TypeId × Value → H} {P : Program} {w : World} {base : Nat} {spare : Nat → Bool} {held : Bool}
theorem trodAll_six {t0 t1 t2 t3 t4 t5 : TypeId} {args : Array Value} {ds : List (DataW H)} {ps : List MemPlace} (h : DataW.TrodAll enc P w base spare held [t0, t1, t2, t3, t4, t5] args.toList ds ps) :
    ∃ v0 v1 v2 v3 v4 v5 d0 d1 d2 d3 d4 d5 p0 p1 p2 p3 p4 p5, args = #[v0, v1, v2, v3, v4, v5] ∧ ds = [d0, d1, d2, d3, d4, d5] ∧ ps = p0 ++ p1 ++ p2 ++ p3 ++ p4 ++ p5 ∧ DataW.Trod enc P w base spare held t0 v0 d0 p0 ∧ DataW.Trod enc P w base spare held t1 v1 d1 p1 ∧ DataW.Trod enc P w base spare held t2 v2 d2 p2 ∧ DataW.Trod enc P w base spare held t3 v3 d3 p3 ∧ DataW.Trod enc P w base spare held t4 v4 d4 p4 ∧ DataW.Trod enc P w base spare held t5 v5 d5 p5 := by
  obtain ⟨v0, vs, d0, ds0, p0, q0, hargs, rfl, rfl, h0, hr0⟩ := trodAll_cons h
  obtain ⟨v1, vs1, d1, ds1, p1, q1, rfl, rfl, rfl, h1, hr1⟩ := trodAll_cons hr0
  obtain ⟨v2, vs2, d2, ds2, p2, q2, rfl, rfl, rfl, h2, hr2⟩ := trodAll_cons hr1
  obtain ⟨v3, vs3, d3, ds3, p3, q3, rfl, rfl, rfl, h3, hr3⟩ := trodAll_cons hr2
  obtain ⟨v4, vs4, d4, ds4, p4, q4, rfl, rfl, rfl, h4, hr4⟩ := trodAll_cons hr3
  obtain ⟨v5, vs5, d5, ds5, p5, q5, rfl, rfl, rfl, h5, hr5⟩ := trodAll_cons hr4
  obtain ⟨rfl, rfl, rfl⟩ := trodAll_nil hr5
  exact ⟨v0, v1, v2, v3, v4, v5, d0, d1, d2, d3, d4, d5, p0, p1, p2, p3, p4, p5, by cases args; simp_all, rfl, by simp, h0, h1, h2, h3, h4, h5⟩
end
end Go.Proofs.YtldokkbfahobgaaDoor
