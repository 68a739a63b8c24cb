/- The digest of parts that the caller has just laid in a new block. Two arrays of numbers compared: the walk's law. What several texts share: bytes put together, zeros, constants that are converted, parts behind one another. No condition. Hashes and lists of hashes: as values, as cells, parts of them. No condition. Literals of hashes: a slice of them, laid in a new block. Plain law of lists' roots: how a list is split, and its root, over a node function that is left open. No condition. Plain law of paths: a leaf's path comes to the list's root. No condition. What a path comes to, its hashes taken by number, the last first. No condition. What a proof comes to, its hashes taken by number, the last first. No condition. What the law ShaBlocks says, in plain numbers: a text of whole blocks is turned block by block, and its digest's words are the last state's. No condition. The walk of mac.Equal, and of its closure. The walks of mac.row, and of mac.Of's and mac.Key's closures. The walks of mac.Of and mac.Key. Conditions: what each part says. -/
import Derived.Test.YtldokkbfahobgaaDoorShaW
import Derived.Test.YtldokkbfahobgaaDoorGround
import Derived.ChangeKeysEq
import Derived.Deep.Slices
import Derived.Great.BuildSlice
import Derived.Laws.MakeOwn
import Derived.Lib.SlBytesConst
import Derived.Stop.BytesEq
/-! SumAt: The digest of parts that the caller has just laid in a new block. Conditions: each part can be read; together at most 2^46 bytes; the package's tables read as they are laid. -/
namespace Go.Proofs.YtldokkbfahobgaaDoor
open Go.RowKit

theorem Bytes.one {w : World} {v : Value} {l : List UInt8} (h : Bytes w v l) : v.oneCell' = true := by
  obtain ⟨_, _, rfl, _⟩ := h.form
  rfl
theorem Bytes.below {w w' : World} {v : Value} {l : List UInt8} (h : Bytes w v l) (hb : Below w.heap.size w w') : Bytes w' v l := IsSl.below h hb
theorem bytes_nil (w : World) : Bytes w (.slice none 0 0) [] := IsSl.nil w 1
theorem elem_of {P : Program} {t e : TypeId} (h : P.underlying t = some (.slice e)) : P.elem t = e := by simp [Program.elem, h]
/-- A part of a slice of bytes. -/
theorem slice_mid {P : Program} {w : World} {v : Value} {l : List UInt8} {t e : TypeId} (h : Bytes w v l) (ht : P.underlying t = some (.slice e)) (hsz : ∀ w, (sizeOf e).run P w = .ok 1 w) (i j : Nat) (hij : i ≤ j) (hj : j ≤ l.length) :
    ∃ a c, (∀ w' : World, (Instr.slice t v (some (.int .i64 (i : Int))) (some (.int .i64 (j : Int))) none).run P w' = .ok (.slice a (j - i) c) w') ∧ Bytes w (.slice a (j - i) c) ((l.drop i).take (j - i)) := by
  have he := elem_of ht
  have ht' : P.underlying t = some (.slice (P.elem t)) := by rw [he]; exact ht
  have hlen : ((l.drop i).take (j - i)).length = j - i := by rw [List.length_take, List.length_drop]; omega
  rcases h.2.2 with ⟨rfl, hl⟩ | ⟨ad, cap, rfl, hc, hr⟩
  · obtain rfl : j = 0 := by omega
    obtain rfl : i = 0 := by omega
    refine ⟨none, 0, fun w' => ?_, IsSl.nil w 1⟩
    rw [show ((0 : Nat) : Int) = 0 from rfl, run_slice_lh w' t none 0 0 ht' .i64 .i64 0 0 (by decide) (by decide) (by decide), he, hsz]
    rfl
  · refine ⟨if cap = i then some ad else (some ad).map (·.add (i * 1)), cap - i, fun w' => ?_, ?_⟩
    · rw [run_slice_lh w' t (some ad) l.length cap ht' .i64 .i64 i j (by omega) (by omega) (by omega), he, hsz]
      simp only [Result.andThen_ok, sliced, Int.toNat_natCast]
    · refine ⟨by rw [bytesV_len, Nat.mul_one], bytesV_one _, ?_⟩
      by_cases hci : cap = i
      · rw [if_pos hci]
        refine .inr ⟨ad, cap - i, by rw [hlen], by omega, fun q u hu => ?_⟩
        have := (List.getElem?_eq_some_iff.1 hu).1
        rw [bytesV_len, hlen] at this
        omega
      · rw [if_neg hci]
        refine .inr ⟨ad.add (i * 1), cap - i, by rw [hlen]; rfl, by rw [hlen]; omega, fun q u hu => ?_⟩
        unfold bytesV at hu
        rw [List.getElem?_map] at hu
        obtain ⟨c, hc1, rfl⟩ := Option.map_eq_some_iff.1 hu
        rw [List.getElem?_take] at hc1
        split at hc1
        · rw [List.getElem?_drop] at hc1
          have := hr (i + q) _ (bytesV_at l (i + q) c hc1)
          rw [← this, Nat.mul_one, Go.Deep.add_add]
        · cases hc1
theorem slice_head {P : Program} {w : World} {v : Value} {l : List UInt8} {t e : TypeId} (h : Bytes w v l) (ht : P.underlying t = some (.slice e)) (hsz : ∀ w, (sizeOf e).run P w = .ok 1 w) (j : Nat) (hj : j ≤ l.length) :
    ∃ a c, (∀ w' : World, (Instr.slice t v none (some (.int .i64 (j : Int))) none).run P w' = .ok (.slice a j c) w') ∧ Bytes w (.slice a j c) (l.take j) := by
  obtain ⟨a, c, h1, h2⟩ := slice_mid h ht hsz 0 j (by omega) hj
  rw [Nat.sub_zero, List.drop_zero] at h2
  refine ⟨a, c, fun w' => ?_, h2⟩
  rw [← Nat.sub_zero j, ← h1 w', Nat.sub_zero]
  obtain ⟨xa, cap, rfl, hc⟩ := h.form
  have he := elem_of ht
  have ht' : P.underlying t = some (.slice (P.elem t)) := by rw [he]; exact ht
  rw [show ((0 : Nat) : Int) = 0 from rfl, run_slice_h w' t xa l.length cap ht' .i64 j (by omega) (by omega), run_slice_lh w' t xa l.length cap ht' .i64 .i64 0 j (by decide) (by omega) (by omega)]
  rfl
/-- These values are these texts. -/
inductive Texts (w : World) : List Value → List (List UInt8) → Prop where
  | nil : Texts w [] []
  | cons {v : Value} {l : List UInt8} {vs : List Value} {ls : List (List UInt8)} : Bytes w v l → Texts w vs ls → Texts w (v :: vs) (l :: ls)
theorem Texts.len {w : World} {vs : List Value} {ls : List (List UInt8)} (h : Texts w vs ls) : vs.length = ls.length := by
  induction h with
  | nil => rfl
  | cons _ _ ih => rw [List.length_cons, List.length_cons, ih]
theorem Texts.one {w : World} {vs : List Value} {ls : List (List UInt8)} (h : Texts w vs ls) : ∀ u ∈ vs, u.oneCell' = true := by
  induction h with
  | nil => exact fun _ h => by cases h
  | cons h1 _ ih =>
    intro u hu
    cases hu with
    | head => exact h1.one
    | tail _ hu => exact ih u hu
theorem Texts.at {w : World} {vs : List Value} {ls : List (List UInt8)} (h : Texts w vs ls) : ∀ (i : Nat) (x : Value) (l : List UInt8), vs[i]? = some x → ls[i]? = some l → Bytes w x l := by
  induction h with
  | nil => exact fun _ _ _ h => by cases h
  | cons h1 _ ih =>
    intro i x l hx hl
    cases i with
    | zero =>
      cases hx
      cases hl
      exact h1
    | succ i => exact ih i x l hx hl
theorem Texts.kept {w w' : World} {vs : List Value} {ls : List (List UInt8)} (h : Texts w vs ls) (hb : Below w.heap.size w w') : Texts w' vs ls := by
  induction h with
  | nil => exact .nil
  | cons h1 _ ih => exact .cons (h1.below hb) ih
theorem Texts.parts {w : World} {vs : List Value} {ls : List (List UInt8)} (h : Texts w vs ls) (e : TypeId) {n : Nat} (hn : ls.length = n) : Parts (w.alloc (.cells vs.toArray e)) (.slice (some ⟨w.heap.size, 0, none⟩) n n) ls vs :=
  parts_alloc w vs ls e rfl hn h.len h.one h.at

theorem sum_at (w : World) (vs : List Value) (ls : List (List UInt8)) (e : TypeId) {n : Nat} (h : Texts w vs ls) (hn : ls.length = n) (t : List UInt8) (ht : cat ls = t) (hsz : t.length ≤ 70368744177664) (hln : n ≤ 140737488355328) (hg : Glob w) :
    Calls Tryd.prog 31 #[.slice (some ⟨w.heap.size, 0, none⟩) n n] (w.alloc (.cells vs.toArray e)) fun e w' => e = .returned (.agg (bytesV (sumN t)).toArray) ∧ Below w.heap.size w w' := by
  subst ht
  refine (sum_any _ ls vs _ (h.parts e hn) hsz (by omega) (hg.below ((Below.refl _ _).alloc (Nat.le_refl _) _))).mono ?_
  rintro e w' ⟨rfl, hb⟩
  rw [sum_nat]
  exact ⟨rfl, Below.trans ((Below.refl _ _).alloc (Nat.le_refl _) _) (hb.mono (by simp))⟩
theorem sum_atB (w : World) (vs : List Value) (ls : List (List UInt8)) (e : TypeId) {n B : Nat} (hB : w.heap.size = B) (h : Texts w vs ls) (hn : ls.length = n) (t : List UInt8) (ht : cat ls = t) (hsz : t.length ≤ 70368744177664) (hln : n ≤ 140737488355328) (hg : Glob w) :
    Calls Tryd.prog 31 #[.slice (some ⟨B, 0, none⟩) n n] (w.alloc (.cells vs.toArray e)) fun e w' => e = .returned (.agg (bytesV (sumN t)).toArray) ∧ Below w.heap.size w w' := by
  subst hB
  exact sum_at w vs ls e h hn t ht hsz hln hg
end Go.Proofs.YtldokkbfahobgaaDoor

/-! Eq: Two arrays of numbers compared: the walk's law. Conditions: the array's type and its element's type; both have its length. -/
namespace Go.Proofs.YtldokkbfahobgaaDoor
open Go.RowKit

theorem all_range_int : ∀ (xs ys : List Int), xs.length = ys.length → ((List.range xs.length).all fun i => xs.getD i 0 == ys.getD i 0) = (xs == ys)
  | [], [], _ => rfl
  | x :: xs, y :: ys, h => by
    have ih := all_range_int xs ys (by simpa using h)
    rw [List.length_cons, List.range_succ_eq_map, List.all_cons, List.all_map]
    simp only [List.getD_cons_zero, Function.comp_def, List.getD_cons_succ, ih]
    simp [List.cons_beq_cons]
  | [], _ :: _, h => by simp at h
  | _ :: _, [], h => by simp at h

theorem equalIn_ints {P : Program} (w : World) (d : Nat) (t e : TypeId) (n : Nat) (k : IntKind) (ht : P.underlying t = some (.array n e)) (he : P.underlying e = some (.int k)) (hsz : ∀ w, (sizeOf e).run P w = .ok 1 w)
    (xs ys : List Int) (hx : xs.length = n) (hy : ys.length = n) :
    (Op.equalIn (d + 2) t (.agg (xs.map (Value.int k)).toArray) (.agg (ys.map (Value.int k)).toArray)).run P w = .ok (xs == ys) w := by
  rw [← all_range_int xs ys (hx.trans hy.symm), hx, List.range_eq_range', Op.equalIn]
  simp only [Sem.run_bind, run_underlying ht, Result.andThen_ok, hsz, Std.Legacy.Range.forIn_eq_forIn_range', Std.Legacy.Range.size, Nat.sub_zero, Nat.add_sub_cancel, Nat.div_one]
  have hl : ∀ i ∈ List.range' 0 n 1, i < n := fun i hi => by simpa using (List.mem_range'_1.1 hi).2
  generalize List.range' 0 n 1 = l at hl ⊢
  induction l with
  | nil => simp
  | cons i l ih =>
    have hi : i < n := hl i (by simp)
    have px : (part e (xs.map (Value.int k)).toArray (i * 1)).run P w = .ok (.int k (xs.getD i 0)) w := by
      simp [part, isAgg, run_underlying he, List.getD, List.getElem?_eq_getElem (show i < xs.length by omega)]
    have py : (part e (ys.map (Value.int k)).toArray (i * 1)).run P w = .ok (.int k (ys.getD i 0)) w := by
      simp [part, isAgg, run_underlying he, List.getD, List.getElem?_eq_getElem (show i < ys.length by omega)]
    have pe : (Op.equalIn (d + 1) e (.int k (xs.getD i 0)) (.int k (ys.getD i 0))).run P w = .ok (xs.getD i 0 == ys.getD i 0) w := by
      rw [run_equalIn_int w d e k k _ _ he]
    simp only [List.forIn_cons, Sem.run_bind, px, py, pe, Result.andThen_ok, List.all_cons]
    cases hb : (xs.getD i 0 == ys.getD i 0)
    · simp
    · simp only [Bool.not_true, Bool.false_eq_true, if_false, Sem.run_pure, Result.andThen_ok, Bool.true_and]
      exact ih fun j hj => hl j (by simp [hj])

theorem size_u8 (w : World) : (sizeOf 5).run Tryd.prog w = .ok 1 w := by
  obtain ⟨i0, hi, _, _, _⟩ := info_parts info_u8
  rw [run_sizeOf w hi, show Tryd.prog.cellsOf 5 = 1 by kernel_rfl]
/-- Two digests: the same bytes? -/
theorem eq_hash (w : World) (xs ys : List UInt8) (hx : xs.length = 32) (hy : ys.length = 32) :
    (Op.equalIn 10000 31 (.agg (bytesV xs).toArray) (.agg (bytesV ys).toArray)).run Tryd.prog w = .ok (xs == ys) w :=
  run_equalIn_bytes w 9998 31 5 32 Tryd.underlying31 Tryd.underlying5 size_u8 xs ys hx hy
theorem eq_hash_same (w : World) (xs : List UInt8) (hx : xs.length = 32) :
    (Op.equalIn 10000 31 (.agg (bytesV xs).toArray) (.agg (bytesV xs).toArray)).run Tryd.prog w = .ok true w := by
  rw [eq_hash w xs xs hx hx]
  simp
theorem size_u32 (w : World) : (sizeOf 94).run Tryd.prog w = .ok 1 w := by
  have hk : (Tryd.prog.info? 94).map (·.size) = some 1 := by kernel_rfl
  obtain ⟨i0, hi, _⟩ := Option.map_eq_some_iff.1 hk
  rw [run_sizeOf w hi, show Tryd.prog.cellsOf 94 = 1 by kernel_rfl]
def S8.zs (s : S8) : List Int := [s.a, s.b, s.c, s.d, s.e, s.f, s.g, s.h]
theorem eq_eight (w : World) (s t : S8) : (Op.equalIn 10000 95 (.agg s.vals.toArray) (.agg t.vals.toArray)).run Tryd.prog w = .ok (s.zs == t.zs) w :=
  equalIn_ints w 9998 95 94 8 .u32 Tryd.underlying95 Tryd.underlying94 size_u32 s.zs t.zs rfl rfl
theorem eq_eight_same (w : World) (s : S8) : (Op.equalIn 10000 95 (.agg s.vals.toArray) (.agg s.vals.toArray)).run Tryd.prog w = .ok true w := by
  rw [eq_eight]
  simp
end Go.Proofs.YtldokkbfahobgaaDoor

/-! Common: What several texts share: bytes put together, zeros, constants that are converted, parts behind one another. No condition. -/
namespace Go.Proofs.YtldokkbfahobgaaDoor
open Go.RowKit

def keyAt (k : List UInt8) (i : Nat) : UInt8 := k[i]?.getD 0
theorem xor_u8 (x y : UInt8) : bits .xor .u8 (x.toNat : Int) (y.toNat : Int) = ((x ^^^ y).toNat : Int) := by
  have h := Nat.xor_lt_two_pow (n := 8) x.toNat_lt y.toNat_lt
  have hx := x.toNat_lt
  have hy := y.toNat_lt
  simp only [bits, ofInt_nat]
  rw [UInt8.toNat_xor]
  have e : (BitVec.ofNat IntKind.u8.bits x.toNat ^^^ BitVec.ofNat IntKind.u8.bits y.toNat).toNat = x.toNat ^^^ y.toNat := by
    show (BitVec.ofNat 8 x.toNat ^^^ BitVec.ofNat 8 y.toNat).toNat = _
    rw [BitVec.toNat_xor, BitVec.toNat_ofNat, BitVec.toNat_ofNat, Nat.mod_eq_of_lt hx, Nat.mod_eq_of_lt hy]
  rw [e]
  simp only [IntKind.wrap, IntKind.bits, IntKind.signed]
  simp
  omega
def zerosB (n : Nat) : List UInt8 := List.replicate n 0
theorem zerosB_len (n : Nat) : (zerosB n).length = n := by simp [zerosB]
set_option maxRecDepth 100000 in
theorem make_bytes (n : Nat) (hn : n ≤ 281474976710656) (w : World) :
    (Instr.makeSlice 48 (.int .i64 (n : Int)) (.int .i64 (n : Int))).run Tryd.prog w = .ok (.slice (some ⟨w.heap.size, 0, none⟩) n n) (w.alloc (.cells (bytesV (zerosB n)).toArray 5)) := by
  obtain ⟨i0, hi, hz0, hz1, hz2⟩ := info_parts info_u8
  rw [run_make w 48 5 i0 _ Tryd.underlying48 hi hz0 .i64 .i64 n n (by omega) (by omega) (by rw [hz2]; omega) (by omega)]
  rw [hz1, Nat.mul_one, Int.toNat_natCast]
  congr 4
  apply Array.ext
  · simp [madeCells, bytesV, zerosB]
  · intro i h1 h2
    simp [madeCells, bytesV, zerosB, Value.cells, Nat.mod_one]
theorem cat_cons (l : List UInt8) (ls : List (List UInt8)) : cat (l :: ls) = l ++ cat ls := rfl
theorem info_bytes : (Tryd.prog.info? 48).map (fun i => (i.zero, i.size, i.bytes)) = some (some (.slice none 0 0), 1, 24) := by kernel_rfl
theorem hash_one (l : List UInt8) : (bytesV l).toArray.all (·.oneCell') = true := by simp [bytesV, Value.oneCell']
theorem parts_owned {w : World} {base : Nat} {e : TypeId} {sv v : Value} {l : List UInt8} {ls : List (List UInt8)} {vs : List Value} {u : Value} (hown : w.ownsRow base e 1 sv (1 + ls.length) ([v] ++ vs)) (hv : Bytes w v l) (hp : Parts w u ls vs) : Parts w sv (l :: ls) (v :: vs) := by
  refine ⟨by rw [List.length_cons, List.length_cons, hp.len], ?_, ?_⟩
  · rw [List.length_cons, Nat.add_comm]
    refine ownsRow_isSl hown ?_
    intro x hx
    cases hx with
    | head => exact hv.one
    | tail _ hx => exact hp.sl.2.1 x hx
  · intro i x l' hx hl
    cases i with
    | zero =>
      cases hx
      cases hl
      exact hv
    | succ i => exact hp.each i x l' hx hl
theorem wp_world {P : Program} {c : Code} {Q : Exit → Act → World → Prop} {a : Act} {w w' : World} (h : w' = w) (hc : c.wp P Q a w') : c.wp P Q a w := h ▸ hc
theorem Parts.nil (w : World) : Parts w (.slice none 0 0) [] [] := ⟨rfl, IsSl.nil w 1, fun _ _ _ h => by cases h⟩
theorem hex_empty : hexP (sumN []) = [101, 51, 98, 48, 99, 52, 52, 50, 57, 56, 102, 99, 49, 99, 49, 52, 57, 97, 102, 98, 102, 52, 99, 56, 57, 57, 54, 102, 98, 57, 50, 52, 50, 55, 97, 101, 52, 49, 101, 52, 54, 52, 57, 98, 57, 51, 52, 99, 97, 52, 57, 53, 57, 57, 49, 98, 55, 56, 53, 50, 98, 56, 53, 53] := by
  decide +kernel
theorem convert_const1 {P : Program} (w : World) (A : Obj) (T E : TypeId) (C : Array Value) (n c : Nat) (hT : P.underlying T = some (.slice E)) (hE : P.underlying E = some (.int .u8)) :
    (convert T T (.slice (some ⟨w.heap.size + 1, 0, none⟩) n c)).run P ((w.alloc A).alloc (.cells C E)) = .ok (.slice (some ⟨w.heap.size + 1, 0, none⟩) n c) ((w.alloc A).alloc (.cells C E (C.size, C.size + 1))) := by
  have := Lib.run_convert_bytes_const (P := P) (w.alloc A) T E C n c hT hE
  rw [World.size_alloc] at this
  exact this
theorem convert_const2 {P : Program} (w : World) (A B : Obj) (T E : TypeId) (C : Array Value) (n c : Nat) (hT : P.underlying T = some (.slice E)) (hE : P.underlying E = some (.int .u8)) :
    (convert T T (.slice (some ⟨w.heap.size + 1 + 1, 0, none⟩) n c)).run P (((w.alloc A).alloc B).alloc (.cells C E)) = .ok (.slice (some ⟨w.heap.size + 1 + 1, 0, none⟩) n c) (((w.alloc A).alloc B).alloc (.cells C E (C.size, C.size + 1))) := by
  have := Lib.run_convert_bytes_const (P := P) ((w.alloc A).alloc B) T E C n c hT hE
  rw [World.size_alloc, World.size_alloc] at this
  exact this
theorem Bytes.at {w : World} {v : Value} {l : List UInt8} (h : Bytes w v l) {i : Nat} (hi : i < l.length) : ∃ b off cap, v = .slice (some ⟨b, off, none⟩) l.length cap ∧ ∀ j c, l[j]? = some c → w.cell? ⟨b, off + j, none⟩ = some (.int .u8 (c.toNat : Int)) := by
  obtain ⟨b, off, cap, rfl, _, hr, _⟩ := IsSl.pos h (by omega) (by decide)
  exact ⟨b, off, cap, rfl, fun j c hj => hr j _ (bytesV_at l j c hj)⟩
end Go.Proofs.YtldokkbfahobgaaDoor

/-! Hash: Hashes and lists of hashes: as values, as cells, parts of them. No condition. -/
namespace Go.Proofs.YtldokkbfahobgaaDoor
open Go.RowKit

/-- A digest: 32 bytes. -/
structure H where
  b : List UInt8
  len : b.length = 32
theorem H.ext {x y : H} (h : x.b = y.b) : x = y := by
  cases x
  cases y
  cases h
  rfl
theorem H.ext_iff {x y : H} : x = y ↔ x.b = y.b := ⟨fun h => by rw [h], H.ext⟩
instance instDecEqH : DecidableEq H := fun x y => if h : x.b = y.b then .isTrue (H.ext h) else .isFalse fun e => h (by rw [e])
/-- A digest as a value. -/
def hv (h : H) : Value := .agg (bytesV h.b).toArray
def hflat (l : List H) : List UInt8 := l.flatMap H.b
theorem hflat_nil : hflat [] = [] := rfl
theorem hflat_cons (h : H) (l : List H) : hflat (h :: l) = h.b ++ hflat l := by simp [hflat]
theorem hflat_app (l m : List H) : hflat (l ++ m) = hflat l ++ hflat m := by simp [hflat]
theorem hflat_len (l : List H) : (hflat l).length = l.length * 32 := by
  induction l with
  | nil => rfl
  | cons h l ih =>
    have := h.len
    rw [hflat_cons, List.length_append, ih, List.length_cons]
    omega
theorem hflat_take (l : List H) (n : Nat) : hflat (l.take n) = (hflat l).take (n * 32) := by
  induction l generalizing n with
  | nil => simp [hflat]
  | cons h l ih =>
    cases n with
    | zero => simp [hflat]
    | succ n =>
      have := h.len
      rw [List.take_succ_cons, hflat_cons, hflat_cons, ih, List.take_append, List.take_of_length_le (l := h.b) (by omega), show (n + 1) * 32 - h.b.length = n * 32 by omega]
theorem hflat_drop (l : List H) (n : Nat) : hflat (l.drop n) = (hflat l).drop (n * 32) := by
  induction l generalizing n with
  | nil => simp [hflat]
  | cons h l ih =>
    cases n with
    | zero => simp [hflat]
    | succ n =>
      have := h.len
      rw [List.drop_succ_cons, hflat_cons, ih, List.drop_append, (List.drop_eq_nil_of_le (by omega) : h.b.drop ((n + 1) * 32) = []), List.nil_append, show (n + 1) * 32 - h.b.length = n * 32 by omega]
/-- A slice of hashes. -/
def Hs (w : World) (v : Value) (l : List H) : Prop := IsSl w v 32 l.length (bytesV (hflat l))
theorem Hs.form {w : World} {v : Value} {l : List H} (h : Hs w v l) : ∃ a cap, v = .slice a l.length cap ∧ l.length ≤ cap := IsSl.form h
theorem Hs.below {w w' : World} {v : Value} {l : List H} (h : Hs w v l) (hb : Below w.heap.size w w') : Hs w' v l := IsSl.below h hb
theorem Hs.nil (w : World) : Hs w (.slice none 0 0) [] := IsSl.nil w 32
theorem Hs.drewN {w : World} {v : Value} {l : List H} (h : Hs w v l) (n : Nat) : Hs (w.drewN n) v l := h
theorem Hs.pos {w : World} {v : Value} {l : List H} (h : Hs w v l) (hn : 0 < l.length) : ∃ b off cap, v = .slice (some ⟨b, off, none⟩) l.length cap ∧ l.length ≤ cap ∧ w.rangeAt b off (bytesV (hflat l)) ∧ b < w.heap.size :=
  IsSl.pos h hn (by decide)
/-- An element's cells. -/
theorem Hs.elem {w : World} {b off : Nat} {l : List H} (h : w.rangeAt b off (bytesV (hflat l))) {i : Nat} {x : H} (hi : l[i]? = some x) : w.rangeAt b (off + i * 32) (bytesV x.b) := by
  intro j u hu
  have hlt : i < l.length := (List.getElem?_eq_some_iff.1 hi).1
  have hx := x.len
  have hj : j < 32 := by
    have := (List.getElem?_eq_some_iff.1 hu).1
    rw [bytesV_len] at this
    omega
  have hd : l.drop i = x :: l.drop (i + 1) := by
    obtain ⟨h1, h2⟩ := List.getElem?_eq_some_iff.1 hi
    rw [List.drop_eq_getElem_cons h1, h2]
  have h1 : (bytesV (hflat l))[i * 32 + j]? = some u := by
    unfold bytesV at hu ⊢
    rw [List.getElem?_map] at hu ⊢
    rw [← List.getElem?_drop, ← hflat_drop, hd, hflat_cons, List.getElem?_append_left (by omega)]
    exact hu
  have := h _ _ h1
  rwa [← Nat.add_assoc] at this
theorem hv_info (x : H) : (Tryd.prog.info? 31).map (·.size) = some (bytesV x.b).length := by
  rw [bytesV_len, x.len]
  kernel_rfl
theorem hash_cells (w : World) : (sizeOf 31).run Tryd.prog w = .ok 32 w := by
  have hk : (Tryd.prog.info? 31).map (·.size) = some 32 := by kernel_rfl
  obtain ⟨i0, hi, hs⟩ := Option.map_eq_some_iff.1 hk
  simp [sizeOf, typeInfo, hi, hs]
/-- A part of a slice, whatever its elements' size. -/
theorem sl_mid {P : Program} {w : World} {v : Value} {size n : Nat} {cs : List Value} {t e : TypeId} (h : IsSl w v size n cs) (ht : P.underlying t = some (.slice e)) (hsz : ∀ w, (sizeOf e).run P w = .ok size w) (i j : Nat) (hij : i ≤ j) (hj : j ≤ n) :
    ∃ a c, (∀ w' : World, (Instr.slice t v (some (.int .i64 (i : Int))) (some (.int .i64 (j : Int))) none).run P w' = .ok (.slice a (j - i) c) w') ∧ IsSl w (.slice a (j - i) c) size (j - i) ((cs.drop (i * size)).take ((j - i) * size)) := by
  have he := elem_of ht
  have ht' : P.underlying t = some (.slice (P.elem t)) := by rw [he]; exact ht
  have hcl := h.1
  have hm : (j - i) * size + i * size ≤ n * size := by rw [← Nat.add_mul]; exact Nat.mul_le_mul_right _ (by omega)
  have hlen : ((cs.drop (i * size)).take ((j - i) * size)).length = (j - i) * size := by rw [List.length_take, List.length_drop]; omega
  have hone : ∀ u ∈ (cs.drop (i * size)).take ((j - i) * size), u.oneCell' = true := fun u hu => h.2.1 u (List.mem_of_mem_drop (List.mem_of_mem_take hu))
  rcases h.2.2 with ⟨rfl, hl⟩ | ⟨ad, cap, rfl, hc, hr⟩
  · obtain rfl : j = 0 := by omega
    obtain rfl : i = 0 := by omega
    refine ⟨none, 0, fun w' => ?_, by simpa using IsSl.nil w size⟩
    rw [show ((0 : Nat) : Int) = 0 from rfl, run_slice_lh w' t none 0 0 ht' .i64 .i64 0 0 (by decide) (by decide) (by decide), he, hsz]
    rfl
  · refine ⟨if cap = i then some ad else (some ad).map (·.add (i * size)), cap - i, fun w' => ?_, ?_⟩
    · rw [run_slice_lh w' t (some ad) n cap ht' .i64 .i64 i j (by omega) (by omega) (by omega), he, hsz]
      simp only [Result.andThen_ok, sliced, Int.toNat_natCast]
    · refine ⟨hlen, hone, ?_⟩
      by_cases hci : cap = i
      · rw [if_pos hci]
        refine .inr ⟨ad, cap - i, rfl, by omega, fun q u hu => ?_⟩
        have := (List.getElem?_eq_some_iff.1 hu).1
        rw [hlen, show j - i = 0 by omega, Nat.zero_mul] at this
        omega
      · rw [if_neg hci]
        refine .inr ⟨ad.add (i * size), cap - i, rfl, by omega, fun q u hu => ?_⟩
        rw [List.getElem?_take] at hu
        split at hu
        · rw [List.getElem?_drop] at hu
          have := hr (i * size + q) _ hu
          rw [← this, Go.Deep.add_add]
        · cases hu
/-- The same, for each way that a slice is told. -/
theorem sl_head {P : Program} {w : World} {v : Value} {size n : Nat} {cs : List Value} {t e : TypeId} (h : IsSl w v size n cs) (ht : P.underlying t = some (.slice e)) (hsz : ∀ w, (sizeOf e).run P w = .ok size w) (j : Nat) (hj : j ≤ n) :
    ∃ a c, (∀ w' : World, (Instr.slice t v none (some (.int .i64 (j : Int))) none).run P w' = .ok (.slice a j c) w') ∧ IsSl w (.slice a j c) size j (cs.take (j * size)) := by
  obtain ⟨a, c, h1, h2⟩ := sl_mid h ht hsz 0 j (by omega) hj
  rw [Nat.sub_zero, Nat.zero_mul, List.drop_zero] at h2
  refine ⟨a, c, fun w' => ?_, h2⟩
  rw [← Nat.sub_zero j, ← h1 w', Nat.sub_zero]
  obtain ⟨xa, cap, rfl, hc⟩ := h.form
  have he := elem_of ht
  have ht' : P.underlying t = some (.slice (P.elem t)) := by rw [he]; exact ht
  rw [show ((0 : Nat) : Int) = 0 from rfl, run_slice_h w' t xa n cap ht' .i64 j (by omega) (by omega), run_slice_lh w' t xa n cap ht' .i64 .i64 0 j (by decide) (by omega) (by omega)]
  rfl
theorem sl_tail {P : Program} {w : World} {v : Value} {size n : Nat} {cs : List Value} {t e : TypeId} (h : IsSl w v size n cs) (ht : P.underlying t = some (.slice e)) (hsz : ∀ w, (sizeOf e).run P w = .ok size w) (i : Nat) (hi : i ≤ n) :
    ∃ a c, (∀ w' : World, (Instr.slice t v (some (.int .i64 (i : Int))) none none).run P w' = .ok (.slice a (n - i) c) w') ∧ IsSl w (.slice a (n - i) c) size (n - i) (cs.drop (i * size)) := by
  obtain ⟨a, c, h1, h2⟩ := sl_mid h ht hsz i n hi (Nat.le_refl _)
  have hl : (cs.drop (i * size)).length = (n - i) * size := by rw [List.length_drop, h.1, Nat.sub_mul]
  rw [List.take_of_length_le (by omega)] at h2
  refine ⟨a, c, fun w' => ?_, h2⟩
  rw [← h1 w']
  obtain ⟨xa, cap, rfl, hc⟩ := h.form
  have he := elem_of ht
  have ht' : P.underlying t = some (.slice (P.elem t)) := by rw [he]; exact ht
  rw [run_slice_l w' t xa n cap ht' .i64 i (by omega) (by omega), run_slice_lh w' t xa n cap ht' .i64 .i64 i n (by omega) (by omega) (by omega)]
  simp
theorem hs_head {w : World} {v : Value} {l : List H} (h : Hs w v l) (j : Nat) (hj : j ≤ l.length) :
    ∃ a c, (∀ w' : World, (Instr.slice 22 v none (some (.int .i64 (j : Int))) none).run Tryd.prog w' = .ok (.slice a j c) w') ∧ Hs w (.slice a j c) (l.take j) := by
  obtain ⟨a, c, h1, h2⟩ := sl_head (P := Tryd.prog) h Tryd.underlying22 hash_cells j hj
  refine ⟨a, c, h1, ?_⟩
  have hl : (l.take j).length = j := by rw [List.length_take]; omega
  unfold Hs
  rw [hl, hflat_take]
  unfold bytesV at h2 ⊢
  rw [List.map_take]
  exact h2
theorem hs_tail {w : World} {v : Value} {l : List H} (h : Hs w v l) (i : Nat) (hi : i ≤ l.length) :
    ∃ a c, (∀ w' : World, (Instr.slice 22 v (some (.int .i64 (i : Int))) none none).run Tryd.prog w' = .ok (.slice a (l.length - i) c) w') ∧ Hs w (.slice a (l.length - i) c) (l.drop i) := by
  obtain ⟨a, c, h1, h2⟩ := sl_tail (P := Tryd.prog) h Tryd.underlying22 hash_cells i hi
  refine ⟨a, c, h1, ?_⟩
  unfold Hs
  rw [List.length_drop, hflat_drop]
  unfold bytesV at h2 ⊢
  rw [List.map_drop]
  exact h2
/-- The nodes' and leaves' hashes. -/
def ndH (l r : H) : H := ⟨sumN (1 :: (l.b ++ r.b)), sumN_len _⟩
def lfH (b : List UInt8) : H := ⟨sumN (0 :: b), sumN_len _⟩
def e0H : H := ⟨sumN [], sumN_len _⟩
end Go.Proofs.YtldokkbfahobgaaDoor

/-! HashB: Literals of hashes: a slice of them, laid in a new block. Condition: at most 1000. -/
namespace Go.Proofs.YtldokkbfahobgaaDoor
open Go.RowKit

theorem info_hash : (Tryd.prog.info? 31).map (fun i => (i.zero, i.size, i.bytes)) = some (some (.agg z32.toArray), 32, 32) := by kernel_rfl
theorem hflat_at (vs : List H) (k : Nat) : (hflat vs)[k]? = (vs[k / 32]?).bind fun h => h.b[k % 32]? := by
  induction vs generalizing k with
  | nil => simp [hflat]
  | cons h vs ih =>
    have hl := h.len
    rw [hflat_cons]
    by_cases hk : k < 32
    · rw [List.getElem?_append_left (by omega), show k / 32 = 0 by omega, show k % 32 = k by omega]
      rfl
    · rw [List.getElem?_append_right (by omega), ih, hl, show k / 32 = (k - 32) / 32 + 1 by omega, List.getElem?_cons_succ, show k % 32 = (k - 32) % 32 by omega]
theorem build_hashes (vs : List H) (hn : 0 < vs.length) (hs : vs.length ≤ 1000) (w : World) :
    (Instr.buildSlice 22 vs.length (((vs.map hv).zipIdx 0).map fun x => (x.2, x.1)).toArray).run Tryd.prog w = .ok (.slice (some ⟨w.heap.size, 0, none⟩) vs.length vs.length) (w.alloc (.cells (bytesV (hflat vs)).toArray 31)) := by
  obtain ⟨i0, hi, hz0, hz1, hz2⟩ := info_parts info_hash
  have hc : ∀ v ∈ vs.map hv, v.cells.size = 32 := fun v hv' => by
    obtain ⟨x, _, rfl⟩ := List.mem_map.1 hv'
    simp [hv, Value.cells, bytesV_len, x.len]
  obtain ⟨r, hr, hsz, hk⟩ := Great.fill_dense (s := 32) (by decide) (vs.map hv) 0 ((Array.range (vs.length * 32)).map ((Value.agg z32.toArray).cells[· % (Value.agg z32.toArray).cells.size]!)) hc (by simp)
  have e : r = (bytesV (hflat vs)).toArray := by
    apply Array.ext_getElem?
    intro k
    rw [hk k]
    have hl : (bytesV (hflat vs)).length = vs.length * 32 := by rw [bytesV_len, hflat_len]
    rw [List.length_map]
    by_cases hlt : k < vs.length * 32
    · rw [if_pos (by omega), Nat.sub_zero]
      unfold bytesV
      rw [List.getElem?_toArray, List.getElem?_map, List.getElem?_map, hflat_at]
      cases vs[k / 32]? with
      | none => rfl
      | some x => simp [hv, Value.cells, bytesV]
    · rw [if_neg (by omega), Array.getElem?_eq_none (by rw [Array.size_map, Array.size_range]; omega), Array.getElem?_eq_none (by rw [List.size_toArray]; omega)]
  rw [e] at hr
  exact run_buildSlice w 22 31 vs.length _ _ i0 _ Tryd.underlying22 hi hz0 (by rw [hz1]; omega) (by rw [hz1]; omega) (by rw [hz1]; exact hr)
theorem wpList_hashes {ops : Array Oper} {rest : List Oper} {o : Oper} {a : Act} {w : World} {Q : Exit → Act → World → Prop} (hg : o.guard = none) (vs : List H) (n : Nat) (parts : Array (Nat × Operand)) (ho : o.op = .buildSlice 22 n parts)
    (hn : vs.length = n) (hpos : 0 < n) (hs : n ≤ 1000) (hp : (parts.map fun (i, x) => (i, a.eval x)) = (((vs.map hv).zipIdx 0).map fun x => (x.2, x.1)).toArray)
    (h : wpList Tryd.prog ops Q rest (a.put o.dst (.slice (some ⟨w.heap.size, 0, none⟩) n n)) (w.alloc (.cells (bytesV (hflat vs)).toArray 31))) : wpList Tryd.prog ops Q (o :: rest) a w := by
  subst hn
  refine wpList_plain hg fun K hK => ?_
  unfold Oper.wp execOp
  simp only [ho, Sem.run_bind, hp, build_hashes vs hpos hs w, Result.andThen_ok]
  exact hK _ _ h
theorem wpList_hashesIf {ops : Array Oper} {rest : List Oper} {o : Oper} {a : Act} {w : World} {Q : Exit → Act → World → Prop} (hw : Region.wanted o (yielded ops a.tmps) = true) (vs : List H) (n : Nat) (parts : Array (Nat × Operand)) (ho : o.op = .buildSlice 22 n parts)
    (hn : vs.length = n) (hpos : 0 < n) (hs : n ≤ 1000) (hp : (parts.map fun (i, x) => (i, a.eval x)) = (((vs.map hv).zipIdx 0).map fun x => (x.2, x.1)).toArray)
    (h : wpList Tryd.prog ops Q rest (a.put o.dst (.slice (some ⟨w.heap.size, 0, none⟩) n n)) (w.alloc (.cells (bytesV (hflat vs)).toArray 31))) : wpList Tryd.prog ops Q (o :: rest) a w := by
  subst hn
  simp only [wpList]
  rw [if_pos hw]
  refine .inl ?_
  unfold Oper.wp execOp
  simp only [ho, Sem.run_bind, hp, build_hashes vs hpos hs w, Result.andThen_ok]
  exact h
/-- The slice that it makes. -/
theorem hs_new (w : World) (vs : List H) (e : TypeId) {B n : Nat} (hB : w.heap.size = B) (hn : vs.length = n) : Hs (w.alloc (.cells (bytesV (hflat vs)).toArray e)) (.slice (some ⟨B, 0, none⟩) n n) vs := by
  subst hB hn
  exact isSl_new w _ e 32 vs.length (by rw [bytesV_len, hflat_len]) (bytesV_one _)
theorem own_new (w : World) (vs : List H) {B n base : Nat} (hB : w.heap.size = B) (hn : vs.length = n) (hb : base ≤ B) (hm : n ≤ maxLen) : (w.alloc (.cells (bytesV (hflat vs)).toArray 31)).ownsRow base 31 32 (.slice (some ⟨B, 0, none⟩) n n) n (bytesV (hflat vs)) := by
  subst hB hn
  have hl : (bytesV (hflat vs)).length = vs.length * 32 := by rw [bytesV_len, hflat_len]
  exact ⟨hl, .inr ⟨w.heap.size, vs.length, _, rfl, hb, heap_alloc_new w _, Nat.le_refl _, hm, by simpa using hl, by simp [List.take_of_length_le (Nat.le_of_eq hl)]⟩⟩
end Go.Proofs.YtldokkbfahobgaaDoor

/-! TreeP: Plain law of lists' roots: how a list is split, and its root, over a node function that is left open. No condition. -/
namespace Go.Proofs.YtldokkbfahobgaaDoor

/-- The greatest power of two below n; 0 of n below 2. -/
def splitN (n : Nat) : Nat := if n < 2 then 0 else 2 ^ Nat.log2 (n - 1)
theorem splitN_pow (n : Nat) (h : 2 ≤ n) : splitN n = 2 ^ Nat.log2 (n - 1) := by unfold splitN; rw [if_neg (by omega)]
theorem splitN_lt (n : Nat) (h : 2 ≤ n) : splitN n < n := by
  rw [splitN_pow n h]
  have := Nat.log2_self_le (n := n - 1) (by omega)
  omega
theorem splitN_pos (n : Nat) (h : 2 ≤ n) : 0 < splitN n := by
  rw [splitN_pow n h]
  exact Nat.pow_pos (by decide)
theorem splitN_half (n : Nat) (h : 2 ≤ n) : n ≤ 2 * splitN n := by
  rw [splitN_pow n h]
  have : n - 1 < 2 ^ (Nat.log2 (n - 1) + 1) := Nat.lt_log2_self
  rw [Nat.pow_succ] at this
  omega
theorem splitN_unique (n j : Nat) (h1 : 2 ^ j < n) (h2 : n ≤ 2 ^ (j + 1)) : splitN n = 2 ^ j := by
  have hp : 0 < 2 ^ j := Nat.pow_pos (by decide)
  rw [splitN_pow n (by omega)]
  congr 1
  refine (Nat.log2_eq_iff (by omega)).2 ⟨by omega, by omega⟩

section
variable {α : Type} (nd : α → α → α) (e : α)
/-- A list's root. -/
def rootN (l : List α) : α :=
  if _h : l.length < 2 then l.headD e else nd (rootN (l.take (splitN l.length))) (rootN (l.drop (splitN l.length)))
termination_by l.length
decreasing_by
  · rw [List.length_take]; have := splitN_lt l.length (by omega); omega
  · rw [List.length_drop]; have := splitN_pos l.length (by omega); omega
theorem rootN_nil : rootN nd e [] = e := by rw [rootN]; rfl
theorem rootN_one (x : α) : rootN nd e [x] = x := by rw [rootN]; rfl
theorem rootN_two (l : List α) (h : 2 ≤ l.length) : rootN nd e l = nd (rootN nd e (l.take (splitN l.length))) (rootN nd e (l.drop (splitN l.length))) := by
  rw [rootN, dif_neg (by omega)]
/-- The nodes of pairs, an odd last one kept. -/
def pairsN : List α → List α
  | x :: y :: l => nd x y :: pairsN l
  | l => l
theorem pairsN_len : ∀ l : List α, (pairsN nd l).length = (l.length + 1) / 2
  | [] => by simp [pairsN]
  | [_] => by simp [pairsN]
  | x :: y :: l => by
    have := pairsN_len l
    simp only [pairsN, List.length_cons, this]
    omega
theorem pairsN_app : ∀ (a b : List α), a.length % 2 = 0 → pairsN nd (a ++ b) = pairsN nd a ++ pairsN nd b
  | [], _, _ => by simp [pairsN]
  | [_], _, h => by simp at h
  | x :: y :: a, b, h => by
    have := pairsN_app a b (by simp at h; omega)
    simp only [pairsN, List.cons_append, this]
theorem splitN_pairs (n : Nat) (h : 3 ≤ n) : 2 * splitN ((n + 1) / 2) = splitN n := by
  have h1 := splitN_lt n (by omega)
  have h2 := splitN_half n (by omega)
  have h3 := splitN_pow n (by omega)
  obtain ⟨j, hj⟩ : ∃ j, j = Nat.log2 (n - 1) := ⟨_, rfl⟩
  rw [← hj] at h3
  cases j with
  | zero => rw [h3] at h2; simp at h2; omega
  | succ j =>
    rw [Nat.pow_succ] at h3
    have : splitN ((n + 1) / 2) = 2 ^ j := splitN_unique _ j (by omega) (by rw [Nat.pow_succ]; omega)
    rw [this, h3]
    omega
theorem rootN_pairs : ∀ (n : Nat) (l : List α), l.length = n → rootN nd e (pairsN nd l) = rootN nd e l := by
  intro n
  induction n using Nat.strongRecOn with
  | _ n ih =>
    intro l hn
    match l, hn with
    | [], _ => simp [pairsN]
    | [_], _ => simp [pairsN]
    | [x, y], _ =>
      rw [rootN_two nd e [x, y] (by simp)]
      rw [show pairsN nd [x, y] = [nd x y] by simp [pairsN], rootN_one]
      rw [show splitN [x, y].length = 1 from splitN_unique 2 0 (by decide) (by decide)]
      simp [rootN_one]
    | x :: y :: z :: l, hn =>
      obtain ⟨L, hL⟩ : ∃ L, L = x :: y :: z :: l := ⟨_, rfl⟩
      rw [← hL] at hn ⊢
      have h3 : 3 ≤ n := by rw [← hn, hL]; simp
      have hlt := splitN_lt n (by omega)
      have hpos := splitN_pos n (by omega)
      have hsp := splitN_pairs n h3
      have hpl := pairsN_len nd L
      rw [rootN_two nd e L (by omega), rootN_two nd e (pairsN nd L) (by omega), hpl, hn]
      have hcut : pairsN nd L = pairsN nd (L.take (splitN n)) ++ pairsN nd (L.drop (splitN n)) := by
        rw [← pairsN_app nd _ _ (by rw [List.length_take]; omega), List.take_append_drop]
      have hpt : (pairsN nd (L.take (splitN n))).length = splitN ((n + 1) / 2) := by rw [pairsN_len, List.length_take]; omega
      have e1 : (pairsN nd L).take (splitN ((n + 1) / 2)) = pairsN nd (L.take (splitN n)) := by rw [hcut, List.take_append_of_le_length (by omega), List.take_of_length_le (by omega)]
      have e2 : (pairsN nd L).drop (splitN ((n + 1) / 2)) = pairsN nd (L.drop (splitN n)) := by rw [hcut, ← hpt, List.drop_left]
      rw [e1, e2, ih (splitN n) hlt (L.take (splitN n)) (by rw [List.length_take]; omega), ih (n - splitN n) (by omega) (L.drop (splitN n)) (by rw [List.length_drop]; omega)]
/-- The whole trees' roots, the last one first. -/
def stackN (l : List α) : List α :=
  if h0 : l = [] then [] else if l.length % 2 = 0 then stackN (pairsN nd l) else l.getLast h0 :: stackN (pairsN nd l.dropLast)
termination_by l.length
decreasing_by
  · have := List.length_pos_iff.2 h0; rw [pairsN_len]; omega
  · have := List.length_pos_iff.2 h0; rw [pairsN_len, List.length_dropLast]; omega
theorem stackN_nil : stackN nd [] = [] := by rw [stackN]; simp
theorem stackN_even (l : List α) (h : l.length % 2 = 0) : stackN nd l = stackN nd (pairsN nd l) := by
  by_cases h0 : l = []
  · subst h0; rfl
  · rw [stackN, dif_neg h0, if_pos h]
theorem stackN_odd (l : List α) (x : α) (h : l.length % 2 = 0) : stackN nd (l ++ [x]) = x :: stackN nd (pairsN nd l) := by
  rw [stackN, dif_neg (by simp), if_neg (by simp; omega)]
  simp
/-- One leaf more, with carries. -/
def addN1 (n : Nat) (st : List α) (h : α) : List α :=
  if _h : n % 2 = 1 then (match st with | t :: st => addN1 (n / 2) st (nd t h) | [] => [h]) else h :: st
termination_by n
theorem addN1_odd (n : Nat) (h : n % 2 = 1) (t : α) (st : List α) (x : α) : addN1 nd n (t :: st) x = addN1 nd (n / 2) st (nd t x) := by rw [addN1.eq_def, dif_pos h]
theorem addN1_even (n : Nat) (h : ¬ n % 2 = 1) (st : List α) (x : α) : addN1 nd n st x = x :: st := by rw [addN1.eq_def, dif_neg h]
theorem pairsN_snoc2 (l : List α) (x y : α) (h : l.length % 2 = 0) : pairsN nd (l ++ [x, y]) = pairsN nd l ++ [nd x y] := by
  rw [pairsN_app nd l _ h]
  simp [pairsN]
theorem odd_snoc (l : List α) (h : l.length % 2 = 1) : ∃ q x, l = q ++ [x] ∧ q.length % 2 = 0 := by
  have h0 : l ≠ [] := fun e => by subst e; simp at h
  exact ⟨l.dropLast, l.getLast h0, (List.dropLast_concat_getLast h0).symm, by rw [List.length_dropLast]; omega⟩
theorem stackN_add : ∀ (n : Nat) (l : List α) (h : α), l.length = n → stackN nd (l ++ [h]) = addN1 nd n (stackN nd l) h := by
  intro n
  induction n using Nat.strongRecOn with
  | _ n ih =>
    intro l h hn
    by_cases ho : n % 2 = 1
    · obtain ⟨q, x, rfl, hq⟩ := odd_snoc l (by omega)
      have hlen : q.length + 1 = n := by simpa using hn
      rw [stackN_odd nd q x hq, addN1_odd nd n ho]
      rw [List.append_assoc, List.singleton_append, stackN_even nd _ (by simp; omega), pairsN_snoc2 nd q x h hq]
      exact ih (n / 2) (by omega) (pairsN nd q) (nd x h) (by rw [pairsN_len]; omega)
    · rw [addN1_even nd n ho, stackN_odd nd l h (by omega), ← stackN_even nd l (by omega)]
/-- The root of whole trees, the last one first. -/
def rootS (st : List α) : α := match st with | [] => e | t :: st => st.foldl (fun out s => nd s out) t
theorem rootS_add : ∀ (n : Nat) (l : List α) (h : α), l.length = n → rootS nd e (addN1 nd n (stackN nd l) h) = (stackN nd l).foldl (fun out s => nd s out) h := by
  intro n
  induction n using Nat.strongRecOn with
  | _ n ih =>
    intro l h hn
    by_cases ho : n % 2 = 1
    · obtain ⟨q, x, rfl, hq⟩ := odd_snoc l (by omega)
      have hlen : q.length + 1 = n := by simpa using hn
      rw [stackN_odd nd q x hq, addN1_odd nd n ho]
      exact ih (n / 2) (by omega) (pairsN nd q) (nd x h) (by rw [pairsN_len]; omega)
    · rw [addN1_even nd n ho]
      rfl
theorem rootS_stack : ∀ (n : Nat) (l : List α), l.length = n → rootS nd e (stackN nd l) = rootN nd e l := by
  intro n
  induction n using Nat.strongRecOn with
  | _ n ih =>
    intro l hn
    by_cases h0 : l = []
    · subst h0
      rw [stackN_nil, rootN_nil]
      rfl
    have hp := List.length_pos_iff.2 h0
    by_cases ho : n % 2 = 1
    · obtain ⟨q, x, rfl, hq⟩ := odd_snoc l (by omega)
      have hlen : q.length + 1 = n := by simpa using hn
      by_cases hq0 : q = []
      · subst hq0
        rw [List.nil_append, rootN_one, show ([x] : List α) = [] ++ [x] from rfl, stackN_odd nd [] x rfl]
        rw [show pairsN nd ([] : List α) = [] by simp [pairsN], stackN_nil]
        rfl
      · have hqp := List.length_pos_iff.2 hq0
        rw [← rootN_pairs nd e _ (q ++ [x]) rfl, pairsN_app nd q [x] hq, show pairsN nd [x] = [x] by simp [pairsN]]
        rw [← ih (q.length / 2 + 1) (by omega) (pairsN nd q ++ [x]) (by rw [List.length_append, pairsN_len]; simp; omega)]
        rw [stackN_add nd _ (pairsN nd q) x rfl, rootS_add nd e _ (pairsN nd q) x rfl, stackN_odd nd q x hq]
        rfl
    · rw [stackN_even nd l (by omega), ih (n / 2) (by omega) (pairsN nd l) (by rw [pairsN_len]; omega), rootN_pairs nd e _ l rfl]
/-- How many ones n has, written in two digits. -/
def onesN (n : Nat) : Nat := if h : n = 0 then 0 else n % 2 + onesN (n / 2)
termination_by n
theorem stackN_len : ∀ (n : Nat) (l : List α), l.length = n → (stackN nd l).length = onesN n := by
  intro n
  induction n using Nat.strongRecOn with
  | _ n ih =>
    intro l hn
    by_cases h0 : l = []
    · subst h0
      subst hn
      rw [stackN_nil, onesN]
      simp
    have hp := List.length_pos_iff.2 h0
    rw [onesN, dif_neg (by omega)]
    by_cases ho : n % 2 = 1
    · obtain ⟨q, x, rfl, hq⟩ := odd_snoc l (by omega)
      have hlen : q.length + 1 = n := by simpa using hn
      rw [stackN_odd nd q x hq, List.length_cons, ih (n / 2) (by omega) (pairsN nd q) (by rw [pairsN_len]; omega)]
      omega
    · rw [stackN_even nd l (by omega), ih (n / 2) (by omega) (pairsN nd l) (by rw [pairsN_len]; omega)]
      omega
/-- The greatest power of two that is not above n (n at least 1). -/
def topN (n : Nat) : Nat := 2 ^ Nat.log2 n
theorem topN_pos (n : Nat) : 0 < topN n := Nat.pow_pos (by decide)
theorem topN_le (n : Nat) (h : 0 < n) : topN n ≤ n := Nat.log2_self_le (by omega)
theorem topN_unique (n j : Nat) (h1 : 2 ^ j ≤ n) (h2 : n < 2 ^ (j + 1)) : topN n = 2 ^ j := by
  have hp : 0 < 2 ^ j := Nat.pow_pos (by decide)
  unfold topN
  congr 1
  exact (Nat.log2_eq_iff (by omega)).2 ⟨h1, h2⟩
theorem topN_bounds (n : Nat) (h : 0 < n) : ∃ j, topN n = 2 ^ j ∧ 2 ^ j ≤ n ∧ n < 2 ^ (j + 1) :=
  ⟨Nat.log2 n, rfl, Nat.log2_self_le (by omega), Nat.lt_log2_self⟩
theorem topN_double (n : Nat) (h : 0 < n) (c : Nat) (hc : c < 2) : topN (2 * n + c) = 2 * topN n := by
  obtain ⟨j, e, h1, h2⟩ := topN_bounds n h
  rw [e, topN_unique (2 * n + c) (j + 1) (by rw [Nat.pow_succ]; omega) (by rw [Nat.pow_succ, Nat.pow_succ]; rw [Nat.pow_succ] at h2; omega), Nat.pow_succ]
  omega
/-- The whole trees' roots, the first one first. -/
def treesN (l : List α) : List α :=
  if _h : l.length = 0 then [] else rootN nd e (l.take (topN l.length)) :: treesN (l.drop (topN l.length))
termination_by l.length
decreasing_by
  rw [List.length_drop]; have := topN_pos l.length; omega
theorem treesN_nil : treesN nd e [] = [] := by rw [treesN]; rfl
theorem treesN_pos (l : List α) (h : 0 < l.length) : treesN nd e l = rootN nd e (l.take (topN l.length)) :: treesN nd e (l.drop (topN l.length)) := by
  rw [treesN, dif_neg (by omega)]
theorem treesN_pairs : ∀ (n : Nat) (l : List α), l.length = n → l.length % 2 = 0 → treesN nd e (pairsN nd l) = treesN nd e l := by
  intro n
  induction n using Nat.strongRecOn with
  | _ n ih =>
    intro l hn he
    by_cases h0 : l.length = 0
    · have := List.eq_nil_of_length_eq_zero h0
      subst this
      simp [pairsN]
    · have hpl := pairsN_len nd l
      obtain ⟨m, hm⟩ : ∃ m, l.length = 2 * m := ⟨l.length / 2, by omega⟩
      have hpm : (pairsN nd l).length = m := by omega
      have ht := topN_double m (by omega) 0 (by decide)
      rw [Nat.add_zero] at ht
      have htp := topN_pos m
      have htl := topN_le m (by omega)
      rw [treesN_pos nd e l (by omega), treesN_pos nd e (pairsN nd l) (by omega), hpm, hm, ht]
      have hcut : pairsN nd l = pairsN nd (l.take (2 * topN m)) ++ pairsN nd (l.drop (2 * topN m)) := by
        rw [← pairsN_app nd _ _ (by rw [List.length_take]; omega), List.take_append_drop]
      have hpt : (pairsN nd (l.take (2 * topN m))).length = topN m := by rw [pairsN_len, List.length_take]; omega
      have e1 : (pairsN nd l).take (topN m) = pairsN nd (l.take (2 * topN m)) := by rw [hcut, List.take_append_of_le_length (by omega), List.take_of_length_le (by omega)]
      have e2 : (pairsN nd l).drop (topN m) = pairsN nd (l.drop (2 * topN m)) := by rw [hcut, List.drop_append_of_le_length (by omega), List.drop_eq_nil_of_le (by omega), List.nil_append]
      rw [e1, e2, rootN_pairs nd e _ _ rfl, ih (l.drop (2 * topN m)).length (by rw [List.length_drop]; omega) _ rfl (by rw [List.length_drop]; omega)]
theorem treesN_snoc : ∀ (n : Nat) (q : List α) (x : α), q.length = n → q.length % 2 = 0 → treesN nd e (q ++ [x]) = treesN nd e q ++ [x] := by
  intro n
  induction n using Nat.strongRecOn with
  | _ n ih =>
    intro q x hn he
    by_cases h0 : q.length = 0
    · have := List.eq_nil_of_length_eq_zero h0
      subst this
      rw [List.nil_append, treesN_pos nd e [x] (by simp), treesN_nil]
      rw [show topN [x].length = 1 from topN_unique 1 0 (by decide) (by decide)]
      simp [rootN_one, treesN_nil]
    · obtain ⟨m, hm⟩ : ∃ m, q.length = 2 * m := ⟨q.length / 2, by omega⟩
      have t0 := topN_double m (by omega) 0 (by decide)
      have t1 := topN_double m (by omega) 1 (by decide)
      rw [Nat.add_zero] at t0
      have htp := topN_pos m
      have htl := topN_le m (by omega)
      rw [treesN_pos nd e (q ++ [x]) (by simp), treesN_pos nd e q (by omega), List.length_append, List.length_singleton, hm, t1, t0]
      rw [List.take_append_of_le_length (by omega), List.drop_append_of_le_length (by omega)]
      rw [ih (q.drop (2 * topN m)).length (by rw [List.length_drop]; omega) _ x rfl (by rw [List.length_drop]; omega)]
      rfl
theorem stackN_trees : ∀ (n : Nat) (l : List α), l.length = n → (stackN nd l).reverse = treesN nd e l := by
  intro n
  induction n using Nat.strongRecOn with
  | _ n ih =>
    intro l hn
    by_cases h0 : l = []
    · subst h0
      rw [stackN_nil, treesN_nil]
      rfl
    have hp := List.length_pos_iff.2 h0
    by_cases ho : n % 2 = 1
    · obtain ⟨q, x, rfl, hq⟩ := odd_snoc l (by omega)
      have hlen : q.length + 1 = n := by simpa using hn
      rw [stackN_odd nd q x hq, List.reverse_cons, treesN_snoc nd e _ q x rfl hq, ih (n / 2) (by omega) (pairsN nd q) (by rw [pairsN_len]; omega), treesN_pairs nd e _ q rfl hq]
    · rw [stackN_even nd l (by omega), ih (n / 2) (by omega) (pairsN nd l) (by rw [pairsN_len]; omega), treesN_pairs nd e _ l rfl (by omega)]
theorem onesN_pow (j : Nat) : onesN (2 ^ j) = 1 := by
  induction j with
  | zero => rw [onesN, onesN]; simp
  | succ j ih =>
    have hp : 0 < 2 ^ j := Nat.pow_pos (by decide)
    rw [onesN, dif_neg (by rw [Nat.pow_succ]; omega), Nat.pow_succ, Nat.mul_mod_left, Nat.mul_div_cancel _ (by decide), ih]
theorem onesN_le : ∀ (n : Nat), onesN n ≤ n := by
  intro n
  induction n using Nat.strongRecOn with
  | _ n ih =>
    rw [onesN]
    by_cases h : n = 0
    · rw [dif_pos h]; exact Nat.zero_le _
    · rw [dif_neg h]
      have := ih (n / 2) (by omega)
      omega
theorem stackN_few (n : Nat) (l : List α) (h : l.length = n) : (stackN nd l).length ≤ n := by
  rw [stackN_len nd n l h]
  exact onesN_le n
/-- A whole tree's stack is its root alone. -/
theorem stackN_whole (l : List α) (j : Nat) (h : l.length = 2 ^ j) : stackN nd l = [rootN nd e l] := by
  have h1 := stackN_len nd _ l rfl
  rw [h, onesN_pow] at h1
  obtain ⟨t, ht⟩ := List.length_eq_one_iff.1 h1
  have h2 := rootS_stack nd e _ l rfl
  rw [ht] at h2 ⊢
  rw [← h2]
  rfl
end
end Go.Proofs.YtldokkbfahobgaaDoor

/-! ProofP: Plain law of paths: a leaf's path comes to the list's root. No condition. -/
namespace Go.Proofs.YtldokkbfahobgaaDoor
section
variable {α : Type} (nd : α → α → α) (e : α)
/-- A leaf's path, the deepest hash first. -/
def pathN (l : List α) (i : Nat) : List α :=
  if _h : l.length < 2 then [] else
    if i < splitN l.length then pathN (l.take (splitN l.length)) i ++ [rootN nd e (l.drop (splitN l.length))]
    else pathN (l.drop (splitN l.length)) (i - splitN l.length) ++ [rootN nd e (l.take (splitN l.length))]
termination_by l.length
decreasing_by
  · rw [List.length_take]; have := splitN_lt l.length (by omega); omega
  · rw [List.length_drop]; have := splitN_pos l.length (by omega); omega
/-- On which side the leaf is, the deepest first. -/
def sidesN (n i : Nat) : List Bool :=
  if _h : n < 2 then [] else
    if i < splitN n then sidesN (splitN n) i ++ [true] else sidesN (n - splitN n) (i - splitN n) ++ [false]
termination_by n
decreasing_by
  · exact splitN_lt n (by omega)
  · have := splitN_pos n (by omega); omega
def climbN (h : α) (l : List (Bool × α)) : α := l.foldl (fun h p => if p.1 then nd h p.2 else nd p.2 h) h
theorem path_both : ∀ (n : Nat) (l : List α) (i : Nat) (x : α), l.length = n → l[i]? = some x →
    (pathN nd e l i).length = (sidesN n i).length ∧ climbN nd x ((sidesN n i).zip (pathN nd e l i)) = rootN nd e l := by
  intro n
  induction n using Nat.strongRecOn with
  | _ n ih =>
    intro l i x hn hx
    have hi : i < n := by rw [← hn]; exact (List.getElem?_eq_some_iff.1 hx).1
    by_cases h2 : n < 2
    · have h1 : l.length = 1 := by omega
      obtain ⟨y, rfl⟩ := List.length_eq_one_iff.1 h1
      have h0 : i = 0 := by omega
      subst h0
      cases hx
      rw [pathN, dif_pos (by simp), sidesN, dif_pos h2, rootN_one]
      exact ⟨rfl, rfl⟩
    · have hlt := splitN_lt n (by omega)
      have hpos := splitN_pos n (by omega)
      rw [pathN, dif_neg (by omega), sidesN, dif_neg h2, rootN_two nd e l (by omega), hn]
      by_cases hk : i < splitN n
      · rw [if_pos hk, if_pos hk]
        obtain ⟨e1, e2⟩ := ih (splitN n) hlt (l.take (splitN n)) i x (by rw [List.length_take]; omega) (by rw [List.getElem?_take, if_pos hk]; exact hx)
        refine ⟨by simp [e1], ?_⟩
        rw [List.zip_append e1.symm]
        unfold climbN at e2 ⊢
        rw [List.foldl_append, e2]
        rfl
      · rw [if_neg hk, if_neg hk]
        obtain ⟨e1, e2⟩ := ih (n - splitN n) (by omega) (l.drop (splitN n)) (i - splitN n) x (by rw [List.length_drop]; omega) (by rw [List.getElem?_drop, show splitN n + (i - splitN n) = i by omega]; exact hx)
        refine ⟨by simp [e1], ?_⟩
        rw [List.zip_append e1.symm]
        unfold climbN at e2 ⊢
        rw [List.foldl_append, e2]
        rfl
/-- What a path, its last hash first, comes to, and what is left of it. -/
def upN (x : α) (n i : Nat) (rp : List α) : Option (α × List α) :=
  if _h : n < 2 then some (x, rp) else match rp with
    | [] => none
    | o :: rp => if i < splitN n then (upN x (splitN n) i rp).map fun p => (nd p.1 o, p.2) else (upN x (n - splitN n) (i - splitN n) rp).map fun p => (nd o p.1, p.2)
termination_by n
decreasing_by
  · exact splitN_lt n (by omega)
  · have := splitN_pos n (by omega); omega
theorem upN_eq (x : α) : ∀ (n i : Nat) (rp : List α), upN nd x n i rp = if (sidesN n i).length ≤ rp.length then some (climbN nd x ((sidesN n i).zip (rp.take (sidesN n i).length).reverse), rp.drop (sidesN n i).length) else none := by
  intro n
  induction n using Nat.strongRecOn with
  | _ n ih =>
    intro i rp
    rw [upN.eq_def, sidesN]
    by_cases h2 : n < 2
    · rw [dif_pos h2, dif_pos h2]
      simp [climbN]
    · rw [dif_neg h2, dif_neg h2]
      have hlt := splitN_lt n (by omega)
      have hpos := splitN_pos n (by omega)
      cases rp with
      | nil =>
        show (none : Option (α × List α)) = _
        rw [if_neg (by split <;> simp)]
      | cons o rp =>
        simp only
        by_cases hk : i < splitN n
        · rw [if_pos hk, if_pos hk, ih (splitN n) hlt i rp]
          by_cases hl : (sidesN (splitN n) i).length ≤ rp.length
          · rw [if_pos hl, if_pos (by simp; omega)]
            simp only [Option.map_some, List.length_append, List.length_singleton, List.take_succ_cons, List.reverse_cons, List.drop_succ_cons]
            rw [List.zip_append (by simp; omega)]
            simp [climbN]
          · rw [if_neg hl, if_neg (by simp; omega)]
            rfl
        · rw [if_neg hk, if_neg hk, ih (n - splitN n) (by omega) (i - splitN n) rp]
          by_cases hl : (sidesN (n - splitN n) (i - splitN n)).length ≤ rp.length
          · rw [if_pos hl, if_pos (by simp; omega)]
            simp only [Option.map_some, List.length_append, List.length_singleton, List.take_succ_cons, List.reverse_cons, List.drop_succ_cons]
            rw [List.zip_append (by simp; omega)]
            simp [climbN]
          · rw [if_neg hl, if_neg (by simp; omega)]
            rfl
/-- What a path comes to. -/
def comesN (x : α) (n i : Nat) (p : List α) : Option α := if (sidesN n i).length = p.length then some (climbN nd x ((sidesN n i).zip p)) else none
theorem comesN_up (x : α) (n i : Nat) (p : List α) : comesN nd x n i p = (match upN nd x n i p.reverse with | some (h, []) => some h | _ => none) := by
  rw [upN_eq, comesN]
  by_cases h : (sidesN n i).length = p.length
  · rw [if_pos h, if_pos (by simp; omega), h]
    rw [List.take_of_length_le (by simp), List.drop_eq_nil_of_le (by simp), List.reverse_reverse]
  · rw [if_neg h]
    by_cases h2 : (sidesN n i).length ≤ p.reverse.length
    · rw [if_pos h2]
      have : (p.reverse.drop (sidesN n i).length) ≠ [] := by
        intro e
        have := congrArg List.length e
        simp at this h2
        omega
      cases hd : p.reverse.drop (sidesN n i).length with
      | nil => exact absurd hd this
      | cons y ys => rfl
    · rw [if_neg h2]
theorem sidesN_len (j : Nat) : ∀ (n i : Nat), n ≤ 2 ^ j → (sidesN n i).length ≤ j := by
  induction j with
  | zero =>
    intro n i h
    rw [sidesN, dif_pos (by simpa using Nat.lt_succ_of_le h)]
    exact Nat.le_refl _
  | succ j ih =>
    intro n i h
    rw [sidesN]
    by_cases h2 : n < 2
    · rw [dif_pos h2]; exact Nat.zero_le _
    · rw [dif_neg h2]
      have hlt := splitN_lt n (by omega)
      have hh := splitN_half n (by omega)
      have hs : splitN n ≤ 2 ^ j := by
        rw [splitN_pow n (by omega)] at hlt ⊢
        have h3 : 2 ^ Nat.log2 (n - 1) < 2 ^ (j + 1) := by omega
        have := (Nat.pow_lt_pow_iff_right (by decide : 1 < 2)).1 h3
        exact Nat.pow_le_pow_right (by decide) (by omega)
      split
      · rw [List.length_append, List.length_singleton]
        have := ih (splitN n) i hs
        omega
      · rw [List.length_append, List.length_singleton]
        have := ih (n - splitN n) (i - splitN n) (by omega)
        omega
/-- A leaf's path comes to the root. -/
theorem comes_path (l : List α) (i : Nat) (x : α) (h : l[i]? = some x) : comesN nd x l.length i (pathN nd e l i) = some (rootN nd e l) := by
  obtain ⟨h1, h2⟩ := path_both nd e _ l i x rfl h
  rw [comesN, if_pos h1.symm, h2]
/-- Of another leaf a path comes to the root of the list that has that in its place. -/
theorem pathN_set : ∀ (n : Nat) (l : List α) (i : Nat) (y : α), l.length = n → pathN nd e (l.set i y) i = pathN nd e l i := by
  intro n
  induction n using Nat.strongRecOn with
  | _ n ih =>
    intro l i y hn
    rw [pathN.eq_def nd e (l.set i y) i, pathN.eq_def nd e l i]
    by_cases h2 : n < 2
    · rw [dif_pos (by simp; omega), dif_pos (by omega)]
    · have hlt := splitN_lt n (by omega)
      have hpos := splitN_pos n (by omega)
      rw [dif_neg (by simp; omega), dif_neg (by omega), List.length_set, hn]
      by_cases hk : i < splitN n
      · rw [if_pos hk, if_pos hk, List.drop_set, if_pos hk, List.take_set, ih (splitN n) hlt _ i y (by rw [List.length_take]; omega)]
      · rw [if_neg hk, if_neg hk, List.drop_set, if_neg hk, List.take_set_of_le (by omega), ih (n - splitN n) (by omega) _ (i - splitN n) y (by rw [List.length_drop]; omega)]
/-- The proof that the first m begin a list, the deepest hash first. -/
def subN (l : List α) (m : Nat) (whole : Bool) : List α :=
  if _h : l.length < 2 ∨ m = l.length then (if whole then [] else [rootN nd e l]) else
    if m ≤ splitN l.length then subN (l.take (splitN l.length)) m whole ++ [rootN nd e (l.drop (splitN l.length))]
    else subN (l.drop (splitN l.length)) (m - splitN l.length) false ++ [rootN nd e (l.take (splitN l.length))]
termination_by l.length
decreasing_by
  · rw [List.length_take]; have := splitN_lt l.length (by omega); omega
  · rw [List.length_drop]; have := splitN_pos l.length (by omega); omega
/-- On which side the last of the first m is, the deepest first; and whether these are a whole part from the left. -/
def sidesM (n m : Nat) : List Bool :=
  if _h : n < 2 ∨ m = n then [] else
    if m ≤ splitN n then sidesM (splitN n) m ++ [true] else sidesM (n - splitN n) (m - splitN n) ++ [false]
termination_by n
decreasing_by
  · exact splitN_lt n (by omega)
  · have := splitN_pos n (by omega); omega
def wholeN (n m : Nat) (w : Bool) : Bool :=
  if _h : n < 2 ∨ m = n then w else
    if m ≤ splitN n then wholeN (splitN n) m w else wholeN (n - splitN n) (m - splitN n) false
termination_by n
decreasing_by
  · exact splitN_lt n (by omega)
  · have := splitN_pos n (by omega); omega
theorem wholeN_false : ∀ (n m : Nat), wholeN n m false = false := by
  intro n
  induction n using Nat.strongRecOn with
  | _ n ih =>
    intro m
    rw [wholeN]
    split
    · rfl
    · have hlt := splitN_lt n (by omega)
      have hpos := splitN_pos n (by omega)
      split
      · exact ih _ hlt _
      · exact ih _ (by omega) _
def climb2 (p : α × α) (l : List (Bool × α)) : α × α := l.foldl (fun p q => if q.1 then (p.1, nd p.2 q.2) else (nd q.2 p.1, nd q.2 p.2)) p
/-- What a proof, its last hash first, comes to, and what is left of it. -/
def up2 (old : α) (n m : Nat) (w : Bool) (rp : List α) : Option ((α × α) × List α) :=
  if _h : n < 2 ∨ m = n then (if w then some ((old, old), rp) else match rp with | [] => none | o :: rp => some ((o, o), rp)) else match rp with
    | [] => none
    | o :: rp => if m ≤ splitN n then (up2 old (splitN n) m w rp).map fun p => ((p.1.1, nd p.1.2 o), p.2) else (up2 old (n - splitN n) (m - splitN n) false rp).map fun p => ((nd o p.1.1, nd o p.1.2), p.2)
termination_by n
decreasing_by
  · exact splitN_lt n (by omega)
  · have := splitN_pos n (by omega); omega
/-- What a proof comes to, the deepest hash first, and what is left. -/
def from2 (old : α) (s : List Bool) (w : Bool) (rp : List α) : Option ((α × α) × List α) :=
  if w then (if s.length ≤ rp.length then some (climb2 nd (old, old) (s.zip (rp.take s.length).reverse), rp.drop s.length) else none)
  else match rp.drop s.length with
    | [] => none
    | o :: rest => some (climb2 nd (o, o) (s.zip (rp.take s.length).reverse), rest)
theorem up2_eq (old : α) : ∀ (n m : Nat) (w : Bool) (rp : List α), up2 nd old n m w rp = from2 nd old (sidesM n m) (wholeN n m w) rp := by
  intro n
  induction n using Nat.strongRecOn with
  | _ n ih =>
    intro m w rp
    rw [up2.eq_def, sidesM, wholeN]
    by_cases h2 : n < 2 ∨ m = n
    · rw [dif_pos h2, dif_pos h2, dif_pos h2]
      cases w with
      | true => simp [from2, climb2]
      | false => cases rp <;> simp [from2, climb2]
    · rw [dif_neg h2, dif_neg h2, dif_neg h2]
      have hlt := splitN_lt n (by omega)
      have hpos := splitN_pos n (by omega)
      cases rp with
      | nil =>
        show (none : Option ((α × α) × List α)) = _
        have hs : 0 < (if m ≤ splitN n then sidesM (splitN n) m ++ [true] else sidesM (n - splitN n) (m - splitN n) ++ [false]).length := by split <;> simp
        have h0 : ∀ (s : List Bool) (w : Bool), 0 < s.length → from2 nd old s w [] = none := fun s w h => by
          unfold from2
          cases w
          · simp
          · rw [if_pos rfl, if_neg (by rw [List.length_nil]; omega)]
        exact (h0 _ _ hs).symm
      | cons o rp =>
        simp only
        by_cases hk : m ≤ splitN n
        · rw [if_pos hk, if_pos hk, if_pos hk, ih _ hlt]
          unfold from2
          split
          · by_cases hl : (sidesM (splitN n) m).length ≤ rp.length
            · rw [if_pos hl, if_pos (by simp; omega)]
              simp only [Option.map_some, List.length_append, List.length_singleton, List.take_succ_cons, List.reverse_cons, List.drop_succ_cons]
              rw [List.zip_append (by simp; omega)]
              simp [climb2]
            · rw [if_neg hl, if_neg (by simp; omega)]
              rfl
          · rw [List.length_append, List.length_singleton, List.drop_succ_cons]
            cases hd : rp.drop (sidesM (splitN n) m).length with
            | nil => rfl
            | cons x xs =>
              have hl : (sidesM (splitN n) m).length < rp.length := by
                have := congrArg List.length hd
                simp at this
                omega
              simp only [Option.map_some, List.take_succ_cons, List.reverse_cons]
              rw [List.zip_append (by simp; omega)]
              simp [climb2]
        · rw [if_neg hk, if_neg hk, if_neg hk, ih _ (by omega), wholeN_false]
          unfold from2
          rw [if_neg (by simp), if_neg (by simp)]
          rw [List.length_append, List.length_singleton, List.drop_succ_cons]
          cases hd : rp.drop (sidesM (n - splitN n) (m - splitN n)).length with
          | nil => rfl
          | cons x xs =>
            have hl : (sidesM (n - splitN n) (m - splitN n)).length < rp.length := by
              have := congrArg List.length hd
              simp at this
              omega
            simp only [Option.map_some, List.take_succ_cons, List.reverse_cons]
            rw [List.zip_append (by simp; omega)]
            simp [climb2]
/-- The two roots that a proof comes to. -/
def bothN (old : α) (n m : Nat) (p : List α) : Option (α × α) :=
  if wholeN n m true then (if (sidesM n m).length = p.length then some (climb2 nd (old, old) ((sidesM n m).zip p)) else none)
  else match p with
    | [] => none
    | h :: t => if (sidesM n m).length = t.length then some (climb2 nd (h, h) ((sidesM n m).zip t)) else none
theorem bothN_up (old : α) (n m : Nat) (p : List α) : bothN nd old n m p = (match up2 nd old n m true p.reverse with | some (h, []) => some h | _ => none) := by
  rw [up2_eq]
  unfold bothN from2
  split
  · by_cases h : (sidesM n m).length = p.length
    · rw [if_pos h, if_pos (by simp; omega), h]
      rw [List.take_of_length_le (by simp), List.drop_eq_nil_of_le (by simp), List.reverse_reverse]
    · rw [if_neg h]
      by_cases h2 : (sidesM n m).length ≤ p.reverse.length
      · rw [if_pos h2]
        cases hd : p.reverse.drop (sidesM n m).length with
        | nil =>
          have := congrArg List.length hd
          simp at this h2
          omega
        | cons y ys => rfl
      · rw [if_neg h2]
  · cases p with
    | nil => simp
    | cons h t =>
      simp only [List.reverse_cons]
      by_cases hl : (sidesM n m).length = t.length
      · rw [if_pos hl, hl, List.drop_append_of_le_length (by simp), List.drop_eq_nil_of_le (by simp), List.nil_append]
        simp only
        rw [List.take_append_of_le_length (by simp), List.take_of_length_le (by simp), List.reverse_reverse]
      · rw [if_neg hl]
        cases hd : (t.reverse ++ [h]).drop (sidesM n m).length with
        | nil => rfl
        | cons x xs =>
          cases xs with
          | nil =>
            have := congrArg List.length hd
            simp at this
            omega
          | cons _ _ => rfl
theorem sidesM_len (j : Nat) : ∀ (n m : Nat), n ≤ 2 ^ j → (sidesM n m).length ≤ j := by
  induction j with
  | zero =>
    intro n m h
    rw [sidesM, dif_pos (.inl (by simpa using Nat.lt_succ_of_le h))]
    exact Nat.le_refl _
  | succ j ih =>
    intro n m h
    rw [sidesM]
    by_cases h2 : n < 2 ∨ m = n
    · rw [dif_pos h2]; exact Nat.zero_le _
    · rw [dif_neg h2]
      have hlt := splitN_lt n (by omega)
      have hh := splitN_half n (by omega)
      have hs : splitN n ≤ 2 ^ j := by
        rw [splitN_pow n (by omega)] at hlt ⊢
        have h3 : 2 ^ Nat.log2 (n - 1) < 2 ^ (j + 1) := by omega
        have := (Nat.pow_lt_pow_iff_right (by decide : 1 < 2)).1 h3
        exact Nat.pow_le_pow_right (by decide) (by omega)
      split
      · rw [List.length_append, List.length_singleton]
        have := ih (splitN n) m hs
        omega
      · rw [List.length_append, List.length_singleton]
        have := ih (n - splitN n) (m - splitN n) (by omega)
        omega
theorem splitN_mid (n m : Nat) (h1 : splitN n < m) (h2 : m ≤ n) (hn : 2 ≤ n) : splitN m = splitN n := by
  have hh := splitN_half n hn
  have e := splitN_pow n hn
  rw [e] at h1 hh ⊢
  exact splitN_unique m _ h1 (by rw [Nat.pow_succ]; omega)
/-- The first ones' root, of more than the left part. -/
theorem rootN_take (l : List α) (m : Nat) (h1 : splitN l.length < m) (h2 : m ≤ l.length) (hn : 2 ≤ l.length) :
    rootN nd e (l.take m) = nd (rootN nd e (l.take (splitN l.length))) (rootN nd e ((l.drop (splitN l.length)).take (m - splitN l.length))) := by
  have hp := splitN_pos l.length hn
  have hl : (l.take m).length = m := by rw [List.length_take]; omega
  rw [rootN_two nd e (l.take m) (by omega), hl, splitN_mid l.length m h1 h2 hn, List.take_take, Nat.min_eq_left (by omega), List.drop_take]
theorem sub_both : ∀ (n : Nat) (l : List α) (m : Nat) (w : Bool), l.length = n → 1 ≤ m → m ≤ n →
    (wholeN n m w = true → (subN nd e l m w).length = (sidesM n m).length ∧ climb2 nd (rootN nd e (l.take m), rootN nd e (l.take m)) ((sidesM n m).zip (subN nd e l m w)) = (rootN nd e (l.take m), rootN nd e l)) ∧
    (wholeN n m w = false → ∃ h t, subN nd e l m w = h :: t ∧ t.length = (sidesM n m).length ∧ climb2 nd (h, h) ((sidesM n m).zip t) = (rootN nd e (l.take m), rootN nd e l)) := by
  intro n
  induction n using Nat.strongRecOn with
  | _ n ih =>
    intro l m w hn hm1 hm2
    by_cases h2 : n < 2 ∨ m = n
    · have hmn : m = n := by omega
      have htake : l.take m = l := List.take_of_length_le (by omega)
      rw [subN, dif_pos (by omega), sidesM, dif_pos h2, wholeN, dif_pos h2, htake]
      refine ⟨fun hw => ?_, fun hw => ?_⟩
      · rw [if_pos hw]
        exact ⟨rfl, rfl⟩
      · rw [if_neg (by rw [hw]; simp)]
        exact ⟨_, [], rfl, rfl, rfl⟩
    · have hlt := splitN_lt n (by omega)
      have hpos := splitN_pos n (by omega)
      rw [subN, dif_neg (by omega), sidesM, dif_neg h2, wholeN, dif_neg h2, hn]
      have hroot := rootN_two nd e l (by omega)
      rw [hn] at hroot
      by_cases hk : m ≤ splitN n
      · rw [if_pos hk, if_pos hk, if_pos hk]
        obtain ⟨i1, i2⟩ := ih (splitN n) hlt (l.take (splitN n)) m w (by rw [List.length_take]; omega) hm1 hk
        rw [List.take_take, Nat.min_eq_left hk] at i1 i2
        refine ⟨fun hw => ?_, fun hw => ?_⟩
        · obtain ⟨e1, e2⟩ := i1 hw
          refine ⟨by simp [e1], ?_⟩
          rw [List.zip_append e1.symm]
          unfold climb2 at e2 ⊢
          rw [List.foldl_append, e2, hroot]
          rfl
        · obtain ⟨h, t, e0, e1, e2⟩ := i2 hw
          refine ⟨h, t ++ [rootN nd e (l.drop (splitN n))], by rw [e0]; rfl, by simp [e1], ?_⟩
          rw [List.zip_append e1.symm]
          unfold climb2 at e2 ⊢
          rw [List.foldl_append, e2, hroot]
          rfl
      · rw [if_neg hk, if_neg hk, if_neg hk]
        obtain ⟨_, i2⟩ := ih (n - splitN n) (by omega) (l.drop (splitN n)) (m - splitN n) false (by rw [List.length_drop]; omega) (by omega) (by omega)
        have hrt := rootN_take nd e l m (by rw [hn]; omega) (by omega) (by omega)
        rw [hn] at hrt
        rw [wholeN_false]
        refine ⟨(fun hw => by cases hw), fun _ => ?_⟩
        obtain ⟨h, t, e0, e1, e2⟩ := i2 (wholeN_false _ _)
        refine ⟨h, t ++ [rootN nd e (l.take (splitN n))], by rw [e0]; rfl, by simp [e1], ?_⟩
        rw [List.zip_append e1.symm]
        unfold climb2 at e2 ⊢
        rw [List.foldl_append, e2, hroot, hrt]
        rfl
/-- A proof comes to both roots. -/
theorem both_sub (l : List α) (m : Nat) (h1 : 1 ≤ m) (h2 : m ≤ l.length) : bothN nd (rootN nd e (l.take m)) l.length m (subN nd e l m true) = some (rootN nd e (l.take m), rootN nd e l) := by
  obtain ⟨i1, i2⟩ := sub_both nd e _ l m true rfl h1 h2
  unfold bothN
  cases hw : wholeN l.length m true with
  | true =>
    obtain ⟨e1, e2⟩ := i1 hw
    rw [if_pos rfl, if_pos e1.symm, e2]
  | false =>
    obtain ⟨h, t, e0, e1, e2⟩ := i2 hw
    rw [e0, if_neg (by simp)]
    simp only
    rw [if_pos e1.symm, e2]
/-- A proof's length. -/
theorem sub_len (l : List α) (m : Nat) (h1 : 1 ≤ m) (h2 : m ≤ l.length) : (subN nd e l m true).length = (sidesM l.length m).length + (if wholeN l.length m true then 0 else 1) := by
  obtain ⟨i1, i2⟩ := sub_both nd e _ l m true rfl h1 h2
  cases hw : wholeN l.length m true with
  | true => rw [(i1 hw).1, if_pos rfl]; rfl
  | false =>
    obtain ⟨h, t, e0, e1, _⟩ := i2 hw
    rw [e0, List.length_cons, e1, if_neg (by simp)]
/-- A proof of another length comes to nothing. -/
theorem both_len (old : α) (n m : Nat) (p : List α) (h : p.length ≠ (sidesM n m).length + (if wholeN n m true then 0 else 1)) : bothN nd old n m p = none := by
  unfold bothN
  cases hw : wholeN n m true with
  | true =>
    rw [hw, if_pos rfl] at h
    rw [if_pos rfl, if_neg (by omega)]
  | false =>
    rw [hw, if_neg (by simp)] at h
    rw [if_neg (by simp)]
    cases p with
    | nil => rfl
    | cons x t =>
      rw [List.length_cons] at h
      simp only
      rw [if_neg (by omega)]
/-- A number's binary digits. -/
def digitsN (n : Nat) : Nat := if h : n = 0 then 0 else digitsN (n / 2) + 1
termination_by n
theorem digitsN_lt : ∀ (n : Nat), n < 2 ^ digitsN n := by
  intro n
  induction n using Nat.strongRecOn with
  | _ n ih =>
    rw [digitsN]
    by_cases h : n = 0
    · subst h; simp
    · rw [dif_neg h, Nat.pow_succ]
      have := ih (n / 2) (by omega)
      omega
end
end Go.Proofs.YtldokkbfahobgaaDoor

/-! ComesP: What a path comes to, its hashes taken by number, the last first. No condition. -/
namespace Go.Proofs.YtldokkbfahobgaaDoor
def upA (x : H) (P : List H) (n i a : Nat) : Option (H × Nat) :=
  if _h : n < 2 then some (x, a) else match a with
    | 0 => none
    | a + 1 => match P[a]? with
      | none => none
      | some o => if i < splitN n then (upA x P (splitN n) i a).map fun p => (ndH p.1 o, p.2) else (upA x P (n - splitN n) (i - splitN n) a).map fun p => (ndH o p.1, p.2)
termination_by n
decreasing_by
  · exact splitN_lt n (by omega)
  · have := splitN_pos n (by omega); omega
theorem upA_low (x : H) (P : List H) (n i a : Nat) (h : n < 2) : upA x P n i a = some (x, a) := by rw [upA.eq_def, dif_pos h]
theorem upA_zero (x : H) (P : List H) (n i : Nat) (h : 2 ≤ n) : upA x P n i 0 = none := by rw [upA.eq_def, dif_neg (by omega)]
theorem upA_left (x : H) (P : List H) (n i a : Nat) (o : H) (h : 2 ≤ n) (ho : P[a]? = some o) (hi : i < splitN n) : upA x P n i (a + 1) = (upA x P (splitN n) i a).map fun p => (ndH p.1 o, p.2) := by
  rw [upA.eq_def, dif_neg (by omega)]
  simp only [ho]
  rw [if_pos hi]
theorem upA_right (x : H) (P : List H) (n i a : Nat) (o : H) (h : 2 ≤ n) (ho : P[a]? = some o) (hi : ¬ i < splitN n) : upA x P n i (a + 1) = (upA x P (n - splitN n) (i - splitN n) a).map fun p => (ndH o p.1, p.2) := by
  rw [upA.eq_def, dif_neg (by omega)]
  simp only [ho]
  rw [if_neg hi]
theorem take_rev {α : Type} (P : List α) (a : Nat) (o : α) (ho : P[a]? = some o) : (P.take (a + 1)).reverse = o :: (P.take a).reverse := by
  rw [List.take_add_one, ho]
  simp
theorem upA_up (x : H) (P : List H) : ∀ (n i a : Nat), a ≤ P.length → upA x P n i a = (upN ndH x n i (P.take a).reverse).map fun p => (p.1, p.2.length) := by
  intro n
  induction n using Nat.strongRecOn with
  | _ n ih =>
    intro i a ha
    by_cases h2 : n < 2
    · rw [upA_low x P n i a h2, upN.eq_def, dif_pos h2]
      simp [Nat.min_eq_left ha]
    · have hlt := splitN_lt n (by omega)
      have hpos := splitN_pos n (by omega)
      cases a with
      | zero =>
        rw [upA_zero x P n i (by omega), upN.eq_def, dif_neg h2]
        rfl
      | succ a =>
        obtain ⟨o, ho⟩ : ∃ o, P[a]? = some o := ⟨_, List.getElem?_eq_getElem (by omega)⟩
        rw [take_rev P a o ho, upN.eq_def, dif_neg h2]
        simp only
        by_cases hi : i < splitN n
        · rw [upA_left x P n i a o (by omega) ho hi, if_pos hi, ih _ hlt i a (by omega)]
          cases upN ndH x (splitN n) i (P.take a).reverse <;> rfl
        · rw [upA_right x P n i a o (by omega) ho hi, if_neg hi, ih _ (by omega) (i - splitN n) a (by omega)]
          cases upN ndH x (n - splitN n) (i - splitN n) (P.take a).reverse <;> rfl
/-- What a path comes to. -/
theorem comes_upA (x : H) (P : List H) (n i : Nat) : comesN ndH x n i P = (match upA x P n i P.length with | some (h, 0) => some h | _ => none) := by
  rw [comesN_up, upA_up x P n i P.length (Nat.le_refl _), List.take_length]
  cases h : upN ndH x n i P.reverse with
  | none => rfl
  | some p =>
    obtain ⟨y, r⟩ := p
    cases r <;> rfl
end Go.Proofs.YtldokkbfahobgaaDoor

/-! BothP: What a proof comes to, its hashes taken by number, the last first. No condition. -/
namespace Go.Proofs.YtldokkbfahobgaaDoor
def up2A (old : H) (P : List H) (n m : Nat) (w : Bool) (a : Nat) : Option ((H × H) × Nat) :=
  if _h : n < 2 ∨ m = n then (if w then some ((old, old), a) else match a with
    | 0 => none
    | a + 1 => match P[a]? with
      | none => none
      | some o => some ((o, o), a))
  else match a with
    | 0 => none
    | a + 1 => match P[a]? with
      | none => none
      | some o => if m ≤ splitN n then (up2A old P (splitN n) m w a).map fun p => ((p.1.1, ndH p.1.2 o), p.2) else (up2A old P (n - splitN n) (m - splitN n) false a).map fun p => ((ndH o p.1.1, ndH o p.1.2), p.2)
termination_by n
decreasing_by
  · exact splitN_lt n (by omega)
  · have := splitN_pos n (by omega); omega
theorem up2A_old (old : H) (P : List H) (n m a : Nat) (h : n < 2 ∨ m = n) : up2A old P n m true a = some ((old, old), a) := by rw [up2A.eq_def, dif_pos h]; rfl
theorem up2A_end0 (old : H) (P : List H) (n m : Nat) (h : n < 2 ∨ m = n) : up2A old P n m false 0 = none := by rw [up2A.eq_def, dif_pos h]; rfl
theorem up2A_end (old : H) (P : List H) (n m a : Nat) (o : H) (h : n < 2 ∨ m = n) (ho : P[a]? = some o) : up2A old P n m false (a + 1) = some ((o, o), a) := by
  rw [up2A.eq_def, dif_pos h]
  simp only [ho]
  rfl
theorem up2A_zero (old : H) (P : List H) (n m : Nat) (w : Bool) (h : ¬ (n < 2 ∨ m = n)) : up2A old P n m w 0 = none := by rw [up2A.eq_def, dif_neg h]
theorem up2A_left (old : H) (P : List H) (n m a : Nat) (w : Bool) (o : H) (h : ¬ (n < 2 ∨ m = n)) (ho : P[a]? = some o) (hi : m ≤ splitN n) :
    up2A old P n m w (a + 1) = (up2A old P (splitN n) m w a).map fun p => ((p.1.1, ndH p.1.2 o), p.2) := by
  rw [up2A.eq_def, dif_neg h]
  simp only [ho]
  rw [if_pos hi]
theorem up2A_right (old : H) (P : List H) (n m a : Nat) (w : Bool) (o : H) (h : ¬ (n < 2 ∨ m = n)) (ho : P[a]? = some o) (hi : ¬ m ≤ splitN n) :
    up2A old P n m w (a + 1) = (up2A old P (n - splitN n) (m - splitN n) false a).map fun p => ((ndH o p.1.1, ndH o p.1.2), p.2) := by
  rw [up2A.eq_def, dif_neg h]
  simp only [ho]
  rw [if_neg hi]
theorem up2A_up (old : H) (P : List H) : ∀ (n m : Nat) (w : Bool) (a : Nat), a ≤ P.length → up2A old P n m w a = (up2 ndH old n m w (P.take a).reverse).map fun p => (p.1, p.2.length) := by
  intro n
  induction n using Nat.strongRecOn with
  | _ n ih =>
    intro m w a ha
    by_cases h2 : n < 2 ∨ m = n
    · rw [up2.eq_def, dif_pos h2]
      cases w with
      | true =>
        rw [up2A_old old P n m a h2]
        simp [Nat.min_eq_left ha]
      | false =>
        cases a with
        | zero =>
          rw [up2A_end0 old P n m h2]
          rfl
        | succ a =>
          obtain ⟨o, ho⟩ : ∃ o, P[a]? = some o := ⟨_, List.getElem?_eq_getElem (by omega)⟩
          rw [take_rev P a o ho, up2A_end old P n m a o h2 ho]
          simp [Nat.min_eq_left (by omega : a ≤ P.length)]
    · have hlt := splitN_lt n (by omega)
      have hpos := splitN_pos n (by omega)
      cases a with
      | zero =>
        rw [up2A_zero old P n m w h2, up2.eq_def, dif_neg h2]
        rfl
      | succ a =>
        obtain ⟨o, ho⟩ : ∃ o, P[a]? = some o := ⟨_, List.getElem?_eq_getElem (by omega)⟩
        rw [take_rev P a o ho, up2.eq_def, dif_neg h2]
        simp only
        by_cases hi : m ≤ splitN n
        · rw [up2A_left old P n m a w o h2 ho hi, if_pos hi, ih _ hlt m w a (by omega)]
          cases up2 ndH old (splitN n) m w (P.take a).reverse <;> rfl
        · rw [up2A_right old P n m a w o h2 ho hi, if_neg hi, ih _ (by omega) (m - splitN n) false a (by omega)]
          cases up2 ndH old (n - splitN n) (m - splitN n) false (P.take a).reverse <;> rfl
/-- What a proof comes to. -/
theorem both_upA (old : H) (P : List H) (n m : Nat) : bothN ndH old n m P = (match up2A old P n m true P.length with | some (h, 0) => some h | _ => none) := by
  rw [bothN_up, up2A_up old P n m true P.length (Nat.le_refl _), List.take_length]
  cases h : up2 ndH old n m true P.reverse with
  | none => rfl
  | some p =>
    obtain ⟨y, r⟩ := p
    cases r <;> rfl
end Go.Proofs.YtldokkbfahobgaaDoor

/-! BlocksP: What the law ShaBlocks says, in plain numbers: a text of whole blocks is turned block by block, and its digest's words are the last state's. No condition. -/
namespace Go.Proofs.YtldokkbfahobgaaDoor
open Go.RowKit

theorem N8.Ok.lt {s : N8} (h : s.Ok) (j : Nat) : s.get j < 4294967296 := by
  match j with
  | 0 => exact h.a
  | 1 => exact h.b
  | 2 => exact h.c
  | 3 => exact h.d
  | 4 => exact h.e
  | 5 => exact h.f
  | 6 => exact h.g
  | j + 7 => exact h.h
theorem blk_pre (p q : List UInt8) (i : Nat) (h : 64 * (i + 1) ≤ p.length) : blk (p ++ q) i = blk p i := by
  unfold blk
  rw [List.drop_append_of_le_length (by omega), List.take_append_of_le_length (by rw [List.length_drop]; omega)]
theorem blk_end (p q : List UInt8) (N : Nat) (hp : p.length = 64 * N) (hq : q.length = 64) : blk (p ++ q) N = q := by
  unfold blk
  rw [List.drop_append, List.drop_of_length_le (by omega), hp, Nat.sub_self, List.drop_zero, List.nil_append, List.take_of_length_le (by omega)]
theorem stateN_pre (p q : List UInt8) : ∀ k, 64 * k ≤ p.length → stateN (p ++ q) k = stateN p k
  | 0, _ => rfl
  | k + 1, h => by
    show turnN (stateN (p ++ q) k) (blk (p ++ q) k) = turnN (stateN p k) (blk p k)
    rw [stateN_pre p q k (by omega), blk_pre p q k h]
theorem fillP_blocks (N : Nat) : (fillP (64 * N)).length = 64 := by
  rw [fillP_len]
  unfold fillZ
  omega
/-- The words of a state, read off its digest. -/
theorem byteN_digest (s : N8) (j : Nat) (h : j < 32) : byteN ((List.range 32).map (digBN s)) j = s.get (j / 4) / 2 ^ (24 - 8 * (j % 4)) % 256 := by
  unfold byteN digBN
  rw [List.getElem?_map, List.getElem?_range h]
  simp
theorem word_digest (s : N8) (hs : s.Ok) (i : Nat) (h : i < 8) : wordN ((List.range 32).map (digBN s)) i = s.get i := by
  rw [wordN_sum, byteN_digest _ _ (by omega), byteN_digest _ _ (by omega), byteN_digest _ _ (by omega), byteN_digest _ _ (by omega)]
  have hl := hs.lt i
  rw [show 4 * i / 4 = i by omega, show (4 * i + 1) / 4 = i by omega, show (4 * i + 2) / 4 = i by omega, show (4 * i + 3) / 4 = i by omega,
    show 4 * i % 4 = 0 by omega, show (4 * i + 1) % 4 = 1 by omega, show (4 * i + 2) % 4 = 2 by omega, show (4 * i + 3) % 4 = 3 by omega]
  generalize s.get i = x at *
  simp only [Nat.mul_zero, Nat.sub_zero, Nat.reduceMul, Nat.reduceSub, Nat.reducePow, Nat.div_one]
  omega
theorem sum_blocks (p : List UInt8) (N : Nat) (hp : p.length = 64 * N) (i : Nat) (h : i < 8) :
    wordN (sumN p) i = (turnN (stateN p N) (fillP (64 * N))).get i := by
  unfold sumN
  have hl : (padded p).length / 64 = N + 1 := by
    rw [padded_len, hp, fillP_blocks]
    omega
  rw [hl, word_digest _ (stateN_ok _ _) i h]
  show (turnN (stateN (padded p) N) (blk (padded p) N)).get i = _
  unfold padded
  rw [hp, stateN_pre _ _ N (by omega), blk_end _ _ N hp (fillP_blocks N)]
end Go.Proofs.YtldokkbfahobgaaDoor

/-! MacC: The walk of mac.Equal, and of its closure. Condition: two rows of 32 bytes. -/
namespace Go.Proofs.YtldokkbfahobgaaDoor
open Go.RowKit

theorem or_u8 (x y : UInt8) : bits .or .u8 (x.toNat : Int) (y.toNat : Int) = ((x ||| y).toNat : Int) := by
  have h := Nat.or_lt_two_pow (n := 8) x.toNat_lt y.toNat_lt
  have hx := x.toNat_lt
  have hy := y.toNat_lt
  simp only [bits, ofInt_nat]
  rw [UInt8.toNat_or]
  have e : (BitVec.ofNat IntKind.u8.bits x.toNat ||| BitVec.ofNat IntKind.u8.bits y.toNat).toNat = x.toNat ||| y.toNat := by
    show (BitVec.ofNat 8 x.toNat ||| BitVec.ofNat 8 y.toNat).toNat = _
    rw [BitVec.toNat_or, BitVec.toNat_ofNat, BitVec.toNat_ofNat, Nat.mod_eq_of_lt hx, Nat.mod_eq_of_lt hy]
  rw [e]
  simp only [IntKind.wrap, IntKind.bits, IntKind.signed]
  simp
  omega
/-- How the first k bytes differ, all put together. -/
def diffN (a b : List UInt8) : Nat → UInt8
  | 0 => 0
  | k + 1 => diffN a b k ||| (keyAt a k ^^^ keyAt b k)
theorem or_zero (x y : UInt8) (h : x ||| y = 0) : x = 0 ∧ y = 0 := by
  have hx : (x ||| y).toNat = 0 := by rw [h]; rfl
  rw [UInt8.toNat_or] at hx
  have := Nat.or_eq_zero_iff.1 hx
  exact ⟨UInt8.toNat_inj.1 this.1, UInt8.toNat_inj.1 this.2⟩
theorem xor_zero (x y : UInt8) (h : x ^^^ y = 0) : x = y := by
  have h2 := congrArg (· ^^^ y) h
  simp only [UInt8.xor_assoc, UInt8.xor_self, UInt8.xor_zero, UInt8.zero_xor] at h2
  exact h2
theorem diffN_zero (a b : List UInt8) : ∀ k, diffN a b k = 0 → ∀ i, i < k → keyAt a i = keyAt b i
  | 0, _, i, hi => by omega
  | k + 1, h, i, hi => by
    obtain ⟨h1, h2⟩ := or_zero _ _ h
    by_cases e : i = k
    · subst e; exact xor_zero _ _ h2
    · exact diffN_zero a b k h1 i (by omega)
theorem diffN_same (a : List UInt8) : ∀ k, diffN a a k = 0
  | 0 => rfl
  | k + 1 => by
    show diffN a a k ||| (keyAt a k ^^^ keyAt a k) = 0
    rw [diffN_same a k, UInt8.xor_self]
    rfl
theorem diffN_iff (a b : List UInt8) (ha : a.length = 32) (hb : b.length = 32) : (((diffN a b 32).toNat : Int) == 0) = (a == b) := by
  by_cases h : a = b
  · subst h
    rw [diffN_same]
    simp
  · have hn : diffN a b 32 ≠ 0 := fun h0 => h (by
      have := diffN_zero a b 32 h0
      apply List.ext_getElem?
      intro i
      by_cases hi : i < 32
      · have h1 := this i hi
        unfold keyAt at h1
        rw [List.getElem?_eq_getElem (by omega), List.getElem?_eq_getElem (by omega)] at h1 ⊢
        simpa using h1
      · rw [List.getElem?_eq_none (by omega), List.getElem?_eq_none (by omega)])
    have : (diffN a b 32).toNat ≠ 0 := fun h0 => hn (UInt8.toNat_inj.1 h0)
    rw [show (a == b) = false by simpa using h]
    simp
    omega

set_option maxRecDepth 100000 in
set_option maxHeartbeats 400000 in
theorem equal1_any (i A B C : Nat) (x a b : UInt8) (w : World) (hi : i < 32) (hx : w.cell? ⟨A, 0, none⟩ = some (.int .u8 (x.toNat : Int))) (hf : w.frozen? ⟨A, 0, none⟩ = false)
    (ha : w.cell? ⟨B, i, none⟩ = some (.int .u8 (a.toNat : Int))) (hb : w.cell? ⟨C, i, none⟩ = some (.int .u8 (b.toNat : Int))) :
    Calls Tryd.prog 55 #[.int .i64 i, .pointer (some ⟨A, 0, none⟩), .pointer (some ⟨B, 0, none⟩), .pointer (some ⟨C, 0, none⟩)] w fun e w' => e = .returned (.tuple #[]) ∧ ∃ n, w' = (w.drewN n).setCell ⟨A, 0, none⟩ (.int .u8 ((x ||| (a ^^^ b)).toNat : Int)) := by
  have h1 := xor_u8 a b
  have h2 := or_u8 x (a ^^^ b)
  rw [UInt8.toNat_xor] at h1 h2
  go_enter Tryd.func55, Tryd.ntmps55
  go_wp2_with fail
  (refine wp_region_quiet_tail 9 (by kernel_rfl) (by kernel_rfl) ?_; simp only [List.take_succ_cons, List.take_zero, List.drop_succ_cons, List.drop_zero]; (repeat (go_big_quiet_step (fail))); refine wpQuiet_nil ?_; intro _ hw'; obtain ⟨nq, hw''⟩ := hw'; subst hw'')
  go_wp2_with fail
  exact bodyPost_end (results_none rfl _ _ _) rfl ⟨rfl, nq, by rw [UInt8.toNat_or, UInt8.toNat_xor]⟩

set_option maxRecDepth 100000 in
set_option maxHeartbeats 400000 in
theorem equal_any (a b : List UInt8) (w : World) (hla : a.length = 32) (hlb : b.length = 32) :
    Calls Tryd.prog 38 #[hash32 a, hash32 b] w fun e w' => e = .returned (.bool (a == b)) ∧ Below w.heap.size w w' := by
  have hiff := diffN_iff a b hla hlb
  have HIFF := Lib.hid hiff
  have HLA := Lib.hid hla
  have HLB := Lib.hid hlb
  clear hiff hla hlb
  unfold hash32
  go_enter Tryd.func38, Tryd.ntmps38
  go_wp2_with fail
  go_loopw [9] (fun i wr => ∃ k : Nat, k ≤ 32 ∧ i = .int .i64 k ∧ Blk wr w.heap.size (bytesV a) 31 ∧ Blk wr (w.heap.size + 1) (bytesV b) 31 ∧ Blk wr (w.heap.size + 1 + 1) [.int .u8 ((diffN a b k).toNat : Int)] 5 ∧ Below w.heap.size w wr) (fun i _ => 32 - (intOf i).toNat)
  case atStart =>
    exact ⟨0, by omega, rfl, ((Blk.newL w _ _).alloc _).alloc _, (Blk.newL1 w _ _ _).alloc _, Blk.newL2 w _ _ _ _, by (repeat (first | with_reducible assumption | with_reducible exact Below.refl _ _ | ((with_reducible refine Below.setCell ?_ ?_ _); rotate_left; focus (first | omega | (simp; done) | (simp; omega))) | ((with_reducible refine Below.alloc ?_ ?_ _); rotate_left; focus (first | omega | (simp; done) | (simp; omega))) | ((with_reducible refine below_setRow ?_ ?_ _); rotate_left; focus (first | omega | (simp; done) | (simp; omega))) | (with_reducible refine below_drewN ?_ _) | (with_reducible refine Below.drew ?_)))⟩
  case round =>
    obtain ⟨k, hk, rfl, hA, hB, hX, hb⟩ := hrel
    have HA := Lib.hid hA
    have HB := Lib.hid hB
    have HX := Lib.hid hX
    clear hA hB hX
    by_cases h32 : k < 32
    · have ka : a[k]? = some (keyAt a k) := by unfold keyAt; rw [List.getElem?_eq_getElem (by rw [HLA.out]; exact h32)]; rfl
      have kb : b[k]? = some (keyAt b k) := by unfold keyAt; rw [List.getElem?_eq_getElem (by rw [HLB.out]; exact h32)]; rfl
      have HKA := Lib.hid ka
      have HKB := Lib.hid kb
      clear ka kb
      go_wp2_with (go_at_call 55; refine (equal1_any k (w.heap.size + 1 + 1) w.heap.size (w.heap.size + 1) (diffN a b k) (keyAt a k) (keyAt b k) wr h32 (HX.out.cell rfl) (HX.out.frozen 0) (HA.out.cell (bytesV_at _ _ _ HKA.out)) (HB.out.cell (bytesV_at _ _ _ HKB.out))).mono ?_; rintro e w2 ⟨rfl, nq, rfl⟩)
      have e : ((diffN a b (k + 1)).toNat : Int) = (((diffN a b k).toNat ||| (keyAt a k).toNat ^^^ (keyAt b k).toNat : Nat) : Int) := by
        show ((diffN a b k ||| (keyAt a k ^^^ keyAt b k)).toNat : Int) = _
        rw [UInt8.toNat_or, UInt8.toNat_xor]
      refine ⟨⟨k + 1, by omega, by go_num, (HA.out.drewN nq).set_other (by simp <;> omega) _, (HB.out.drewN nq).set_other (by simp) _, ?_, (below_drewN hb nq).setCell (by simp <;> omega) _⟩, by simp [intOf]; omega⟩
      rw [e]
      exact (HX.out.drewN nq).set 0 _
    · obtain rfl : k = 32 := by omega
      have c0 : wr.cell? ⟨w.heap.size + 1 + 1, 0, none⟩ = some (.int .u8 ((diffN a b 32).toNat : Int)) := HX.out.cell rfl
      go_wp2_with fail
      go_ret
      exact ⟨congrArg (fun x => Ending.returned (.bool x)) HIFF.out, hb⟩
end Go.Proofs.YtldokkbfahobgaaDoor

/-! MacD: The walks of mac.row, and of mac.Of's and mac.Key's closures. Conditions: a number of 64 bits, at most 1000 bytes asked for. -/
namespace Go.Proofs.YtldokkbfahobgaaDoor
open Go.RowKit

/-- A number's low bytes, so many, the highest first. -/
def rowN (n many : Nat) : List UInt8 := (List.range many).map fun t => UInt8.ofNat (n / 256 ^ (many - 1 - t))
theorem rowN_len (n many : Nat) : (rowN n many).length = many := by simp [rowN]
def rowP (n many j : Nat) : List UInt8 := (List.range many).map fun t => if many - j ≤ t then UInt8.ofNat (n / 256 ^ (many - 1 - t)) else 0
theorem rowP_len (n many j : Nat) : (rowP n many j).length = many := by simp [rowP]
theorem rowP_at (n many j t : Nat) (h : t < many) : (rowP n many j)[t]? = some (if many - j ≤ t then UInt8.ofNat (n / 256 ^ (many - 1 - t)) else 0) := by simp [rowP, h]
theorem rowP_0 (n many : Nat) : rowP n many 0 = zerosB many := by
  apply List.ext_getElem?
  intro i
  by_cases h : i < many
  · rw [rowP_at _ _ _ _ h, if_neg (by omega)]
    simp [zerosB, h]
  · rw [List.getElem?_eq_none (by rw [rowP_len]; omega), List.getElem?_eq_none (by rw [zerosB_len]; omega)]
theorem rowP_all (n many : Nat) : rowP n many many = rowN n many := by
  unfold rowP rowN
  refine List.map_congr_left fun t _ => ?_
  rw [if_pos (by omega)]
theorem rowP_set (n many j : Nat) (h : j < many) : (bytesV (rowP n many j)).set (many - 1 - j) (.int .u8 ((UInt8.ofNat (n / 256 ^ j)).toNat : Int)) = bytesV (rowP n many (j + 1)) := by
  have : (rowP n many j).set (many - 1 - j) (UInt8.ofNat (n / 256 ^ j)) = rowP n many (j + 1) := by
    apply List.ext_getElem?
    intro i
    by_cases hi : i < many
    · rw [List.getElem?_set, rowP_len, rowP_at _ _ _ _ hi, rowP_at _ _ _ _ hi]
      by_cases hk : many - 1 - j = i
      · rw [if_pos hk, if_pos (by omega), if_pos (by omega), show many - 1 - i = j by omega]
      · rw [if_neg hk]
        by_cases h2 : many - j ≤ i
        · rw [if_pos h2, if_pos (by omega)]
        · rw [if_neg h2, if_neg (by omega)]
    · rw [List.getElem?_eq_none (by rw [List.length_set, rowP_len]; omega), List.getElem?_eq_none (by rw [rowP_len]; omega)]
  rw [← this]
  unfold bytesV
  rw [List.map_set]

set_option maxRecDepth 100000 in
set_option maxHeartbeats 400000 in
theorem row_any (n many : Nat) (w : World) (hn : n < 18446744073709551616) (hm : many ≤ 1000) :
    Calls Tryd.prog 70 #[.int .u64 n, .int .i64 many] w fun e w' => (∃ v', e = .returned v' ∧ Bytes w' v' (rowN n many)) ∧ Below w.heap.size w w' := by
  have hmk := fun w => make_bytes many (by omega) w
  go_enter Tryd.func70, Tryd.ntmps70
  go_wp2_with fail
  go_loopw [0, 11] (fun x i wr => ∃ j m : Nat, j ≤ many ∧ m = n / 256 ^ j ∧ m < 18446744073709551616 ∧ x = .int .u64 m ∧ i = .int .i64 j ∧ Blk wr w.heap.size (bytesV (rowP n many j)) 5 ∧ Below w.heap.size w wr) (fun _ i _ => many - (intOf i).toNat)
  case atStart => exact ⟨0, n, by omega, by simp, hn, rfl, rfl, by rw [rowP_0]; exact Blk.newL w _ _, by (repeat (first | with_reducible assumption | with_reducible exact Below.refl _ _ | ((with_reducible refine Below.setCell ?_ ?_ _); rotate_left; focus (first | omega | (simp; done) | (simp; omega))) | ((with_reducible refine Below.alloc ?_ ?_ _); rotate_left; focus (first | omega | (simp; done) | (simp; omega))) | ((with_reducible refine below_setRow ?_ ?_ _); rotate_left; focus (first | omega | (simp; done) | (simp; omega))) | (with_reducible refine below_drewN ?_ _) | (with_reducible refine Below.drew ?_)))⟩
  case round =>
    clear hmk
    obtain ⟨j, m, hj, hme, hm64, rfl, rfl, hB, hb⟩ := hrel
    have HB := Lib.hid hB
    have HME := Lib.hid hme
    clear hB hme
    by_cases hjm : j < many
    · have c0 : wr.cell? ⟨w.heap.size, many - 1 - j, none⟩ = some (.int .u8 0) := HB.out.cell (by
        have := bytesV_at (rowP n many j) (many - 1 - j) 0 (by rw [rowP_at _ _ _ _ (by omega), if_neg (by omega)])
        simpa using this)
      have f0 : wr.frozen? ⟨w.heap.size, many - 1 - j, none⟩ = false := HB.out.frozen _
      have hix : (((many : Int) - 1 - j).toNat) = many - 1 - j := by omega
      go_wp2_with fail
      refine ⟨⟨j + 1, m / 256, by omega, ?_, by omega, by congr 1, by go_num, ?_, hb.setCell (by simp) _⟩, by simp [intOf]; omega⟩
      · rw [HME.out, Nat.div_div_eq_div_mul, Nat.pow_succ]
      · rw [← rowP_set _ _ _ hjm, ← HME.out]
        have e : ((UInt8.ofNat m).toNat : Int) = (m : Int) % 256 := by rw [UInt8.toNat_ofNat']; omega
        rw [e]
        exact HB.out.set _ _
    · obtain rfl : j = many := by omega
      go_wp2_with fail
      go_ret
      refine ⟨⟨_, rfl, ?_⟩, hb⟩
      have h1 : wr.rangeAt w.heap.size 0 (bytesV (rowN n j)) := fun i u hi => by
        rw [Nat.zero_add]
        rw [← rowP_all] at hi
        exact HB.out.cell hi
      have := IsSl.of_range (n := j) (cap := j) (size := 1) (by rw [bytesV_len, rowN_len, Nat.mul_one]) (bytesV_one _) (Nat.le_refl _) h1
      unfold Bytes
      rw [rowN_len]
      exact this

/-- A number, as 64 bits without a sign. -/
def u64N (n : Int) : Nat := (n % 18446744073709551616).toNat
theorem u64N_lt (n : Int) : u64N n < 18446744073709551616 := by unfold u64N; omega
theorem u64N_nat (n : Nat) (h : n < 18446744073709551616) : u64N (n : Int) = n := by unfold u64N; omega
theorem u64_wrap (n : Int) : IntKind.u64.wrap n = (u64N n : Int) := by
  unfold u64N
  simp [IntKind.wrap, IntKind.bits, IntKind.signed]
  omega
/-- What mac.Of makes of a part. -/
def partN (l : List UInt8) : List UInt8 := rowN l.length 4 ++ l
theorem partN_len (l : List UInt8) : (partN l).length = 4 + l.length := by rw [partN, List.length_append, rowN_len]

set_option maxRecDepth 100000 in
set_option maxHeartbeats 400000 in
theorem of1_any (v : Value) (l : List UInt8) (w : World) (hl : Bytes w v l) (hlen : l.length ≤ 35184372088832) :
    Calls Tryd.prog 69 #[v] w fun e w' => (∃ v', e = .returned v' ∧ Bytes w' v' (partN l)) ∧ Below w.heap.size w w' := by
  obtain ⟨xa, ca, rfl, _⟩ := hl.form
  have HL := Lib.hid hl
  clear hl
  go_enter Tryd.func69, Tryd.ntmps69
  go_wp2_with fail
  refine (row_any l.length 4 w (by omega) (by omega)).mono ?_
  rintro e w2 ⟨⟨v2, rfl, hv2⟩, hb2⟩
  obtain ⟨x2, c2, e2, _⟩ := hv2.form
  rw [rowN_len] at e2
  subst e2
  have HL2 := Lib.hid (HL.out.below hb2)
  have HV2 := Lib.hid hv2
  clear hv2
  go_wp2_with fail
  have hb3 : Below w2.heap.size w2 (w2.alloc (.cells #[.slice x2 4 c2, .slice xa l.length ca] 48)) := (Below.refl _ _).alloc (Nat.le_refl _) _
  refine (concat_any _ [rowN l.length 4, l] [.slice x2 4 c2, .slice xa l.length ca] _ ((Texts.cons HV2.out (.cons HL2.out .nil)).parts 48 rfl) (by simp [cat, rowN_len]; omega) (by show 2 ≤ _; decide)).mono ?_
  rintro e w4 ⟨⟨a4, cap4, rfl, hown⟩, hb4⟩
  rw [show cat [rowN l.length 4, l] = partN l by simp [cat, partN]] at hown ⊢
  have hB := hb2.trans ((hb3.trans (hb4.mono hb3.size)).mono hb2.size)
  have hv4 := ownsRow_isSl hown (bytesV_one _)
  have HV4 := Lib.hid hv4
  clear hown hv4 hb2 hb3 hb4
  go_wp2_with fail
  go_ret
  refine ⟨⟨_, rfl, ?_⟩, hB⟩
  exact HV4.out

/-- The parts, one behind the other, as mac.Of has them; so many of them. -/
def joinP (ls : List (List UInt8)) (k : Nat) : List UInt8 := (ls.take k).flatMap partN
def joinN (ls : List (List UInt8)) : List UInt8 := ls.flatMap partN
theorem joinP_succ (ls : List (List UInt8)) (k : Nat) (l : List UInt8) (h : ls[k]? = some l) : joinP ls (k + 1) = joinP ls k ++ partN l := by
  unfold joinP
  rw [List.take_add_one, h, List.flatMap_append]
  simp
theorem joinP_all (ls : List (List UInt8)) : joinP ls ls.length = joinN ls := by unfold joinP joinN; rw [List.take_length]
theorem joinP_len (ls : List (List UInt8)) (k : Nat) : (joinP ls k).length ≤ 4 * ls.length + (cat ls).length := by
  unfold joinP cat
  induction ls generalizing k with
  | nil => simp
  | cons a ls ih =>
    cases k with
    | zero => simp
    | succ k =>
      have := ih k
      simp only [List.take_succ_cons, List.flatMap_cons, List.length_append, List.flatten_cons, List.length_cons, partN_len] at *
      omega
theorem part_le (ls : List (List UInt8)) (k : Nat) (l : List UInt8) (h : ls[k]? = some l) : l.length ≤ (cat ls).length := by
  unfold cat
  induction ls generalizing k with
  | nil => simp at h
  | cons a ls ih =>
    rw [List.flatten_cons, List.length_append]
    cases k with
    | zero => cases h; omega
    | succ k => have := ih k h; omega

set_option maxRecDepth 100000 in
set_option maxHeartbeats 400000 in
theorem joinedB_any (v : Value) (ls : List (List UInt8)) (vs : List Value) (w : World) (hp : Parts w v ls vs) (hsz : (cat ls).length ≤ 35184372088832) (hln : ls.length ≤ 1000000000000) :
    Calls Tryd.prog 68 #[v, .func (.func 69) #[] #[]] w fun e w' => (∃ v', e = .returned v' ∧ Bytes w' v' (joinN ls)) ∧ Below w.heap.size w w' := by
  obtain ⟨i0, hi, hz0, hz1, hz2⟩ := info_parts info_u8
  obtain ⟨xa, ca, rfl, _⟩ := hp.sl.form
  have HP := Lib.hid hp
  clear hp
  go_enter Tryd.func68, Tryd.ntmps68
  go_wp2_with fail
  go_loopw [5, 10] (fun v i wr => ∃ (k : Nat) (a : Option Addr) (cap : Nat), k ≤ ls.length ∧ i = .int .i64 k ∧ v = .slice a (joinP ls k).length cap ∧
    wr.ownsRow w.heap.size 5 1 (.slice a (joinP ls k).length cap) (joinP ls k).length (bytesV (joinP ls k)) ∧ Below w.heap.size w wr) (fun _ i _ => ls.length - (intOf i).toNat)
  case atStart => exact ⟨0, none, 0, by omega, rfl, rfl, World.ownsRow_nil _ _ _ _, by (repeat (first | with_reducible assumption | with_reducible exact Below.refl _ _ | ((with_reducible refine Below.setCell ?_ ?_ _); rotate_left; focus (first | omega | (simp; done) | (simp; omega))) | ((with_reducible refine Below.alloc ?_ ?_ _); rotate_left; focus (first | omega | (simp; done) | (simp; omega))) | ((with_reducible refine below_setRow ?_ ?_ _); rotate_left; focus (first | omega | (simp; done) | (simp; omega))) | (with_reducible refine below_drewN ?_ _) | (with_reducible refine Below.drew ?_)))⟩
  case round =>
    obtain ⟨k, a, cap, hk, rfl, rfl, hown, hb⟩ := hrel
    have HO := Lib.hid hown
    clear hown
    by_cases hkn : k < ls.length
    · obtain ⟨b, off, cc, e, _, hr, hbW⟩ := HP.out.sl.pos (by omega) (by decide)
      cases e
      have hvl : k < vs.length := by rw [HP.out.len]; exact hkn
      have hlk := List.getElem?_eq_getElem hkn
      have hvk := List.getElem?_eq_getElem hvl
      have hby := (HP.out.each k _ _ hvk hlk).below hb
      have hcell := hr k _ hvk
      obtain ⟨l, hle⟩ : ∃ l, l = ls[k] := ⟨_, rfl⟩
      obtain ⟨vk, hve⟩ : ∃ vk, vk = vs[k] := ⟨_, rfl⟩
      rw [← hle] at hby hlk
      rw [← hve] at hby hcell
      have hlen := part_le ls k l hlk
      have hJ := joinP_len ls (k + 1)
      rw [joinP_succ ls k l hlk, List.length_append] at hJ
      have hS := joinP_succ ls k l hlk
      have hcw : wr.cell? ⟨b, off + k, none⟩ = some vk := (hb.cell (p := ⟨b, _, none⟩) hbW).trans hcell
      have hsz2 := hb.size
      have HS := Lib.hid hS
      have HBY := Lib.hid hby
      clear hS hby hcell hlk hvk hle hve hr
      obtain ⟨xk, ck, rfl, _⟩ := HBY.out.form
      go_wp2_with fail
      refine (of1_any _ l wr HBY.out (by omega)).mono ?_
      rintro e w2 ⟨⟨v2, rfl, hv2⟩, hb2⟩
      have hown2 := ownsRow_below HO.out hb2 (ownsRow_block HO.out)
      have hB2 := hb.trans (hb2.mono hb.size)
      have HO2 := Lib.hid hown2
      have HV2 := Lib.hid hv2
      obtain ⟨x2, c2, rfl, _⟩ := hv2.form
      have hs2 := hB2.size
      clear hb hb2 HO hown2 hv2 hcw HBY
      go_wp2_with (first
        | (at_builtin; refine wpList_app rfl (.tmp 14) (.tmp 17) 48 rfl w.heap.size 5 i0 (.int .u8 0) 1 1 Tryd.underlying48 hi hz0 hz1 hz2 rfl (by decide) (.slice a (joinP ls k).length cap) _ _ rfl (by exact HO2.out) _ (partN l).length (bytesV (partN l)) rfl (by exact HV2.out) (by unfold maxLen; omega) (by omega) (by omega) ?_; intro a3 cap3 w3 hown3 hgrow3 _;
           have hb3 := hB2.grown hgrow3 hs2 (fun k hk => (HO2.out.lt k hk).1); have HO3 := Lib.hid hown3; clear hown3 hgrow3)
        | fail)
      have hO3 := HO3.out
      rw [← List.length_append, ← bytesV_app, ← HS.out] at hO3
      refine ⟨⟨k + 1, a3, cap3, by omega, by go_num, by rw [HS.out, List.length_append], hO3, hb3⟩, by simp [intOf]; omega⟩
    · obtain rfl : k = ls.length := by omega
      have hO := HO.out
      rw [joinP_all] at hO ⊢
      clear HO
      have HO := Lib.hid (ownsRow_isSl hO (bytesV_one _))
      clear hO
      go_wp2_with fail
      go_ret
      exact ⟨⟨_, rfl, HO.out⟩, hb⟩
end Go.Proofs.YtldokkbfahobgaaDoor

/-! MacE: The walks of mac.Of and mac.Key. Conditions: the parts can be read, together at most 2^45 bytes; the words can be read; the package's tables read as they are laid. -/
namespace Go.Proofs.YtldokkbfahobgaaDoor
open Go.RowKit

def intsV (ns : List Int) : List Value := ns.map (Value.int .i64)
theorem intsV_len (ns : List Int) : (intsV ns).length = ns.length := by simp [intsV]
def Ints (w : World) (v : Value) (ns : List Int) : Prop := IsSl w v 1 ns.length (intsV ns)
def wordsP (ns : List Int) (k : Nat) : List UInt8 := (ns.take k).flatMap fun n => rowN (u64N n) 8
/-- The words' bytes, eight each, the highest first. -/
def wordsN (ns : List Int) : List UInt8 := ns.flatMap fun n => rowN (u64N n) 8
theorem wordsP_succ (ns : List Int) (k : Nat) (n : Int) (h : ns[k]? = some n) : wordsP ns (k + 1) = wordsP ns k ++ rowN (u64N n) 8 := by
  unfold wordsP
  rw [List.take_add_one, h, List.flatMap_append]
  simp
theorem wordsP_all (ns : List Int) : wordsP ns ns.length = wordsN ns := by unfold wordsP wordsN; rw [List.take_length]
theorem wordsP_len (ns : List Int) : ∀ k, k ≤ ns.length → (wordsP ns k).length = 8 * k
  | 0, _ => rfl
  | k + 1, h => by
    rw [wordsP_succ ns k ns[k] (List.getElem?_eq_getElem (by omega)), List.length_append, rowN_len, wordsP_len ns k (by omega)]
    omega
theorem wordsN_len (ns : List Int) : (wordsN ns).length = 8 * ns.length := by rw [← wordsP_all, wordsP_len _ _ (Nat.le_refl _)]

/-- A domain's byte. -/
def domB (d : Int) : UInt8 := UInt8.ofNat (d % 256).toNat
theorem domB_val (d : Int) : ((domB d).toNat : Int) = d % 256 := by unfold domB; rw [UInt8.toNat_ofNat']; omega
/-- The digest of a domain, and parts. -/
def ofN (d : Int) (ls : List (List UInt8)) : List UInt8 := sumN ([domB d] ++ joinN ls)

set_option maxRecDepth 100000 in
set_option maxHeartbeats 400000 in
theorem of_any (d : Int) (v : Value) (ls : List (List UInt8)) (vs : List Value) (w : World) (hp : Parts w v ls vs) (hsz : (cat ls).length ≤ 35184372088832) (hln : ls.length ≤ 1000000000000) (hg : Glob w) :
    Calls Tryd.prog 52 #[.int .i64 d, v] w fun e w' => e = .returned (.agg (bytesV (ofN d ls)).toArray) ∧ Below w.heap.size w w' := by
  obtain ⟨xa, ca, rfl, _⟩ := hp.sl.form
  have HP := Lib.hid hp
  have HG := Lib.hid hg
  have hdv := domB_val d
  clear hp hg
  go_enter Tryd.func52, Tryd.ntmps52
  go_wp2_with fail
  have hb0 := (Below.refl w.heap.size w).alloc (Nat.le_refl _) (.cells z32.toArray 31)
  have hb1 : Below w.heap.size w ((w.alloc (.cells z32.toArray 31)).alloc (.cells #[.int .u8 (d % 256)] 5)) := hb0.alloc (by simp) _
  have hH1 : Blk ((w.alloc (.cells z32.toArray 31)).alloc (.cells #[.int .u8 (d % 256)] 5)) w.heap.size z32 31 := (Blk.newL w z32 _).alloc _
  have hD1 : Bytes ((w.alloc (.cells z32.toArray 31)).alloc (.cells #[.int .u8 (d % 256)] 5)) (.slice (some ⟨w.heap.size + 1, 0, none⟩) 1 1) [domB d] := by
    rw [← hdv]
    exact bytes_alloc (w.alloc _) [domB d] _ (0, 0) (by simp)
  have hJl : (joinN ls).length ≤ 39184372088832 := by
    have := joinP_len ls ls.length
    rw [joinP_all] at this
    omega
  refine (joinedB_any _ ls vs _ (HP.out.below hb1) hsz hln).mono ?_
  rintro e w2 ⟨⟨v2, rfl, hv2⟩, hb2⟩
  have hw2 := hb1.trans (hb2.mono hb1.size)
  have hH2 := hH1.below hb2 hH1.lt
  have hD2 := hD1.below hb2
  have HG2 := Lib.hid (HG.out.below hw2)
  obtain ⟨x2, c2, rfl, _⟩ := hv2.form
  have HH2 := Lib.hid hH2
  have HD2 := Lib.hid hD2
  have HV2 := Lib.hid hv2
  clear hb0 hb1 hb2 hH1 hH2 hD1 hD2 hv2 HP HG hdv
  go_wp2_with fail
  refine (sum_at (n := 2) w2 [_, _] [[domB d], joinN ls] _ (.cons HD2.out (.cons HV2.out .nil)) rfl ([domB d] ++ joinN ls) (by simp [cat]) (by simp; omega) (by decide) HG2.out).mono ?_
  rintro e w3 ⟨rfl, hb3⟩
  have hH3 := HH2.out.below hb3 HH2.out.lt
  have hw3 := hw2.trans (hb3.mono hw2.size)
  have HH3 := Lib.hid hH3
  clear hb3 hH3 hw2 HD2 HV2 HG2 HH2
  go_wp2_with (first
    | (refine wpList_store_row rfl 31 (.tmp 4) (.tmp 11) rfl w.heap.size (bytesV (sumN ([domB d] ++ joinN ls))).toArray rfl rfl 31 z32.toArray (by exact HH3.out) (by exact hash_info _ (sumN_len _)) (by simp [z32, bytesV, sumN_len]) (hash_one _) ?_)
    | fail)
  exact bodyPost_ret (v := .agg (bytesV (sumN ([domB d] ++ joinN ls))).toArray) (results_cell_row rfl _ _ w.heap.size 31 _ (0, 0) _ rfl (HH3.out.setRow _) Tryd.underlying31 rfl (hash_info _ (sumN_len _))) rfl ⟨rfl, below_setRow hw3 (Nat.le_refl _) _⟩

end Go.Proofs.YtldokkbfahobgaaDoor
