/- Hashes and lists of hashes: as values, as cells, parts of them. No condition. -/
import Derived.Test.YtkfplliipogagaaDoorSumAt
import Derived.Test.YtkfplliipogagaaDoorEq
namespace Go.Proofs.YtkfplliipogagaaDoor
open Go.RowKit

/-- A digest: 32 bytes. -/
structure H where
  b : List UInt8
  len : b.length = 32
theorem H.ext {x y : H} (h : x.b = y.b) : x = y := by
  cases x
  cases y
  cases h
  rfl
theorem H.ext_iff {x y : H} : x = y ↔ x.b = y.b := ⟨fun h => by rw [h], H.ext⟩
instance instDecEqH : DecidableEq H := fun x y => if h : x.b = y.b then .isTrue (H.ext h) else .isFalse fun e => h (by rw [e])
/-- A digest as a value. -/
def hv (h : H) : Value := .agg (bytesV h.b).toArray
def hflat (l : List H) : List UInt8 := l.flatMap H.b
theorem hflat_nil : hflat [] = [] := rfl
theorem hflat_cons (h : H) (l : List H) : hflat (h :: l) = h.b ++ hflat l := by simp [hflat]
theorem hflat_app (l m : List H) : hflat (l ++ m) = hflat l ++ hflat m := by simp [hflat]
theorem hflat_len (l : List H) : (hflat l).length = l.length * 32 := by
  induction l with
  | nil => rfl
  | cons h l ih =>
    have := h.len
    rw [hflat_cons, List.length_append, ih, List.length_cons]
    omega
theorem hflat_take (l : List H) (n : Nat) : hflat (l.take n) = (hflat l).take (n * 32) := by
  induction l generalizing n with
  | nil => simp [hflat]
  | cons h l ih =>
    cases n with
    | zero => simp [hflat]
    | succ n =>
      have := h.len
      rw [List.take_succ_cons, hflat_cons, hflat_cons, ih, List.take_append, List.take_of_length_le (l := h.b) (by omega), show (n + 1) * 32 - h.b.length = n * 32 by omega]
theorem hflat_drop (l : List H) (n : Nat) : hflat (l.drop n) = (hflat l).drop (n * 32) := by
  induction l generalizing n with
  | nil => simp [hflat]
  | cons h l ih =>
    cases n with
    | zero => simp [hflat]
    | succ n =>
      have := h.len
      rw [List.drop_succ_cons, hflat_cons, ih, List.drop_append, (List.drop_eq_nil_of_le (by omega) : h.b.drop ((n + 1) * 32) = []), List.nil_append, show (n + 1) * 32 - h.b.length = n * 32 by omega]
/-- A slice of hashes. -/
def Hs (w : World) (v : Value) (l : List H) : Prop := IsSl w v 32 l.length (bytesV (hflat l))
theorem Hs.form {w : World} {v : Value} {l : List H} (h : Hs w v l) : ∃ a cap, v = .slice a l.length cap ∧ l.length ≤ cap := IsSl.form h
theorem Hs.below {w w' : World} {v : Value} {l : List H} (h : Hs w v l) (hb : Below w.heap.size w w') : Hs w' v l := IsSl.below h hb
theorem Hs.nil (w : World) : Hs w (.slice none 0 0) [] := IsSl.nil w 32
theorem Hs.drewN {w : World} {v : Value} {l : List H} (h : Hs w v l) (n : Nat) : Hs (w.drewN n) v l := h
theorem Hs.pos {w : World} {v : Value} {l : List H} (h : Hs w v l) (hn : 0 < l.length) : ∃ b off cap, v = .slice (some ⟨b, off, none⟩) l.length cap ∧ l.length ≤ cap ∧ w.rangeAt b off (bytesV (hflat l)) ∧ b < w.heap.size :=
  IsSl.pos h hn (by decide)
/-- An element's cells. -/
theorem Hs.elem {w : World} {b off : Nat} {l : List H} (h : w.rangeAt b off (bytesV (hflat l))) {i : Nat} {x : H} (hi : l[i]? = some x) : w.rangeAt b (off + i * 32) (bytesV x.b) := by
  intro j u hu
  have hlt : i < l.length := (List.getElem?_eq_some_iff.1 hi).1
  have hx := x.len
  have hj : j < 32 := by
    have := (List.getElem?_eq_some_iff.1 hu).1
    rw [bytesV_len] at this
    omega
  have hd : l.drop i = x :: l.drop (i + 1) := by
    obtain ⟨h1, h2⟩ := List.getElem?_eq_some_iff.1 hi
    rw [List.drop_eq_getElem_cons h1, h2]
  have h1 : (bytesV (hflat l))[i * 32 + j]? = some u := by
    unfold bytesV at hu ⊢
    rw [List.getElem?_map] at hu ⊢
    rw [← List.getElem?_drop, ← hflat_drop, hd, hflat_cons, List.getElem?_append_left (by omega)]
    exact hu
  have := h _ _ h1
  rwa [← Nat.add_assoc] at this
theorem hv_info (x : H) : (Tryd.prog.info? 24).map (·.size) = some (bytesV x.b).length := by
  rw [bytesV_len, x.len]
  kernel_rfl
theorem hash_cells (w : World) : (sizeOf 24).run Tryd.prog w = .ok 32 w := by
  have hk : (Tryd.prog.info? 24).map (·.size) = some 32 := by kernel_rfl
  obtain ⟨i0, hi, hs⟩ := Option.map_eq_some_iff.1 hk
  simp [sizeOf, typeInfo, hi, hs]
/-- A part of a slice, whatever its elements' size. -/
theorem sl_mid {P : Program} {w : World} {v : Value} {size n : Nat} {cs : List Value} {t e : TypeId} (h : IsSl w v size n cs) (ht : P.underlying t = some (.slice e)) (hsz : ∀ w, (sizeOf e).run P w = .ok size w) (i j : Nat) (hij : i ≤ j) (hj : j ≤ n) :
    ∃ a c, (∀ w' : World, (Instr.slice t v (some (.int .i64 (i : Int))) (some (.int .i64 (j : Int))) none).run P w' = .ok (.slice a (j - i) c) w') ∧ IsSl w (.slice a (j - i) c) size (j - i) ((cs.drop (i * size)).take ((j - i) * size)) := by
  have he := elem_of ht
  have ht' : P.underlying t = some (.slice (P.elem t)) := by rw [he]; exact ht
  have hcl := h.1
  have hm : (j - i) * size + i * size ≤ n * size := by rw [← Nat.add_mul]; exact Nat.mul_le_mul_right _ (by omega)
  have hlen : ((cs.drop (i * size)).take ((j - i) * size)).length = (j - i) * size := by rw [List.length_take, List.length_drop]; omega
  have hone : ∀ u ∈ (cs.drop (i * size)).take ((j - i) * size), u.oneCell' = true := fun u hu => h.2.1 u (List.mem_of_mem_drop (List.mem_of_mem_take hu))
  rcases h.2.2 with ⟨rfl, hl⟩ | ⟨ad, cap, rfl, hc, hr⟩
  · obtain rfl : j = 0 := by omega
    obtain rfl : i = 0 := by omega
    refine ⟨none, 0, fun w' => ?_, by simpa using IsSl.nil w size⟩
    rw [show ((0 : Nat) : Int) = 0 from rfl, run_slice_lh w' t none 0 0 ht' .i64 .i64 0 0 (by decide) (by decide) (by decide), he, hsz]
    rfl
  · refine ⟨if cap = i then some ad else (some ad).map (·.add (i * size)), cap - i, fun w' => ?_, ?_⟩
    · rw [run_slice_lh w' t (some ad) n cap ht' .i64 .i64 i j (by omega) (by omega) (by omega), he, hsz]
      simp only [Result.andThen_ok, sliced, Int.toNat_natCast]
    · refine ⟨hlen, hone, ?_⟩
      by_cases hci : cap = i
      · rw [if_pos hci]
        refine .inr ⟨ad, cap - i, rfl, by omega, fun q u hu => ?_⟩
        have := (List.getElem?_eq_some_iff.1 hu).1
        rw [hlen, show j - i = 0 by omega, Nat.zero_mul] at this
        omega
      · rw [if_neg hci]
        refine .inr ⟨ad.add (i * size), cap - i, rfl, by omega, fun q u hu => ?_⟩
        rw [List.getElem?_take] at hu
        split at hu
        · rw [List.getElem?_drop] at hu
          have := hr (i * size + q) _ hu
          rw [← this, Go.Deep.add_add]
        · cases hu
/-- The same, for each way that a slice is told. -/
theorem sl_head {P : Program} {w : World} {v : Value} {size n : Nat} {cs : List Value} {t e : TypeId} (h : IsSl w v size n cs) (ht : P.underlying t = some (.slice e)) (hsz : ∀ w, (sizeOf e).run P w = .ok size w) (j : Nat) (hj : j ≤ n) :
    ∃ a c, (∀ w' : World, (Instr.slice t v none (some (.int .i64 (j : Int))) none).run P w' = .ok (.slice a j c) w') ∧ IsSl w (.slice a j c) size j (cs.take (j * size)) := by
  obtain ⟨a, c, h1, h2⟩ := sl_mid h ht hsz 0 j (by omega) hj
  rw [Nat.sub_zero, Nat.zero_mul, List.drop_zero] at h2
  refine ⟨a, c, fun w' => ?_, h2⟩
  rw [← Nat.sub_zero j, ← h1 w', Nat.sub_zero]
  obtain ⟨xa, cap, rfl, hc⟩ := h.form
  have he := elem_of ht
  have ht' : P.underlying t = some (.slice (P.elem t)) := by rw [he]; exact ht
  rw [show ((0 : Nat) : Int) = 0 from rfl, run_slice_h w' t xa n cap ht' .i64 j (by omega) (by omega), run_slice_lh w' t xa n cap ht' .i64 .i64 0 j (by decide) (by omega) (by omega)]
  rfl
theorem sl_tail {P : Program} {w : World} {v : Value} {size n : Nat} {cs : List Value} {t e : TypeId} (h : IsSl w v size n cs) (ht : P.underlying t = some (.slice e)) (hsz : ∀ w, (sizeOf e).run P w = .ok size w) (i : Nat) (hi : i ≤ n) :
    ∃ a c, (∀ w' : World, (Instr.slice t v (some (.int .i64 (i : Int))) none none).run P w' = .ok (.slice a (n - i) c) w') ∧ IsSl w (.slice a (n - i) c) size (n - i) (cs.drop (i * size)) := by
  obtain ⟨a, c, h1, h2⟩ := sl_mid h ht hsz i n hi (Nat.le_refl _)
  have hl : (cs.drop (i * size)).length = (n - i) * size := by rw [List.length_drop, h.1, Nat.sub_mul]
  rw [List.take_of_length_le (by omega)] at h2
  refine ⟨a, c, fun w' => ?_, h2⟩
  rw [← h1 w']
  obtain ⟨xa, cap, rfl, hc⟩ := h.form
  have he := elem_of ht
  have ht' : P.underlying t = some (.slice (P.elem t)) := by rw [he]; exact ht
  rw [run_slice_l w' t xa n cap ht' .i64 i (by omega) (by omega), run_slice_lh w' t xa n cap ht' .i64 .i64 i n (by omega) (by omega) (by omega)]
  simp
theorem hs_head {w : World} {v : Value} {l : List H} (h : Hs w v l) (j : Nat) (hj : j ≤ l.length) :
    ∃ a c, (∀ w' : World, (Instr.slice 31 v none (some (.int .i64 (j : Int))) none).run Tryd.prog w' = .ok (.slice a j c) w') ∧ Hs w (.slice a j c) (l.take j) := by
  obtain ⟨a, c, h1, h2⟩ := sl_head (P := Tryd.prog) h Tryd.underlying31 hash_cells j hj
  refine ⟨a, c, h1, ?_⟩
  have hl : (l.take j).length = j := by rw [List.length_take]; omega
  unfold Hs
  rw [hl, hflat_take]
  unfold bytesV at h2 ⊢
  rw [List.map_take]
  exact h2
theorem hs_tail {w : World} {v : Value} {l : List H} (h : Hs w v l) (i : Nat) (hi : i ≤ l.length) :
    ∃ a c, (∀ w' : World, (Instr.slice 31 v (some (.int .i64 (i : Int))) none none).run Tryd.prog w' = .ok (.slice a (l.length - i) c) w') ∧ Hs w (.slice a (l.length - i) c) (l.drop i) := by
  obtain ⟨a, c, h1, h2⟩ := sl_tail (P := Tryd.prog) h Tryd.underlying31 hash_cells i hi
  refine ⟨a, c, h1, ?_⟩
  unfold Hs
  rw [List.length_drop, hflat_drop]
  unfold bytesV at h2 ⊢
  rw [List.map_drop]
  exact h2
/-- The nodes' and leaves' hashes. -/
def ndH (l r : H) : H := ⟨sumN (1 :: (l.b ++ r.b)), sumN_len _⟩
def lfH (b : List UInt8) : H := ⟨sumN (0 :: b), sumN_len _⟩
def e0H : H := ⟨sumN [], sumN_len _⟩
end Go.Proofs.YtkfplliipogagaaDoor
