/- Two arrays of numbers compared: the walk's law. Conditions: the array's type and its element's type; both have its length. -/
import Derived.Test.YtkfplliipogagaaDoorShaG
import Derived.Stop.BytesEq
import Derived.ChangeKeysEq
namespace Go.Proofs.YtkfplliipogagaaDoor
open Go.RowKit

theorem all_range_int : ∀ (xs ys : List Int), xs.length = ys.length → ((List.range xs.length).all fun i => xs.getD i 0 == ys.getD i 0) = (xs == ys)
  | [], [], _ => rfl
  | x :: xs, y :: ys, h => by
    have ih := all_range_int xs ys (by simpa using h)
    rw [List.length_cons, List.range_succ_eq_map, List.all_cons, List.all_map]
    simp only [List.getD_cons_zero, Function.comp_def, List.getD_cons_succ, ih]
    simp [List.cons_beq_cons]
  | [], _ :: _, h => by simp at h
  | _ :: _, [], h => by simp at h

theorem equalIn_ints {P : Program} (w : World) (d : Nat) (t e : TypeId) (n : Nat) (k : IntKind) (ht : P.underlying t = some (.array n e)) (he : P.underlying e = some (.int k)) (hsz : ∀ w, (sizeOf e).run P w = .ok 1 w)
    (xs ys : List Int) (hx : xs.length = n) (hy : ys.length = n) :
    (Op.equalIn (d + 2) t (.agg (xs.map (Value.int k)).toArray) (.agg (ys.map (Value.int k)).toArray)).run P w = .ok (xs == ys) w := by
  rw [← all_range_int xs ys (hx.trans hy.symm), hx, List.range_eq_range', Op.equalIn]
  simp only [Sem.run_bind, run_underlying ht, Result.andThen_ok, hsz, Std.Legacy.Range.forIn_eq_forIn_range', Std.Legacy.Range.size, Nat.sub_zero, Nat.add_sub_cancel, Nat.div_one]
  have hl : ∀ i ∈ List.range' 0 n 1, i < n := fun i hi => by simpa using (List.mem_range'_1.1 hi).2
  generalize List.range' 0 n 1 = l at hl ⊢
  induction l with
  | nil => simp
  | cons i l ih =>
    have hi : i < n := hl i (by simp)
    have px : (part e (xs.map (Value.int k)).toArray (i * 1)).run P w = .ok (.int k (xs.getD i 0)) w := by
      simp [part, isAgg, run_underlying he, List.getD, List.getElem?_eq_getElem (show i < xs.length by omega)]
    have py : (part e (ys.map (Value.int k)).toArray (i * 1)).run P w = .ok (.int k (ys.getD i 0)) w := by
      simp [part, isAgg, run_underlying he, List.getD, List.getElem?_eq_getElem (show i < ys.length by omega)]
    have pe : (Op.equalIn (d + 1) e (.int k (xs.getD i 0)) (.int k (ys.getD i 0))).run P w = .ok (xs.getD i 0 == ys.getD i 0) w := by
      rw [run_equalIn_int w d e k k _ _ he]
    simp only [List.forIn_cons, Sem.run_bind, px, py, pe, Result.andThen_ok, List.all_cons]
    cases hb : (xs.getD i 0 == ys.getD i 0)
    · simp
    · simp only [Bool.not_true, Bool.false_eq_true, if_false, Sem.run_pure, Result.andThen_ok, Bool.true_and]
      exact ih fun j hj => hl j (by simp [hj])

theorem size_u8 (w : World) : (sizeOf 5).run Tryd.prog w = .ok 1 w := by
  obtain ⟨i0, hi, _, _, _⟩ := info_parts info_u8
  rw [run_sizeOf w hi, show Tryd.prog.cellsOf 5 = 1 by kernel_rfl]
/-- Two digests: the same bytes? -/
theorem eq_hash (w : World) (xs ys : List UInt8) (hx : xs.length = 32) (hy : ys.length = 32) :
    (Op.equalIn 10000 24 (.agg (bytesV xs).toArray) (.agg (bytesV ys).toArray)).run Tryd.prog w = .ok (xs == ys) w :=
  run_equalIn_bytes w 9998 24 5 32 Tryd.underlying24 Tryd.underlying5 size_u8 xs ys hx hy
theorem eq_hash_same (w : World) (xs : List UInt8) (hx : xs.length = 32) :
    (Op.equalIn 10000 24 (.agg (bytesV xs).toArray) (.agg (bytesV xs).toArray)).run Tryd.prog w = .ok true w := by
  rw [eq_hash w xs xs hx hx]
  simp
theorem size_u32 (w : World) : (sizeOf 61).run Tryd.prog w = .ok 1 w := by
  have hk : (Tryd.prog.info? 61).map (·.size) = some 1 := by kernel_rfl
  obtain ⟨i0, hi, _⟩ := Option.map_eq_some_iff.1 hk
  rw [run_sizeOf w hi, show Tryd.prog.cellsOf 61 = 1 by kernel_rfl]
def S8.zs (s : S8) : List Int := [s.a, s.b, s.c, s.d, s.e, s.f, s.g, s.h]
theorem eq_eight (w : World) (s t : S8) : (Op.equalIn 10000 62 (.agg s.vals.toArray) (.agg t.vals.toArray)).run Tryd.prog w = .ok (s.zs == t.zs) w :=
  equalIn_ints w 9998 62 61 8 .u32 Tryd.underlying62 Tryd.underlying61 size_u32 s.zs t.zs rfl rfl
theorem eq_eight_same (w : World) (s : S8) : (Op.equalIn 10000 62 (.agg s.vals.toArray) (.agg s.vals.toArray)).run Tryd.prog w = .ok true w := by
  rw [eq_eight]
  simp
end Go.Proofs.YtkfplliipogagaaDoor
