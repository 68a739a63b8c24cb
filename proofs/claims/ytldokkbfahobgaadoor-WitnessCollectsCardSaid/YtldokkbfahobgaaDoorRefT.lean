/- The walks of the reference's right and shift. The walk of the reference's Turn. Conditions: what each part says. -/
import Derived.Test.YtldokkbfahobgaaDoorShaW
import Derived.Great.BuildSlice
/-! RefA: The walks of the reference's right and shift. Condition: a number below 2^32, a turn of 1 to 31. -/
namespace Go.Proofs.YtldokkbfahobgaaDoor
open Go.RowKit

set_option maxHeartbeats 400000 in
theorem shift_any (x : Int) (n : Int) (w : World) (h0 : 0 ≤ n) (h1 : n ≤ 31) :
    Calls Tryd.prog 75 #[.int .u64 x, .int .i64 n] w fun e w' => e = .returned (.int .u64 (x / 2 ^ n.toNat)) ∧ w' = w := by
  go_enter Tryd.func75, Tryd.ntmps75
  go_wp2
  go_ret
  exact ⟨rfl, rfl⟩
set_option maxHeartbeats 400000 in
theorem right_any (x : Nat) (n : Int) (w : World) (hx1 : x < 4294967296) (h0 : 1 ≤ n) (h1 : n ≤ 31) :
    Calls Tryd.prog 74 #[.int .u64 x, .int .i64 n] w fun e w' => e = .returned (.int .u64 (rrN x n.toNat)) ∧ w' = w := by
  obtain ⟨a, rfl⟩ : ∃ a : Nat, n = (a : Int) := ⟨n.toNat, by omega⟩
  have e := right_nat x a hx1 (by omega)
  have e1 : (32 - (a : Int)).toNat = 32 - a := by omega
  go_enter Tryd.func74, Tryd.ntmps74
  go_wp2
  go_ret
  exact ⟨by simp, rfl⟩
end Go.Proofs.YtldokkbfahobgaaDoor

/-! RefB: The walk of the reference's Turn. Conditions: the package's tables read as they are laid; 64 bytes lie in the slice. -/
namespace Go.Proofs.YtldokkbfahobgaaDoor
open Go.RowKit

def N8.v32 (s : N8) : List Value := s.cast.vals
def N8.v64 (s : N8) : List Value := [.int .u64 s.a, .int .u64 s.b, .int .u64 s.c, .int .u64 s.d, .int .u64 s.e, .int .u64 s.f, .int .u64 s.g, .int .u64 s.h]
def z64 : List Value := N8.v64 ⟨0, 0, 0, 0, 0, 0, 0, 0⟩
theorem v64_at (s : N8) (j : Nat) (h : j < 8) : s.v64[j]? = some (.int .u64 (s.get j)) := by
  match j, h with
  | 0, _ => rfl
  | 1, _ => rfl
  | 2, _ => rfl
  | 3, _ => rfl
  | 4, _ => rfl
  | 5, _ => rfl
  | 6, _ => rfl
  | 7, _ => rfl
theorem v32_at (s : N8) (j : Nat) (h : j < 8) : s.v32[j]? = some (.int .u32 (s.get j)) := by
  rw [N8.v32, vals_at _ _ h, get_nat]
theorem v64_info (s : N8) : (Tryd.prog.info? 127).map (·.size) = some s.v64.toArray.size := by
  show _ = some 8
  kernel_rfl
theorem v64_one (s : N8) : s.v64.toArray.all (·.oneCell') = true := by simp [N8.v64, Value.oneCell']
theorem get_lt (s : N8) (h : s.Ok) (j : Nat) : s.get j < 4294967296 := by
  match j with
  | 0 => exact h.a
  | 1 => exact h.b
  | 2 => exact h.c
  | 3 => exact h.d
  | 4 => exact h.e
  | 5 => exact h.f
  | 6 => exact h.g
  | j + 7 => exact h.h
theorem lt64 {x : Nat} (h : x < 4294967296) : x < 18446744073709551616 := by omega
theorem movedN_lt (x a b c : Nat) (hx : x < 4294967296) : movedN x a b c < 4294967296 :=
  Nat.xor_lt_two_pow (n := 32) (Nat.xor_lt_two_pow (n := 32) (rrN_lt x a hx) (rrN_lt x b hx)) (Nat.lt_of_le_of_lt (Nat.div_le_self _ _) hx)
def chN (r : N8) : Nat := (r.e &&& r.f) ^^^ ((4294967295 ^^^ r.e) &&& r.g)
def majN (r : N8) : Nat := (r.a &&& r.b) ^^^ (r.a &&& r.c) ^^^ (r.b &&& r.c)
theorem chN_lt (r : N8) (h : r.Ok) : chN r < 4294967296 := Nat.xor_lt_two_pow (n := 32) (Nat.and_lt_two_pow (n := 32) _ h.f) (Nat.and_lt_two_pow (n := 32) _ h.g)
theorem majN_lt (r : N8) (h : r.Ok) : majN r < 4294967296 := Nat.xor_lt_two_pow (n := 32) (Nat.xor_lt_two_pow (n := 32) (Nat.and_lt_two_pow (n := 32) _ h.b) (Nat.and_lt_two_pow (n := 32) _ h.c)) (Nat.and_lt_two_pow (n := 32) _ h.c)
/-- The new state's numbers as the walk writes them. -/
def stepL (r : N8) (k w : Nat) : List Value := [.int .u64 ((((r.h : Int) + (turnedN r.e 6 11 25 : Int) + (chN r : Int) + (k : Int) + (w : Int)) % 4294967296 + ((turnedN r.a 2 13 22 : Int) + (majN r : Int)) % 4294967296) % 4294967296), .int .u64 r.a, .int .u64 r.b, .int .u64 r.c, .int .u64 (((r.d : Int) + ((r.h : Int) + (turnedN r.e 6 11 25 : Int) + (chN r : Int) + (k : Int) + (w : Int)) % 4294967296) % 4294967296), .int .u64 r.e, .int .u64 r.f, .int .u64 r.g]
theorem stepN_v64 (r : N8) (k w : Nat) : stepL r k w = (stepN r k w).v64 := by
  have e1 : (((r.h : Int) + (turnedN r.e 6 11 25 : Int) + (chN r : Int) + (k : Int) + (w : Int)) % 4294967296 + ((turnedN r.a 2 13 22 : Int) + (majN r : Int)) % 4294967296) % 4294967296 = (((oneN r k w + twoN r) % 4294967296 : Nat) : Int) := by
    simp [oneN, twoN, chN, majN]
  have e2 : ((r.d : Int) + ((r.h : Int) + (turnedN r.e 6 11 25 : Int) + (chN r : Int) + (k : Int) + (w : Int)) % 4294967296) % 4294967296 = (((r.d + oneN r k w) % 4294967296 : Nat) : Int) := by
    simp [oneN, chN]
  unfold stepL
  rw [e1, e2]
  rfl
theorem v64_size (s : N8) : s.v64.toArray.size = 8 := rfl
theorem stepL_size (r : N8) (k w : Nat) : (stepL r k w).toArray.size = 8 := rfl
theorem stepL_info (r : N8) (k w : Nat) : (Tryd.prog.info? 127).map (·.size) = some (stepL r k w).toArray.size := by
  rw [stepL_size]
  kernel_rfl
theorem stepL_one (r : N8) (k w : Nat) : (stepL r k w).toArray.all (·.oneCell') = true := by simp [stepL, Value.oneCell']
theorem built_v64 (a b c d e f g h : Int) : Tryd.prog.built 127 [(0, .int .u64 a), (1, .int .u64 b), (2, .int .u64 c), (3, .int .u64 d), (4, .int .u64 e), (5, .int .u64 f), (6, .int .u64 g), (7, .int .u64 h)] = some #[.int .u64 a, .int .u64 b, .int .u64 c, .int .u64 d, .int .u64 e, .int .u64 f, .int .u64 g, .int .u64 h] := by kernel_rfl
theorem KN_lt (t : Nat) : KN t < 4294967296 := by
  have : ∀ t : Fin 64, KN t.val < 4294967296 := by decide
  by_cases h : t < 64
  · exact this ⟨t, h⟩
  · unfold KN
    rw [List.getElem?_eq_none (by have : Ktab.length = 64 := rfl; omega)]
    decide
/-- The schedule's row of 64-bit numbers, k of them laid. -/
def wr64 (l : List UInt8) (k : Nat) : List Value := (List.range 64).map fun t => .int .u64 (if t < k then (wN l t : Int) else 0)
theorem wr64_at (l : List UInt8) (k t : Nat) (h : t < 64) : (wr64 l k)[t]? = some (.int .u64 (if t < k then (wN l t : Int) else 0)) := by
  unfold wr64; simp [h]
theorem wr64_len (l : List UInt8) (k : Nat) : (wr64 l k).length = 64 := by unfold wr64; simp
theorem wr64_set (l : List UInt8) (k : Nat) : (wr64 l k).set k (.int .u64 (wN l k)) = wr64 l (k + 1) := by
  apply List.ext_getElem?
  intro i
  by_cases hi : i < 64
  · rw [List.getElem?_set, wr64_len, wr64_at _ _ _ hi, wr64_at _ _ _ hi]
    by_cases hk : k = i
    · subst hk; rw [if_pos rfl, if_pos hi, if_pos (by omega)]
    · rw [if_neg hk]
      by_cases h2 : i < k
      · rw [if_pos h2, if_pos (by omega)]
      · rw [if_neg h2, if_neg (by omega)]
  · rw [List.getElem?_eq_none (by simp [wr64_len]; omega), List.getElem?_eq_none (by simp [wr64_len]; omega)]
/-- A state's numbers, i of them laid. -/
def N8.upto (s : N8) (i : Nat) : N8 := ⟨if 0 < i then s.a else 0, if 1 < i then s.b else 0, if 2 < i then s.c else 0, if 3 < i then s.d else 0, if 4 < i then s.e else 0, if 5 < i then s.f else 0, if 6 < i then s.g else 0, if 7 < i then s.h else 0⟩
theorem upto_get (s : N8) (i j : Nat) (h : j < 8) : (s.upto i).get j = if j < i then s.get j else 0 := by
  match j, h with
  | 0, _ => rfl
  | 1, _ => rfl
  | 2, _ => rfl
  | 3, _ => rfl
  | 4, _ => rfl
  | 5, _ => rfl
  | 6, _ => rfl
  | 7, _ => rfl
theorem upto_set (s : N8) (i : Nat) (hi : i < 8) : (s.upto i).v64.set i (.int .u64 (s.get i)) = (s.upto (i + 1)).v64 := by
  apply List.ext_getElem?
  intro j
  by_cases hj : j < 8
  · rw [List.getElem?_set, show (s.upto i).v64.length = 8 from rfl, v64_at _ _ hj, v64_at _ _ hj, upto_get _ _ _ hj, upto_get _ _ _ hj]
    by_cases hk : i = j
    · subst hk; rw [if_pos rfl, if_pos hi, if_pos (by omega)]
    · rw [if_neg hk]
      by_cases h2 : j < i
      · rw [if_pos h2, if_pos (by omega)]
      · rw [if_neg h2, if_neg (by omega)]
  · rw [List.getElem?_eq_none (by simp [N8.v64]; omega), List.getElem?_eq_none (by simp [N8.v64]; omega)]
theorem upto_8 (s : N8) : s.upto 8 = s := rfl
def rtRel1 (l : List UInt8) (s : N8) (w : World) (i : Value) (wr : World) : Prop :=
  ∃ k : Nat, k ≤ 64 ∧ i = .int .i64 k ∧ Blk wr (w.heap.size + 1 + 1) (wr64 l k) 125 ∧ Blk wr w.heap.size s.v32 95 ∧ Blk wr (w.heap.size + 1) zvals 95 ∧ Below w.heap.size w wr

def rtRel2 (l : List UInt8) (s : N8) (w wo : World) (i : Value) (wr : World) : Prop :=
  ∃ k : Nat, k ≤ 8 ∧ i = .int .i64 k ∧ Blk wr wo.heap.size (s.upto k).v64 127 ∧ Blk wr (w.heap.size + 1 + 1) (wr64 l 64) 125 ∧ Blk wr w.heap.size s.v32 95 ∧ Blk wr (w.heap.size + 1) zvals 95 ∧ Below w.heap.size w wr
def rtRel3 (l : List UInt8) (s : N8) (w wo : World) (i : Value) (wr : World) : Prop :=
  ∃ k : Nat, k ≤ 64 ∧ i = .int .i64 k ∧ Blk wr wo.heap.size (roundsN l s k).v64 127 ∧ Blk wr (w.heap.size + 1 + 1) (wr64 l 64) 125 ∧ Blk wr w.heap.size s.v32 95 ∧ Blk wr (w.heap.size + 1) zvals 95 ∧ Below w.heap.size w wr

def rtRel4 (l : List UInt8) (s r : N8) (w wo : World) (i : Value) (wr : World) : Prop :=
  ∃ k : Nat, k ≤ 8 ∧ i = .int .i64 k ∧ Blk wr wo.heap.size r.v64 127 ∧ Blk wr (w.heap.size + 1 + 1) (wr64 l 64) 125 ∧ Blk wr w.heap.size (addS s.cast r.cast k).vals 95 ∧ Blk wr (w.heap.size + 1) zvals 95 ∧ Below w.heap.size w wr

set_option maxRecDepth 100000 in
set_option maxHeartbeats 4000000 in
theorem refturn_any (b off cap : Nat) (l : List UInt8) (s : N8) (w : World) (hs : s.Ok) (hl : ∀ i, i < 64 → w.cell? ⟨b, off + i, none⟩ = some (.int .u8 (byteI l i))) (hg : Glob w) :
    Calls Tryd.prog 60 #[.agg s.v32.toArray, .slice (some ⟨b, off, none⟩) 64 cap] w fun e w' => e = .returned (.agg (turnN s l).v32.toArray) ∧ Below w.heap.size w w' := by
  have hbs : b < w.heap.size := World.block_lt_of_cell? _ _ (hl 0 (by omega))
  have HL := Lib.hid hl
  have HG := Lib.hid hg
  have HOK := Lib.hid hs
  clear hl hg hs
  go_enter Tryd.func60, Tryd.ntmps60
  go_wp2_with fail
  go_loopw [6] (fun i wr => rtRel1 l s w i wr) (fun i _ => 64 - (intOf i).toNat)
  case atStart =>
    refine ⟨0, by omega, rfl, Blk.newL2 _ _ _ (wr64 l 0) _, ((Blk.newL w s.v32 _).alloc _).alloc _, (Blk.newL1 w _ zvals _).alloc _, by (repeat (first | with_reducible assumption | with_reducible exact Below.refl _ _ | ((with_reducible refine Below.setCell ?_ ?_ _); rotate_left; focus (first | omega | (simp; done) | (simp; omega))) | ((with_reducible refine Below.alloc ?_ ?_ _); rotate_left; focus (first | omega | (simp; done) | (simp; omega))) | ((with_reducible refine below_setRow ?_ ?_ _); rotate_left; focus (first | omega | (simp; done) | (simp; omega))) | (with_reducible refine below_drewN ?_ _) | (with_reducible refine Below.drew ?_)))⟩
  case round =>
    obtain ⟨k, hk, rfl, hB, hH, hZ, hb⟩ := hrel
    have HB := Lib.hid hB
    have HH := Lib.hid hH
    have HZ := Lib.hid hZ
    clear hB hH hZ
    by_cases h16 : k < 16
    · as_aux_lemma =>
      have c0 : wr.cell? ⟨b, off + 4 * k, none⟩ = some (.int .u8 (byteN l (4 * k))) := (hb.cell (p := ⟨b, _, none⟩) hbs).trans (HL.out (4 * k) (by omega))
      have c1 : wr.cell? ⟨b, off + (4 * k + 1), none⟩ = some (.int .u8 (byteN l (4 * k + 1))) := (hb.cell (p := ⟨b, _, none⟩) hbs).trans (HL.out (4 * k + 1) (by omega))
      have c2 : wr.cell? ⟨b, off + (4 * k + 2), none⟩ = some (.int .u8 (byteN l (4 * k + 2))) := (hb.cell (p := ⟨b, _, none⟩) hbs).trans (HL.out (4 * k + 2) (by omega))
      have c3 : wr.cell? ⟨b, off + (4 * k + 3), none⟩ = some (.int .u8 (byteN l (4 * k + 3))) := (hb.cell (p := ⟨b, _, none⟩) hbs).trans (HL.out (4 * k + 3) (by omega))
      have d : wr.cell? ⟨w.heap.size + 1 + 1, k, none⟩ = some (.int .u64 0) := by rw [HB.out.cell?, wr64_at _ _ _ (by omega), if_neg (by omega)]
      have f : wr.frozen? ⟨w.heap.size + 1 + 1, k, none⟩ = false := HB.out.frozen k
      have a0 := byteN_lt l (4 * k)
      have a1 := byteN_lt l (4 * k + 1)
      have a2 := byteN_lt l (4 * k + 2)
      have a3 := byteN_lt l (4 * k + 3)
      go_wp2_with fail
      (refine wp_region_quiet_tail 35 (by kernel_rfl) (by kernel_rfl) ?_; simp only [List.take_succ_cons, List.take_zero, List.drop_succ_cons, List.drop_zero]; (repeat (go_big_quiet_step (fail))); refine wpQuiet_nil ?_; intro _ hw'; obtain ⟨nq, hw''⟩ := hw'; subst hw'')
      go_wp2
      refine ⟨⟨k + 1, by omega, by go_num, ?_, (HH.out.drewN nq).set_other (by simp <;> omega) _, (HZ.out.drewN nq).set_other (by simp <;> omega) _, by (repeat (first | with_reducible assumption | with_reducible exact Below.refl _ _ | ((with_reducible refine Below.setCell ?_ ?_ _); rotate_left; focus (first | omega | (simp; done) | (simp; omega))) | ((with_reducible refine Below.alloc ?_ ?_ _); rotate_left; focus (first | omega | (simp; done) | (simp; omega))) | ((with_reducible refine below_setRow ?_ ?_ _); rotate_left; focus (first | omega | (simp; done) | (simp; omega))) | (with_reducible refine below_drewN ?_ _) | (with_reducible refine Below.drew ?_)))⟩, by simp [intOf]; omega⟩
      rw [← wr64_set, wN_lo l k h16, wordN_sum]
      have := (HB.out.drewN nq).set k (.int .u64 (((byteN l (4 * k) * 256 + byteN l (4 * k + 1)) * 256 + byteN l (4 * k + 2)) * 256 + byteN l (4 * k + 3) : Nat))
      simpa using this
    · by_cases h64 : k < 64
      · as_aux_lemma =>
        obtain ⟨y, hy⟩ : ∃ y, y = wN l (k - 2) := ⟨_, rfl⟩
        obtain ⟨x, hx⟩ : ∃ x, x = wN l (k - 15) := ⟨_, rfl⟩
        obtain ⟨p, hp⟩ : ∃ p, p = wN l (k - 7) := ⟨_, rfl⟩
        obtain ⟨q, hq⟩ : ∃ q, q = wN l (k - 16) := ⟨_, rfl⟩
        have hyl : y < 4294967296 := by rw [hy]; exact wN_lt _ _
        have hxl : x < 4294967296 := by rw [hx]; exact wN_lt _ _
        have hpl : p < 4294967296 := by rw [hp]; exact wN_lt _ _
        have hql : q < 4294967296 := by rw [hq]; exact wN_lt _ _
        have HW := Lib.hid (wN_hi l k h16)
        have d0 : wr.cell? ⟨w.heap.size + 1 + 1, k - 2, none⟩ = some (.int .u64 y) := by rw [HB.out.cell?, wr64_at _ _ _ (by omega), if_pos (by omega), hy]
        have d1 : wr.cell? ⟨w.heap.size + 1 + 1, k - 7, none⟩ = some (.int .u64 p) := by rw [HB.out.cell?, wr64_at _ _ _ (by omega), if_pos (by omega), hp]
        have d2 : wr.cell? ⟨w.heap.size + 1 + 1, k - 15, none⟩ = some (.int .u64 x) := by rw [HB.out.cell?, wr64_at _ _ _ (by omega), if_pos (by omega), hx]
        have d3 : wr.cell? ⟨w.heap.size + 1 + 1, k - 16, none⟩ = some (.int .u64 q) := by rw [HB.out.cell?, wr64_at _ _ _ (by omega), if_pos (by omega), hq]
        have d : wr.cell? ⟨w.heap.size + 1 + 1, k, none⟩ = some (.int .u64 0) := by rw [HB.out.cell?, wr64_at _ _ _ (by omega), if_neg (by omega)]
        have f : wr.frozen? ⟨w.heap.size + 1 + 1, k, none⟩ = false := HB.out.frozen k
        have HY := Lib.hid hy
        have HX := Lib.hid hx
        have HP := Lib.hid hp
        have HQ := Lib.hid hq
        clear hy hx hp hq
        have m1 := movedN_lt y 17 19 10 hyl
        have m2 := movedN_lt x 7 18 3 hxl
        have f1 : bits .xor .u64 (rrN y 17 : Int) (rrN y 19 : Int) = ((rrN y 17 ^^^ rrN y 19 : Nat) : Int) := bits64_xor _ _ (lt64 (rrN_lt y 17 hyl)) (lt64 (rrN_lt y 19 hyl))
        have f2 : bits .xor .u64 ((rrN y 17 ^^^ rrN y 19 : Nat) : Int) ((y : Int) / 1024) = (movedN y 17 19 10 : Int) := by
          have := bits64_xor (rrN y 17 ^^^ rrN y 19) (y / 1024) (lt64 (Nat.xor_lt_two_pow (n := 32) (rrN_lt y 17 hyl) (rrN_lt y 19 hyl))) (by omega)
          simpa [movedN] using this
        have f3 : bits .xor .u64 (rrN x 7 : Int) (rrN x 18 : Int) = ((rrN x 7 ^^^ rrN x 18 : Nat) : Int) := bits64_xor _ _ (lt64 (rrN_lt x 7 hxl)) (lt64 (rrN_lt x 18 hxl))
        have f4 : bits .xor .u64 ((rrN x 7 ^^^ rrN x 18 : Nat) : Int) ((x : Int) / 8) = (movedN x 7 18 3 : Int) := by
          have := bits64_xor (rrN x 7 ^^^ rrN x 18) (x / 8) (lt64 (Nat.xor_lt_two_pow (n := 32) (rrN_lt x 7 hxl) (rrN_lt x 18 hxl))) (by omega)
          simpa [movedN] using this
        go_wp2_with fail
        go_quiet (fail)
        go_wp2_with fail
        (refine wp_region_quiet_tail 30 (by kernel_rfl) (by kernel_rfl) ?_; simp only [List.take_succ_cons, List.take_zero, List.drop_succ_cons, List.drop_zero]; (repeat (go_big_quiet_step ((first | (go_at_call 74; exact quiet_add_same (right_any _ _ _ (by omega) (by omega) (by omega))) | (go_at_call 75; exact quiet_add_same (shift_any _ _ _ (by omega) (by omega))))))); refine wpQuiet_nil ?_; intro _ hw'; obtain ⟨nq, hw''⟩ := hw'; subst hw'')
        go_wp2
        refine ⟨⟨k + 1, by omega, by go_num, ?_, (HH.out.drewN _).set_other (by simp <;> omega) _, (HZ.out.drewN _).set_other (by simp <;> omega) _, by (repeat (first | with_reducible assumption | with_reducible exact Below.refl _ _ | ((with_reducible refine Below.setCell ?_ ?_ _); rotate_left; focus (first | omega | (simp; done) | (simp; omega))) | ((with_reducible refine Below.alloc ?_ ?_ _); rotate_left; focus (first | omega | (simp; done) | (simp; omega))) | ((with_reducible refine below_setRow ?_ ?_ _); rotate_left; focus (first | omega | (simp; done) | (simp; omega))) | (with_reducible refine below_drewN ?_ _) | (with_reducible refine Below.drew ?_)))⟩, by simp [intOf]; omega⟩
        rw [← wr64_set, HW.out, ← HY.out, ← HX.out, ← HP.out, ← HQ.out]
        rw [show ((movedN y 17 19 10 : Int) + p + movedN x 7 18 3 + q) % 4294967296 = ((movedN y 17 19 10 + p + movedN x 7 18 3 + q) % 4294967296 : Nat) by simp]
        exact (HB.out.drewN _).set k _
      · obtain rfl : k = 64 := by omega
        rw [show (((64 : Nat) : Int)) = 64 from rfl]
        clear h64 h16
        obtain ⟨wo, hwo⟩ : ∃ wo : World, wo = wr := ⟨_, rfl⟩
        subst hwo
        have hsz : w.heap.size + 1 + 1 < wo.heap.size := HB.out.lt
        go_wp2_with fail
        go_loopw [10] (fun i wr => rtRel2 l s w wo i wr) (fun i _ => 8 - (intOf i).toNat)
        case atStart =>
          exact ⟨0, by omega, rfl, Blk.newL wo z64 _, HB.out.alloc _, HH.out.alloc _, HZ.out.alloc _, by (repeat (first | with_reducible assumption | with_reducible exact Below.refl _ _ | ((with_reducible refine Below.setCell ?_ ?_ _); rotate_left; focus (first | omega | (simp; done) | (simp; omega))) | ((with_reducible refine Below.alloc ?_ ?_ _); rotate_left; focus (first | omega | (simp; done) | (simp; omega))) | ((with_reducible refine below_setRow ?_ ?_ _); rotate_left; focus (first | omega | (simp; done) | (simp; omega))) | (with_reducible refine below_drewN ?_ _) | (with_reducible refine Below.drew ?_)))⟩
        case round =>
          clear HB HH HZ hb
          obtain ⟨k, hk, rfl, hS, hB, hH, hZ, hb⟩ := hrel
          have HS := Lib.hid hS
          have HB := Lib.hid hB
          have HH := Lib.hid hH
          have HZ := Lib.hid hZ
          clear hS hB hH hZ
          by_cases h8 : k < 8
          · as_aux_lemma =>
            have c0 : wr.cell? ⟨w.heap.size, k, none⟩ = some (.int .u32 (s.get k)) := HH.out.cell (v32_at _ _ h8)
            have c1 : wr.cell? ⟨wo.heap.size, k, none⟩ = some (.int .u64 0) := HS.out.cell (by rw [v64_at _ _ h8, upto_get _ _ _ h8, if_neg (by omega)]; rfl)
            have f1 : wr.frozen? ⟨wo.heap.size, k, none⟩ = false := HS.out.frozen k
            have g1 := get_lt s HOK.out k
            go_wp2
            refine ⟨⟨k + 1, by omega, by go_num, ?_, HB.out.set_other (by simp <;> omega) _, HH.out.set_other (by simp <;> omega) _, HZ.out.set_other (by simp <;> omega) _, by (repeat (first | with_reducible assumption | with_reducible exact Below.refl _ _ | ((with_reducible refine Below.setCell ?_ ?_ _); rotate_left; focus (first | omega | (simp; done) | (simp; omega))) | ((with_reducible refine Below.alloc ?_ ?_ _); rotate_left; focus (first | omega | (simp; done) | (simp; omega))) | ((with_reducible refine below_setRow ?_ ?_ _); rotate_left; focus (first | omega | (simp; done) | (simp; omega))) | (with_reducible refine below_drewN ?_ _) | (with_reducible refine Below.drew ?_)))⟩, by simp [intOf]; omega⟩
            rw [← upto_set _ _ h8]
            exact HS.out.set k _
          · obtain rfl : k = 8 := by omega
            rw [show (((8 : Nat) : Int)) = 8 from rfl]
            clear h8
            rw [upto_8] at HS
            obtain ⟨w5, hw5⟩ : ∃ w5 : World, w5 = wr := ⟨_, rfl⟩
            subst hw5
            go_wp2_with fail
            go_loopw [11] (fun i wr => rtRel3 l s w wo i wr) (fun i _ => 64 - (intOf i).toNat)
            case atStart =>
              exact ⟨0, by omega, rfl, HS.out, HB.out, HH.out, HZ.out, hb⟩
            case round =>
              clear HS HB HH HZ hb
              obtain ⟨k, hk, rfl, hS, hB, hH, hZ, hb⟩ := hrel
              have HS := Lib.hid hS
              have HB := Lib.hid hB
              have HH := Lib.hid hH
              have HZ := Lib.hid hZ
              clear hS hB hH hZ
              obtain ⟨r, hr⟩ : ∃ r, roundsN l s k = r := ⟨_, rfl⟩
              have hro : r.Ok := by rw [← hr]; exact roundsN_ok l s HOK.out k
              have HR := Lib.hid hr
              rw [hr] at HS
              clear hr
              by_cases h64 : k < 64
              · as_aux_lemma =>
                have hK : wr.cell? ⟨1, k, none⟩ = some (.int .u32 (KN k)) := (hb.cell (p := ⟨_, _, none⟩) HG.out.kblk).trans (HG.out.kat k h64)
                have hW : wr.cell? ⟨w.heap.size + 1 + 1, k, none⟩ = some (.int .u64 (wN l k)) := by rw [HB.out.cell?, wr64_at _ _ _ h64, if_pos h64]
                have c0 : wr.cell? ⟨wo.heap.size, 0, none⟩ = some (.int .u64 r.a) := HS.out.cell rfl
                have c1 : wr.cell? ⟨wo.heap.size, 1, none⟩ = some (.int .u64 r.b) := HS.out.cell rfl
                have c2 : wr.cell? ⟨wo.heap.size, 2, none⟩ = some (.int .u64 r.c) := HS.out.cell rfl
                have c3 : wr.cell? ⟨wo.heap.size, 3, none⟩ = some (.int .u64 r.d) := HS.out.cell rfl
                have c4 : wr.cell? ⟨wo.heap.size, 4, none⟩ = some (.int .u64 r.e) := HS.out.cell rfl
                have c5 : wr.cell? ⟨wo.heap.size, 5, none⟩ = some (.int .u64 r.f) := HS.out.cell rfl
                have c6 : wr.cell? ⟨wo.heap.size, 6, none⟩ = some (.int .u64 r.g) := HS.out.cell rfl
                have c7 : wr.cell? ⟨wo.heap.size, 7, none⟩ = some (.int .u64 r.h) := HS.out.cell rfl
                have ba := hro.a
                have bb := hro.b
                have bc := hro.c
                have bd := hro.d
                have be := hro.e
                have bf := hro.f
                have bg := hro.g
                have bh := hro.h
                have bk := KN_lt k
                have bw := wN_lt l k
                have bt := turnedN_lt r.e 6 11 25 be
                have bu := turnedN_lt r.a 2 13 22 ba
                have bch := chN_lt r hro
                have bmj := majN_lt r hro
                have f1 : bits .and .u64 (r.e : Int) (r.f : Int) = ((r.e &&& r.f : Nat) : Int) := bits64_and _ _ (lt64 be) (lt64 bf)
                have f2 : bits .and .u64 (4294967295 - (r.e : Int)) (r.g : Int) = (((4294967295 ^^^ r.e) &&& r.g : Nat) : Int) := by
                  rw [show 4294967295 - (r.e : Int) = ((4294967295 ^^^ r.e : Nat) : Int) by rw [not_sub _ be]; omega]
                  exact bits64_and _ _ (by rw [not_sub _ be]; omega) (lt64 bg)
                have f3 : bits .xor .u64 ((r.e &&& r.f : Nat) : Int) (((4294967295 ^^^ r.e) &&& r.g : Nat) : Int) = (chN r : Int) :=
                  bits64_xor _ _ (lt64 (Nat.and_lt_two_pow (n := 32) _ bf)) (lt64 (Nat.and_lt_two_pow (n := 32) _ bg))
                have f4 : bits .and .u64 (r.a : Int) (r.b : Int) = ((r.a &&& r.b : Nat) : Int) := bits64_and _ _ (lt64 ba) (lt64 bb)
                have f5 : bits .and .u64 (r.a : Int) (r.c : Int) = ((r.a &&& r.c : Nat) : Int) := bits64_and _ _ (lt64 ba) (lt64 bc)
                have f6 : bits .and .u64 (r.b : Int) (r.c : Int) = ((r.b &&& r.c : Nat) : Int) := bits64_and _ _ (lt64 bb) (lt64 bc)
                have f7 : bits .xor .u64 ((r.a &&& r.b : Nat) : Int) ((r.a &&& r.c : Nat) : Int) = (((r.a &&& r.b) ^^^ (r.a &&& r.c) : Nat) : Int) :=
                  bits64_xor _ _ (lt64 (Nat.and_lt_two_pow (n := 32) _ bb)) (lt64 (Nat.and_lt_two_pow (n := 32) _ bc))
                have f8 : bits .xor .u64 (((r.a &&& r.b) ^^^ (r.a &&& r.c) : Nat) : Int) ((r.b &&& r.c : Nat) : Int) = (majN r : Int) :=
                  bits64_xor _ _ (lt64 (Nat.xor_lt_two_pow (n := 32) (Nat.and_lt_two_pow (n := 32) _ bb) (Nat.and_lt_two_pow (n := 32) _ bc))) (lt64 (Nat.and_lt_two_pow (n := 32) _ bc))
                have f9 : bits .xor .u64 (rrN r.e 6 : Int) (rrN r.e 11 : Int) = ((rrN r.e 6 ^^^ rrN r.e 11 : Nat) : Int) := bits64_xor _ _ (lt64 (rrN_lt _ 6 be)) (lt64 (rrN_lt _ 11 be))
                have f10 : bits .xor .u64 ((rrN r.e 6 ^^^ rrN r.e 11 : Nat) : Int) (rrN r.e 25 : Int) = (turnedN r.e 6 11 25 : Int) := bits64_xor _ _ (lt64 (Nat.xor_lt_two_pow (n := 32) (rrN_lt _ 6 be) (rrN_lt _ 11 be))) (lt64 (rrN_lt _ 25 be))
                have f11 : bits .xor .u64 (rrN r.a 2 : Int) (rrN r.a 13 : Int) = ((rrN r.a 2 ^^^ rrN r.a 13 : Nat) : Int) := bits64_xor _ _ (lt64 (rrN_lt _ 2 ba)) (lt64 (rrN_lt _ 13 ba))
                have f12 : bits .xor .u64 ((rrN r.a 2 ^^^ rrN r.a 13 : Nat) : Int) (rrN r.a 22 : Int) = (turnedN r.a 2 13 22 : Int) := bits64_xor _ _ (lt64 (Nat.xor_lt_two_pow (n := 32) (rrN_lt _ 2 ba) (rrN_lt _ 13 ba))) (lt64 (rrN_lt _ 22 ba))
                go_wp2_with fail
                go_quiet (fail)
                as_aux_lemma =>
                  go_wp2_with fail
                  as_aux_lemma =>
                    go_quiet ((go_at_call 74; exact quiet_add_same (right_any _ _ _ (by omega) (by omega) (by omega))))
                    as_aux_lemma =>
                      have hst := stepN_v64 r (KN k) (wN l k)
                      have HST := Lib.hid hst
                      clear hst
                      have HSD := fun n => Lib.hid (HS.out.drewN n)
                      go_wp2_with (first
                        | (go_at_call 74; refine (right_any _ _ _ (by omega) (by omega) (by omega)).mono ?_; rintro e w' ⟨rfl, rfl⟩)
                        | (show wpList _ _ _ (⟨some 200, _, _, _, _, _⟩ :: _) _ _; refine wpList_buildTo rfl 127 _ rfl (some 200) rfl (stepL r (KN k) (wN l k)).toArray (by simp only [List.map_toArray, List.map_cons, List.map_nil]; exact built_v64 _ _ _ _ _ _ _ _) ?_)
                        | (refine wpList_store_row rfl 127 (.tmp 9) (.tmp 200) rfl wo.heap.size (stepL r (KN k) (wN l k)).toArray rfl rfl 127 r.v64.toArray (by exact (HSD _).out) (stepL_info r (KN k) (wN l k)) ((v64_size r).trans (stepL_size r (KN k) (wN l k)).symm) (stepL_one _ _ _) ?_)
                        | fail)
                      refine ⟨⟨k + 1, by omega, by go_num, ?_, ?_, ?_, ?_, ?_⟩, by simp [intOf]; omega⟩
                      · rw [roundsN, HR.out, ← HST.out]
                        exact (HS.out.drewN _).setRow _
                      · exact (HB.out.drewN _).setRow_other (by simp <;> omega) _
                      · exact (HH.out.drewN _).setRow_other (by simp <;> omega) _
                      · exact (HZ.out.drewN _).setRow_other (by simp <;> omega) _
                      · (repeat (first | with_reducible assumption | with_reducible exact Below.refl _ _ | ((with_reducible refine Below.setCell ?_ ?_ _); rotate_left; focus (first | omega | (simp; done) | (simp; omega))) | ((with_reducible refine Below.alloc ?_ ?_ _); rotate_left; focus (first | omega | (simp; done) | (simp; omega))) | ((with_reducible refine below_setRow ?_ ?_ _); rotate_left; focus (first | omega | (simp; done) | (simp; omega))) | (with_reducible refine below_drewN ?_ _) | (with_reducible refine Below.drew ?_)))
              · obtain rfl : k = 64 := by omega
                rw [show (((64 : Nat) : Int)) = 64 from rfl]
                clear h64
                obtain ⟨w6, hw6⟩ : ∃ w6 : World, w6 = wr := ⟨_, rfl⟩
                subst hw6
                go_wp2_with fail
                go_loopw [18] (fun i wr => rtRel4 l s r w wo i wr) (fun i _ => 8 - (intOf i).toNat)
                case atStart =>
                  exact ⟨0, by omega, rfl, HS.out, HB.out, HH.out, HZ.out, hb⟩
                case round =>
                  clear HS HB HH HZ hb
                  obtain ⟨k, hk, rfl, hS, hB, hH, hZ, hb⟩ := hrel
                  have HS := Lib.hid hS
                  have HB := Lib.hid hB
                  have HH := Lib.hid hH
                  have HZ := Lib.hid hZ
                  clear hS hB hH hZ
                  by_cases h8 : k < 8
                  · as_aux_lemma =>
                    have c0 : wr.cell? ⟨w.heap.size, k, none⟩ = some (.int .u32 (s.get k)) := HH.out.cell (by rw [vals_at _ _ h8, addS_get _ _ _ _ h8]; unfold addGet; rw [if_neg (by omega), get_nat])
                    have c1 : wr.cell? ⟨wo.heap.size, k, none⟩ = some (.int .u64 (r.get k)) := HS.out.cell (v64_at _ _ h8)
                    have f1 : wr.frozen? ⟨w.heap.size, k, none⟩ = false := HH.out.frozen k
                    have g1 := get_lt s HOK.out k
                    have g2 := get_lt r hro k
                    go_wp2_with fail
                    (refine wp_region_quiet_tail 12 (by kernel_rfl) (by kernel_rfl) ?_; simp only [List.take_succ_cons, List.take_zero, List.drop_succ_cons, List.drop_zero]; (repeat (go_big_quiet_step (fail))); refine wpQuiet_nil ?_; intro _ hw'; obtain ⟨nq, hw''⟩ := hw'; subst hw'')
                    go_wp2
                    refine ⟨⟨k + 1, by omega, by go_num, ?_, ?_, ?_, ?_, by (repeat (first | with_reducible assumption | with_reducible exact Below.refl _ _ | ((with_reducible refine Below.setCell ?_ ?_ _); rotate_left; focus (first | omega | (simp; done) | (simp; omega))) | ((with_reducible refine Below.alloc ?_ ?_ _); rotate_left; focus (first | omega | (simp; done) | (simp; omega))) | ((with_reducible refine below_setRow ?_ ?_ _); rotate_left; focus (first | omega | (simp; done) | (simp; omega))) | (with_reducible refine below_drewN ?_ _) | (with_reducible refine Below.drew ?_)))⟩, by simp [intOf]; omega⟩
                    · exact (HS.out.drewN nq).set_other (by simp <;> omega) _
                    · exact (HB.out.drewN nq).set_other (by simp <;> omega) _
                    · rw [← addS_set _ _ _ h8, get_nat, get_nat]
                      exact (HH.out.drewN nq).set k _
                    · exact (HZ.out.drewN nq).set_other (by simp <;> omega) _
                  · obtain rfl : k = 8 := by omega
                    clear h8
                    go_wp2_with (first
                      | (refine wpList_load_row rfl 95 (.tmp 2) rfl w.heap.size rfl 95 (addS s.cast r.cast 8).vals.toArray (0, 0) _ (by exact HH.out) Tryd.underlying95 rfl (vals_info _) ?_)
                      | (refine wpList_store_row rfl 95 (.tmp 4) (.tmp 217) rfl (w.heap.size + 1) (addS s.cast r.cast 8).vals.toArray rfl rfl 95 zvals.toArray (by exact HZ.out) (vals_info _) rfl (vals_one _) ?_))
                    exact bodyPost_ret (v := .agg (addS s.cast r.cast 8).vals.toArray) (results_cell_row rfl _ _ (w.heap.size + 1) 95 _ (0, 0) _ rfl (HZ.out.setRow _) Tryd.underlying95 rfl (vals_info _)) rfl ⟨by rw [addS_8, add_nat]; unfold turnN N8.v32; rw [HR.out], by (repeat (first | with_reducible assumption | with_reducible exact Below.refl _ _ | ((with_reducible refine Below.setCell ?_ ?_ _); rotate_left; focus (first | omega | (simp; done) | (simp; omega))) | ((with_reducible refine Below.alloc ?_ ?_ _); rotate_left; focus (first | omega | (simp; done) | (simp; omega))) | ((with_reducible refine below_setRow ?_ ?_ _); rotate_left; focus (first | omega | (simp; done) | (simp; omega))) | (with_reducible refine below_drewN ?_ _) | (with_reducible refine Below.drew ?_)))⟩
end Go.Proofs.YtldokkbfahobgaaDoor
