/- Plain arithmetic: what sha.Sum's walk computes, in natural numbers; the digests of the document's examples. No condition. -/
import Derived.Test.YtkfplliipogagaaDoorShaH
namespace Go.Proofs.YtkfplliipogagaaDoor
open Go.RowKit

theorem ofInt_nat (n x : Nat) : BitVec.ofInt n (x : Int) = BitVec.ofNat n x := by
  apply BitVec.eq_of_toNat_eq
  simp
theorem wrap_u32_nat (x : Nat) : IntKind.u32.wrap (x : Int) = ((x % 4294967296 : Nat) : Int) := by
  simp [IntKind.wrap, IntKind.bits, IntKind.signed]
theorem bits_or (x y : Nat) (hx : x < 4294967296) (hy : y < 4294967296) : bits .or .u32 (x : Int) (y : Int) = ((x ||| y : Nat) : Int) := by
  have h := Nat.or_lt_two_pow (n := 32) hx hy
  simp only [bits, ofInt_nat]
  rw [wrap_u32_nat]
  congr 1
  show (BitVec.ofNat 32 x ||| BitVec.ofNat 32 y).toNat % 4294967296 = _
  rw [BitVec.toNat_or, BitVec.toNat_ofNat, BitVec.toNat_ofNat]
  rw [Nat.mod_eq_of_lt hx, Nat.mod_eq_of_lt hy, Nat.mod_eq_of_lt h]
theorem bits_and (x y : Nat) (hx : x < 4294967296) (hy : y < 4294967296) : bits .and .u32 (x : Int) (y : Int) = ((x &&& y : Nat) : Int) := by
  have h := Nat.and_lt_two_pow (n := 32) x hy
  simp only [bits, ofInt_nat]
  rw [wrap_u32_nat]
  congr 1
  show (BitVec.ofNat 32 x &&& BitVec.ofNat 32 y).toNat % 4294967296 = _
  rw [BitVec.toNat_and, BitVec.toNat_ofNat, BitVec.toNat_ofNat]
  rw [Nat.mod_eq_of_lt hx, Nat.mod_eq_of_lt hy, Nat.mod_eq_of_lt h]
theorem bits_xor (x y : Nat) (hx : x < 4294967296) (hy : y < 4294967296) : bits .xor .u32 (x : Int) (y : Int) = ((x ^^^ y : Nat) : Int) := by
  have h := Nat.xor_lt_two_pow (n := 32) hx hy
  simp only [bits, ofInt_nat]
  rw [wrap_u32_nat]
  congr 1
  show (BitVec.ofNat 32 x ^^^ BitVec.ofNat 32 y).toNat % 4294967296 = _
  rw [BitVec.toNat_xor, BitVec.toNat_ofNat, BitVec.toNat_ofNat]
  rw [Nat.mod_eq_of_lt hx, Nat.mod_eq_of_lt hy, Nat.mod_eq_of_lt h]

theorem wrap_u64_nat (x : Nat) : IntKind.u64.wrap (x : Int) = ((x % 18446744073709551616 : Nat) : Int) := by
  simp [IntKind.wrap, IntKind.bits, IntKind.signed]
theorem bits64_or (x y : Nat) (hx : x < 18446744073709551616) (hy : y < 18446744073709551616) : bits .or .u64 (x : Int) (y : Int) = ((x ||| y : Nat) : Int) := by
  have h := Nat.or_lt_two_pow (n := 64) hx hy
  simp only [bits, ofInt_nat]
  rw [wrap_u64_nat]
  congr 1
  show (BitVec.ofNat 64 x ||| BitVec.ofNat 64 y).toNat % 18446744073709551616 = _
  rw [BitVec.toNat_or, BitVec.toNat_ofNat, BitVec.toNat_ofNat]
  rw [Nat.mod_eq_of_lt hx, Nat.mod_eq_of_lt hy, Nat.mod_eq_of_lt h]
theorem bits64_and (x y : Nat) (hx : x < 18446744073709551616) (hy : y < 18446744073709551616) : bits .and .u64 (x : Int) (y : Int) = ((x &&& y : Nat) : Int) := by
  have h := Nat.and_lt_two_pow (n := 64) x hy
  simp only [bits, ofInt_nat]
  rw [wrap_u64_nat]
  congr 1
  show (BitVec.ofNat 64 x &&& BitVec.ofNat 64 y).toNat % 18446744073709551616 = _
  rw [BitVec.toNat_and, BitVec.toNat_ofNat, BitVec.toNat_ofNat]
  rw [Nat.mod_eq_of_lt hx, Nat.mod_eq_of_lt hy, Nat.mod_eq_of_lt h]
theorem bits64_xor (x y : Nat) (hx : x < 18446744073709551616) (hy : y < 18446744073709551616) : bits .xor .u64 (x : Int) (y : Int) = ((x ^^^ y : Nat) : Int) := by
  have h := Nat.xor_lt_two_pow (n := 64) hx hy
  simp only [bits, ofInt_nat]
  rw [wrap_u64_nat]
  congr 1
  show (BitVec.ofNat 64 x ^^^ BitVec.ofNat 64 y).toNat % 18446744073709551616 = _
  rw [BitVec.toNat_xor, BitVec.toNat_ofNat, BitVec.toNat_ofNat]
  rw [Nat.mod_eq_of_lt hx, Nat.mod_eq_of_lt hy, Nat.mod_eq_of_lt h]

def rrN (x a : Nat) : Nat := (x * 2 ^ (32 - a) % 4294967296) ||| (x / 2 ^ a)
theorem rrN_lt (x a : Nat) (hx : x < 4294967296) : rrN x a < 4294967296 :=
  Nat.or_lt_two_pow (n := 32) (Nat.mod_lt _ (by decide)) (Nat.lt_of_le_of_lt (Nat.div_le_self _ _) hx)
theorem rr_nat (x a : Nat) (hx : x < 4294967296) : rr (x : Int) a = (rrN x a : Int) := by
  unfold rr rrN
  have e1 : (x : Int) * 2 ^ (32 - a) % 4294967296 = ((x * 2 ^ (32 - a) % 4294967296 : Nat) : Int) := by simp
  have e2 : (x : Int) / 2 ^ a = ((x / 2 ^ a : Nat) : Int) := by simp
  rw [e1, e2, bits_or _ _ (Nat.mod_lt _ (by decide)) (Nat.lt_of_le_of_lt (Nat.div_le_self _ _) hx)]
def turnedN (x a b c : Nat) : Nat := rrN x a ^^^ rrN x b ^^^ rrN x c
def movedN (x a b c : Nat) : Nat := rrN x a ^^^ rrN x b ^^^ (x / 2 ^ c)
theorem turnedN_lt (x a b c : Nat) (hx : x < 4294967296) : turnedN x a b c < 4294967296 :=
  Nat.xor_lt_two_pow (n := 32) (Nat.xor_lt_two_pow (n := 32) (rrN_lt x a hx) (rrN_lt x b hx)) (rrN_lt x c hx)
theorem turned_nat (x a b c : Nat) (hx : x < 4294967296) : turnedI (x : Int) a b c = (turnedN x a b c : Int) := by
  unfold turnedI turnedN
  rw [rr_nat _ _ hx, rr_nat _ _ hx, rr_nat _ _ hx, bits_xor _ _ (rrN_lt x a hx) (rrN_lt x b hx), bits_xor _ _ (Nat.xor_lt_two_pow (n := 32) (rrN_lt x a hx) (rrN_lt x b hx)) (rrN_lt x c hx)]
theorem moved_nat (x a b c : Nat) (hx : x < 4294967296) : movedI (x : Int) a b c = (movedN x a b c : Int) := by
  unfold movedI movedN
  have e2 : (x : Int) / 2 ^ c = ((x / 2 ^ c : Nat) : Int) := by simp
  rw [rr_nat _ _ hx, rr_nat _ _ hx, e2, bits_xor _ _ (rrN_lt x a hx) (rrN_lt x b hx), bits_xor _ _ (Nat.xor_lt_two_pow (n := 32) (rrN_lt x a hx) (rrN_lt x b hx)) (Nat.lt_of_le_of_lt (Nat.div_le_self _ _) hx)]

theorem not_sub (e : Nat) (h : e < 4294967296) : 4294967295 ^^^ e = 4294967295 - e := by
  have := BitVec.toNat_not (x := BitVec.ofNat 32 e)
  have h2 : (~~~ BitVec.ofNat 32 e) = BitVec.allOnes 32 ^^^ BitVec.ofNat 32 e := by
    rw [BitVec.allOnes_xor]
  rw [h2, BitVec.toNat_xor, BitVec.toNat_allOnes, BitVec.toNat_ofNat, Nat.mod_eq_of_lt h] at this
  exact this
theorem right_nat (x a : Nat) (hx : x < 4294967296) (ha : a ≤ 31) :
    (bits .or .u64 ((x : Int) / 2 ^ a) (IntKind.u64.wrap ((x : Int) * 2 ^ (32 - a)))).tmod 4294967296 = (rrN x a : Int) := by
  have hp : 2 ^ (32 - a) ≤ 2 ^ 32 := Nat.pow_le_pow_right (by decide) (by omega)
  have hm : x * 2 ^ (32 - a) < 18446744073709551616 := by
    have := Nat.mul_le_mul (Nat.le_of_lt_succ (Nat.lt_of_lt_of_le hx (by decide : 4294967296 ≤ 4294967295 + 1))) hp
    omega
  have e1 : (x : Int) * 2 ^ (32 - a) = ((x * 2 ^ (32 - a) : Nat) : Int) := by simp
  have e2 : (x : Int) / 2 ^ a = ((x / 2 ^ a : Nat) : Int) := by simp
  have hd : x / 2 ^ a < 4294967296 := Nat.lt_of_le_of_lt (Nat.div_le_self _ _) hx
  rw [e1, e2, wrap_u64_nat, Nat.mod_eq_of_lt hm, bits64_or _ _ (by omega) hm]
  rw [Int.tmod_eq_emod_of_nonneg (by omega)]
  have : ((x / 2 ^ a ||| x * 2 ^ (32 - a)) % 2 ^ 32 : Nat) = rrN x a := by
    rw [Nat.or_mod_two_pow, Nat.mod_eq_of_lt (show x / 2 ^ a < 2 ^ 32 from hd), Nat.or_comm]
    rfl
  rw [← this]
  simp

def byteN (l : List UInt8) (i : Nat) : Nat := (l[i]?.getD 0).toNat
theorem byteN_lt (l : List UInt8) (i : Nat) : byteN l i < 256 := by unfold byteN; have := (l[i]?.getD 0).toNat_lt; omega
def wordN (l : List UInt8) (t : Nat) : Nat := byteN l (4 * t) * 16777216 ||| byteN l (4 * t + 1) * 65536 ||| byteN l (4 * t + 2) * 256 ||| byteN l (4 * t + 3)
theorem wordN_lt (l : List UInt8) (t : Nat) : wordN l t < 4294967296 := by
  have h0 := byteN_lt l (4 * t)
  have h1 := byteN_lt l (4 * t + 1)
  have h2 := byteN_lt l (4 * t + 2)
  have h3 := byteN_lt l (4 * t + 3)
  exact Nat.or_lt_two_pow (n := 32) (Nat.or_lt_two_pow (n := 32) (Nat.or_lt_two_pow (n := 32) (by omega) (by omega)) (by omega)) (by omega)
theorem word_nat (l : List UInt8) (t : Nat) : wordI l t = (wordN l t : Int) := by
  have h0 := byteN_lt l (4 * t)
  have h1 := byteN_lt l (4 * t + 1)
  have h2 := byteN_lt l (4 * t + 2)
  have h3 := byteN_lt l (4 * t + 3)
  unfold wordI wordN
  have e : ∀ i, byteI l i = (byteN l i : Int) := fun _ => rfl
  rw [e, e, e, e]
  rw [show (byteN l (4 * t) : Int) * 16777216 = ((byteN l (4 * t) * 16777216 : Nat) : Int) by omega, show (byteN l (4 * t + 1) : Int) * 65536 = ((byteN l (4 * t + 1) * 65536 : Nat) : Int) by omega, show (byteN l (4 * t + 2) : Int) * 256 = ((byteN l (4 * t + 2) * 256 : Nat) : Int) by omega]
  have g1 := Nat.or_lt_two_pow (n := 32) (x := byteN l (4 * t) * 16777216) (y := byteN l (4 * t + 1) * 65536) (by omega) (by omega)
  have g2 := Nat.or_lt_two_pow (n := 32) (y := byteN l (4 * t + 2) * 256) g1 (by omega)
  rw [bits_or _ _ (by omega) (by omega), bits_or _ _ g1 (by omega), bits_or _ _ g2 (by omega)]
theorem or_sum (a b k : Nat) (h : b < 2 ^ k) : a * 2 ^ k ||| b = a * 2 ^ k + b := by
  have := Nat.shiftLeft_add_eq_or_of_lt h a
  rw [Nat.shiftLeft_eq] at this
  exact this.symm
theorem wordN_sum (l : List UInt8) (t : Nat) : wordN l t = ((byteN l (4 * t) * 256 + byteN l (4 * t + 1)) * 256 + byteN l (4 * t + 2)) * 256 + byteN l (4 * t + 3) := by
  have h0 := byteN_lt l (4 * t)
  have h1 := byteN_lt l (4 * t + 1)
  have h2 := byteN_lt l (4 * t + 2)
  have h3 := byteN_lt l (4 * t + 3)
  unfold wordN
  generalize byteN l (4 * t) = a at *
  generalize byteN l (4 * t + 1) = b at *
  generalize byteN l (4 * t + 2) = c at *
  generalize byteN l (4 * t + 3) = d at *
  have e1 := or_sum a (b * 65536) 24 (by omega)
  rw [show a * 2 ^ 24 = a * 16777216 by omega] at e1
  have e2 := or_sum (a * 256 + b) (c * 256) 16 (by omega)
  rw [show (a * 256 + b) * 2 ^ 16 = a * 16777216 + b * 65536 by omega] at e2
  have e3 := or_sum (a * 65536 + b * 256 + c) d 8 (by omega)
  rw [show (a * 65536 + b * 256 + c) * 2 ^ 8 = a * 16777216 + b * 65536 + c * 256 by omega] at e3
  rw [e1, e2, e3]
  omega
/-- The first k numbers of the rounds, the newest first. -/
def wlN (l : List UInt8) : Nat → List Nat
  | 0 => []
  | k + 1 => (if k < 16 then wordN l k else (movedN ((wlN l k)[1]?.getD 0) 17 19 10 + (wlN l k)[6]?.getD 0 + movedN ((wlN l k)[14]?.getD 0) 7 18 3 + (wlN l k)[15]?.getD 0) % 4294967296) :: wlN l k
def wN (l : List UInt8) (t : Nat) : Nat := (wlN l (t + 1)).headD 0
theorem wlN_len (l : List UInt8) (k : Nat) : (wlN l k).length = k := by
  induction k with
  | zero => rfl
  | succ k ih => rw [wlN, List.length_cons, ih]
theorem wlN_at (l : List UInt8) (k j : Nat) (h : j < k) : (wlN l k)[j]?.getD 0 = wN l (k - 1 - j) := by
  induction k generalizing j with
  | zero => omega
  | succ k ih =>
    cases j with
    | zero => rw [wN, show k + 1 - 1 - 0 + 1 = k + 1 by omega, wlN, List.headD_cons, List.getElem?_cons_zero, Option.getD_some]
    | succ j =>
      rw [wlN, List.getElem?_cons_succ, ih j (by omega), show k + 1 - 1 - (j + 1) = k - 1 - j by omega]
theorem wN_lo (l : List UInt8) (t : Nat) (h : t < 16) : wN l t = wordN l t := by
  rw [wN, wlN, if_pos h, List.headD_cons]
theorem wN_hi (l : List UInt8) (t : Nat) (h : ¬ t < 16) : wN l t = (movedN (wN l (t - 2)) 17 19 10 + wN l (t - 7) + movedN (wN l (t - 15)) 7 18 3 + wN l (t - 16)) % 4294967296 := by
  rw [wN, wlN, if_neg h, List.headD_cons, wlN_at _ _ _ (by omega), wlN_at _ _ _ (by omega), wlN_at _ _ _ (by omega), wlN_at _ _ _ (by omega)]
  rw [show t - 1 - 1 = t - 2 by omega, show t - 1 - 6 = t - 7 by omega, show t - 1 - 14 = t - 15 by omega, show t - 1 - 15 = t - 16 by omega]
theorem wN_lt (l : List UInt8) (t : Nat) : wN l t < 4294967296 := by
  by_cases h : t < 16
  · rw [wN_lo l t h]; exact wordN_lt l t
  · rw [wN_hi l t h]; exact Nat.mod_lt _ (by decide)
theorem w_nat (l : List UInt8) (t : Nat) : wI l t = (wN l t : Int) := by
  induction t using Nat.strongRecOn with
  | _ t ih =>
    by_cases h : t < 16
    · rw [wI_lo l t h, wN_lo l t h, word_nat]
    · rw [wI_hi l t h, wN_hi l t h, ih (t - 2) (by omega), ih (t - 7) (by omega), ih (t - 15) (by omega), ih (t - 16) (by omega), moved_nat _ _ _ _ (wN_lt _ _), moved_nat _ _ _ _ (wN_lt _ _)]
      simp

structure N8 where
  a : Nat
  b : Nat
  c : Nat
  d : Nat
  e : Nat
  f : Nat
  g : Nat
  h : Nat
def N8.cast (s : N8) : S8 := ⟨s.a, s.b, s.c, s.d, s.e, s.f, s.g, s.h⟩
structure N8.Ok (s : N8) : Prop where
  a : s.a < 4294967296
  b : s.b < 4294967296
  c : s.c < 4294967296
  d : s.d < 4294967296
  e : s.e < 4294967296
  f : s.f < 4294967296
  g : s.g < 4294967296
  h : s.h < 4294967296
def oneN (s : N8) (k w : Nat) : Nat := s.h + turnedN s.e 6 11 25 + ((s.e &&& s.f) ^^^ ((4294967295 ^^^ s.e) &&& s.g)) + k + w
def twoN (s : N8) : Nat := turnedN s.a 2 13 22 + ((s.a &&& s.b) ^^^ (s.a &&& s.c) ^^^ (s.b &&& s.c))
def stepN (s : N8) (k w : Nat) : N8 := ⟨(oneN s k w + twoN s) % 4294967296, s.a, s.b, s.c, (s.d + oneN s k w) % 4294967296, s.e, s.f, s.g⟩
theorem mod_lt32 (x : Nat) : x % 4294967296 < 4294967296 := Nat.mod_lt _ (by decide)
theorem stepN_ok (s : N8) (k w : Nat) (h : s.Ok) : (stepN s k w).Ok := ⟨mod_lt32 _, h.a, h.b, h.c, mod_lt32 _, h.e, h.f, h.g⟩
theorem one_nat (s : N8) (k w : Nat) (h : s.Ok) : oneI s.cast (k : Int) (w : Int) = (oneN s k w : Int) := by
  unfold oneI oneN N8.cast
  have hm : IntKind.u32.max = ((4294967295 : Nat) : Int) := by decide
  have hx : 4294967295 ^^^ s.e < 4294967296 := Nat.xor_lt_two_pow (n := 32) (by decide) h.e
  rw [hm, turned_nat _ _ _ _ h.e, bits_xor _ _ (by decide) h.e, bits_and _ _ h.e h.f, bits_and _ _ hx h.g, bits_xor _ _ (Nat.and_lt_two_pow (n := 32) _ h.f) (Nat.and_lt_two_pow (n := 32) _ h.g)]
  simp
theorem two_nat (s : N8) (h : s.Ok) : twoI s.cast = (twoN s : Int) := by
  unfold twoI twoN N8.cast
  rw [turned_nat _ _ _ _ h.a, bits_and _ _ h.a h.b, bits_and _ _ h.a h.c, bits_and _ _ h.b h.c, bits_xor _ _ (Nat.and_lt_two_pow (n := 32) _ h.b) (Nat.and_lt_two_pow (n := 32) _ h.c), bits_xor _ _ (Nat.xor_lt_two_pow (n := 32) (Nat.and_lt_two_pow (n := 32) _ h.b) (Nat.and_lt_two_pow (n := 32) _ h.c)) (Nat.and_lt_two_pow (n := 32) _ h.c)]
  simp
theorem step_nat (s : N8) (k w : Nat) (h : s.Ok) : stepI s.cast (k : Int) (w : Int) = (stepN s k w).cast := by
  unfold stepI
  rw [one_nat s k w h, two_nat s h]
  simp [stepN, N8.cast]
def KN (t : Nat) : Nat := Ktab[t]?.getD 0
def roundsN (l : List UInt8) (s : N8) : Nat → N8
  | 0 => s
  | t + 1 => stepN (roundsN l s t) (KN t) (wN l t)
theorem roundsN_ok (l : List UInt8) (s : N8) (h : s.Ok) (t : Nat) : (roundsN l s t).Ok := by
  induction t with
  | zero => exact h
  | succ t ih => exact stepN_ok _ _ _ ih
theorem rounds_nat (l : List UInt8) (s : N8) (h : s.Ok) (t : Nat) : roundsI l s.cast t = (roundsN l s t).cast := by
  induction t with
  | zero => rfl
  | succ t ih => rw [roundsI, roundsN, ih, w_nat, show KI t = (KN t : Int) from rfl, step_nat _ _ _ (roundsN_ok l s h t)]
def addN (s t : N8) : N8 := ⟨(s.a + t.a) % 4294967296, (s.b + t.b) % 4294967296, (s.c + t.c) % 4294967296, (s.d + t.d) % 4294967296, (s.e + t.e) % 4294967296, (s.f + t.f) % 4294967296, (s.g + t.g) % 4294967296, (s.h + t.h) % 4294967296⟩
theorem add_nat (s t : N8) : addI s.cast t.cast = (addN s t).cast := by simp [addI, addN, N8.cast]
theorem addN_ok (s t : N8) : (addN s t).Ok := ⟨mod_lt32 _, mod_lt32 _, mod_lt32 _, mod_lt32 _, mod_lt32 _, mod_lt32 _, mod_lt32 _, mod_lt32 _⟩
def turnN (s : N8) (l : List UInt8) : N8 := addN s (roundsN l s 64)
theorem turn_nat (s : N8) (l : List UInt8) (h : s.Ok) : turnI s.cast l = (turnN s l).cast := by
  unfold turnI turnN
  rw [rounds_nat l s h, add_nat]
def F0N : N8 := ⟨1779033703, 3144134277, 1013904242, 2773480762, 1359893119, 2600822924, 528734635, 1541459225⟩
theorem F0_nat : F0 = F0N.cast := rfl
theorem F0_ok : F0N.Ok := by constructor <;> decide
def stateN (p : List UInt8) : Nat → N8
  | 0 => F0N
  | i + 1 => turnN (stateN p i) (blk p i)
theorem stateN_ok (p : List UInt8) (i : Nat) : (stateN p i).Ok := by
  cases i with
  | zero => exact F0_ok
  | succ i => exact addN_ok _ _
theorem state_nat (p : List UInt8) (i : Nat) : stateI p i = (stateN p i).cast := by
  induction i with
  | zero => exact F0_nat
  | succ i ih => rw [stateI, stateN, ih, turn_nat _ _ (stateN_ok p i)]
def N8.get (s : N8) (j : Nat) : Nat :=
  match j with
  | 0 => s.a
  | 1 => s.b
  | 2 => s.c
  | 3 => s.d
  | 4 => s.e
  | 5 => s.f
  | 6 => s.g
  | _ => s.h
theorem get_nat (s : N8) (j : Nat) : s.cast.get j = (s.get j : Int) := by
  match j with
  | 0 => rfl
  | 1 => rfl
  | 2 => rfl
  | 3 => rfl
  | 4 => rfl
  | 5 => rfl
  | 6 => rfl
  | j + 7 => rfl
def digBN (s : N8) (i : Nat) : UInt8 := UInt8.ofNat (s.get (i / 4) / 2 ^ (24 - 8 * (i % 4)))
theorem digB_nat (s : N8) (i : Nat) : digB s.cast i = digBN s i := by
  apply UInt8.toNat_inj.1
  have h := digB_val s.cast i
  rw [get_nat] at h
  unfold digBN
  rw [UInt8.toNat_ofNat']
  have e2 : (s.get (i / 4) : Int) / 2 ^ (24 - 8 * (i % 4)) = ((s.get (i / 4) / 2 ^ (24 - 8 * (i % 4)) : Nat) : Int) := by simp
  rw [e2] at h
  omega
def sumN (t : List UInt8) : List UInt8 := (List.range 32).map (digBN (stateN (padded t) ((padded t).length / 64)))
theorem sumN_len (t : List UInt8) : (sumN t).length = 32 := by simp [sumN]
theorem sum_nat (t : List UInt8) : sumI t = sumN t := by
  unfold sumI sumN digest
  rw [state_nat]
  exact List.map_congr_left fun i _ => digB_nat _ i

theorem hex_abc : hexP (sumN [97, 98, 99]) = [98, 97, 55, 56, 49, 54, 98, 102, 56, 102, 48, 49, 99, 102, 101, 97, 52, 49, 52, 49, 52, 48, 100, 101, 53, 100, 97, 101, 50, 50, 50, 51, 98, 48, 48, 51, 54, 49, 97, 51, 57, 54, 49, 55, 55, 97, 57, 99, 98, 52, 49, 48, 102, 102, 54, 49, 102, 50, 48, 48, 49, 53, 97, 100] := by
  decide +kernel
end Go.Proofs.YtkfplliipogagaaDoor
