/- The walks of mac.row, and of mac.Of's and mac.Key's closures. Conditions: a number of 64 bits, at most 1000 bytes asked for. -/
import Derived.Test.YtjjoiefngoghpaaDoorMacC
namespace Go.Proofs.YtjjoiefngoghpaaDoor
open Go.RowKit

/-- A number's low bytes, so many, the highest first. -/
def rowN (n many : Nat) : List UInt8 := (List.range many).map fun t => UInt8.ofNat (n / 256 ^ (many - 1 - t))
theorem rowN_len (n many : Nat) : (rowN n many).length = many := by simp [rowN]
def rowP (n many j : Nat) : List UInt8 := (List.range many).map fun t => if many - j ≤ t then UInt8.ofNat (n / 256 ^ (many - 1 - t)) else 0
theorem rowP_len (n many j : Nat) : (rowP n many j).length = many := by simp [rowP]
theorem rowP_at (n many j t : Nat) (h : t < many) : (rowP n many j)[t]? = some (if many - j ≤ t then UInt8.ofNat (n / 256 ^ (many - 1 - t)) else 0) := by simp [rowP, h]
theorem rowP_0 (n many : Nat) : rowP n many 0 = zerosB many := by
  apply List.ext_getElem?
  intro i
  by_cases h : i < many
  · rw [rowP_at _ _ _ _ h, if_neg (by omega)]
    simp [zerosB, h]
  · rw [List.getElem?_eq_none (by rw [rowP_len]; omega), List.getElem?_eq_none (by rw [zerosB_len]; omega)]
theorem rowP_all (n many : Nat) : rowP n many many = rowN n many := by
  unfold rowP rowN
  refine List.map_congr_left fun t _ => ?_
  rw [if_pos (by omega)]
theorem rowP_set (n many j : Nat) (h : j < many) : (bytesV (rowP n many j)).set (many - 1 - j) (.int .u8 ((UInt8.ofNat (n / 256 ^ j)).toNat : Int)) = bytesV (rowP n many (j + 1)) := by
  have : (rowP n many j).set (many - 1 - j) (UInt8.ofNat (n / 256 ^ j)) = rowP n many (j + 1) := by
    apply List.ext_getElem?
    intro i
    by_cases hi : i < many
    · rw [List.getElem?_set, rowP_len, rowP_at _ _ _ _ hi, rowP_at _ _ _ _ hi]
      by_cases hk : many - 1 - j = i
      · rw [if_pos hk, if_pos (by omega), if_pos (by omega), show many - 1 - i = j by omega]
      · rw [if_neg hk]
        by_cases h2 : many - j ≤ i
        · rw [if_pos h2, if_pos (by omega)]
        · rw [if_neg h2, if_neg (by omega)]
    · rw [List.getElem?_eq_none (by rw [List.length_set, rowP_len]; omega), List.getElem?_eq_none (by rw [rowP_len]; omega)]
  rw [← this]
  unfold bytesV
  rw [List.map_set]

set_option maxRecDepth 100000 in
set_option maxHeartbeats 400000 in
theorem row_any (n many : Nat) (w : World) (hn : n < 18446744073709551616) (hm : many ≤ 1000) :
    Calls Tryd.prog 47 #[.int .u64 n, .int .i64 many] w fun e w' => (∃ v', e = .returned v' ∧ Bytes w' v' (rowN n many)) ∧ Below w.heap.size w w' := by
  have hmk := fun w => make_bytes many (by omega) w
  go_enter Tryd.func47, Tryd.ntmps47
  go_wp2_with fail
  go_loopw [0, 11] (fun x i wr => ∃ j m : Nat, j ≤ many ∧ m = n / 256 ^ j ∧ m < 18446744073709551616 ∧ x = .int .u64 m ∧ i = .int .i64 j ∧ Blk wr w.heap.size (bytesV (rowP n many j)) 5 ∧ Below w.heap.size w wr) (fun _ i _ => many - (intOf i).toNat)
  case atStart => exact ⟨0, n, by omega, by simp, hn, rfl, rfl, by rw [rowP_0]; exact Blk.newL w _ _, by (repeat (first | with_reducible assumption | with_reducible exact Below.refl _ _ | ((with_reducible refine Below.setCell ?_ ?_ _); rotate_left; focus (first | omega | (simp; done) | (simp; omega))) | ((with_reducible refine Below.alloc ?_ ?_ _); rotate_left; focus (first | omega | (simp; done) | (simp; omega))) | ((with_reducible refine below_setRow ?_ ?_ _); rotate_left; focus (first | omega | (simp; done) | (simp; omega))) | (with_reducible refine below_drewN ?_ _) | (with_reducible refine Below.drew ?_)))⟩
  case round =>
    clear hmk
    obtain ⟨j, m, hj, hme, hm64, rfl, rfl, hB, hb⟩ := hrel
    have HB := Lib.hid hB
    have HME := Lib.hid hme
    clear hB hme
    by_cases hjm : j < many
    · have c0 : wr.cell? ⟨w.heap.size, many - 1 - j, none⟩ = some (.int .u8 0) := HB.out.cell (by
        have := bytesV_at (rowP n many j) (many - 1 - j) 0 (by rw [rowP_at _ _ _ _ (by omega), if_neg (by omega)])
        simpa using this)
      have f0 : wr.frozen? ⟨w.heap.size, many - 1 - j, none⟩ = false := HB.out.frozen _
      have hix : (((many : Int) - 1 - j).toNat) = many - 1 - j := by omega
      go_wp2_with fail
      refine ⟨⟨j + 1, m / 256, by omega, ?_, by omega, by congr 1, by go_num, ?_, hb.setCell (by simp) _⟩, by simp [intOf]; omega⟩
      · rw [HME.out, Nat.div_div_eq_div_mul, Nat.pow_succ]
      · rw [← rowP_set _ _ _ hjm, ← HME.out]
        have e : ((UInt8.ofNat m).toNat : Int) = (m : Int) % 256 := by rw [UInt8.toNat_ofNat']; omega
        rw [e]
        exact HB.out.set _ _
    · obtain rfl : j = many := by omega
      go_wp2_with fail
      go_ret
      refine ⟨⟨_, rfl, ?_⟩, hb⟩
      have h1 : wr.rangeAt w.heap.size 0 (bytesV (rowN n j)) := fun i u hi => by
        rw [Nat.zero_add]
        rw [← rowP_all] at hi
        exact HB.out.cell hi
      have := IsSl.of_range (n := j) (cap := j) (size := 1) (by rw [bytesV_len, rowN_len, Nat.mul_one]) (bytesV_one _) (Nat.le_refl _) h1
      unfold Bytes
      rw [rowN_len]
      exact this

/-- A number, as 64 bits without a sign. -/
def u64N (n : Int) : Nat := (n % 18446744073709551616).toNat
theorem u64N_lt (n : Int) : u64N n < 18446744073709551616 := by unfold u64N; omega
theorem u64N_nat (n : Nat) (h : n < 18446744073709551616) : u64N (n : Int) = n := by unfold u64N; omega
theorem u64_wrap (n : Int) : IntKind.u64.wrap n = (u64N n : Int) := by
  unfold u64N
  simp [IntKind.wrap, IntKind.bits, IntKind.signed]
  omega
/-- What mac.Of makes of a part. -/
def partN (l : List UInt8) : List UInt8 := rowN l.length 4 ++ l
theorem partN_len (l : List UInt8) : (partN l).length = 4 + l.length := by rw [partN, List.length_append, rowN_len]

set_option maxRecDepth 100000 in
set_option maxHeartbeats 400000 in
theorem of1_any (v : Value) (l : List UInt8) (w : World) (hl : Bytes w v l) (hlen : l.length ≤ 35184372088832) :
    Calls Tryd.prog 46 #[v] w fun e w' => (∃ v', e = .returned v' ∧ Bytes w' v' (partN l)) ∧ Below w.heap.size w w' := by
  obtain ⟨xa, ca, rfl, _⟩ := hl.form
  have HL := Lib.hid hl
  clear hl
  go_enter Tryd.func46, Tryd.ntmps46
  go_wp2_with fail
  refine (row_any l.length 4 w (by omega) (by omega)).mono ?_
  rintro e w2 ⟨⟨v2, rfl, hv2⟩, hb2⟩
  obtain ⟨x2, c2, e2, _⟩ := hv2.form
  rw [rowN_len] at e2
  subst e2
  have HL2 := Lib.hid (HL.out.below hb2)
  have HV2 := Lib.hid hv2
  clear hv2
  go_wp2_with fail
  have hb3 : Below w2.heap.size w2 (w2.alloc (.cells #[.slice x2 4 c2, .slice xa l.length ca] 24)) := (Below.refl _ _).alloc (Nat.le_refl _) _
  refine (concat_any _ [rowN l.length 4, l] [.slice x2 4 c2, .slice xa l.length ca] _ ((Texts.cons HV2.out (.cons HL2.out .nil)).parts 24 rfl) (by simp [cat, rowN_len]; omega) (by show 2 ≤ _; decide)).mono ?_
  rintro e w4 ⟨⟨a4, cap4, rfl, hown⟩, hb4⟩
  rw [show cat [rowN l.length 4, l] = partN l by simp [cat, partN]] at hown ⊢
  have hB := hb2.trans ((hb3.trans (hb4.mono hb3.size)).mono hb2.size)
  have hv4 := ownsRow_isSl hown (bytesV_one _)
  have HV4 := Lib.hid hv4
  clear hown hv4 hb2 hb3 hb4
  go_wp2_with fail
  go_ret
  refine ⟨⟨_, rfl, ?_⟩, hB⟩
  exact HV4.out

set_option maxRecDepth 100000 in
set_option maxHeartbeats 400000 in
theorem key1_any (n : Int) (w : World) :
    Calls Tryd.prog 49 #[.int .i64 n] w fun e w' => (∃ v', e = .returned v' ∧ Bytes w' v' (rowN (u64N n) 8)) ∧ Below w.heap.size w w' := by
  have hw := u64_wrap n
  go_enter Tryd.func49, Tryd.ntmps49
  go_wp2_with fail
  refine (row_any (u64N n) 8 w (u64N_lt n) (by omega)).mono ?_
  rintro e w2 ⟨⟨v2, rfl, hv2⟩, hb2⟩
  have HV2 := Lib.hid hv2
  clear hv2
  go_wp2_with fail
  go_ret
  exact ⟨⟨_, rfl, HV2.out⟩, hb2⟩

/-- The parts, one behind the other, as mac.Of has them; so many of them. -/
def joinP (ls : List (List UInt8)) (k : Nat) : List UInt8 := (ls.take k).flatMap partN
def joinN (ls : List (List UInt8)) : List UInt8 := ls.flatMap partN
theorem joinP_succ (ls : List (List UInt8)) (k : Nat) (l : List UInt8) (h : ls[k]? = some l) : joinP ls (k + 1) = joinP ls k ++ partN l := by
  unfold joinP
  rw [List.take_add_one, h, List.flatMap_append]
  simp
theorem joinP_all (ls : List (List UInt8)) : joinP ls ls.length = joinN ls := by unfold joinP joinN; rw [List.take_length]
theorem joinP_len (ls : List (List UInt8)) (k : Nat) : (joinP ls k).length ≤ 4 * ls.length + (cat ls).length := by
  unfold joinP cat
  induction ls generalizing k with
  | nil => simp
  | cons a ls ih =>
    cases k with
    | zero => simp
    | succ k =>
      have := ih k
      simp only [List.take_succ_cons, List.flatMap_cons, List.length_append, List.flatten_cons, List.length_cons, partN_len] at *
      omega
theorem part_le (ls : List (List UInt8)) (k : Nat) (l : List UInt8) (h : ls[k]? = some l) : l.length ≤ (cat ls).length := by
  unfold cat
  induction ls generalizing k with
  | nil => simp at h
  | cons a ls ih =>
    rw [List.flatten_cons, List.length_append]
    cases k with
    | zero => cases h; omega
    | succ k => have := ih k h; omega

set_option maxRecDepth 100000 in
set_option maxHeartbeats 400000 in
theorem joinedB_any (v : Value) (ls : List (List UInt8)) (vs : List Value) (w : World) (hp : Parts w v ls vs) (hsz : (cat ls).length ≤ 35184372088832) (hln : ls.length ≤ 1000000000000) :
    Calls Tryd.prog 45 #[v, .func (.func 46) #[] #[]] w fun e w' => (∃ v', e = .returned v' ∧ Bytes w' v' (joinN ls)) ∧ Below w.heap.size w w' := by
  obtain ⟨i0, hi, hz0, hz1, hz2⟩ := info_parts info_u8
  obtain ⟨xa, ca, rfl, _⟩ := hp.sl.form
  have HP := Lib.hid hp
  clear hp
  go_enter Tryd.func45, Tryd.ntmps45
  go_wp2_with fail
  go_loopw [5, 10] (fun v i wr => ∃ (k : Nat) (a : Option Addr) (cap : Nat), k ≤ ls.length ∧ i = .int .i64 k ∧ v = .slice a (joinP ls k).length cap ∧
    wr.ownsRow w.heap.size 5 1 (.slice a (joinP ls k).length cap) (joinP ls k).length (bytesV (joinP ls k)) ∧ Below w.heap.size w wr) (fun _ i _ => ls.length - (intOf i).toNat)
  case atStart => exact ⟨0, none, 0, by omega, rfl, rfl, World.ownsRow_nil _ _ _ _, by (repeat (first | with_reducible assumption | with_reducible exact Below.refl _ _ | ((with_reducible refine Below.setCell ?_ ?_ _); rotate_left; focus (first | omega | (simp; done) | (simp; omega))) | ((with_reducible refine Below.alloc ?_ ?_ _); rotate_left; focus (first | omega | (simp; done) | (simp; omega))) | ((with_reducible refine below_setRow ?_ ?_ _); rotate_left; focus (first | omega | (simp; done) | (simp; omega))) | (with_reducible refine below_drewN ?_ _) | (with_reducible refine Below.drew ?_)))⟩
  case round =>
    obtain ⟨k, a, cap, hk, rfl, rfl, hown, hb⟩ := hrel
    have HO := Lib.hid hown
    clear hown
    by_cases hkn : k < ls.length
    · obtain ⟨b, off, cc, e, _, hr, hbW⟩ := HP.out.sl.pos (by omega) (by decide)
      cases e
      have hvl : k < vs.length := by rw [HP.out.len]; exact hkn
      have hlk := List.getElem?_eq_getElem hkn
      have hvk := List.getElem?_eq_getElem hvl
      have hby := (HP.out.each k _ _ hvk hlk).below hb
      have hcell := hr k _ hvk
      obtain ⟨l, hle⟩ : ∃ l, l = ls[k] := ⟨_, rfl⟩
      obtain ⟨vk, hve⟩ : ∃ vk, vk = vs[k] := ⟨_, rfl⟩
      rw [← hle] at hby hlk
      rw [← hve] at hby hcell
      have hlen := part_le ls k l hlk
      have hJ := joinP_len ls (k + 1)
      rw [joinP_succ ls k l hlk, List.length_append] at hJ
      have hS := joinP_succ ls k l hlk
      have hcw : wr.cell? ⟨b, off + k, none⟩ = some vk := (hb.cell (p := ⟨b, _, none⟩) hbW).trans hcell
      have hsz2 := hb.size
      have HS := Lib.hid hS
      have HBY := Lib.hid hby
      clear hS hby hcell hlk hvk hle hve hr
      obtain ⟨xk, ck, rfl, _⟩ := HBY.out.form
      go_wp2_with fail
      refine (of1_any _ l wr HBY.out (by omega)).mono ?_
      rintro e w2 ⟨⟨v2, rfl, hv2⟩, hb2⟩
      have hown2 := ownsRow_below HO.out hb2 (ownsRow_block HO.out)
      have hB2 := hb.trans (hb2.mono hb.size)
      have HO2 := Lib.hid hown2
      have HV2 := Lib.hid hv2
      obtain ⟨x2, c2, rfl, _⟩ := hv2.form
      have hs2 := hB2.size
      clear hb hb2 HO hown2 hv2 hcw HBY
      go_wp2_with (first
        | (at_builtin; refine wpList_app rfl (.tmp 14) (.tmp 17) 24 rfl w.heap.size 5 i0 (.int .u8 0) 1 1 Tryd.underlying24 hi hz0 hz1 hz2 rfl (by decide) (.slice a (joinP ls k).length cap) _ _ rfl (by exact HO2.out) _ (partN l).length (bytesV (partN l)) rfl (by exact HV2.out) (by unfold maxLen; omega) (by omega) (by omega) ?_; intro a3 cap3 w3 hown3 hgrow3 _;
           have hb3 := hB2.grown hgrow3 hs2 (fun k hk => (HO2.out.lt k hk).1); have HO3 := Lib.hid hown3; clear hown3 hgrow3)
        | fail)
      have hO3 := HO3.out
      rw [← List.length_append, ← bytesV_app, ← HS.out] at hO3
      refine ⟨⟨k + 1, a3, cap3, by omega, by go_num, by rw [HS.out, List.length_append], hO3, hb3⟩, by simp [intOf]; omega⟩
    · obtain rfl : k = ls.length := by omega
      have hO := HO.out
      rw [joinP_all] at hO ⊢
      clear HO
      have HO := Lib.hid (ownsRow_isSl hO (bytesV_one _))
      clear hO
      go_wp2_with fail
      go_ret
      exact ⟨⟨_, rfl, HO.out⟩, hb⟩
end Go.Proofs.YtjjoiefngoghpaaDoor
