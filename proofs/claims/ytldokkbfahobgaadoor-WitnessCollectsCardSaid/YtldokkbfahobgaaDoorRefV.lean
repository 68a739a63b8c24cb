/- The walk of the reference's Number. The walks of the reference's with, Text and great. The walks of the reference's Text and Of. The walks of the reference's Tag and Key. Conditions: what each part says. -/
import Derived.Test.YtldokkbfahobgaaDoorHashP
import Derived.Test.YtldokkbfahobgaaDoorRefS
import Derived.Test.YtldokkbfahobgaaDoorMacW
import Derived.Test.YtldokkbfahobgaaDoorGround
/-! RefN: The walk of the reference's Number. Condition: at most 1000 bytes. -/
namespace Go.Proofs.YtldokkbfahobgaaDoor
open Go.RowKit

set_option maxRecDepth 100000 in
set_option maxHeartbeats 400000 in
theorem number_any (n : Int) (many : Nat) (w : World) (hm : many ≤ 1000) :
    Calls Tryd.prog 76 #[.int .i64 n, .int .i64 many] w fun e w' => (∃ v', e = .returned v' ∧ Bytes w' v' (rowN (u64N n) many)) ∧ Below w.heap.size w w' := by
  have hmk := fun w => make_bytes many (by omega) w
  have hwr := u64_wrap n
  obtain ⟨N, hN⟩ : ∃ N, N = u64N n := ⟨_, rfl⟩
  have hlt : N < 18446744073709551616 := by rw [hN]; exact u64N_lt n
  rw [← hN] at hwr ⊢
  clear hN
  go_enter Tryd.func76, Tryd.ntmps76
  go_wp2_with fail
  go_loopw [6, 7] (fun x i wr => ∃ j m : Nat, j ≤ many ∧ m = N / 256 ^ j ∧ m < 18446744073709551616 ∧ x = .int .u64 m ∧ i = .int .i64 ((many : Int) - 1 - j) ∧ Blk wr w.heap.size (bytesV (rowP N many j)) 5 ∧ Below w.heap.size w wr) (fun _ i _ => (intOf i + 1).toNat)
  case atStart => exact ⟨0, N, by omega, by simp, hlt, rfl, by simp, by rw [rowP_0]; exact Blk.newL w _ _, by (repeat (first | with_reducible assumption | with_reducible exact Below.refl _ _ | ((with_reducible refine Below.setCell ?_ ?_ _); rotate_left; focus (first | omega | (simp; done) | (simp; omega))) | ((with_reducible refine Below.alloc ?_ ?_ _); rotate_left; focus (first | omega | (simp; done) | (simp; omega))) | ((with_reducible refine below_setRow ?_ ?_ _); rotate_left; focus (first | omega | (simp; done) | (simp; omega))) | (with_reducible refine below_drewN ?_ _) | (with_reducible refine Below.drew ?_)))⟩
  case round =>
    clear hmk hwr
    obtain ⟨j, m, hj, hme, hm64, rfl, rfl, hB, hb⟩ := hrel
    have HB := Lib.hid hB
    have HME := Lib.hid hme
    clear hB hme
    by_cases hjm : j < many
    · have c0 : wr.cell? ⟨w.heap.size, many - 1 - j, none⟩ = some (.int .u8 0) := HB.out.cell (by
        have := bytesV_at (rowP N many j) (many - 1 - j) 0 (by rw [rowP_at _ _ _ _ (by omega), if_neg (by omega)])
        simpa using this)
      have f0 : wr.frozen? ⟨w.heap.size, many - 1 - j, none⟩ = false := HB.out.frozen _
      have hix : (((many : Int) - 1 - j).toNat) = many - 1 - j := by omega
      go_wp2_with fail
      refine ⟨⟨j + 1, m / 256, by omega, ?_, by omega, by congr 1, by congr 1; omega, ?_, hb.setCell (by simp) _⟩, by simp [intOf]; omega⟩
      · rw [HME.out, Nat.div_div_eq_div_mul, Nat.pow_succ]
      · rw [← rowP_set _ _ _ hjm, ← HME.out]
        have e : ((UInt8.ofNat m).toNat : Int) = (m : Int) % 256 := by rw [UInt8.toNat_ofNat']; omega
        rw [e]
        exact HB.out.set _ _
    · obtain rfl : j = many := by omega
      go_wp2_with fail
      go_ret
      refine ⟨⟨_, rfl, ?_⟩, hb⟩
      have h1 : wr.rangeAt w.heap.size 0 (bytesV (rowN N j)) := fun i u hi => by
        rw [Nat.zero_add]
        rw [← rowP_all] at hi
        exact HB.out.cell hi
      have := IsSl.of_range (n := j) (cap := j) (size := 1) (by rw [bytesV_len, rowN_len, Nat.mul_one]) (bytesV_one _) (Nat.le_refl _) h1
      unfold Bytes
      rw [rowN_len]
      exact this
end Go.Proofs.YtldokkbfahobgaaDoor

/-! RefG: The walks of the reference's with, Text and great. Conditions: the key and the parts can be read. -/
namespace Go.Proofs.YtldokkbfahobgaaDoor
open Go.RowKit

theorem wrap_i64_nat (x : Nat) (h : x < 9223372036854775808) : IntKind.i64.wrap (x : Int) = (x : Int) := by
  simp [IntKind.wrap, IntKind.bits, IntKind.signed]
  omega
theorem xor_i64 (x y : UInt8) : bits .xor .i64 (x.toNat : Int) (y.toNat : Int) = ((x ^^^ y).toNat : Int) := by
  have h := Nat.xor_lt_two_pow (n := 8) x.toNat_lt y.toNat_lt
  have hx := x.toNat_lt
  have hy := y.toNat_lt
  simp only [bits, ofInt_nat]
  rw [UInt8.toNat_xor]
  show IntKind.i64.wrap (((BitVec.ofNat 64 x.toNat ^^^ BitVec.ofNat 64 y.toNat).toNat : Nat) : Int) = _
  rw [BitVec.toNat_xor, BitVec.toNat_ofNat, BitVec.toNat_ofNat, Nat.mod_eq_of_lt (by omega), Nat.mod_eq_of_lt (by omega), wrap_i64_nat _ (by omega)]
theorem padN_at (k : List UInt8) (b : UInt8) (i : Nat) (h : i < 64) : (padN k b)[i]? = some (keyAt k i ^^^ b) := by simp [padN, h]

set_option maxRecDepth 100000 in
set_option maxHeartbeats 800000 in
theorem refwith_any (v : Value) (k : List UInt8) (b : UInt8) (w : World) (hk : Bytes w v k) :
    Calls Tryd.prog 63 #[v, .int .i64 (b.toNat : Int)] w fun e w' => (∃ a cap, e = .returned (.slice a 64 cap) ∧ w'.ownsRow w.heap.size 5 1 (.slice a 64 cap) 64 (bytesV (padN k b))) ∧ Below w.heap.size w w' := by
  obtain ⟨i0, hi, hz0, hz1, hz2⟩ := info_parts info_u8
  obtain ⟨xa, ca, rfl, _⟩ := hk.form
  have HK := Lib.hid hk
  clear hk
  go_enter Tryd.func63, Tryd.ntmps63
  go_wp2_with fail
  go_loopw [5, 6] (fun v i wr => ∃ (j : Nat) (a : Option Addr) (cap : Nat), j ≤ 64 ∧ i = .int .i64 j ∧ v = .slice a j cap ∧ wr.ownsRow w.heap.size 5 1 (.slice a j cap) j (bytesV ((padN k b).take j)) ∧ Below w.heap.size w wr) (fun _ i _ => 64 - (intOf i).toNat)
  case atStart => exact ⟨0, none, 0, by omega, rfl, rfl, World.ownsRow_nil _ _ _ _, by (repeat (first | with_reducible assumption | with_reducible exact Below.refl _ _ | ((with_reducible refine Below.setCell ?_ ?_ _); rotate_left; focus (first | omega | (simp; done) | (simp; omega))) | ((with_reducible refine Below.alloc ?_ ?_ _); rotate_left; focus (first | omega | (simp; done) | (simp; omega))) | ((with_reducible refine below_setRow ?_ ?_ _); rotate_left; focus (first | omega | (simp; done) | (simp; omega))) | (with_reducible refine below_drewN ?_ _) | (with_reducible refine Below.drew ?_)))⟩
  case round =>
    obtain ⟨j, a, cap, hj, rfl, rfl, hown, hb⟩ := hrel
    have HO := Lib.hid hown
    have hs := hb.size
    clear hown
    by_cases h64 : j < 64
    · have hsn : bytesV ((padN k b).take (j + 1)) = bytesV ((padN k b).take j) ++ [.int .u8 ((keyAt k j ^^^ b).toNat : Int)] := by
        rw [List.take_add_one, padN_at k b j h64, Option.toList_some, bytesV_app]
        rfl
      have HS := Lib.hid hsn
      have hx := xor_i64 (keyAt k j) b
      have hlt := (keyAt k j ^^^ b).toNat_lt
      have hcl := (keyAt k j).toNat_lt
      clear hsn
      obtain ⟨c, hc⟩ : ∃ c, c = (keyAt k j ^^^ b).toNat := ⟨_, rfl⟩
      rw [← hc] at hx hlt HS
      clear hc
      by_cases hjk : j < k.length
      · obtain ⟨kb, ko, kc, e, hcell⟩ := HK.out.at hjk
        cases e
        have hkb : kb < w.heap.size := World.block_lt_of_cell? _ _ (hcell j _ (List.getElem?_eq_getElem hjk))
        have c0 : wr.cell? ⟨kb, ko + j, none⟩ = some (.int .u8 ((keyAt k j).toNat : Int)) := (hb.cell (p := ⟨kb, _, none⟩) hkb).trans (hcell j _ (by unfold keyAt; rw [List.getElem?_eq_getElem hjk]; rfl))
        clear hcell
        generalize (keyAt k j).toNat = ck at *
        go_wp2_with (at_builtin; refine wpList_app rfl (.tmp 21) (.tmp 26) 48 rfl w.heap.size 5 i0 (.int .u8 0) 1 1 Tryd.underlying48 hi hz0 hz1 hz2 rfl (by decide) (.slice a j cap) _ _ rfl (by exact HO.out.alloc _) _ 1 [.int .u8 (c : Int)] rfl (by exact isSl_new _ _ _ _ _ rfl (by simp [Value.oneCell'])) (by unfold maxLen; omega) (by omega) (by simp; omega) ?_; intro a' cap' w1 hown' hgrow _)
        refine ⟨⟨j + 1, a', cap', by omega, by go_num, rfl, by rw [HS.out]; exact hown', (hb.alloc hs _).grown hgrow (by simp; omega) (fun k hk => (HO.out.lt k hk).1)⟩, by simp [intOf]; omega⟩
      · have hk0 : keyAt k j = 0 := by unfold keyAt; rw [List.getElem?_eq_none (by omega)]; rfl
        rw [hk0] at hx hcl
        rw [show (((0 : UInt8).toNat : Nat) : Int) = 0 from rfl] at hx
        clear hk0
        go_wp2_with (at_builtin; refine wpList_app rfl (.tmp 21) (.tmp 26) 48 rfl w.heap.size 5 i0 (.int .u8 0) 1 1 Tryd.underlying48 hi hz0 hz1 hz2 rfl (by decide) (.slice a j cap) _ _ rfl (by exact HO.out.alloc _) _ 1 [.int .u8 (c : Int)] rfl (by exact isSl_new _ _ _ _ _ rfl (by simp [Value.oneCell'])) (by unfold maxLen; omega) (by omega) (by simp; omega) ?_; intro a' cap' w1 hown' hgrow _)
        refine ⟨⟨j + 1, a', cap', by omega, by go_num, rfl, by rw [HS.out]; exact hown', (hb.alloc hs _).grown hgrow (by simp; omega) (fun k hk => (HO.out.lt k hk).1)⟩, by simp [intOf]; omega⟩
    · obtain rfl : j = 64 := by omega
      have hO := HO.out
      rw [List.take_of_length_le (by rw [padN_len]; exact Nat.le_refl _)] at hO
      have HO2 := Lib.hid hO
      clear hO HO
      go_wp2_with fail
      go_ret
      exact ⟨⟨a, cap, rfl, HO2.out⟩, hb⟩
end Go.Proofs.YtldokkbfahobgaaDoor

/-! RefH: The walks of the reference's Text and Of. Conditions: the parts can be read, together at most 2^45 bytes; the package's tables read as they are laid. -/
namespace Go.Proofs.YtldokkbfahobgaaDoor
open Go.RowKit

def textP (d : Int) (ls : List (List UInt8)) (k : Nat) : List UInt8 := domB d :: joinP ls k
theorem textP_len (d : Int) (ls : List (List UInt8)) (k : Nat) : (textP d ls k).length = 1 + (joinP ls k).length := by simp [textP]; omega
theorem textP_succ (d : Int) (ls : List (List UInt8)) (k : Nat) (l : List UInt8) (h : ls[k]? = some l) : textP d ls (k + 1) = textP d ls k ++ rowN l.length 4 ++ l := by
  unfold textP
  rw [joinP_succ ls k l h]
  simp [partN]
def textN (d : Int) (ls : List (List UInt8)) : List UInt8 := [domB d] ++ joinN ls
theorem textP_all (d : Int) (ls : List (List UInt8)) : textP d ls ls.length = textN d ls := by unfold textP textN; rw [joinP_all]; rfl
theorem textN_len (d : Int) (ls : List (List UInt8)) : (textN d ls).length ≤ 1 + 4 * ls.length + (cat ls).length := by
  have := joinP_len ls ls.length
  rw [← textP_all, textP_len]
  omega

set_option maxRecDepth 100000 in
set_option maxHeartbeats 800000 in
theorem reftext_any (d : Int) (v : Value) (ls : List (List UInt8)) (vs : List Value) (w : World) (hp : Parts w v ls vs) (hsz : (cat ls).length ≤ 35184372088832) (hln : ls.length ≤ 1000000000000) :
    Calls Tryd.prog 62 #[.int .i64 d, v] w fun e w' => (∃ v', e = .returned v' ∧ Bytes w' v' (textN d ls)) ∧ Below w.heap.size w w' := by
  obtain ⟨i0, hi, hz0, hz1, hz2⟩ := info_parts info_u8
  obtain ⟨xa, ca, rfl, _⟩ := hp.sl.form
  have HP := Lib.hid hp
  have hdv : bytesV (textP d ls 0) = [.int .u8 (d % 256)] := by
    have := domB_val d
    simp [textP, joinP, bytesV, this]
  have HDV := Lib.hid hdv
  clear hp hdv
  go_enter Tryd.func62, Tryd.ntmps62
  go_wp2_with fail
  go_loopw [5, 6] (fun v i wr => ∃ (k : Nat) (a : Option Addr) (cap : Nat), k ≤ ls.length ∧ i = .int .i64 k ∧ v = .slice a (textP d ls k).length cap ∧
    wr.ownsRow w.heap.size 5 1 (.slice a (textP d ls k).length cap) (textP d ls k).length (bytesV (textP d ls k)) ∧ Below w.heap.size w wr) (fun _ i _ => ls.length - (intOf i).toNat)
  case atStart =>
    refine ⟨0, some ⟨w.heap.size, 0, none⟩, 1, by omega, rfl, rfl, ?_, by (repeat (first | with_reducible assumption | with_reducible exact Below.refl _ _ | ((with_reducible refine Below.setCell ?_ ?_ _); rotate_left; focus (first | omega | (simp; done) | (simp; omega))) | ((with_reducible refine Below.alloc ?_ ?_ _); rotate_left; focus (first | omega | (simp; done) | (simp; omega))) | ((with_reducible refine below_setRow ?_ ?_ _); rotate_left; focus (first | omega | (simp; done) | (simp; omega))) | (with_reducible refine below_drewN ?_ _) | (with_reducible refine Below.drew ?_)))⟩
    rw [HDV.out]
    exact ⟨rfl, .inr ⟨_, 1, #[.int .u8 (d % 256)], rfl, Nat.le_refl _, Blk.new _ _ _, Nat.le_refl _, by decide, rfl, rfl⟩⟩
  case round =>
    obtain ⟨k, a, cap, hk, rfl, rfl, hown, hb⟩ := hrel
    have HO := Lib.hid hown
    clear hown
    by_cases hkn : k < ls.length
    · obtain ⟨b, off, cc, e, _, hr, hbW⟩ := HP.out.sl.pos (by omega) (by decide)
      cases e
      have hvl : k < vs.length := by rw [HP.out.len]; exact hkn
      have hlk := List.getElem?_eq_getElem hkn
      have hvk := List.getElem?_eq_getElem hvl
      have hby := HP.out.each k _ _ hvk hlk
      have hcell := hr k _ hvk
      obtain ⟨l, hle⟩ : ∃ l, l = ls[k] := ⟨_, rfl⟩
      obtain ⟨vk, hve⟩ : ∃ vk, vk = vs[k] := ⟨_, rfl⟩
      rw [← hle] at hby hlk
      rw [← hve] at hby hcell
      have hlen := part_le ls k l hlk
      have hJ := joinP_len ls (k + 1)
      have hS := textP_succ d ls k l hlk
      have hT1 := textP_len d ls k
      have hT2 := textP_len d ls (k + 1)
      have hT3 : (textP d ls (k + 1)).length = (textP d ls k).length + 4 + l.length := by rw [hS, List.length_append, List.length_append, rowN_len]
      have hcw : wr.cell? ⟨b, off + k, none⟩ = some vk := (hb.cell (p := ⟨b, _, none⟩) hbW).trans hcell
      have hsz2 := hb.size
      have HS := Lib.hid hS
      have HBY := Lib.hid hby
      obtain ⟨L, hL⟩ : ∃ L, L = (textP d ls k).length := ⟨_, rfl⟩
      rw [← hL] at HO hT1 hT3 ⊢
      have HT3 := Lib.hid hT3
      have HL := Lib.hid hL
      have hLm : L + 4 + l.length ≤ 80000000000000 := by omega
      clear hS hby hcell hlk hvk hle hve hr hT2 hT3 hT1 hJ hL
      obtain ⟨xk, ck, rfl, _⟩ := HBY.out.form
      have HCW := Lib.hid hcw
      go_wp2_with fail
      refine (number_any l.length 4 wr (by decide)).mono ?_
      rintro e w2 ⟨⟨v2, rfl, hv2⟩, hb2⟩
      rw [u64N_nat l.length (by omega)] at hv2
      have hown2 := ownsRow_below HO.out hb2 (ownsRow_block HO.out)
      have hB2 := hb.trans (hb2.mono hb.size)
      have HO2 := Lib.hid hown2
      have hv2' : IsSl w2 v2 1 4 (bytesV (rowN l.length 4)) := by
        have := hv2
        unfold Bytes at this
        rw [rowN_len] at this
        exact this
      have HV2 := Lib.hid hv2'
      obtain ⟨x2, c2, rfl, _⟩ := hv2'.form
      have hs2 := hB2.size
      have HC2 := Lib.hid ((hb2.cell (p := ⟨b, _, none⟩) (Nat.lt_of_lt_of_le hbW hsz2)).trans HCW.out)
      clear hb hb2 HO hown2 hv2 hv2' hcw HCW
      go_wp2_with (first
        | (at_builtin; refine wpList_app rfl (.tmp 16) (.tmp 22) 48 rfl w.heap.size 5 i0 (.int .u8 0) 1 1 Tryd.underlying48 hi hz0 hz1 hz2 rfl (by decide) (.slice a L cap) _ _ rfl (by exact HO2.out) _ 4 (bytesV (rowN l.length 4)) rfl (by exact HV2.out) (by unfold maxLen; omega) (by omega) (by omega) ?_; intro a3 cap3 w3 hown3 hgrow3 _;
           have hb3 := hB2.grown hgrow3 hs2 (fun k hk => (HO2.out.lt k hk).1); have HO3 := Lib.hid hown3; have hs3 := hb3.size;
           have hb23 : Below w.heap.size w2 w3 := (Below.refl _ _).grown hgrow3 hs2 (fun k hk => (HO2.out.lt k hk).1); have hc3 := (hb23.cell (p := ⟨b, _, none⟩) hbW).trans HC2.out;
           clear hown3 hgrow3)
        | (at_builtin; refine wpList_app rfl (.tmp 24) (.tmp 28) 48 rfl w.heap.size 5 i0 (.int .u8 0) 1 1 Tryd.underlying48 hi hz0 hz1 hz2 rfl (by decide) (.slice a3 (L + 4) cap3) _ _ rfl (by exact HO3.out) _ l.length (bytesV l) rfl (by exact HBY.out.below hb3) (by unfold maxLen; omega) (by omega) (by omega) ?_; intro a4 cap4 w4 hown4 hgrow4 _;
           have hb4 := hb3.grown hgrow4 hs3 (fun k hk => (HO3.out.lt k hk).1); have HO4 := Lib.hid hown4; clear hown4 hgrow4)
        | fail)
      have hO4 := HO4.out
      rw [← bytesV_app, ← bytesV_app] at hO4
      refine ⟨⟨k + 1, a4, cap4, by omega, by go_num, by rw [HT3.out], by rw [HT3.out, HS.out]; exact hO4, hb4⟩, by simp [intOf]; omega⟩
    · obtain rfl : k = ls.length := by omega
      have hO := HO.out
      rw [textP_all] at hO ⊢
      clear HO
      have HO := Lib.hid (ownsRow_isSl hO (bytesV_one _))
      clear hO
      go_wp2_with fail
      go_ret
      exact ⟨⟨_, rfl, HO.out⟩, hb⟩

set_option maxRecDepth 100000 in
set_option maxHeartbeats 800000 in
theorem refof_any (d : Int) (v : Value) (ls : List (List UInt8)) (vs : List Value) (w : World) (hp : Parts w v ls vs) (hsz : (cat ls).length ≤ 35184372088832) (hln : ls.length ≤ 1000000000000) (hg : Glob w) :
    Calls Tryd.prog 44 #[.int .i64 d, v] w fun e w' => e = .returned (.agg (bytesV (ofN d ls)).toArray) ∧ Below w.heap.size w w' := by
  obtain ⟨xa, ca, rfl, _⟩ := hp.sl.form
  have hb1 := (Below.refl w.heap.size w).alloc (Nat.le_refl _) (.cells z32.toArray 31)
  have HP := Lib.hid (hp.below hb1)
  have HG := Lib.hid hg
  have HZ := Lib.hid (Blk.newL w z32 31)
  have HL := Lib.hid (textN_len d ls)
  clear hp hg
  go_enter Tryd.func44, Tryd.ntmps44
  go_wp2_with fail
  refine (reftext_any d _ ls vs _ HP.out hsz hln).mono ?_
  rintro e w2 ⟨⟨v2, rfl, hv2⟩, hb2⟩
  have hw2 := hb1.trans (hb2.mono hb1.size)
  have hz2 := HZ.out.below hb2 (by simp)
  have HV2 := Lib.hid hv2
  obtain ⟨x2, c2, rfl, _⟩ := hv2.form
  have HZ2 := Lib.hid hz2
  clear hb1 hb2 hz2 hv2 HZ HP
  go_wp2_with fail
  refine (refsum_any _ (textN d ls) w2 HV2.out (by have := HL.out; omega) (HG.out.below hw2)).mono ?_
  rintro e w3 ⟨rfl, hb3⟩
  have hw3 := hw2.trans (hb3.mono hw2.size)
  have HZ3 := Lib.hid (HZ2.out.below hb3 HZ2.out.lt)
  clear hb3 hw2 HZ2 HV2 HL
  obtain ⟨D, hD⟩ : ∃ D, D = ofN d ls := ⟨_, rfl⟩
  have HD := Lib.hid hD
  have HDL := Lib.hid (show D.length = 32 by rw [hD]; exact sumN_len _)
  rw [show sumN (textN d ls) = D by rw [hD]; rfl]
  clear hD
  go_wp2_with (first
    | (refine wpList_store_row rfl 31 (.tmp 4) (.tmp 8) rfl w.heap.size (bytesV D).toArray rfl rfl 31 z32.toArray (by exact HZ3.out) (by exact hash_info D HDL.out) (by simp [z32, bytesV, HDL.out]) (hash_one _) ?_)
    | fail)
  exact bodyPost_ret (v := .agg (bytesV D).toArray) (results_cell_row rfl _ _ w.heap.size 31 _ (0, 0) _ rfl (HZ3.out.setRow _) Tryd.underlying31 rfl (hash_info D HDL.out)) rfl ⟨by rw [HD.out], below_setRow hw3 (Nat.le_refl _) _⟩
end Go.Proofs.YtldokkbfahobgaaDoor

/-! RefI: The walks of the reference's Tag and Key. Conditions: key and text can be read; the package's tables read as they are laid. -/
namespace Go.Proofs.YtldokkbfahobgaaDoor
open Go.RowKit

set_option maxRecDepth 100000 in
set_option maxHeartbeats 1000000 in
theorem reftag_short (vk vt : Value) (kk t : List UInt8) (w : World) (hk : Bytes w vk kk) (ht : Bytes w vt t) (hkl : kk.length ≤ 64) (hsz : t.length ≤ 35184372088832) (hg : Glob w) :
    Calls Tryd.prog 46 #[vk, vt] w fun e w' => e = .returned (.agg (bytesV (sumN (padN kk 92 ++ sumN (padN kk 54 ++ t)))).toArray) ∧ Below w.heap.size w w' := by
  obtain ⟨i0, hi, hz0, hz1, hz2⟩ := info_parts info_u8
  obtain ⟨xk, ck, rfl, _⟩ := hk.form
  obtain ⟨xt, ct, rfl, _⟩ := ht.form
  have HG := Lib.hid hg
  have HK4 := Lib.hid (hk.below ((Below.refl w.heap.size w).alloc (Nat.le_refl _) (.cells z32.toArray 31)))
  have HT4 := Lib.hid (ht.below ((Below.refl w.heap.size w).alloc (Nat.le_refl _) (.cells z32.toArray 31)))
  have HH4 := Lib.hid (Blk.newL w z32 31)
  have hw4 := (Below.refl w.heap.size w).alloc (Nat.le_refl _) (.cells z32.toArray 31)
  clear hg hk ht
  go_enter Tryd.func46, Tryd.ntmps46
  go_wp2_with fail
  refine (refwith_any _ kk 54 _ HK4.out).mono ?_
  rintro e w5 ⟨⟨a5, c5, rfl, hown5⟩, hb5⟩
  have HO5 := Lib.hid hown5
  have HT5 := Lib.hid (HT4.out.below hb5)
  clear hown5 HT4
  go_wp2_with (first
    | (at_builtin; refine wpList_app rfl (.tmp 14) (.tmp 15) 48 rfl _ 5 i0 (.int .u8 0) 1 1 Tryd.underlying48 hi hz0 hz1 hz2 rfl (by decide) (.slice a5 64 c5) _ _ rfl (by exact HO5.out) _ t.length (bytesV t) rfl (by exact HT5.out) (by unfold maxLen; omega) (by omega) (by exact hb5.size) ?_; intro a6 c6 w6 hown6 hgrow6 _;
       have hb6 := hb5.grown hgrow6 hb5.size (fun g hg => (HO5.out.lt g hg).1); have HO6 := Lib.hid hown6; clear hown6 hgrow6 hb5 HO5 HT5)
    | fail)
  have hO6 := HO6.out
  rw [← bytesV_app] at hO6
  have hV6 : Bytes w6 (.slice a6 (64 + t.length) c6) (padN kk 54 ++ t) := by
    have := ownsRow_isSl hO6 (bytesV_one _)
    unfold Bytes
    rw [List.length_append, padN_len]
    exact this
  have hw6 := hw4.trans (hb6.mono hw4.size)
  have HV6 := Lib.hid hV6
  have HK6 := Lib.hid (HK4.out.below hb6)
  have HH6 := Lib.hid (HH4.out.below hb6 HH4.out.lt)
  clear hO6 hV6 HO6 hb6 hw4 HK4 HH4
  refine (refsum_any _ (padN kk 54 ++ t) w6 HV6.out (by rw [List.length_append, padN_len]; omega) (HG.out.below hw6)).mono ?_
  rintro e w7 ⟨rfl, hb7⟩
  have hw7 := hw6.trans (hb7.mono hw6.size)
  have HK7 := Lib.hid (HK6.out.below hb7)
  have hH7 := HH6.out.below hb7 HH6.out.lt
  have HH7 := Lib.hid hH7
  have hs7 : w.heap.size < w7.heap.size := hH7.lt
  clear hb7 hH7 hw6 HK6 HV6 HH6
  obtain ⟨D, hD⟩ : ∃ D, D = sumN (padN kk 54 ++ t) := ⟨_, rfl⟩
  rw [← hD]
  have HDE := Lib.hid hD
  have HDL := Lib.hid (show D.length = 32 by rw [hD]; exact sumN_len _)
  clear hD
  go_wp2_with (first
    | (refine wpList_store_row rfl 31 (.tmp 6) (.tmp 17) rfl w7.heap.size (bytesV D).toArray rfl rfl 31 z32.toArray (by exact Blk.newL w7 z32 _) (by exact hash_info D HDL.out) (by simp [z32, bytesV, HDL.out]) (hash_one _) ?_)
    | fail)
  refine wp_region_forced [0, 2] [1, 3, 4, 5] (by kernel_rfl) (by kernel_rfl) (fun _ _ _ d _ h => by cases d <;> exact h) _ _ rfl rfl ?_
  simp only [List.map_cons, List.map_nil, List.getD_cons_succ, List.getD_cons_zero]
  refine wpPure_move _ rfl rfl ?_
  refine wpPure_run (.slice (some ⟨w7.heap.size, 0, none⟩) 32 32) rfl (fun w' => ?_) ?_
  · simp [go_sem, execOp]
  refine wpPure_nil ?_
  intro nq
  go_wp2_with fail
  have hb8 : Below w7.heap.size w7 (((w7.alloc (.cells z32.toArray 31)).setRow w7.heap.size (bytesV D).toArray).drewN nq) := below_drewN (below_setRow ((Below.refl _ _).alloc (Nat.le_refl _) _) (Nat.le_refl _) _) nq
  have hB8 : Blk (((w7.alloc (.cells z32.toArray 31)).setRow w7.heap.size (bytesV D).toArray).drewN nq) w7.heap.size (bytesV D) 31 := ((Blk.newL w7 z32 _).setRow _).drewN nq
  have HB8 := Lib.hid hB8
  refine (refwith_any _ kk 92 _ (HK7.out.below hb8)).mono ?_
  rintro e w9 ⟨⟨a9, c9, rfl, hown9⟩, hb9⟩
  have hB9 := hB8.below hb9 hB8.lt
  have hD9 : Bytes w9 (.slice (some ⟨w7.heap.size, 0, none⟩) 32 32) D := by
    have := IsSl.of_range (w := w9) (b := w7.heap.size) (off := 0) (n := 32) (cap := 32) (size := 1) (cs := bytesV D) (by rw [bytesV_len, HDL.out]) (bytesV_one _) (Nat.le_refl _) (fun i u hi => by rw [Nat.zero_add]; exact hB9.cell hi)
    unfold Bytes
    rw [HDL.out]
    exact this
  have hD9' : IsSl w9 (.slice (some ⟨w7.heap.size, 0, none⟩) 32 32) 1 32 (bytesV D) := by
    have := hD9
    unfold Bytes at this
    rw [HDL.out] at this
    exact this
  have HD9 := Lib.hid hD9'
  have HO9 := Lib.hid hown9
  clear hB8 hB9 hD9 hD9' hown9 HK7 HB8
  go_wp2_with (first
    | (at_builtin; refine wpList_app rfl (.tmp 19) (.tmp 20) 48 rfl _ 5 i0 (.int .u8 0) 1 1 Tryd.underlying48 hi hz0 hz1 hz2 rfl (by decide) (.slice a9 64 c9) _ _ rfl (by exact HO9.out) _ 32 (bytesV D) rfl (by exact HD9.out) (by unfold maxLen; omega) (by omega) (by exact hb9.size) ?_; intro a10 c10 w10 hown10 hgrow10 _;
       have hb10 := hb9.grown hgrow10 hb9.size (fun g hg => (HO9.out.lt g hg).1); have HO10 := Lib.hid hown10; clear hown10 hgrow10 hb9 HO9 HD9)
    | fail)
  have hO10 := HO10.out
  rw [← bytesV_app] at hO10
  have hV10 : Bytes w10 (.slice a10 (64 + 32) c10) (padN kk 92 ++ D) := by
    have := ownsRow_isSl hO10 (bytesV_one _)
    unfold Bytes
    rw [List.length_append, padN_len, HDL.out]
    exact this
  have hb710 := hb8.trans (hb10.mono hb8.size)
  have hw10 := hw7.trans (hb710.mono hw7.size)
  have hH10 := HH7.out.below hb710 hs7
  have HV10 := Lib.hid hV10
  have HH10 := Lib.hid hH10
  clear hO10 hV10 HO10 hb10 hb8 hb710 hH10 HH7 hw7
  refine (refsum_any _ (padN kk 92 ++ D) w10 HV10.out (by rw [List.length_append, padN_len, HDL.out]; decide) (HG.out.below hw10)).mono ?_
  rintro e w11 ⟨rfl, hb11⟩
  have hH11 := HH10.out.below hb11 HH10.out.lt
  have hw11 := hw10.trans (hb11.mono hw10.size)
  have HH11 := Lib.hid hH11
  clear hb11 hH11 hw10 HV10 HH10
  go_wp2_with (first
    | (refine wpList_store_row rfl 31 (.tmp 4) (.tmp 22) rfl w.heap.size (bytesV (sumN (padN kk 92 ++ D))).toArray rfl rfl 31 z32.toArray (by exact HH11.out) (by exact hash_info _ (sumN_len _)) (by simp [z32, bytesV, sumN_len]) (hash_one _) ?_)
    | fail)
  exact bodyPost_ret (v := .agg (bytesV (sumN (padN kk 92 ++ D))).toArray) (results_cell_row rfl _ _ w.heap.size 31 _ (0, 0) _ rfl (HH11.out.setRow _) Tryd.underlying31 rfl (hash_info _ (sumN_len _))) rfl ⟨by rw [HDE.out], below_setRow hw11 (Nat.le_refl _) _⟩

set_option maxRecDepth 100000 in
set_option maxHeartbeats 1000000 in
theorem reftag_long (vk vt : Value) (k kk t : List UInt8) (w : World) (hk : Bytes w vk k) (ht : Bytes w vt t) (hkk : kk = sumN k) (hkl : 64 < k.length) (hk2 : k.length ≤ 70368744177664) (hsz : t.length ≤ 35184372088832) (hg : Glob w) :
    Calls Tryd.prog 46 #[vk, vt] w fun e w' => e = .returned (.agg (bytesV (sumN (padN kk 92 ++ sumN (padN kk 54 ++ t)))).toArray) ∧ Below w.heap.size w w' := by
  obtain ⟨i0, hi, hz0, hz1, hz2⟩ := info_parts info_u8
  obtain ⟨xk, ck, rfl, _⟩ := hk.form
  obtain ⟨xt, ct, rfl, _⟩ := ht.form
  have hb1 := (Below.refl w.heap.size w).alloc (Nat.le_refl _) (.cells z32.toArray 31)
  have hk1 := hk.below hb1
  have HG := Lib.hid hg
  have HG1 := Lib.hid (hg.below hb1)
  have HK1 := Lib.hid hk1
  have HT := Lib.hid ht
  have hkl2 : kk.length = 32 := by rw [hkk]; exact sumN_len _
  have HKL := Lib.hid hkl2
  have HKK := Lib.hid hkk
  clear hg hk ht hk1 hkk hkl2
  go_enter Tryd.func46, Tryd.ntmps46
  go_wp2_with fail
  refine (refsum_any _ k _ HK1.out hk2 HG1.out).mono ?_
  rintro e w2 ⟨rfl, hb2⟩
  rw [← HKK.out]
  have hw2 := hb1.trans (hb2.mono hb1.size)
  have hH2 := (Blk.newL w z32 31).below hb2 (by simp)
  have HT2 := Lib.hid (HT.out.below hw2)
  have HH2 := Lib.hid hH2
  have hs2 : w.heap.size < w2.heap.size := hH2.lt
  clear hb1 hb2 hH2 HK1 HT HG1
  have hw4 : Below w.heap.size w ((w2.alloc (.cells z32.toArray 31)).setRow w2.heap.size (bytesV kk).toArray) := below_setRow (hw2.alloc (by omega) _) (by omega) _
  have hb4 : Below w2.heap.size w2 ((w2.alloc (.cells z32.toArray 31)).setRow w2.heap.size (bytesV kk).toArray) := below_setRow ((Below.refl _ _).alloc (Nat.le_refl _) _) (Nat.le_refl _) _
  have HT4 := Lib.hid (HT2.out.below hb4)
  have HH4 := Lib.hid (HH2.out.below hb4 HH2.out.lt)
  have hB4 : Blk ((w2.alloc (.cells z32.toArray 31)).setRow w2.heap.size (bytesV kk).toArray) w2.heap.size (bytesV kk) 31 := (Blk.newL w2 z32 _).setRow _
  have hk4 : Bytes ((w2.alloc (.cells z32.toArray 31)).setRow w2.heap.size (bytesV kk).toArray) (.slice (some ⟨w2.heap.size, 0, none⟩) 32 32) kk := by
    have := IsSl.of_range (b := w2.heap.size) (off := 0) (n := 32) (cap := 32) (size := 1) (cs := bytesV kk) (by rw [bytesV_len, HKL.out]) (bytesV_one _) (Nat.le_refl _) (fun i u hi => by rw [Nat.zero_add]; exact hB4.cell hi)
    unfold Bytes
    rw [HKL.out]
    exact this
  have HK4 := Lib.hid hk4
  clear hb4 hB4 hk4 hw2 HT2 HH2
  go_wp2_with (first
    | (refine wpList_store_row rfl 31 (.tmp 5) (.tmp 11) rfl w2.heap.size (bytesV kk).toArray rfl rfl 31 z32.toArray (by exact Blk.newL w2 z32 _) (by exact hash_info kk HKL.out) (by simp [z32, bytesV, HKL.out]) (hash_one _) ?_)
    | fail)
  refine (refwith_any _ kk 54 _ HK4.out).mono ?_
  rintro e w5 ⟨⟨a5, c5, rfl, hown5⟩, hb5⟩
  have HO5 := Lib.hid hown5
  have HT5 := Lib.hid (HT4.out.below hb5)
  clear hown5 HT4
  go_wp2_with (first
    | (at_builtin; refine wpList_app rfl (.tmp 14) (.tmp 15) 48 rfl _ 5 i0 (.int .u8 0) 1 1 Tryd.underlying48 hi hz0 hz1 hz2 rfl (by decide) (.slice a5 64 c5) _ _ rfl (by exact HO5.out) _ t.length (bytesV t) rfl (by exact HT5.out) (by unfold maxLen; omega) (by omega) (by exact hb5.size) ?_; intro a6 c6 w6 hown6 hgrow6 _;
       have hb6 := hb5.grown hgrow6 hb5.size (fun g hg => (HO5.out.lt g hg).1); have HO6 := Lib.hid hown6; clear hown6 hgrow6 hb5 HO5 HT5)
    | fail)
  have hO6 := HO6.out
  rw [← bytesV_app] at hO6
  have hV6 : Bytes w6 (.slice a6 (64 + t.length) c6) (padN kk 54 ++ t) := by
    have := ownsRow_isSl hO6 (bytesV_one _)
    unfold Bytes
    rw [List.length_append, padN_len]
    exact this
  have hw6 := hw4.trans (hb6.mono hw4.size)
  have HV6 := Lib.hid hV6
  have HK6 := Lib.hid (HK4.out.below hb6)
  have HH6 := Lib.hid (HH4.out.below hb6 HH4.out.lt)
  clear hO6 hV6 HO6 hb6 hw4 HK4 HH4
  refine (refsum_any _ (padN kk 54 ++ t) w6 HV6.out (by rw [List.length_append, padN_len]; omega) (HG.out.below hw6)).mono ?_
  rintro e w7 ⟨rfl, hb7⟩
  have hw7 := hw6.trans (hb7.mono hw6.size)
  have HK7 := Lib.hid (HK6.out.below hb7)
  have hH7 := HH6.out.below hb7 HH6.out.lt
  have HH7 := Lib.hid hH7
  have hs7 : w.heap.size < w7.heap.size := hH7.lt
  clear hb7 hH7 hw6 HK6 HV6 HH6
  obtain ⟨D, hD⟩ : ∃ D, D = sumN (padN kk 54 ++ t) := ⟨_, rfl⟩
  rw [← hD]
  have HDE := Lib.hid hD
  have HDL := Lib.hid (show D.length = 32 by rw [hD]; exact sumN_len _)
  clear hD
  go_wp2_with (first
    | (refine wpList_store_row rfl 31 (.tmp 6) (.tmp 17) rfl w7.heap.size (bytesV D).toArray rfl rfl 31 z32.toArray (by exact Blk.newL w7 z32 _) (by exact hash_info D HDL.out) (by simp [z32, bytesV, HDL.out]) (hash_one _) ?_)
    | fail)
  refine wp_region_forced [0, 2] [1, 3, 4, 5] (by kernel_rfl) (by kernel_rfl) (fun _ _ _ d _ h => by cases d <;> exact h) _ _ rfl rfl ?_
  simp only [List.map_cons, List.map_nil, List.getD_cons_succ, List.getD_cons_zero]
  refine wpPure_move _ rfl rfl ?_
  refine wpPure_run (.slice (some ⟨w7.heap.size, 0, none⟩) 32 32) rfl (fun w' => ?_) ?_
  · simp [go_sem, execOp]
  refine wpPure_nil ?_
  intro nq
  go_wp2_with fail
  have hb8 : Below w7.heap.size w7 (((w7.alloc (.cells z32.toArray 31)).setRow w7.heap.size (bytesV D).toArray).drewN nq) := below_drewN (below_setRow ((Below.refl _ _).alloc (Nat.le_refl _) _) (Nat.le_refl _) _) nq
  have hB8 : Blk (((w7.alloc (.cells z32.toArray 31)).setRow w7.heap.size (bytesV D).toArray).drewN nq) w7.heap.size (bytesV D) 31 := ((Blk.newL w7 z32 _).setRow _).drewN nq
  have HB8 := Lib.hid hB8
  refine (refwith_any _ kk 92 _ (HK7.out.below hb8)).mono ?_
  rintro e w9 ⟨⟨a9, c9, rfl, hown9⟩, hb9⟩
  have hB9 := hB8.below hb9 hB8.lt
  have hD9 : Bytes w9 (.slice (some ⟨w7.heap.size, 0, none⟩) 32 32) D := by
    have := IsSl.of_range (w := w9) (b := w7.heap.size) (off := 0) (n := 32) (cap := 32) (size := 1) (cs := bytesV D) (by rw [bytesV_len, HDL.out]) (bytesV_one _) (Nat.le_refl _) (fun i u hi => by rw [Nat.zero_add]; exact hB9.cell hi)
    unfold Bytes
    rw [HDL.out]
    exact this
  have hD9' : IsSl w9 (.slice (some ⟨w7.heap.size, 0, none⟩) 32 32) 1 32 (bytesV D) := by
    have := hD9
    unfold Bytes at this
    rw [HDL.out] at this
    exact this
  have HD9 := Lib.hid hD9'
  have HO9 := Lib.hid hown9
  clear hB8 hB9 hD9 hD9' hown9 HK7 HB8
  go_wp2_with (first
    | (at_builtin; refine wpList_app rfl (.tmp 19) (.tmp 20) 48 rfl _ 5 i0 (.int .u8 0) 1 1 Tryd.underlying48 hi hz0 hz1 hz2 rfl (by decide) (.slice a9 64 c9) _ _ rfl (by exact HO9.out) _ 32 (bytesV D) rfl (by exact HD9.out) (by unfold maxLen; omega) (by omega) (by exact hb9.size) ?_; intro a10 c10 w10 hown10 hgrow10 _;
       have hb10 := hb9.grown hgrow10 hb9.size (fun g hg => (HO9.out.lt g hg).1); have HO10 := Lib.hid hown10; clear hown10 hgrow10 hb9 HO9 HD9)
    | fail)
  have hO10 := HO10.out
  rw [← bytesV_app] at hO10
  have hV10 : Bytes w10 (.slice a10 (64 + 32) c10) (padN kk 92 ++ D) := by
    have := ownsRow_isSl hO10 (bytesV_one _)
    unfold Bytes
    rw [List.length_append, padN_len, HDL.out]
    exact this
  have hb710 := hb8.trans (hb10.mono hb8.size)
  have hw10 := hw7.trans (hb710.mono hw7.size)
  have hH10 := HH7.out.below hb710 hs7
  have HV10 := Lib.hid hV10
  have HH10 := Lib.hid hH10
  clear hO10 hV10 HO10 hb10 hb8 hb710 hH10 HH7 hw7
  refine (refsum_any _ (padN kk 92 ++ D) w10 HV10.out (by rw [List.length_append, padN_len, HDL.out]; decide) (HG.out.below hw10)).mono ?_
  rintro e w11 ⟨rfl, hb11⟩
  have hH11 := HH10.out.below hb11 HH10.out.lt
  have hw11 := hw10.trans (hb11.mono hw10.size)
  have HH11 := Lib.hid hH11
  clear hb11 hH11 hw10 HV10 HH10
  go_wp2_with (first
    | (refine wpList_store_row rfl 31 (.tmp 4) (.tmp 22) rfl w.heap.size (bytesV (sumN (padN kk 92 ++ D))).toArray rfl rfl 31 z32.toArray (by exact HH11.out) (by exact hash_info _ (sumN_len _)) (by simp [z32, bytesV, sumN_len]) (hash_one _) ?_)
    | fail)
  exact bodyPost_ret (v := .agg (bytesV (sumN (padN kk 92 ++ D))).toArray) (results_cell_row rfl _ _ w.heap.size 31 _ (0, 0) _ rfl (HH11.out.setRow _) Tryd.underlying31 rfl (hash_info _ (sumN_len _))) rfl ⟨by rw [HDE.out], below_setRow hw11 (Nat.le_refl _) _⟩

theorem reftag_any (vk vt : Value) (k t : List UInt8) (w : World) (hk : Bytes w vk k) (ht : Bytes w vt t) (hk2 : k.length ≤ 70368744177664) (hsz : t.length ≤ 35184372088832) (hg : Glob w) :
    Calls Tryd.prog 46 #[vk, vt] w fun e w' => e = .returned (.agg (bytesV (tagN k t)).toArray) ∧ Below w.heap.size w w' := by
  by_cases h : 64 < k.length
  · have e : keyN k = sumN k := by unfold keyN; rw [if_pos h]
    unfold tagN
    exact reftag_long vk vt k (keyN k) t w hk ht e h hk2 hsz hg
  · have e : keyN k = k := by unfold keyN; rw [if_neg h]
    unfold tagN
    rw [e]
    exact reftag_short vk vt k t w hk ht (by omega) hsz hg
end Go.Proofs.YtldokkbfahobgaaDoor
