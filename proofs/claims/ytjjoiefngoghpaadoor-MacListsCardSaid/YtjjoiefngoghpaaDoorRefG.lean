/- The walks of the reference's with, Text and great. Conditions: the key and the parts can be read. -/
import Derived.Test.YtjjoiefngoghpaaDoorMacE
import Derived.Test.YtjjoiefngoghpaaDoorRefC
import Derived.Test.YtjjoiefngoghpaaDoorRefN
namespace Go.Proofs.YtjjoiefngoghpaaDoor
open Go.RowKit

theorem wrap_i64_nat (x : Nat) (h : x < 9223372036854775808) : IntKind.i64.wrap (x : Int) = (x : Int) := by
  simp [IntKind.wrap, IntKind.bits, IntKind.signed]
  omega
theorem xor_i64 (x y : UInt8) : bits .xor .i64 (x.toNat : Int) (y.toNat : Int) = ((x ^^^ y).toNat : Int) := by
  have h := Nat.xor_lt_two_pow (n := 8) x.toNat_lt y.toNat_lt
  have hx := x.toNat_lt
  have hy := y.toNat_lt
  simp only [bits, ofInt_nat]
  rw [UInt8.toNat_xor]
  show IntKind.i64.wrap (((BitVec.ofNat 64 x.toNat ^^^ BitVec.ofNat 64 y.toNat).toNat : Nat) : Int) = _
  rw [BitVec.toNat_xor, BitVec.toNat_ofNat, BitVec.toNat_ofNat, Nat.mod_eq_of_lt (by omega), Nat.mod_eq_of_lt (by omega), wrap_i64_nat _ (by omega)]
theorem padN_at (k : List UInt8) (b : UInt8) (i : Nat) (h : i < 64) : (padN k b)[i]? = some (keyAt k i ^^^ b) := by simp [padN, h]

set_option maxRecDepth 100000 in
set_option maxHeartbeats 800000 in
theorem refwith_any (v : Value) (k : List UInt8) (b : UInt8) (w : World) (hk : Bytes w v k) :
    Calls Tryd.prog 43 #[v, .int .i64 (b.toNat : Int)] w fun e w' => (∃ a cap, e = .returned (.slice a 64 cap) ∧ w'.ownsRow w.heap.size 5 1 (.slice a 64 cap) 64 (bytesV (padN k b))) ∧ Below w.heap.size w w' := by
  obtain ⟨i0, hi, hz0, hz1, hz2⟩ := info_parts info_u8
  obtain ⟨xa, ca, rfl, _⟩ := hk.form
  have HK := Lib.hid hk
  clear hk
  go_enter Tryd.func43, Tryd.ntmps43
  go_wp2_with fail
  go_loopw [5, 6] (fun v i wr => ∃ (j : Nat) (a : Option Addr) (cap : Nat), j ≤ 64 ∧ i = .int .i64 j ∧ v = .slice a j cap ∧ wr.ownsRow w.heap.size 5 1 (.slice a j cap) j (bytesV ((padN k b).take j)) ∧ Below w.heap.size w wr) (fun _ i _ => 64 - (intOf i).toNat)
  case atStart => exact ⟨0, none, 0, by omega, rfl, rfl, World.ownsRow_nil _ _ _ _, by (repeat (first | with_reducible assumption | with_reducible exact Below.refl _ _ | ((with_reducible refine Below.setCell ?_ ?_ _); rotate_left; focus (first | omega | (simp; done) | (simp; omega))) | ((with_reducible refine Below.alloc ?_ ?_ _); rotate_left; focus (first | omega | (simp; done) | (simp; omega))) | ((with_reducible refine below_setRow ?_ ?_ _); rotate_left; focus (first | omega | (simp; done) | (simp; omega))) | (with_reducible refine below_drewN ?_ _) | (with_reducible refine Below.drew ?_)))⟩
  case round =>
    obtain ⟨j, a, cap, hj, rfl, rfl, hown, hb⟩ := hrel
    have HO := Lib.hid hown
    have hs := hb.size
    clear hown
    by_cases h64 : j < 64
    · have hsn : bytesV ((padN k b).take (j + 1)) = bytesV ((padN k b).take j) ++ [.int .u8 ((keyAt k j ^^^ b).toNat : Int)] := by
        rw [List.take_add_one, padN_at k b j h64, Option.toList_some, bytesV_app]
        rfl
      have HS := Lib.hid hsn
      have hx := xor_i64 (keyAt k j) b
      have hlt := (keyAt k j ^^^ b).toNat_lt
      have hcl := (keyAt k j).toNat_lt
      clear hsn
      obtain ⟨c, hc⟩ : ∃ c, c = (keyAt k j ^^^ b).toNat := ⟨_, rfl⟩
      rw [← hc] at hx hlt HS
      clear hc
      by_cases hjk : j < k.length
      · obtain ⟨kb, ko, kc, e, hcell⟩ := HK.out.at hjk
        cases e
        have hkb : kb < w.heap.size := World.block_lt_of_cell? _ _ (hcell j _ (List.getElem?_eq_getElem hjk))
        have c0 : wr.cell? ⟨kb, ko + j, none⟩ = some (.int .u8 ((keyAt k j).toNat : Int)) := (hb.cell (p := ⟨kb, _, none⟩) hkb).trans (hcell j _ (by unfold keyAt; rw [List.getElem?_eq_getElem hjk]; rfl))
        clear hcell
        generalize (keyAt k j).toNat = ck at *
        go_wp2_with (at_builtin; refine wpList_app rfl (.tmp 21) (.tmp 26) 24 rfl w.heap.size 5 i0 (.int .u8 0) 1 1 Tryd.underlying24 hi hz0 hz1 hz2 rfl (by decide) (.slice a j cap) _ _ rfl (by exact HO.out.alloc _) _ 1 [.int .u8 (c : Int)] rfl (by exact isSl_new _ _ _ _ _ rfl (by simp [Value.oneCell'])) (by unfold maxLen; omega) (by omega) (by simp; omega) ?_; intro a' cap' w1 hown' hgrow _)
        refine ⟨⟨j + 1, a', cap', by omega, by go_num, rfl, by rw [HS.out]; exact hown', (hb.alloc hs _).grown hgrow (by simp; omega) (fun k hk => (HO.out.lt k hk).1)⟩, by simp [intOf]; omega⟩
      · have hk0 : keyAt k j = 0 := by unfold keyAt; rw [List.getElem?_eq_none (by omega)]; rfl
        rw [hk0] at hx hcl
        rw [show (((0 : UInt8).toNat : Nat) : Int) = 0 from rfl] at hx
        clear hk0
        go_wp2_with (at_builtin; refine wpList_app rfl (.tmp 21) (.tmp 26) 24 rfl w.heap.size 5 i0 (.int .u8 0) 1 1 Tryd.underlying24 hi hz0 hz1 hz2 rfl (by decide) (.slice a j cap) _ _ rfl (by exact HO.out.alloc _) _ 1 [.int .u8 (c : Int)] rfl (by exact isSl_new _ _ _ _ _ rfl (by simp [Value.oneCell'])) (by unfold maxLen; omega) (by omega) (by simp; omega) ?_; intro a' cap' w1 hown' hgrow _)
        refine ⟨⟨j + 1, a', cap', by omega, by go_num, rfl, by rw [HS.out]; exact hown', (hb.alloc hs _).grown hgrow (by simp; omega) (fun k hk => (HO.out.lt k hk).1)⟩, by simp [intOf]; omega⟩
    · obtain rfl : j = 64 := by omega
      have hO := HO.out
      rw [List.take_of_length_le (by rw [padN_len]; exact Nat.le_refl _)] at hO
      have HO2 := Lib.hid hO
      clear hO HO
      go_wp2_with fail
      go_ret
      exact ⟨⟨a, cap, rfl, HO2.out⟩, hb⟩
end Go.Proofs.YtjjoiefngoghpaaDoor
