/- The walks of the reference's Text and Of. Conditions: the parts can be read, together at most 2^45 bytes; the package's tables read as they are laid. -/
import Derived.Test.YtjjoiefngoghpaaDoorRefE
import Derived.Test.YtjjoiefngoghpaaDoorRefG
namespace Go.Proofs.YtjjoiefngoghpaaDoor
open Go.RowKit

def textP (d : Int) (ls : List (List UInt8)) (k : Nat) : List UInt8 := domB d :: joinP ls k
theorem textP_len (d : Int) (ls : List (List UInt8)) (k : Nat) : (textP d ls k).length = 1 + (joinP ls k).length := by simp [textP]; omega
theorem textP_succ (d : Int) (ls : List (List UInt8)) (k : Nat) (l : List UInt8) (h : ls[k]? = some l) : textP d ls (k + 1) = textP d ls k ++ rowN l.length 4 ++ l := by
  unfold textP
  rw [joinP_succ ls k l h]
  simp [partN]
def textN (d : Int) (ls : List (List UInt8)) : List UInt8 := [domB d] ++ joinN ls
theorem textP_all (d : Int) (ls : List (List UInt8)) : textP d ls ls.length = textN d ls := by unfold textP textN; rw [joinP_all]; rfl
theorem textN_len (d : Int) (ls : List (List UInt8)) : (textN d ls).length ≤ 1 + 4 * ls.length + (cat ls).length := by
  have := joinP_len ls ls.length
  rw [← textP_all, textP_len]
  omega

set_option maxRecDepth 100000 in
set_option maxHeartbeats 800000 in
theorem reftext_any (d : Int) (v : Value) (ls : List (List UInt8)) (vs : List Value) (w : World) (hp : Parts w v ls vs) (hsz : (cat ls).length ≤ 35184372088832) (hln : ls.length ≤ 1000000000000) :
    Calls Tryd.prog 34 #[.int .i64 d, v] w fun e w' => (∃ v', e = .returned v' ∧ Bytes w' v' (textN d ls)) ∧ Below w.heap.size w w' := by
  obtain ⟨i0, hi, hz0, hz1, hz2⟩ := info_parts info_u8
  obtain ⟨xa, ca, rfl, _⟩ := hp.sl.form
  have HP := Lib.hid hp
  have hdv : bytesV (textP d ls 0) = [.int .u8 (d % 256)] := by
    have := domB_val d
    simp [textP, joinP, bytesV, this]
  have HDV := Lib.hid hdv
  clear hp hdv
  go_enter Tryd.func34, Tryd.ntmps34
  go_wp2_with fail
  go_loopw [5, 6] (fun v i wr => ∃ (k : Nat) (a : Option Addr) (cap : Nat), k ≤ ls.length ∧ i = .int .i64 k ∧ v = .slice a (textP d ls k).length cap ∧
    wr.ownsRow w.heap.size 5 1 (.slice a (textP d ls k).length cap) (textP d ls k).length (bytesV (textP d ls k)) ∧ Below w.heap.size w wr) (fun _ i _ => ls.length - (intOf i).toNat)
  case atStart =>
    refine ⟨0, some ⟨w.heap.size, 0, none⟩, 1, by omega, rfl, rfl, ?_, by (repeat (first | with_reducible assumption | with_reducible exact Below.refl _ _ | ((with_reducible refine Below.setCell ?_ ?_ _); rotate_left; focus (first | omega | (simp; done) | (simp; omega))) | ((with_reducible refine Below.alloc ?_ ?_ _); rotate_left; focus (first | omega | (simp; done) | (simp; omega))) | ((with_reducible refine below_setRow ?_ ?_ _); rotate_left; focus (first | omega | (simp; done) | (simp; omega))) | (with_reducible refine below_drewN ?_ _) | (with_reducible refine Below.drew ?_)))⟩
    rw [HDV.out]
    exact ⟨rfl, .inr ⟨_, 1, #[.int .u8 (d % 256)], rfl, Nat.le_refl _, Blk.new _ _ _, Nat.le_refl _, by decide, rfl, rfl⟩⟩
  case round =>
    obtain ⟨k, a, cap, hk, rfl, rfl, hown, hb⟩ := hrel
    have HO := Lib.hid hown
    clear hown
    by_cases hkn : k < ls.length
    · obtain ⟨b, off, cc, e, _, hr, hbW⟩ := HP.out.sl.pos (by omega) (by decide)
      cases e
      have hvl : k < vs.length := by rw [HP.out.len]; exact hkn
      have hlk := List.getElem?_eq_getElem hkn
      have hvk := List.getElem?_eq_getElem hvl
      have hby := HP.out.each k _ _ hvk hlk
      have hcell := hr k _ hvk
      obtain ⟨l, hle⟩ : ∃ l, l = ls[k] := ⟨_, rfl⟩
      obtain ⟨vk, hve⟩ : ∃ vk, vk = vs[k] := ⟨_, rfl⟩
      rw [← hle] at hby hlk
      rw [← hve] at hby hcell
      have hlen := part_le ls k l hlk
      have hJ := joinP_len ls (k + 1)
      have hS := textP_succ d ls k l hlk
      have hT1 := textP_len d ls k
      have hT2 := textP_len d ls (k + 1)
      have hT3 : (textP d ls (k + 1)).length = (textP d ls k).length + 4 + l.length := by rw [hS, List.length_append, List.length_append, rowN_len]
      have hcw : wr.cell? ⟨b, off + k, none⟩ = some vk := (hb.cell (p := ⟨b, _, none⟩) hbW).trans hcell
      have hsz2 := hb.size
      have HS := Lib.hid hS
      have HBY := Lib.hid hby
      obtain ⟨L, hL⟩ : ∃ L, L = (textP d ls k).length := ⟨_, rfl⟩
      rw [← hL] at HO hT1 hT3 ⊢
      have HT3 := Lib.hid hT3
      have HL := Lib.hid hL
      have hLm : L + 4 + l.length ≤ 80000000000000 := by omega
      clear hS hby hcell hlk hvk hle hve hr hT2 hT3 hT1 hJ hL
      obtain ⟨xk, ck, rfl, _⟩ := HBY.out.form
      have HCW := Lib.hid hcw
      go_wp2_with fail
      refine (number_any l.length 4 wr (by decide)).mono ?_
      rintro e w2 ⟨⟨v2, rfl, hv2⟩, hb2⟩
      rw [u64N_nat l.length (by omega)] at hv2
      have hown2 := ownsRow_below HO.out hb2 (ownsRow_block HO.out)
      have hB2 := hb.trans (hb2.mono hb.size)
      have HO2 := Lib.hid hown2
      have hv2' : IsSl w2 v2 1 4 (bytesV (rowN l.length 4)) := by
        have := hv2
        unfold Bytes at this
        rw [rowN_len] at this
        exact this
      have HV2 := Lib.hid hv2'
      obtain ⟨x2, c2, rfl, _⟩ := hv2'.form
      have hs2 := hB2.size
      have HC2 := Lib.hid ((hb2.cell (p := ⟨b, _, none⟩) (Nat.lt_of_lt_of_le hbW hsz2)).trans HCW.out)
      clear hb hb2 HO hown2 hv2 hv2' hcw HCW
      go_wp2_with (first
        | (at_builtin; refine wpList_app rfl (.tmp 16) (.tmp 22) 24 rfl w.heap.size 5 i0 (.int .u8 0) 1 1 Tryd.underlying24 hi hz0 hz1 hz2 rfl (by decide) (.slice a L cap) _ _ rfl (by exact HO2.out) _ 4 (bytesV (rowN l.length 4)) rfl (by exact HV2.out) (by unfold maxLen; omega) (by omega) (by omega) ?_; intro a3 cap3 w3 hown3 hgrow3 _;
           have hb3 := hB2.grown hgrow3 hs2 (fun k hk => (HO2.out.lt k hk).1); have HO3 := Lib.hid hown3; have hs3 := hb3.size;
           have hb23 : Below w.heap.size w2 w3 := (Below.refl _ _).grown hgrow3 hs2 (fun k hk => (HO2.out.lt k hk).1); have hc3 := (hb23.cell (p := ⟨b, _, none⟩) hbW).trans HC2.out;
           clear hown3 hgrow3)
        | (at_builtin; refine wpList_app rfl (.tmp 24) (.tmp 28) 24 rfl w.heap.size 5 i0 (.int .u8 0) 1 1 Tryd.underlying24 hi hz0 hz1 hz2 rfl (by decide) (.slice a3 (L + 4) cap3) _ _ rfl (by exact HO3.out) _ l.length (bytesV l) rfl (by exact HBY.out.below hb3) (by unfold maxLen; omega) (by omega) (by omega) ?_; intro a4 cap4 w4 hown4 hgrow4 _;
           have hb4 := hb3.grown hgrow4 hs3 (fun k hk => (HO3.out.lt k hk).1); have HO4 := Lib.hid hown4; clear hown4 hgrow4)
        | fail)
      have hO4 := HO4.out
      rw [← bytesV_app, ← bytesV_app] at hO4
      refine ⟨⟨k + 1, a4, cap4, by omega, by go_num, by rw [HT3.out], by rw [HT3.out, HS.out]; exact hO4, hb4⟩, by simp [intOf]; omega⟩
    · obtain rfl : k = ls.length := by omega
      have hO := HO.out
      rw [textP_all] at hO ⊢
      clear HO
      have HO := Lib.hid (ownsRow_isSl hO (bytesV_one _))
      clear hO
      go_wp2_with fail
      go_ret
      exact ⟨⟨_, rfl, HO.out⟩, hb⟩

set_option maxRecDepth 100000 in
set_option maxHeartbeats 800000 in
theorem refof_any (d : Int) (v : Value) (ls : List (List UInt8)) (vs : List Value) (w : World) (hp : Parts w v ls vs) (hsz : (cat ls).length ≤ 35184372088832) (hln : ls.length ≤ 1000000000000) (hg : Glob w) :
    Calls Tryd.prog 31 #[.int .i64 d, v] w fun e w' => e = .returned (.agg (bytesV (ofN d ls)).toArray) ∧ Below w.heap.size w w' := by
  obtain ⟨xa, ca, rfl, _⟩ := hp.sl.form
  have hb1 := (Below.refl w.heap.size w).alloc (Nat.le_refl _) (.cells z32.toArray 31)
  have HP := Lib.hid (hp.below hb1)
  have HG := Lib.hid hg
  have HZ := Lib.hid (Blk.newL w z32 31)
  have HL := Lib.hid (textN_len d ls)
  clear hp hg
  go_enter Tryd.func31, Tryd.ntmps31
  go_wp2_with fail
  refine (reftext_any d _ ls vs _ HP.out hsz hln).mono ?_
  rintro e w2 ⟨⟨v2, rfl, hv2⟩, hb2⟩
  have hw2 := hb1.trans (hb2.mono hb1.size)
  have hz2 := HZ.out.below hb2 (by simp)
  have HV2 := Lib.hid hv2
  obtain ⟨x2, c2, rfl, _⟩ := hv2.form
  have HZ2 := Lib.hid hz2
  clear hb1 hb2 hz2 hv2 HZ HP
  go_wp2_with fail
  refine (refsum_any _ (textN d ls) w2 HV2.out (by have := HL.out; omega) (HG.out.below hw2)).mono ?_
  rintro e w3 ⟨rfl, hb3⟩
  have hw3 := hw2.trans (hb3.mono hw2.size)
  have HZ3 := Lib.hid (HZ2.out.below hb3 HZ2.out.lt)
  clear hb3 hw2 HZ2 HV2 HL
  obtain ⟨D, hD⟩ : ∃ D, D = ofN d ls := ⟨_, rfl⟩
  have HD := Lib.hid hD
  have HDL := Lib.hid (show D.length = 32 by rw [hD]; exact sumN_len _)
  rw [show sumN (textN d ls) = D by rw [hD]; rfl]
  clear hD
  go_wp2_with (first
    | (refine wpList_store_row rfl 31 (.tmp 4) (.tmp 8) rfl w.heap.size (bytesV D).toArray rfl rfl 31 z32.toArray (by exact HZ3.out) (by exact hash_info D HDL.out) (by simp [z32, bytesV, HDL.out]) (hash_one _) ?_)
    | fail)
  exact bodyPost_ret (v := .agg (bytesV D).toArray) (results_cell_row rfl _ _ w.heap.size 31 _ (0, 0) _ rfl (HZ3.out.setRow _) Tryd.underlying31 rfl (hash_info D HDL.out)) rfl ⟨by rw [HD.out], below_setRow hw3 (Nat.le_refl _) _⟩
end Go.Proofs.YtjjoiefngoghpaaDoor
