/- The walks of the reference's Fill and Bytes. The walk of the reference's Bytes. The walk of the reference's Sum. Conditions: what each part says. -/
import Derived.Test.YtldokkbfahobgaaDoorShaW
import Derived.Test.YtldokkbfahobgaaDoorHashP
import Derived.Test.YtldokkbfahobgaaDoorRefT
import Derived.Test.YtldokkbfahobgaaDoorGround
/-! RefC: The walks of the reference's Fill and Bytes. Conditions: the length is below 2^48; the texts can be read. -/
namespace Go.Proofs.YtldokkbfahobgaaDoor
open Go.RowKit

def fstepN (k : Nat) : Nat := 72057594037927936 / 256 ^ k
theorem fstepN_succ (k : Nat) : fstepN (k + 1) = fstepN k / 256 := by unfold fstepN; rw [Nat.pow_succ, Nat.div_div_eq_div_mul]
theorem fstepN_eq (k : Nat) (h : k < 8) : fstepN k = 2 ^ (8 * (7 - k)) := by
  match k, h with
  | 0, _ => rfl
  | 1, _ => rfl
  | 2, _ => rfl
  | 3, _ => rfl
  | 4, _ => rfl
  | 5, _ => rfl
  | 6, _ => rfl
  | 7, _ => rfl
theorem fstepN_lt (k : Nat) : fstepN k ≤ 72057594037927936 := Nat.div_le_self _ _
def fillRel3 (n : Nat) (w : World) (v s i : Value) (wr : World) : Prop :=
  ∃ (k S : Nat) (a : Option Addr) (cap : Nat), k ≤ 8 ∧ S = fstepN k ∧ i = .int .i64 k ∧ s = .int .u64 S ∧ v = .slice a (fillZ n + 1 + k) cap ∧ wr.ownsRow w.heap.size 5 1 (.slice a (fillZ n + 1 + k) cap) (fillZ n + 1 + k) (bytesV (fillH (fillZ n)) ++ bytesV (be64 (8 * n) k)) ∧ Below w.heap.size w wr

set_option maxRecDepth 100000 in
set_option maxHeartbeats 800000 in
theorem reffill_any (n : Nat) (w : World) (hn : n < 281474976710656) :
    Calls Tryd.prog 59 #[.int .i64 n] w fun e w' => (∃ a cap, e = .returned (.slice a (fillP n).length cap) ∧ w'.ownsRow w.heap.size 5 1 (.slice a (fillP n).length cap) (fillP n).length (bytesV (fillP n))) ∧ Below w.heap.size w w' := by
  obtain ⟨i0, hi, hz0, hz1, hz2⟩ := info_parts info_u8
  go_enter Tryd.func59, Tryd.ntmps59
  go_wp2_with fail
  go_loopw [3] (fun v wr => fillRel1 n w v wr) (fun v _ => 100 - lenOf v)
  case atStart =>
    refine ⟨0, _, 1, by omega, rfl, ⟨rfl, .inr ⟨_, 1, #[.int .u8 128], rfl, Nat.le_refl _, Blk.new _ _ _, Nat.le_refl _, by decide, rfl, rfl⟩⟩, by (repeat (first | with_reducible assumption | with_reducible exact Below.refl _ _ | ((with_reducible refine Below.setCell ?_ ?_ _); rotate_left; focus (first | omega | (simp; done) | (simp; omega))) | ((with_reducible refine Below.alloc ?_ ?_ _); rotate_left; focus (first | omega | (simp; done) | (simp; omega))) | ((with_reducible refine below_setRow ?_ ?_ _); rotate_left; focus (first | omega | (simp; done) | (simp; omega))) | (with_reducible refine below_drewN ?_ _) | (with_reducible refine Below.drew ?_)))⟩
  case round =>
    obtain ⟨j, a, cap, hj, rfl, hown, hb⟩ := hrel
    have ht := fillZ_test n j hj
    have HO := Lib.hid hown
    clear hown
    have hj63 : j ≤ 63 := Nat.le_trans hj (fillZ_lt n)
    by_cases hz : j = fillZ n
    · have htt : (((n : Int) + ((j : Int) + 1)) % 64 != 56) = false := by have := ht.2 hz; simp; omega
      clear ht
      have HZ := Lib.hid hz
      clear hz
      go_wp2_with fail
      obtain ⟨wo, hwo⟩ : ∃ wo : World, wo = wr := ⟨_, rfl⟩
      subst hwo
      go_loopw [3, 5, 6] (fun v s i wr => fillRel3 n w v s i wr) (fun _ _ i _ => 8 - (intOf i).toNat)
      case atStart =>
        obtain rfl := HZ.out
        exact ⟨0, _, a, cap, by omega, rfl, rfl, rfl, rfl, by simpa [be64, bytesV] using HO.out, hb⟩
      case round =>
        clear HO hb hj
        obtain ⟨k, S, a2, cap2, hk, hS, rfl, rfl, rfl, hown, hb⟩ := hrel
        have hz63 := fillZ_lt n
        have hS64 : S ≤ 72057594037927936 := by rw [hS]; exact fstepN_lt k
        have HO := Lib.hid hown
        have HS := Lib.hid hS
        clear hown hS
        by_cases h8 : k < 8
        · have hSp : 0 < S := by rw [HS.out, fstepN_eq k h8]; exact Nat.pow_pos (by decide)
          have hq0 : (0 : Int) ≤ (n : Int) * 8 / S := Int.ediv_nonneg (by omega) (by omega)
          have hqm : ((n : Int) * 8 / S).tmod 256 = (n : Int) * 8 / S % 256 := Int.tmod_eq_emod_of_nonneg hq0
          go_wp2_with (at_builtin; refine wpList_app rfl (.tmp 26) (.tmp 32) 48 rfl w.heap.size 5 i0 (.int .u8 0) 1 1 Tryd.underlying48 hi hz0 hz1 hz2 rfl (by decide) (.slice a2 (fillZ n + 1 + k) cap2) _ _ rfl (by exact HO.out.alloc _) _ 1 [.int .u8 ((n : Int) * 8 / S % 256)] rfl (by exact isSl_new _ _ _ _ _ rfl (by simp [Value.oneCell'])) (by unfold maxLen; omega) (by omega) (by have := hb.size; simp; omega) ?_; intro a' cap' w1 hown' hgrow _)
          refine ⟨⟨k + 1, S / 256, a', cap', by omega, by rw [fstepN_succ, HS.out], by go_num, by go_num, rfl, ?_, (hb.alloc hb.size _).grown hgrow (by have := hb.size; simp; omega) (fun k hk => (HO.out.lt k hk).1)⟩, by simp [intOf]; omega⟩
          have e := be64_snoc (8 * n) k h8
          rw [show ((8 * n : Nat) : Int) = (n : Int) * 8 by omega] at e
          rw [HS.out, fstepN_eq k h8] at hown'
          rw [show ((2 ^ (8 * (7 - k)) : Nat) : Int) = 2 ^ (8 * (7 - k)) by simp] at hown'
          rw [← e, ← List.append_assoc]
          exact hown'
        · obtain rfl : k = 8 := by omega
          go_wp2_with fail
          go_ret
          exact ⟨⟨a2, cap2, by rw [fillP_len]; rfl, by rw [fillP_len, fillP_V]; exact HO.out⟩, hb⟩
    · have htt : (((n : Int) + ((j : Int) + 1)) % 64 != 56) = true := by have : ¬ (n + (j + 1)) % 64 = 56 := fun h => hz (ht.1 h); simp; omega
      clear ht
      go_wp2_with (at_builtin; refine wpList_app rfl (.tmp 16) (.tmp 17) 48 rfl w.heap.size 5 i0 (.int .u8 0) 1 1 Tryd.underlying48 hi hz0 hz1 hz2 rfl (by decide) (.slice a (j + 1) cap) _ _ rfl (by exact HO.out.alloc _) _ 1 [.int .u8 0] rfl (by exact isSl_new _ _ _ _ _ rfl (by simp [Value.oneCell'])) (by unfold maxLen; omega) (by omega) (by have := hb.size; simp; omega) ?_; intro a' cap' w1 hown' hgrow _)
      refine ⟨⟨j + 1, a', cap', by omega, rfl, by rw [← fillH_snoc]; exact hown', (hb.alloc hb.size _).grown hgrow (by have := hb.size; simp; omega) (fun k hk => (HO.out.lt k hk).1)⟩, by simp [lenOf]; omega⟩
end Go.Proofs.YtldokkbfahobgaaDoor

/-! RefY: The walk of the reference's Bytes. Conditions: both texts can be read; their lengths are at most 2^62. -/
namespace Go.Proofs.YtldokkbfahobgaaDoor
open Go.RowKit

end Go.Proofs.YtldokkbfahobgaaDoor

/-! RefE: The walk of the reference's Sum. Conditions: the text can be read; at most 2^46 bytes; the package's tables read as they are laid. -/
namespace Go.Proofs.YtldokkbfahobgaaDoor
open Go.RowKit

/-- The digest's row: i words laid, and the last q bytes of the next one. -/
def outB (s : N8) (i q : Nat) : List UInt8 := (List.range 32).map fun j => if j < 4 * i ∨ (4 * i + 4 ≤ j + q ∧ j < 4 * i + 4) then digBN s j else 0
theorem outB_len (s : N8) (i q : Nat) : (outB s i q).length = 32 := by simp [outB]
theorem outB_at (s : N8) (i q j : Nat) (h : j < 32) : (outB s i q)[j]? = some (if j < 4 * i ∨ (4 * i + 4 ≤ j + q ∧ j < 4 * i + 4) then digBN s j else 0) := by simp [outB, h]
theorem outB_set (s : N8) (i q : Nat) (_hi : i < 8) (hq : q < 4) : (bytesV (outB s i q)).set (4 * i + (3 - q)) (.int .u8 ((digBN s (4 * i + (3 - q))).toNat : Int)) = bytesV (outB s i (q + 1)) := by
  have : (outB s i q).set (4 * i + (3 - q)) (digBN s (4 * i + (3 - q))) = outB s i (q + 1) := by
    apply List.ext_getElem?
    intro j
    by_cases hj : j < 32
    · rw [List.getElem?_set, outB_len, outB_at _ _ _ _ hj, outB_at _ _ _ _ hj]
      by_cases hk : 4 * i + (3 - q) = j
      · subst hk
        rw [if_pos rfl, if_pos hj, if_pos (by omega)]
      · rw [if_neg hk]
        by_cases h2 : j < 4 * i ∨ (4 * i + 4 ≤ j + q ∧ j < 4 * i + 4)
        · rw [if_pos h2, if_pos (by omega)]
        · rw [if_neg h2, if_neg (by omega)]
    · rw [List.getElem?_eq_none (by simp [outB_len]; omega), List.getElem?_eq_none (by simp [outB_len]; omega)]
  rw [← this]
  unfold bytesV
  rw [List.map_set]
theorem outB_next (s : N8) (i : Nat) : outB s i 4 = outB s (i + 1) 0 := by
  unfold outB
  refine List.map_congr_left fun j _ => ?_
  by_cases h : j < 4 * i ∨ (4 * i + 4 ≤ j + 4 ∧ j < 4 * i + 4)
  · rw [if_pos h, if_pos (by omega)]
  · rw [if_neg h, if_neg (by omega)]
theorem outB_0 (s : N8) : bytesV (outB s 0 0) = z32 := by
  have : outB s 0 0 = List.replicate 32 0 := by
    apply List.ext_getElem?
    intro j
    by_cases hj : j < 32
    · rw [outB_at _ _ _ _ hj, if_neg (by omega), List.getElem?_replicate, if_pos hj]
    · rw [List.getElem?_eq_none (by simp [outB_len]; omega), List.getElem?_eq_none (by simp; omega)]
  rw [this]
  rfl
theorem outB_8 (s : N8) : outB s 8 0 = (List.range 32).map (digBN s) := by
  unfold outB
  refine List.map_congr_left fun j hj => ?_
  rw [if_pos (by have := List.mem_range.1 hj; omega)]
theorem digBN_byte (s : N8) (i q : Nat) (hq : q < 4) : ((digBN s (4 * i + (3 - q))).toNat : Int) = ((s.get i / 256 ^ q : Nat) : Int) % 256 := by
  unfold digBN
  have e1 : (4 * i + (3 - q)) / 4 = i := by omega
  have e2 : 24 - 8 * ((4 * i + (3 - q)) % 4) = 8 * q := by omega
  rw [e1, e2, UInt8.toNat_ofNat', Nat.pow_mul, show (2 : Nat) ^ 8 = 256 from rfl]
  generalize s.get i / 256 ^ q = x
  omega
theorem first_load {w : World} (h : Glob w) : w.rangeAt 0 0 fvals := h.f

set_option maxRecDepth 100000 in
set_option maxHeartbeats 4000000 in
theorem refsum_any (v : Value) (t : List UInt8) (w : World) (ht : Bytes w v t) (hsz : t.length ≤ 70368744177664) (hg : Glob w) :
    Calls Tryd.prog 40 #[v] w fun e w' => e = .returned (.agg (bytesV (sumN t)).toArray) ∧ Below w.heap.size w w' := by
  obtain ⟨i0, hi, hz0, hz1, hz2⟩ := info_parts info_u8
  obtain ⟨xt, ct, rfl, _⟩ := ht.form
  have HT := Lib.hid ht
  have HG := Lib.hid hg
  clear ht hg
  go_enter Tryd.func40, Tryd.ntmps40
  have own0 : ∀ C : Array Value, ((w.alloc (.cells C 31)).alloc (.cells #[] 5)).ownsRow (w.heap.size + 1) 5 1 (.slice (some ⟨w.heap.size + 1, 0, none⟩) 0 0) 0 [] := fun C =>
    ⟨rfl, .inr ⟨_, 0, #[], rfl, Nat.le_refl _, by have := heap_alloc_new (w.alloc (.cells C 31)) (.cells #[] 5); rw [World.size_alloc] at this; exact this, Nat.le_refl _, by decide, rfl, rfl⟩⟩
  have OWN0 := Lib.hid own0
  clear own0
  go_wp2_with (first
    | (at_builtin; refine wpList_app rfl (.tmp 10) (.tmp 11) 48 rfl (w.heap.size + 1) 5 i0 (.int .u8 0) 1 1 Tryd.underlying48 hi hz0 hz1 hz2 rfl (by decide) (.slice (some ⟨w.heap.size + 1, 0, none⟩) 0 0) 0 [] rfl (by exact OWN0.out _) _ t.length (bytesV t) rfl (by exact IsSl.below HT.out (by (repeat (first | with_reducible assumption | with_reducible exact Below.refl _ _ | ((with_reducible refine Below.setCell ?_ ?_ _); rotate_left; focus (first | omega | (simp; done) | (simp; omega))) | ((with_reducible refine Below.alloc ?_ ?_ _); rotate_left; focus (first | omega | (simp; done) | (simp; omega))) | ((with_reducible refine below_setRow ?_ ?_ _); rotate_left; focus (first | omega | (simp; done) | (simp; omega))) | (with_reducible refine below_drewN ?_ _) | (with_reducible refine Below.drew ?_))))) (by unfold maxLen; omega) (by omega) (by simp) ?_; intro a1 cap1 w1 hown1 hgrow1 _; rw [Nat.zero_add, List.nil_append] at hown1;
       have hH1 : Blk w1 w.heap.size z32 31 := ((Blk.newL w z32 _).alloc _).grown hgrow1 (fun e => by have := ((OWN0.out #[]).lt _ e.symm).1; omega);
       have hb1 : Below w.heap.size w w1 := (((Below.refl w.heap.size w).alloc (Nat.le_refl _) _).alloc (by simp) _).grown hgrow1 (by simp <;> omega) (fun k hk => by have := ((OWN0.out #[]).lt k hk).1; omega);
       have hs1 : w.heap.size + 1 + 1 ≤ w1.heap.size := (by have := hgrow1.size; simpa using this); have HO1 := Lib.hid hown1; have HH1 := Lib.hid hH1; clear hown1 hgrow1 hH1)
    | (go_at_call 59; refine (reffill_any t.length _ (by omega)).mono ?_; rintro e w2 ⟨⟨a2, cap2, rfl, hown2⟩, hb2⟩;
       have HO2 := Lib.hid (ownsRow_below HO1.out hb2 (ownsRow_block HO1.out)); have HS2 := Lib.hid (ownsRow_isSl hown2 (bytesV_one _)); have HH2 := Lib.hid (HH1.out.below hb2 (by omega)); have hw2 := hb1.trans (hb2.mono (by omega)); have hs2 := hb2.size; clear hown2)
    | (at_builtin; refine wpList_app rfl (.tmp 12) (.tmp 15) 48 rfl (w.heap.size + 1) 5 i0 (.int .u8 0) 1 1 Tryd.underlying48 hi hz0 hz1 hz2 rfl (by decide) (.slice a1 t.length cap1) _ _ rfl (by exact HO2.out) _ (fillP t.length).length (bytesV (fillP t.length)) rfl (by exact HS2.out) (by have := fillP_len t.length; have := fillZ_lt t.length; unfold maxLen; omega) (by have := fillP_len t.length; have := fillZ_lt t.length; omega) (by omega) ?_; intro a3 cap3 w3 hown3 hgrow3 _;
       have HH3 := Lib.hid (HH2.out.grown hgrow3 (fun e => by have := (HO2.out.lt _ e.symm).1; omega)); have hw3 := hw2.grown hgrow3 hw2.size (fun k hk => by have := (HO2.out.lt k hk).1; omega); have HO3 := Lib.hid hown3; have hs3 := hgrow3.size; clear hown3 hgrow3)
    | (refine wpList_load_mid rfl 95 (.global 0) rfl 0 0 rfl fvals _ (by exact (HG.out.below hw3).f) Tryd.underlying95 rfl (by exact fvals_info) ?_)
    | (refine wpList_store_row rfl 95 (.tmp 4) (.tmp 17) rfl w3.heap.size fvals.toArray rfl rfl 95 zvals.toArray (by exact Blk.newL w3 zvals _) (by exact fvals_info) rfl fvals_one ?_)
    | fail)
  obtain ⟨p, hp⟩ : ∃ p, p = padded t := ⟨_, rfl⟩
  obtain ⟨N, hN⟩ : ∃ N, N = p.length / 64 := ⟨_, rfl⟩
  have hpl : t.length + (fillP t.length).length = 64 * N := by rw [hN, hp, ← padded_64, padded_len]
  have hown3 := HO3.out
  rw [hpl, ← bytesV_app, show t ++ fillP t.length = p by rw [hp]; rfl] at hown3
  rw [hpl]
  have hplen : p.length = 64 * N := by rw [hN, hp]; exact padded_64 _
  have hN64 : 64 * N ≤ 70368744177864 := by have := fillP_len t.length; have := fillZ_lt t.length; omega
  have hNpos : 0 < N := by have := fillP_len t.length; omega
  obtain ⟨b, off, cap, hsv, hcap, htext, hbw⟩ := (ownsRow_isSl hown3 (bytesV_one _)).pos (by omega) (by decide)
  cases hsv
  have hW4 : Below w3.heap.size w3 ((w3.alloc (.cells zvals.toArray 95)).setRow w3.heap.size fvals.toArray) := below_setRow ((Below.refl _ _).alloc (Nat.le_refl _) _) (Nat.le_refl _) _
  have hBH : Blk ((w3.alloc (.cells zvals.toArray 95)).setRow w3.heap.size fvals.toArray) w3.heap.size F0N.v32 95 := (Blk.newL w3 zvals _).setRow fvals
  obtain ⟨w4, e4⟩ : ∃ w4, w4 = (w3.alloc (.cells zvals.toArray 95)).setRow w3.heap.size fvals.toArray := ⟨_, rfl⟩
  rw [← e4] at hW4 hBH
  have hs4 : w3.heap.size < w4.heap.size := by rw [e4]; simp
  have hr4 : w4.rangeAt b off (bytesV p) := range_below htext hW4
  have hz4 : Blk w4 w.heap.size z32 31 := HH3.out.below hW4 (by omega)
  have hw4 := hw3.trans (hW4.mono (by omega))
  refine wp_world e4 ?_
  have HPP := Lib.hid hp
  have HNN := Lib.hid hN
  have HPL := Lib.hid hplen
  have HR4 := Lib.hid hr4
  have HZ4 := Lib.hid hz4
  have HBH := Lib.hid hBH
  have hbw4 : b < w4.heap.size := by omega
  have hs04 : w.heap.size < w3.heap.size := by omega
  obtain ⟨B, hB⟩ : ∃ B, B = w3.heap.size := ⟨_, rfl⟩
  rw [← hB] at HBH hs4 hs04 hbw ⊢
  clear hp hN hplen hr4 hz4 hBH hpl hown3 htext hW4 e4 HO1 HO2 HO3 HS2 HH1 HH2 HH3 hb1 hb2 hw2 hs1 hs2 hs3 hw3 OWN0
  clear hB
  go_loopw [5] (fun i wr => ∃ j m : Nat, j ≤ N ∧ m = 64 * j ∧ i = .int .i64 m ∧ Blk wr B (stateN p j).v32 95 ∧ wr.rangeAt b off (bytesV p) ∧ Blk wr w.heap.size z32 31 ∧ Below w.heap.size w wr) (fun i _ => 64 * N - (intOf i).toNat)
  case atStart => exact ⟨0, 0, by omega, rfl, rfl, HBH.out, HR4.out, HZ4.out, hw4⟩
  case round =>
    clear HBH HR4 HZ4 hw4
    obtain ⟨j, m, hj, hm, rfl, hBs, hr, hz, hb⟩ := hrel
    have hPb : Bytes wr (.slice (some ⟨b, off, none⟩) (64 * N) cap3) p := by
      have := IsSl.of_range (w := wr) (b := b) (off := off) (n := 64 * N) (cap := cap3) (size := 1) (cs := bytesV p) (by rw [bytesV_len, HPL.out]; omega) (bytesV_one _) (by omega) hr
      unfold Bytes
      rw [HPL.out]
      exact this
    have HPB := Lib.hid hPb
    have HBS := Lib.hid hBs
    have HR := Lib.hid hr
    have HZ := Lib.hid hz
    have HM := Lib.hid hm
    have hlB := HBS.out.lt
    have hlz := HZ.out.lt
    clear hBs hr hz hPb
    by_cases hjN : j < N
    · have hmle : m + 64 ≤ 64 * N := by omega
      clear hm
      obtain ⟨a5, c5, hrun, hB5⟩ := slice_mid HPB.out Tryd.underlying48 size_u8 m (m + 64) (by omega) (by rw [HPL.out]; omega)
      rw [show m + 64 - m = 64 by omega] at hrun hB5
      have hB5' : Bytes wr (.slice a5 64 c5) (blk p j) := by rw [HM.out] at hB5; exact hB5
      have hl5 : (blk p j).length = 64 := by unfold blk; rw [List.length_take, List.length_drop, HPL.out]; omega
      obtain ⟨b5, o5, c6, e5, hc5⟩ := hB5'.at (i := 0) (by rw [hl5]; omega)
      rw [hl5] at e5
      cases e5
      have hb5lt : b5 < wr.heap.size := World.block_lt_of_cell? _ _ (hc5 0 _ (List.getElem?_eq_getElem (l := blk p j) (i := 0) (by rw [hl5]; omega)))
      have hcl : ∀ i, i < 64 → wr.cell? ⟨b5, o5 + i, none⟩ = some (.int .u8 (byteI (blk p j) i)) := fun i hi => by
        have h := List.getElem?_eq_getElem (l := blk p j) (i := i) (by rw [hl5]; exact hi)
        rw [hc5 i _ h]
        unfold byteI
        rw [h]
        rfl
      have HCL := Lib.hid hcl
      rw [show ((m + 64 : Nat) : Int) = (m : Int) + 64 by simp] at hrun
      clear hB5 hB5' hl5 hc5 hcl
      obtain ⟨S, hS⟩ : ∃ S, S = stateN p j := ⟨_, rfl⟩
      have hSok : S.Ok := by rw [hS]; exact stateN_ok p j
      have hnx : turnN S (blk p j) = stateN p (j + 1) := by rw [hS]; rfl
      rw [← hS] at HBS
      obtain ⟨T, hT⟩ : ∃ T, T = turnN S (blk p j) := ⟨_, rfl⟩
      have HT5 := Lib.hid hT
      have HNX := Lib.hid (hT.trans hnx)
      have HSOK := Lib.hid hSok
      have HG5 := Lib.hid (HG.out.below hb)
      clear hS hSok hnx hT
      have hdec : decide ((m : Int) + 64 ≤ 64 * (N : Int)) = true := by rw [decide_eq_true_iff]; omega
      go_wp2_with fail
      refine wp_region_mono 7 (wr.heap.size) [(fun v _ => v = .agg S.v32.toArray), (fun v _ => v = .slice (some ⟨b, off, none⟩) (64 * N) cap3), (fun v _ => v = .int .i64 m), (fun v _ => v = .int .i64 m), (fun v _ => v = .int .i64 ((m : Int) + 64)), (fun v _ => v = .slice (some ⟨b5, o5, none⟩) 64 c5), (fun v _ => v = .agg T.v32.toArray)] (by kernel_rfl) (by kernel_rfl) (Nat.le_refl _) ?mkept _ rfl ?mops ?mfin
      case mkept =>
        repeat (refine List.forall_mem_cons.2 ⟨by first | exact fun _ _ _ _ h => h | exact fun _ _ _ hb h => Parts.below h hb | exact fun _ _ _ hb h => IsSl.below h hb, ?_⟩)
        exact fun _ h => by cases h
      case mops =>
        simp only [List.take_succ_cons, List.take_zero, monoAll, List.getD_cons_zero, List.getD_cons_succ]
        iterate 7
        
         (refine ⟨fun x wr hb hd Qg hK => ?_, ?_⟩
          · as_aux_lemma =>
            simp only [fill, Act.put, List.setIfInBounds_toArray, List.set_cons_succ, List.set_cons_zero, needs, Region.binds, List.filter_cons, List.filter_nil, List.map_cons, List.map_nil, if_true, List.mem_cons, List.not_mem_nil, or_false, forall_eq_or_imp, forall_eq, List.getD_cons_zero, List.getD_cons_succ, false_implies, implies_true] at hd hK ⊢
            (try simp only [hd] at hK ⊢)
            first
            | (have hBr := HBS.out.below hb (hlB); refine wpList_load_rowIf rfl 95 (.tmp 4) rfl _ rfl 95 (S.v32).toArray (0, 0) _ (by exact hBr) Tryd.underlying95 rfl (vals_info _) ?_; exact hK _ _ rfl (Below.refl _ _))
            | (show wpList _ _ _ [⟨some _, .call _, _, _, _, _⟩] _ _; go_wp2_with (go_at_call 60; refine (refturn_any b5 o5 c5 (blk p j) S wr HSOK.out (fun i hi => (hb.cell (p := ⟨b5, _, none⟩) hb5lt).trans (HCL.out i hi)) (HG5.out.below hb)).mono ?_; rintro e w5 ⟨rfl, hb5⟩); exact hK _ _ (by rw [HT5.out]) hb5)
            | (go_wp2_with fail; exact hK _ _ rfl (Below.refl _ _)))
        trivial
      case mfin =>
        intro x w6 hb6 hR
        have x6 := hR 6 (by decide)
        simp only [List.getD_cons_zero, List.getD_cons_succ] at x6
        have HB6 := Lib.hid (HBS.out.below hb6 hlB)
        have hr6 := range_below HR.out hb6
        have hz6 := HZ.out.below hb6 hlz
        have hw6 := hb.trans (hb6.mono hb.size)
        have HR6 := Lib.hid hr6
        have HZ6 := Lib.hid hz6
        have hbw6 : w.heap.size < w6.heap.size := Nat.lt_of_lt_of_le hlz hb6.size
        clear hR hr6 hz6 hrun hb6
        simp only [List.drop_succ_cons, List.drop_zero]
        generalize List.toArray _ = L0
        simp only [List.take_succ_cons, List.take_zero, List.map_cons, List.map_nil, fill, Act.put, List.setIfInBounds_toArray, List.set_cons_succ, List.set_cons_zero, x6]
        clear x6
        go_wp2_with (first
          | (refine wpList_store_row rfl 95 (.tmp 4) (.tmp 31) rfl B T.v32.toArray rfl rfl 95 S.v32.toArray (by exact HB6.out) (vals_info _) rfl (vals_one _) ?_)
          | fail)
        refine ⟨⟨j + 1, m + 64, by omega, by rw [HM.out]; omega, by go_num, ?_, ?_, HZ6.out.setRow_other (by omega) _, below_setRow hw6 (by omega) _⟩, by simp [intOf]; omega⟩
        · rw [← HNX.out]
          exact HB6.out.setRow _
        · intro q u hu
          exact ((below_setRow (Below.refl B w6) (Nat.le_refl _) _).cell (p := ⟨b, _, none⟩) hbw).trans (HR6.out q u hu)
    · obtain rfl : j = N := by omega
      have hmb : m ≤ 70368744177864 := by omega
      have hnle : ¬ (m : Int) + 64 ≤ 64 * (j : Int) := by omega
      have hdec : decide ((m : Int) + 64 ≤ 64 * (j : Int)) = false := by rw [decide_eq_false_iff_not]; exact hnle
      obtain ⟨S, hS⟩ : ∃ S, S = stateN p j := ⟨_, rfl⟩
      have hSok : S.Ok := by rw [hS]; exact stateN_ok p j
      rw [← hS] at HBS
      have hsum : sumN t = (List.range 32).map (digBN S) := by unfold sumN; rw [hS, ← HPP.out, ← HNN.out]
      have HSUM := Lib.hid hsum
      have HSOK := Lib.hid hSok
      obtain ⟨W, hW⟩ : ∃ W : World, W = wr := ⟨_, rfl⟩
      rw [← hW] at HBS HZ hb hlB hlz ⊢
      clear hS hSok hsum HPB HR HM hm HPP HNN HPL hW
      go_wp2_with fail
      go_loopw [7] (fun i wr => ∃ k : Nat, k ≤ 8 ∧ i = .int .i64 k ∧ Blk wr W.heap.size (bytesV (outB S k 0)) 31 ∧ Blk wr B S.v32 95 ∧ Blk wr w.heap.size z32 31 ∧ Below w.heap.size w wr) (fun i _ => 8 - (intOf i).toNat)
      case atStart => exact ⟨0, by omega, rfl, by rw [outB_0]; exact Blk.newL W z32 _, HBS.out.alloc _, HZ.out.alloc _, hb.alloc hb.size _⟩
      case round =>
        have hbs := hb.size
        clear HBS HZ hb
        obtain ⟨k, hk, rfl, hO, hBs, hz, hb⟩ := hrel
        have HO := Lib.hid hO
        have HBS := Lib.hid hBs
        have HZ := Lib.hid hz
        clear hO hBs hz
        by_cases h8 : k < 8
        · have c0 : wr.cell? ⟨B, k, none⟩ = some (.int .u32 (S.get k)) := HBS.out.cell (v32_at _ _ h8)
          go_wp2_with fail
          go_loopw [8, 9] (fun x i wr => ∃ q G : Nat, q ≤ 4 ∧ i = .int .i64 (3 - (q : Int)) ∧ x = .int .u32 G ∧ G = S.get k / 256 ^ q ∧ G < 4294967296 ∧ Blk wr W.heap.size (bytesV (outB S k q)) 31 ∧ Blk wr B S.v32 95 ∧ Blk wr w.heap.size z32 31 ∧ Below w.heap.size w wr) (fun _ i _ => (intOf i + 1).toNat)
          case atStart => exact ⟨0, S.get k, by omega, rfl, rfl, by simp, get_lt S HSOK.out k, HO.out, HBS.out, HZ.out, hb⟩
          case round =>
            clear HO HBS HZ hb c0
            obtain ⟨q, G, hq, rfl, rfl, hG, hGl, hO, hBs, hz, hb⟩ := hrel
            have HO := Lib.hid hO
            have HBS := Lib.hid hBs
            have HZ := Lib.hid hz
            have HGG := Lib.hid hG
            clear hO hBs hz hG
            by_cases h4 : q < 4
            · have c0 : wr.cell? ⟨W.heap.size, 4 * k + (3 - q), none⟩ = some (.int .u8 0) := HO.out.cell (by
                have := bytesV_at (outB S k q) (4 * k + (3 - q)) 0 (by rw [outB_at _ _ _ _ (by omega), if_neg (by omega)])
                simpa using this)
              have f0 : wr.frozen? ⟨W.heap.size, 4 * k + (3 - q), none⟩ = false := HO.out.frozen _
              have hix : ((4 * (k : Int) + (3 - (q : Int))).toNat) = 4 * k + (3 - q) := by omega
              go_wp2_with fail
              refine ⟨⟨q + 1, G / 256, by omega, by go_num, by go_num, by rw [HGG.out, Nat.div_div_eq_div_mul, Nat.pow_succ], by omega, ?_, HBS.out.set_other (by simp <;> omega) _, HZ.out.set_other (by simp <;> omega) _, hb.setCell (by simp <;> omega) _⟩, by simp [intOf]; omega⟩
              rw [← outB_set S k q h8 h4, digBN_byte S k q h4, ← HGG.out]
              exact HO.out.set _ _
            · obtain rfl : q = 4 := by omega
              go_wp2_with fail
              refine ⟨⟨k + 1, by omega, by go_num, by rw [← outB_next]; exact HO.out, HBS.out, HZ.out, hb⟩, by simp [intOf]; omega⟩
        · obtain rfl : k = 8 := by omega
          have hD : bytesV (outB S 8 0) = bytesV (sumN t) := by rw [outB_8, HSUM.out]
          obtain ⟨D, hDD⟩ : ∃ D, D = sumN t := ⟨_, rfl⟩
          rw [hD, ← hDD] at HO
          have HDL := Lib.hid (show D.length = 32 by rw [hDD, sumN_len])
          have HDD := Lib.hid hDD
          clear hD hDD h8
          go_wp2_with (first
            | (refine wpList_load_row rfl 31 (.tmp 6) rfl W.heap.size rfl 31 (bytesV D).toArray (0, 0) _ (by exact HO.out) Tryd.underlying31 rfl (hash_info D HDL.out) ?_)
            | (refine wpList_store_row rfl 31 (.tmp 2) (.tmp 53) rfl w.heap.size (bytesV D).toArray rfl rfl 31 z32.toArray (by exact HZ.out) (by exact hash_info D HDL.out) (by simp [z32, bytesV, HDL.out]) (hash_one _) ?_)
            | fail)
          exact bodyPost_ret (v := .agg (bytesV D).toArray) (results_cell_row rfl _ _ w.heap.size 31 _ (0, 0) _ rfl (HZ.out.setRow _) Tryd.underlying31 rfl (hash_info D HDL.out)) rfl ⟨by rw [HDD.out], below_setRow hb (Nat.le_refl _) _⟩
end Go.Proofs.YtldokkbfahobgaaDoor
