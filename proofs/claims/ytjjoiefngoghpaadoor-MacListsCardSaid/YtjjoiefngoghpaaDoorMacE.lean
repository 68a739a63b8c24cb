/- The walks of mac.Of and mac.Key. Conditions: the parts can be read, together at most 2^45 bytes; the words can be read; the package's tables read as they are laid. -/
import Derived.Test.YtjjoiefngoghpaaDoorMacD
namespace Go.Proofs.YtjjoiefngoghpaaDoor
open Go.RowKit

def intsV (ns : List Int) : List Value := ns.map (Value.int .i64)
theorem intsV_len (ns : List Int) : (intsV ns).length = ns.length := by simp [intsV]
def Ints (w : World) (v : Value) (ns : List Int) : Prop := IsSl w v 1 ns.length (intsV ns)
def wordsP (ns : List Int) (k : Nat) : List UInt8 := (ns.take k).flatMap fun n => rowN (u64N n) 8
/-- The words' bytes, eight each, the highest first. -/
def wordsN (ns : List Int) : List UInt8 := ns.flatMap fun n => rowN (u64N n) 8
theorem wordsP_succ (ns : List Int) (k : Nat) (n : Int) (h : ns[k]? = some n) : wordsP ns (k + 1) = wordsP ns k ++ rowN (u64N n) 8 := by
  unfold wordsP
  rw [List.take_add_one, h, List.flatMap_append]
  simp
theorem wordsP_all (ns : List Int) : wordsP ns ns.length = wordsN ns := by unfold wordsP wordsN; rw [List.take_length]
theorem wordsP_len (ns : List Int) : ∀ k, k ≤ ns.length → (wordsP ns k).length = 8 * k
  | 0, _ => rfl
  | k + 1, h => by
    rw [wordsP_succ ns k ns[k] (List.getElem?_eq_getElem (by omega)), List.length_append, rowN_len, wordsP_len ns k (by omega)]
    omega
theorem wordsN_len (ns : List Int) : (wordsN ns).length = 8 * ns.length := by rw [← wordsP_all, wordsP_len _ _ (Nat.le_refl _)]

set_option maxRecDepth 100000 in
set_option maxHeartbeats 400000 in
theorem joinedI_any (v : Value) (ns : List Int) (w : World) (hp : Ints w v ns) (hln : ns.length ≤ 1000000000000) :
    Calls Tryd.prog 48 #[v, .func (.func 49) #[] #[]] w fun e w' => (∃ v', e = .returned v' ∧ Bytes w' v' (wordsN ns)) ∧ Below w.heap.size w w' := by
  obtain ⟨i0, hi, hz0, hz1, hz2⟩ := info_parts info_u8
  obtain ⟨xa, ca, rfl, _⟩ := IsSl.form hp
  have HP := Lib.hid hp
  clear hp
  go_enter Tryd.func48, Tryd.ntmps48
  go_wp2_with fail
  go_loopw [5, 10] (fun v i wr => ∃ (k : Nat) (a : Option Addr) (cap : Nat), k ≤ ns.length ∧ i = .int .i64 k ∧ v = .slice a (8 * k) cap ∧
    wr.ownsRow w.heap.size 5 1 (.slice a (8 * k) cap) (8 * k) (bytesV (wordsP ns k)) ∧ Below w.heap.size w wr) (fun _ i _ => ns.length - (intOf i).toNat)
  case atStart => exact ⟨0, none, 0, by omega, rfl, rfl, World.ownsRow_nil _ _ _ _, by (repeat (first | with_reducible assumption | with_reducible exact Below.refl _ _ | ((with_reducible refine Below.setCell ?_ ?_ _); rotate_left; focus (first | omega | (simp; done) | (simp; omega))) | ((with_reducible refine Below.alloc ?_ ?_ _); rotate_left; focus (first | omega | (simp; done) | (simp; omega))) | ((with_reducible refine below_setRow ?_ ?_ _); rotate_left; focus (first | omega | (simp; done) | (simp; omega))) | (with_reducible refine below_drewN ?_ _) | (with_reducible refine Below.drew ?_)))⟩
  case round =>
    obtain ⟨k, a, cap, hk, rfl, rfl, hown, hb⟩ := hrel
    have HO := Lib.hid hown
    clear hown
    by_cases hkn : k < ns.length
    · obtain ⟨b, off, cc, e, _, hr, hbW⟩ := IsSl.pos HP.out (by omega) (by decide)
      cases e
      have hnk := List.getElem?_eq_getElem hkn
      obtain ⟨n, hne⟩ : ∃ n, n = ns[k] := ⟨_, rfl⟩
      rw [← hne] at hnk
      have hcell := hr k (.int .i64 n) (by unfold intsV; rw [List.getElem?_map, hnk]; rfl)
      have hcw : wr.cell? ⟨b, off + k, none⟩ = some (.int .i64 n) := (hb.cell (p := ⟨b, _, none⟩) hbW).trans hcell
      have HS := Lib.hid (wordsP_succ ns k n hnk)
      clear hcell hnk hne hr
      go_wp2_with fail
      refine (key1_any n wr).mono ?_
      rintro e w2 ⟨⟨v2, rfl, hv2⟩, hb2⟩
      have hown2 := ownsRow_below HO.out hb2 (ownsRow_block HO.out)
      have hB2 := hb.trans (hb2.mono hb.size)
      have HO2 := Lib.hid hown2
      obtain ⟨x2, c2, e2, _⟩ := hv2.form
      rw [rowN_len] at e2
      subst e2
      have HV2 := Lib.hid hv2
      have hs2 := hB2.size
      clear hb hb2 HO hown2 hv2 hcw
      go_wp2_with (first
        | (at_builtin; refine wpList_app rfl (.tmp 14) (.tmp 17) 24 rfl w.heap.size 5 i0 (.int .u8 0) 1 1 Tryd.underlying24 hi hz0 hz1 hz2 rfl (by decide) (.slice a (8 * k) cap) _ _ rfl (by exact HO2.out) _ 8 (bytesV (rowN (u64N n) 8)) rfl (by exact HV2.out) (by unfold maxLen; omega) (by omega) (by omega) ?_; intro a3 cap3 w3 hown3 hgrow3 _;
           have hb3 := hB2.grown hgrow3 hs2 (fun k hk => (HO2.out.lt k hk).1); have HO3 := Lib.hid hown3; clear hown3 hgrow3)
        | fail)
      have hO3 := HO3.out
      rw [← bytesV_app, ← HS.out, show 8 * k + 8 = 8 * (k + 1) by omega] at hO3
      refine ⟨⟨k + 1, a3, cap3, by omega, by go_num, by rw [show 8 * (k + 1) = 8 * k + 8 by omega], hO3, hb3⟩, by simp [intOf]; omega⟩
    · obtain rfl : k = ns.length := by omega
      have hO := HO.out
      rw [wordsP_all] at hO
      clear HO
      have h2 := ownsRow_isSl hO (bytesV_one _)
      have HO := Lib.hid (show Bytes wr (.slice a (8 * ns.length) cap) (wordsN ns) from by unfold Bytes; rw [wordsN_len]; exact h2)
      clear hO h2
      go_wp2_with fail
      go_ret
      exact ⟨⟨_, rfl, HO.out⟩, hb⟩

/-- A domain's byte. -/
def domB (d : Int) : UInt8 := UInt8.ofNat (d % 256).toNat
theorem domB_val (d : Int) : ((domB d).toNat : Int) = d % 256 := by unfold domB; rw [UInt8.toNat_ofNat']; omega
/-- The digest of a domain, and parts. -/
def ofN (d : Int) (ls : List (List UInt8)) : List UInt8 := sumN ([domB d] ++ joinN ls)

set_option maxRecDepth 100000 in
set_option maxHeartbeats 400000 in
theorem of_any (d : Int) (v : Value) (ls : List (List UInt8)) (vs : List Value) (w : World) (hp : Parts w v ls vs) (hsz : (cat ls).length ≤ 35184372088832) (hln : ls.length ≤ 1000000000000) (hg : Glob w) :
    Calls Tryd.prog 30 #[.int .i64 d, v] w fun e w' => e = .returned (.agg (bytesV (ofN d ls)).toArray) ∧ Below w.heap.size w w' := by
  obtain ⟨xa, ca, rfl, _⟩ := hp.sl.form
  have HP := Lib.hid hp
  have HG := Lib.hid hg
  have hdv := domB_val d
  clear hp hg
  go_enter Tryd.func30, Tryd.ntmps30
  go_wp2_with fail
  have hb0 := (Below.refl w.heap.size w).alloc (Nat.le_refl _) (.cells z32.toArray 31)
  have hb1 : Below w.heap.size w ((w.alloc (.cells z32.toArray 31)).alloc (.cells #[.int .u8 (d % 256)] 5)) := hb0.alloc (by simp) _
  have hH1 : Blk ((w.alloc (.cells z32.toArray 31)).alloc (.cells #[.int .u8 (d % 256)] 5)) w.heap.size z32 31 := (Blk.newL w z32 _).alloc _
  have hD1 : Bytes ((w.alloc (.cells z32.toArray 31)).alloc (.cells #[.int .u8 (d % 256)] 5)) (.slice (some ⟨w.heap.size + 1, 0, none⟩) 1 1) [domB d] := by
    rw [← hdv]
    exact bytes_alloc (w.alloc _) [domB d] _ (0, 0) (by simp)
  have hJl : (joinN ls).length ≤ 39184372088832 := by
    have := joinP_len ls ls.length
    rw [joinP_all] at this
    omega
  refine (joinedB_any _ ls vs _ (HP.out.below hb1) hsz hln).mono ?_
  rintro e w2 ⟨⟨v2, rfl, hv2⟩, hb2⟩
  have hw2 := hb1.trans (hb2.mono hb1.size)
  have hH2 := hH1.below hb2 hH1.lt
  have hD2 := hD1.below hb2
  have HG2 := Lib.hid (HG.out.below hw2)
  obtain ⟨x2, c2, rfl, _⟩ := hv2.form
  have HH2 := Lib.hid hH2
  have HD2 := Lib.hid hD2
  have HV2 := Lib.hid hv2
  clear hb0 hb1 hb2 hH1 hH2 hD1 hD2 hv2 HP HG hdv
  go_wp2_with fail
  refine (sum_at (n := 2) w2 [_, _] [[domB d], joinN ls] _ (.cons HD2.out (.cons HV2.out .nil)) rfl ([domB d] ++ joinN ls) (by simp [cat]) (by simp; omega) (by decide) HG2.out).mono ?_
  rintro e w3 ⟨rfl, hb3⟩
  have hH3 := HH2.out.below hb3 HH2.out.lt
  have hw3 := hw2.trans (hb3.mono hw2.size)
  have HH3 := Lib.hid hH3
  clear hb3 hH3 hw2 HD2 HV2 HG2 HH2
  go_wp2_with (first
    | (refine wpList_store_row rfl 31 (.tmp 4) (.tmp 11) rfl w.heap.size (bytesV (sumN ([domB d] ++ joinN ls))).toArray rfl rfl 31 z32.toArray (by exact HH3.out) (by exact hash_info _ (sumN_len _)) (by simp [z32, bytesV, sumN_len]) (hash_one _) ?_)
    | fail)
  exact bodyPost_ret (v := .agg (bytesV (sumN ([domB d] ++ joinN ls))).toArray) (results_cell_row rfl _ _ w.heap.size 31 _ (0, 0) _ rfl (HH3.out.setRow _) Tryd.underlying31 rfl (hash_info _ (sumN_len _))) rfl ⟨rfl, below_setRow hw3 (Nat.le_refl _) _⟩

set_option maxRecDepth 100000 in
set_option maxHeartbeats 400000 in
theorem key_any (k : List UInt8) (v : Value) (ns : List Int) (w : World) (hk : k.length = 32) (hp : Ints w v ns) (hln : ns.length ≤ 1000000000000) (hg : Glob w) :
    Calls Tryd.prog 32 #[hash32 k, v] w fun e w' => e = .returned (.agg (bytesV (tagN k (wordsN ns))).toArray) ∧ Below w.heap.size w w' := by
  obtain ⟨xa, ca, rfl, _⟩ := IsSl.form hp
  have HP := Lib.hid hp
  have HG := Lib.hid hg
  have HK := Lib.hid hk
  clear hp hg hk
  unfold hash32
  go_enter Tryd.func32, Tryd.ntmps32
  go_wp2_with fail
  refine wp_region_forced [0, 1] [2, 3, 4, 5] (by kernel_rfl) (by kernel_rfl) (fun _ _ _ d _ h => by cases d <;> exact h) _ _ rfl rfl ?_
  simp only [List.map_cons, List.map_nil, List.getD_cons_succ, List.getD_cons_zero]
  refine wpPure_run (.slice (some ⟨w.heap.size, 0, none⟩) 32 32) rfl (fun w' => ?_) ?_
  · simp [go_sem, execOp]
  refine wpPure_move _ rfl rfl ?_
  refine wpPure_nil ?_
  intro nq
  go_wp2_with fail
  have hb0 := (Below.refl w.heap.size w).alloc (Nat.le_refl _) (.cells (bytesV k).toArray 31)
  have hb1 : Below w.heap.size w (((w.alloc (.cells (bytesV k).toArray 31)).alloc (.cells z32.toArray 31)).drewN nq) := below_drewN (hb0.alloc (by simp) _) nq
  have hK1 : Blk (((w.alloc (.cells (bytesV k).toArray 31)).alloc (.cells z32.toArray 31)).drewN nq) w.heap.size (bytesV k) 31 := ((Blk.newL w _ _).alloc _).drewN nq
  have hH1 : Blk (((w.alloc (.cells (bytesV k).toArray 31)).alloc (.cells z32.toArray 31)).drewN nq) (w.heap.size + 1) z32 31 := (Blk.newL1 w _ _ _).drewN nq
  refine (joinedI_any _ ns _ (IsSl.below HP.out hb1) hln).mono ?_
  rintro e w2 ⟨⟨v2, rfl, hv2⟩, hb2⟩
  have hw2 := hb1.trans (hb2.mono hb1.size)
  have hH2 := hH1.below hb2 hH1.lt
  have hK2 := hK1.below hb2 hK1.lt
  have HG2 := Lib.hid (HG.out.below hw2)
  have hbk : Bytes w2 (.slice (some ⟨w.heap.size, 0, none⟩) 32 32) k := by
    have := IsSl.of_range (w := w2) (b := w.heap.size) (off := 0) (n := 32) (cap := 32) (size := 1) (cs := bytesV k) (by rw [bytesV_len, HK.out]) (bytesV_one _) (Nat.le_refl _) (fun i u hi => by rw [Nat.zero_add]; exact hK2.cell hi)
    unfold Bytes
    rw [HK.out]
    exact this
  obtain ⟨x2, c2, rfl, _⟩ := hv2.form
  have HH2 := Lib.hid hH2
  have HBK := Lib.hid hbk
  have HV2 := Lib.hid hv2
  clear hb0 hb1 hb2 hH1 hH2 hK1 hK2 hv2 hbk HP HG
  go_wp2_with fail
  have hb3 := (Below.refl w2.heap.size w2).alloc (Nat.le_refl _) (.cells #[.slice x2 (wordsN ns).length c2] 24)
  refine (tag_any _ _ k [wordsN ns] [.slice x2 (wordsN ns).length c2] _ (HBK.out.below hb3) ((Texts.cons HV2.out .nil).parts 24 rfl) (by rw [HK.out]; omega) (by simp [cat, wordsN_len]; omega) (by show 1 ≤ _; decide) (HG2.out.below hb3)).mono ?_
  rintro e w4 ⟨rfl, hb4⟩
  rw [show cat [wordsN ns] = wordsN ns by simp [cat]]
  have hb24 := hb3.trans (hb4.mono hb3.size)
  have hH4 := HH2.out.below hb24 HH2.out.lt
  have hw4 := hw2.trans (hb24.mono hw2.size)
  have HH4 := Lib.hid hH4
  clear hb3 hb4 hb24 hH4 hw2 HBK HV2 HG2 HH2
  go_wp2_with (first
    | (refine wpList_store_row rfl 31 (.tmp 4) (.tmp 9) rfl (w.heap.size + 1) (bytesV (tagN k (wordsN ns))).toArray rfl rfl 31 z32.toArray (by exact HH4.out) (by exact hash_info _ (tagN_len _ _)) (by simp [z32, bytesV, tagN_len]) (hash_one _) ?_)
    | fail)
  exact bodyPost_ret (v := .agg (bytesV (tagN k (wordsN ns))).toArray) (results_cell_row rfl _ _ (w.heap.size + 1) 31 _ (0, 0) _ rfl (HH4.out.setRow _) Tryd.underlying31 rfl (hash_info _ (tagN_len _ _))) rfl ⟨rfl, below_setRow hw4 (by omega) _⟩
end Go.Proofs.YtjjoiefngoghpaaDoor
