/- The walk of the reference's Key. Conditions: the key has 32 bytes; the words can be read; the package's tables read as they are laid. -/
import Derived.Test.YtjjoiefngoghpaaDoorRefI
import Derived.Test.YtjjoiefngoghpaaDoorTagAt
namespace Go.Proofs.YtjjoiefngoghpaaDoor
open Go.RowKit

theorem row32 {w : World} {b : Nat} {e : TypeId} {l : List UInt8} (h : Blk w b (bytesV l) e) (hl : l.length = 32) : Bytes w (.slice (some ⟨b, 0, none⟩) 32 32) l := by
  have := IsSl.of_range (w := w) (b := b) (off := 0) (n := 32) (cap := 32) (size := 1) (cs := bytesV l) (by rw [bytesV_len, hl]) (bytesV_one _) (Nat.le_refl _) (fun i u hi => by rw [Nat.zero_add]; exact h.cell hi)
  unfold Bytes
  rw [hl]
  exact this

set_option maxRecDepth 100000 in
set_option maxHeartbeats 1000000 in
theorem refkey_any (k : List UInt8) (v : Value) (ns : List Int) (w : World) (hk : k.length = 32) (hp : Ints w v ns) (hln : ns.length ≤ 1000000000000) (hg : Glob w) :
    Calls Tryd.prog 33 #[.agg (bytesV k).toArray, v] w fun e w' => e = .returned (.agg (bytesV (tagN k (wordsN ns))).toArray) ∧ Below w.heap.size w w' := by
  obtain ⟨i0, hi, hz0, hz1, hz2⟩ := info_parts info_u8
  obtain ⟨xa, ca, rfl, _⟩ := IsSl.form hp
  have HG := Lib.hid hg
  have HKL := Lib.hid hk
  have hW0 : Below w.heap.size w ((w.alloc (.cells (bytesV k).toArray 31)).alloc (.cells z32.toArray 31)) := ((Below.refl _ _).alloc (Nat.le_refl _) _).alloc (by simp) _
  obtain ⟨W, eW⟩ : ∃ W, W = (w.alloc (.cells (bytesV k).toArray 31)).alloc (.cells z32.toArray 31) := ⟨_, rfl⟩
  have HKB := Lib.hid (show Blk W w.heap.size (bytesV k) 31 by rw [eW]; exact (Blk.newL w _ _).alloc _)
  have HZB := Lib.hid (show Blk W (w.heap.size + 1) z32 31 by rw [eW]; exact Blk.newL1 w _ _ _)
  have hsW : W.heap.size = w.heap.size + 1 + 1 := by rw [eW]; simp
  have HP := Lib.hid (show Ints W (.slice xa ns.length ca) ns by rw [eW]; exact IsSl.below hp hW0)
  rw [← eW] at hW0
  have EW := Lib.hid eW
  clear hg hp hk eW
  go_enter Tryd.func33, Tryd.ntmps33
  go_wp2_with fail
  refine wp_world EW.out ?_
  clear EW
  go_loopw [5, 6] (fun v i wr => ∃ (j : Nat) (a : Option Addr) (cap : Nat), j ≤ ns.length ∧ i = .int .i64 j ∧ v = .slice a (8 * j) cap ∧
    wr.ownsRow W.heap.size 5 1 (.slice a (8 * j) cap) (8 * j) (bytesV (wordsP ns j)) ∧ Below W.heap.size W wr) (fun _ i _ => ns.length - (intOf i).toNat)
  case atStart => exact ⟨0, none, 0, by omega, rfl, rfl, World.ownsRow_nil _ _ _ _, Below.refl _ _⟩
  case round =>
    obtain ⟨j, a, cap, hj, rfl, rfl, hown, hb⟩ := hrel
    have HO := Lib.hid hown
    have hs := hb.size
    clear hown
    by_cases hjn : j < ns.length
    · obtain ⟨b, off, cc, e, _, hr, hbW⟩ := IsSl.pos HP.out (by omega) (by decide)
      cases e
      have hnk := List.getElem?_eq_getElem hjn
      obtain ⟨n, hn⟩ : ∃ n, n = ns[j] := ⟨_, rfl⟩
      rw [← hn] at hnk
      have hcw : wr.cell? ⟨b, off + j, none⟩ = some (.int .i64 n) := (hb.cell (p := ⟨b, _, none⟩) hbW).trans (hr j _ (by simp [intsV, hnk]))
      have HS := Lib.hid (wordsP_succ ns j n hnk)
      clear hnk hn hr
      go_wp2_with fail
      refine (number_any n 8 wr (by decide)).mono ?_
      rintro e w2 ⟨⟨v2, rfl, hv2⟩, hb2⟩
      have HO2 := Lib.hid (ownsRow_below HO.out hb2 (ownsRow_block HO.out))
      have hv2' : IsSl w2 v2 1 8 (bytesV (rowN (u64N n) 8)) := by
        have := hv2
        unfold Bytes at this
        rw [rowN_len] at this
        exact this
      have HV2 := Lib.hid hv2'
      obtain ⟨x2, c2, rfl, _⟩ := hv2'.form
      have hB2 := hb.trans (hb2.mono hb.size)
      have hs2 := hB2.size
      clear hv2 hv2' hb2 hb HO hcw
      go_wp2_with (first
        | (at_builtin; refine wpList_app rfl (.tmp 13) (.tmp 18) 24 rfl W.heap.size 5 i0 (.int .u8 0) 1 1 Tryd.underlying24 hi hz0 hz1 hz2 rfl (by decide) (.slice a (8 * j) cap) _ _ rfl (by exact HO2.out) _ 8 (bytesV (rowN (u64N n) 8)) rfl (by exact HV2.out) (by unfold maxLen; omega) (by omega) (by omega) ?_; intro a3 cap3 w3 hown3 hgrow3 _;
           have hb3 := hB2.grown hgrow3 hs2 (fun k hk => (HO2.out.lt k hk).1); have HO3 := Lib.hid hown3; clear hown3 hgrow3)
        | fail)
      have hO3 := HO3.out
      rw [← bytesV_app, ← HS.out, show 8 * j + 8 = 8 * (j + 1) by omega] at hO3
      refine ⟨⟨j + 1, a3, cap3, by omega, by go_num, by rw [show 8 * (j + 1) = 8 * j + 8 by omega], hO3, hb3⟩, by simp [intOf]; omega⟩
    · obtain rfl : j = ns.length := by omega
      have hO := HO.out
      rw [wordsP_all] at hO
      have h2 := ownsRow_isSl hO (bytesV_one _)
      have HT := Lib.hid (show Bytes wr (.slice a (8 * ns.length) cap) (wordsN ns) from by unfold Bytes; rw [wordsN_len]; exact h2)
      have HK3 := Lib.hid (HKB.out.below hb (by omega))
      have HZ3 := Lib.hid (HZB.out.below hb (by omega))
      have hw3 := hW0.trans (hb.mono hW0.size)
      have HKB3 := Lib.hid (row32 HK3.out HKL.out)
      have HW := Lib.hid (wordsN_len ns)
      clear hO h2 HO hb HK3
      go_wp2_with fail
      refine (reftag_any _ _ k (wordsN ns) wr HKB3.out HT.out (by rw [HKL.out]; decide) (by rw [HW.out]; omega) (HG.out.below hw3)).mono ?_
      rintro e w4 ⟨rfl, hb4⟩
      have hw4 := hw3.trans (hb4.mono hw3.size)
      have HZ4 := Lib.hid (HZ3.out.below hb4 HZ3.out.lt)
      obtain ⟨D, hD⟩ : ∃ D, D = tagN k (wordsN ns) := ⟨_, rfl⟩
      have HD := Lib.hid hD
      have HDL := Lib.hid (show D.length = 32 by rw [hD, tagN_len])
      rw [← hD]
      clear hD hb4 hw3 HKB3 HT HZ3
      go_wp2_with (first
        | (refine wpList_store_row rfl 31 (.tmp 4) (.tmp 22) rfl (w.heap.size + 1) (bytesV D).toArray rfl rfl 31 z32.toArray (by exact HZ4.out) (by exact hash_info D HDL.out) (by simp [z32, bytesV, HDL.out]) (hash_one _) ?_)
        | fail)
      exact bodyPost_ret (v := .agg (bytesV D).toArray) (results_cell_row rfl _ _ (w.heap.size + 1) 31 _ (0, 0) _ rfl (HZ4.out.setRow _) Tryd.underlying31 rfl (hash_info D HDL.out)) rfl ⟨by rw [HD.out], below_setRow hw4 (by omega) _⟩
end Go.Proofs.YtjjoiefngoghpaaDoor
