/- The walk of sha.schedule: the numbers of a block's rounds. Condition: 64 bytes lie in the slice. -/
import Derived.Test.YtkfplliipogagaaDoorShaA
import Derived.Test.YtkfplliipogagaaDoorRegion
namespace Go.Proofs.YtkfplliipogagaaDoor
open Go.RowKit

def byteI (l : List UInt8) (i : Nat) : Int := ((l[i]?.getD 0).toNat : Int)
theorem byteI_0 (l : List UInt8) (i : Nat) : 0 ≤ byteI l i := by unfold byteI; omega
theorem byteI_1 (l : List UInt8) (i : Nat) : byteI l i < 256 := by unfold byteI; have := (l[i]?.getD 0).toNat_lt; omega
def wordI (l : List UInt8) (t : Nat) : Int :=
  bits .or .u32 (bits .or .u32 (bits .or .u32 (byteI l (4 * t) * 16777216) (byteI l (4 * t + 1) * 65536)) (byteI l (4 * t + 2) * 256)) (byteI l (4 * t + 3))
def wI (l : List UInt8) (t : Nat) : Int :=
  if _h : t < 16 then wordI l t
  else (movedI (wI l (t - 2)) 17 19 10 + wI l (t - 7) + movedI (wI l (t - 15)) 7 18 3 + wI l (t - 16)) % 4294967296
def wrow (l : List UInt8) (k : Nat) : List Value := (List.range 64).map fun t => .int .u32 (if t < k then wI l t else 0)
theorem wrow_at (l : List UInt8) (k t : Nat) (h : t < 64) : (wrow l k)[t]? = some (.int .u32 (if t < k then wI l t else 0)) := by
  unfold wrow; simp [h]
theorem wrow_len (l : List UInt8) (k : Nat) : (wrow l k).length = 64 := by unfold wrow; simp
theorem wrow_set (l : List UInt8) (k : Nat) : (wrow l k).set k (.int .u32 (wI l k)) = wrow l (k + 1) := by
  apply List.ext_getElem?
  intro i
  by_cases hi : i < 64
  · rw [List.getElem?_set, wrow_len, wrow_at _ _ _ hi, wrow_at _ _ _ hi]
    by_cases hk : k = i
    · subst hk; rw [if_pos rfl, if_pos hi, if_pos (by omega)]
    · rw [if_neg hk]
      by_cases h2 : i < k
      · rw [if_pos h2, if_pos (by omega)]
      · rw [if_neg h2, if_neg (by omega)]
  · rw [List.getElem?_eq_none (by simp [wrow_len]; omega), List.getElem?_eq_none (by simp [wrow_len]; omega)]
theorem wI_lo (l : List UInt8) (t : Nat) (h : t < 16) : wI l t = wordI l t := by rw [wI, dif_pos h]
theorem wI_hi (l : List UInt8) (t : Nat) (h : ¬ t < 16) : wI l t = (movedI (wI l (t - 2)) 17 19 10 + wI l (t - 7) + movedI (wI l (t - 15)) 7 18 3 + wI l (t - 16)) % 4294967296 := by rw [wI, dif_neg h]
theorem wrow_info (l : List UInt8) (k : Nat) : (Tryd.prog.info? 87).map (·.size) = some (wrow l k).toArray.size := by
  rw [List.size_toArray, wrow_len]
  kernel_rfl
theorem wrow_one (l : List UInt8) (k : Nat) : (wrow l k).toArray.all (·.oneCell') = true := by
  simp [wrow, Value.oneCell']
theorem wrow_size (l : List UInt8) (k : Nat) : (wrow l k).toArray.size = 64 := by simp [wrow_len]
def schedRel (l : List UInt8) (w : World) (i : Value) (wr : World) : Prop :=
  ∃ k : Nat, k ≤ 64 ∧ i = .int .i64 k ∧ Blk wr (w.heap.size + 1) (wrow l k) 87 ∧ Blk wr w.heap.size (wrow l 0) 87 ∧ Below w.heap.size w wr

set_option maxHeartbeats 400000 in
set_option maxRecDepth 100000 in
theorem sched_any (b off cap : Nat) (l : List UInt8) (w : World) (hl : ∀ i, i < 64 → w.cell? ⟨b, off + i, none⟩ = some (.int .u8 (byteI l i))) :
    Calls Tryd.prog 69 #[.slice (some ⟨b, off, none⟩) 64 cap] w fun e w' => e = .returned (.agg (wrow l 64).toArray) ∧ Below w.heap.size w w' := by
  have hbs : b < w.heap.size := World.block_lt_of_cell? _ _ (hl 0 (by omega))
  have HL := Lib.hid hl
  clear hl
  go_enter Tryd.func69, Tryd.ntmps69
  go_wp2_with fail
  go_loopw [5] (fun i wr => schedRel l w i wr) (fun i _ => 64 - (intOf i).toNat)
  case atStart =>
    refine ⟨0, by omega, rfl, ?_, ?_, ?_⟩
    · have := Blk.new (w.alloc (.cells (wrow l 0).toArray 87)) (wrow l 0).toArray 87
      rw [World.size_alloc] at this
      exact this
    · exact (Blk.new w (wrow l 0).toArray 87).alloc _
    · exact ((Below.refl _ w).alloc (Nat.le_refl _) _).alloc (by simp) _
  case round =>
    obtain ⟨k, hk, rfl, hB, hZ, hb⟩ := hrel
    have HB := Lib.hid hB
    clear hB
    by_cases h16 : k < 16
    · have c0 : wr.cell? ⟨b, off + 4 * k, none⟩ = some (.int .u8 (byteI l (4 * k))) := (hb.cell (p := ⟨b, _, none⟩) hbs).trans (HL.out (4 * k) (by omega))
      have c1 : wr.cell? ⟨b, off + (4 * k + 1), none⟩ = some (.int .u8 (byteI l (4 * k + 1))) := (hb.cell (p := ⟨b, _, none⟩) hbs).trans (HL.out (4 * k + 1) (by omega))
      have c2 : wr.cell? ⟨b, off + (4 * k + 2), none⟩ = some (.int .u8 (byteI l (4 * k + 2))) := (hb.cell (p := ⟨b, _, none⟩) hbs).trans (HL.out (4 * k + 2) (by omega))
      have c3 : wr.cell? ⟨b, off + (4 * k + 3), none⟩ = some (.int .u8 (byteI l (4 * k + 3))) := (hb.cell (p := ⟨b, _, none⟩) hbs).trans (HL.out (4 * k + 3) (by omega))
      have d : wr.cell? ⟨w.heap.size + 1, k, none⟩ = some (.int .u32 0) := by rw [HB.out.cell?, wrow_at _ _ _ (by omega), if_neg (by omega)]
      have f : wr.frozen? ⟨w.heap.size + 1, k, none⟩ = false := HB.out.frozen k
      have a0 := byteI_0 l (4 * k)
      have a1 := byteI_0 l (4 * k + 1)
      have a2 := byteI_0 l (4 * k + 2)
      have a3 := byteI_0 l (4 * k + 3)
      have e0 := byteI_1 l (4 * k)
      have e1 := byteI_1 l (4 * k + 1)
      have e2 := byteI_1 l (4 * k + 2)
      have e3 := byteI_1 l (4 * k + 3)
      go_wp2_with fail
      refine wp_region_quiet_tail 35 (by kernel_rfl) (by kernel_rfl) ?_
      simp only [List.take_succ_cons, List.take_zero, List.drop_succ_cons, List.drop_zero]
      repeat (go_big_quiet_step (fail))
      refine wpQuiet_nil ?_
      intro _ hw'
      obtain ⟨nq, hw''⟩ := hw'
      subst hw''
      go_wp2
      go_roundw
      case rel =>
        refine ⟨k + 1, by omega, by go_num, ?_, (hZ.drewN nq).set_other (by simp) _, (below_drewN hb nq).setCell (by simp) _⟩
        rw [← wrow_set, wI_lo l k h16]
        exact (HB.out.drewN nq).set k _
      case measure => simp [intOf]; omega
    · by_cases h64 : k < 64
      · have d0 : wr.cell? ⟨w.heap.size + 1, k - 2, none⟩ = some (.int .u32 (wI l (k - 2))) := by rw [HB.out.cell?, wrow_at _ _ _ (by omega), if_pos (by omega)]
        have d1 : wr.cell? ⟨w.heap.size + 1, k - 7, none⟩ = some (.int .u32 (wI l (k - 7))) := by rw [HB.out.cell?, wrow_at _ _ _ (by omega), if_pos (by omega)]
        have d2 : wr.cell? ⟨w.heap.size + 1, k - 15, none⟩ = some (.int .u32 (wI l (k - 15))) := by rw [HB.out.cell?, wrow_at _ _ _ (by omega), if_pos (by omega)]
        have d3 : wr.cell? ⟨w.heap.size + 1, k - 16, none⟩ = some (.int .u32 (wI l (k - 16))) := by rw [HB.out.cell?, wrow_at _ _ _ (by omega), if_pos (by omega)]
        have d : wr.cell? ⟨w.heap.size + 1, k, none⟩ = some (.int .u32 0) := by rw [HB.out.cell?, wrow_at _ _ _ (by omega), if_neg (by omega)]
        have f : wr.frozen? ⟨w.heap.size + 1, k, none⟩ = false := HB.out.frozen k
        go_wp2_with fail
        refine wp_region_quiet_tail 23 (by kernel_rfl) (by kernel_rfl) ?_
        simp only [List.take_succ_cons, List.take_zero, List.drop_succ_cons, List.drop_zero]
        repeat (go_big_quiet_step ((go_at_call 74; exact Calls.quiet_of (moved_any _ _ _ _ _ (by omega) (by omega) (by omega) (by omega) (by omega) (by omega)))))
        refine wpQuiet_nil ?_
        intro _ hw'
        obtain ⟨nq, hw''⟩ := hw'
        subst hw''
        go_wp2
        go_roundw
        case rel =>
          refine ⟨k + 1, by omega, by go_num, ?_, (hZ.drewN nq).set_other (by simp) _, (below_drewN hb nq).setCell (by simp) _⟩
          rw [← wrow_set, wI_hi l k h16]
          exact (HB.out.drewN nq).set k _
        case measure => simp [intOf]; omega
      · obtain rfl : k = 64 := by omega
        have HZ := Lib.hid hZ
        clear hZ h64 h16
        go_wp2_with (first | (refine wpList_load_row rfl 87 _ rfl (w.heap.size + 1) rfl 87 (wrow l 64).toArray (0, 0) _ HB.out Tryd.underlying87 rfl (wrow_info l 64) ?_) | (refine wpList_store_row rfl 87 _ _ rfl w.heap.size (wrow l 64).toArray rfl rfl 87 (wrow l 0).toArray HZ.out (wrow_info l 64) ((wrow_size l 0).trans (wrow_size l 64).symm) (wrow_one l 64) ?_))
        exact bodyPost_ret (v := .agg (wrow l 64).toArray) (results_cell_row rfl _ _ w.heap.size 87 _ (0, 0) _ rfl (HZ.out.setRow (wrow l 64)) Tryd.underlying87 rfl (wrow_info l 64)) rfl ⟨rfl, below_setRow hb (Nat.le_refl _) _⟩
end Go.Proofs.YtkfplliipogagaaDoor
