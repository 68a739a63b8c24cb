/- The law ShaBlocks, walked: true, and nothing that was there has turned. Conditions: the text can be read; the state's words are words; the package's tables read as they are laid. -/
import Derived.Test.YtjjoiefngoghpaaDoorAlive1
import Derived.Test.YtjjoiefngoghpaaDoorEq
import Derived.Test.YtjjoiefngoghpaaDoorSumAt
import Derived.Test.YtjjoiefngoghpaaDoorBlocksP
import Derived.Test.YtjjoiefngoghpaaDoorLater
namespace Go.Proofs.YtjjoiefngoghpaaDoor
open Go.RowKit

set_option maxRecDepth 100000 in
set_option maxHeartbeats 400000 in
theorem turn_not (a : Option Addr) (n cap : Nat) (s : S8) (w : World) (hn : n ≠ 64) :
    Calls Tryd.prog 16 #[.agg s.vals.toArray, .slice a n cap] w fun e w' => e = .returned (.agg s.vals.toArray) ∧ Below w.heap.size w w' := by
  have hn' : ¬ ((n : Int) = 64) := by omega
  go_enter Tryd.func16, Tryd.ntmps16
  go_wp2_with (first
    | (refine wpList_load_row rfl 23 (.tmp 2) rfl w.heap.size rfl 23 s.vals.toArray (0, 0) _ (by first | exact heap_alloc2_old _ _ _ | exact Blk.alloc (Blk.newL _ _ _) _) Tryd.underlying23 rfl (vals_info s) ?_)
    | (refine wpList_store_row rfl 23 (.tmp 4) (.tmp 14) rfl (w.heap.size + 1) s.vals.toArray rfl rfl 23 zvals.toArray (by exact Blk.newL1 _ _ _ _) (vals_info s) rfl (vals_one s) ?_)
    | fail)
  exact bodyPost_ret (v := .agg s.vals.toArray) (results_cell_row rfl _ _ (w.heap.size + 1) 23 _ (0, 0) _ rfl ((Blk.newL1 w _ zvals _).setRow _) Tryd.underlying23 rfl (vals_info _)) rfl ⟨rfl, by (repeat (first | with_reducible assumption | with_reducible exact Below.refl _ _ | ((with_reducible refine Below.setCell ?_ ?_ _); rotate_left; focus (first | omega | (simp; done) | (simp; omega))) | ((with_reducible refine Below.alloc ?_ ?_ _); rotate_left; focus (first | omega | (simp; done) | (simp; omega))) | ((with_reducible refine below_setRow ?_ ?_ _); rotate_left; focus (first | omega | (simp; done) | (simp; omega))) | (with_reducible refine below_drewN ?_ _) | (with_reducible refine Below.drew ?_)))⟩

set_option maxRecDepth 100000 in
set_option maxHeartbeats 400000 in
theorem blocks_out (vb : Value) (l : List UInt8) (s : S8) (w : World) (hb : Bytes w vb l) (hg : Glob w) (hl : 400 < l.length) :
    Calls Tryd.prog 7 #[.agg s.vals.toArray, vb] w fun e w' => e = .returned (.bool true) ∧ Below w.heap.size w w' := by
  obtain ⟨xa, ca, rfl, _⟩ := hb.form
  have HG := Lib.hid hg
  clear hg hb
  go_enter Tryd.func7, Tryd.ntmps7
  go_wp2_with (go_at_call 15; refine (alive1_any _ (HG.out.below (by (repeat (first | with_reducible assumption | with_reducible exact Below.refl _ _ | ((with_reducible refine Below.setCell ?_ ?_ _); rotate_left; focus (first | omega | (simp; done) | (simp; omega))) | ((with_reducible refine Below.alloc ?_ ?_ _); rotate_left; focus (first | omega | (simp; done) | (simp; omega))) | ((with_reducible refine below_setRow ?_ ?_ _); rotate_left; focus (first | omega | (simp; done) | (simp; omega))) | (with_reducible refine below_drewN ?_ _) | (with_reducible refine Below.drew ?_)))))).mono ?_; rintro e w1 ⟨rfl, hb1⟩)
  go_ret
  exact ⟨rfl, Below.trans ((Below.refl _ _).alloc (Nat.le_refl _) _) (hb1.mono (by simp))⟩

theorem zero_hash : z32 = bytesV (List.replicate 32 0) := rfl
theorem z32_info : (Tryd.prog.info? 31).map (·.size) = some z32.toArray.size := hash_info _ (by simp)
theorem hash_one (l : List UInt8) : (bytesV l).toArray.all (·.oneCell') = true := by simp [bytesV, Value.oneCell']

set_option maxRecDepth 100000 in
set_option maxHeartbeats 1000000 in
theorem blocks_in (vb : Value) (l : List UInt8) (s : S8) (w : World) (hb : Bytes w vb l) (hg : Glob w) (hl : l.length ≤ 400) :
    Calls Tryd.prog 7 #[.agg s.vals.toArray, vb] w fun e w' => e = .returned (.bool true) ∧ Below w.heap.size w w' := by
  obtain ⟨a', c', hsl, hp⟩ := slice_head hb Tryd.underlying24 size_u8 (64 * (l.length / 64)) (by omega)
  obtain ⟨N, hN⟩ : ∃ N, N = l.length / 64 := ⟨_, rfl⟩
  obtain ⟨M, hM⟩ : ∃ M, M = 64 * N := ⟨_, rfl⟩
  obtain ⟨p, hpe⟩ : ∃ p, p = l.take (64 * (l.length / 64)) := ⟨_, rfl⟩
  have hpl : p.length = M := by rw [hpe, List.length_take]; omega
  rw [← hpe, ← hN, ← hM] at hp
  have hsl' : ∀ w', (Instr.slice 24 vb none (some (.int .i64 ((l.length : Int) / 64 * 64))) none).run Tryd.prog w' = .ok (.slice a' M c') w' := fun w' => by
    have := hsl w'
    rw [← hN, ← hM] at this
    rwa [show ((M : Nat) : Int) = (l.length : Int) / 64 * 64 by omega] at this
  obtain ⟨xa, ca, rfl, _⟩ := hb.form
  have HG := Lib.hid hg
  have HP := Lib.hid hp
  have HM := Lib.hid hM
  have HPL := Lib.hid hpl
  have hNs : N ≤ 6 := by omega
  clear hg hb hp hsl hpe hM hN hpl
  go_enter Tryd.func7, Tryd.ntmps7
  go_wp2_with (first
    | (go_at_call 15; refine (alive1_any _ (HG.out.below (by (repeat (first | with_reducible assumption | with_reducible exact Below.refl _ _ | ((with_reducible refine Below.setCell ?_ ?_ _); rotate_left; focus (first | omega | (simp; done) | (simp; omega))) | ((with_reducible refine Below.alloc ?_ ?_ _); rotate_left; focus (first | omega | (simp; done) | (simp; omega))) | ((with_reducible refine below_setRow ?_ ?_ _); rotate_left; focus (first | omega | (simp; done) | (simp; omega))) | (with_reducible refine below_drewN ?_ _) | (with_reducible refine Below.drew ?_)))))).mono ?_; rintro e w1 ⟨rfl, hb1⟩;
       have hB1 : Blk w1 w.heap.size s.vals 23 := (Blk.newL w _ _).below hb1 (by simp);
       have hw1 : Below w.heap.size w w1 := ((Below.refl w.heap.size w).alloc (Nat.le_refl _) _).trans (hb1.mono (by simp));
       have hs1 : w.heap.size + 1 ≤ w1.heap.size := by (have := hb1.size; simpa using this);
       have hs1' : w.heap.size ≤ w1.heap.size := hw1.size;
       have HG1 := Lib.hid (HG.out.below hw1);
       have HH := Lib.hid hB1; clear hB1 hb1)
    | (refine wpList_load_mid rfl 23 (.global 0) rfl 0 0 rfl fvals _ (by exact HG1.out.f) Tryd.underlying23 rfl (by exact fvals_info) ?_)
    | (refine wpList_store_row rfl 23 (.tmp 5) (.tmp 22) rfl w1.heap.size fvals.toArray rfl rfl 23 zvals.toArray (by exact Blk.newL w1 zvals _) (by exact fvals_info) rfl fvals_one ?_)
    | fail)
  have HP1 := Lib.hid (HP.out.below hw1)
  have hfv : fvals = (stateI p 0).vals := fvals_eq
  go_loopw [6] (fun i wr => ∃ k : Nat, k ≤ N ∧ i = .int .i64 (64 * (k : Int)) ∧ Blk wr w1.heap.size (stateI p k).vals 23 ∧ Below w1.heap.size w1 wr) (fun i _ => M - (intOf i).toNat)
  case atStart =>
    refine ⟨0, by omega, rfl, ?_, by (repeat (first | with_reducible assumption | with_reducible exact Below.refl _ _ | ((with_reducible refine Below.setCell ?_ ?_ _); rotate_left; focus (first | omega | (simp; done) | (simp; omega))) | ((with_reducible refine Below.alloc ?_ ?_ _); rotate_left; focus (first | omega | (simp; done) | (simp; omega))) | ((with_reducible refine below_setRow ?_ ?_ _); rotate_left; focus (first | omega | (simp; done) | (simp; omega))) | (with_reducible refine below_drewN ?_ _) | (with_reducible refine Below.drew ?_)))⟩
    rw [← hfv]
    exact (Blk.newL w1 zvals _).setRow fvals
  case round =>
    clear hfv
    obtain ⟨k, hk, rfl, hS, hb⟩ := hrel
    have HS := Lib.hid hS
    clear hS
    by_cases hkN : k < N
    · have hM := HM.out
      have hpl := HPL.out
      obtain ⟨a2, c2, hs2, hp2⟩ := slice_mid HP1.out Tryd.underlying24 size_u8 (64 * k) (64 * k + 64) (by omega) (by omega)
      rw [show 64 * k + 64 - 64 * k = 64 by omega] at hs2 hp2
      have hbl : (p.drop (64 * k)).take 64 = blk p k := rfl
      have hlb : (blk p k).length = 64 := by unfold blk; rw [List.length_take, List.length_drop]; omega
      rw [hbl] at hp2
      unfold Bytes at hp2
      rw [hlb] at hp2
      obtain ⟨b, off, cc, e, _, hr, hbW⟩ := hp2.pos (by omega) (by omega)
      cases e
      obtain ⟨S, hSe⟩ : ∃ S, S = stateI p k := ⟨_, rfl⟩
      rw [← hSe] at HS
      have hs3 : ∀ w', (Instr.slice 24 (.slice a' M c') (some (.int .i64 (64 * (k : Int)))) (some (.int .i64 (64 * (k : Int) + 64))) none).run Tryd.prog w' = .ok (.slice (some ⟨b, off, none⟩) 64 c2) w' := fun w' => by
        have := hs2 w'
        rwa [show ((64 * k : Nat) : Int) = 64 * (k : Int) by omega, show ((64 * k + 64 : Nat) : Int) = 64 * (k : Int) + 64 by omega] at this
      have d0 : wr.cell? ⟨w1.heap.size, 0, none⟩ = some (.int .u32 S.a) := HS.out.cell rfl
      have d1 : wr.cell? ⟨w1.heap.size, 1, none⟩ = some (.int .u32 S.b) := HS.out.cell rfl
      have d2 : wr.cell? ⟨w1.heap.size, 2, none⟩ = some (.int .u32 S.c) := HS.out.cell rfl
      have d3 : wr.cell? ⟨w1.heap.size, 3, none⟩ = some (.int .u32 S.d) := HS.out.cell rfl
      have d4 : wr.cell? ⟨w1.heap.size, 4, none⟩ = some (.int .u32 S.e) := HS.out.cell rfl
      have d5 : wr.cell? ⟨w1.heap.size, 5, none⟩ = some (.int .u32 S.f) := HS.out.cell rfl
      have d6 : wr.cell? ⟨w1.heap.size, 6, none⟩ = some (.int .u32 S.g) := HS.out.cell rfl
      have d7 : wr.cell? ⟨w1.heap.size, 7, none⟩ = some (.int .u32 S.h) := HS.out.cell rfl
      have HR := Lib.hid hr
      clear hr hs2 hp2 hsl'
      have hcell : ∀ nq i, i < 64 → (wr.drewN nq).cell? ⟨b, off + i, none⟩ = some (.int .u8 (byteI (blk p k) i)) := fun nq i hi =>
        ((below_drewN hb nq).cell (p := ⟨b, _, none⟩) hbW).trans (range_byte HR.out i (by omega))
      have HC := Lib.hid hcell
      have HSE := Lib.hid hSe
      have hkM : 64 * (k : Int) < M := by omega
      clear hcell hM hpl hSe hlb hbl hkN
      go_wp2_with fail
      (refine wp_region_quiet_tail 6 (by kernel_rfl) (by kernel_rfl) ?_; simp only [List.take_succ_cons, List.take_zero, List.drop_succ_cons, List.drop_zero]; (repeat (go_big_quiet_step (fail))); refine wpQuiet_nil ?_; intro _ hw'; obtain ⟨nq, hw''⟩ := hw'; subst hw'')
      go_wp2_with (first
        | (go_at_call 16; refine (turn_any b off c2 (blk p k) S _ (HC.out nq) (HG1.out.below (below_drewN hb nq))).mono ?_; rintro e w2 ⟨rfl, hb2⟩;
           have HS2 := Lib.hid ((HS.out.drewN nq).below hb2 (by simpa using HS.out.lt)))
        | (refine wpList_store_row rfl 23 (.tmp 5) (.tmp 35) rfl w1.heap.size (turnI S (blk p k)).vals.toArray rfl rfl 23 S.vals.toArray (by exact HS2.out) (vals_info _) rfl (vals_one _) ?_)
        | fail)
      refine ⟨⟨k + 1, ?_, by congr 1 <;> omega, ?_, ?_⟩, by simp [intOf]; omega⟩
      · have hM := HM.out
        omega
      · have e : stateI p (k + 1) = turnI S (blk p k) := by rw [HSE.out]; rfl
        rw [e]
        exact HS2.out.setRow _
      · exact below_setRow ((below_drewN hb nq).trans (hb2.mono (by have := hb.size; simpa using this))) (Nat.le_refl _) _
    · have ek : k = N := by omega
      have hge : ¬ (64 * (N : Int) < M) := by have hM := HM.out; omega
      have hF : (fillP M).length = 64 := by rw [HM.out]; exact fillP_blocks N
      have hM4 : M ≤ 384 := by have hM := HM.out; omega
      rw [ek] at HS ⊢
      clear ek hkN hk
      have hsb := hb.size
      have hwr := hw1.trans (hb.mono hs1')
      have HF := Lib.hid hF
      have HPr := Lib.hid (HP1.out.below hb)
      have HGr := Lib.hid (HG1.out.below hb)
      clear hF hsl'
      go_wp2_with fail
      refine (fill_any M wr (by omega)).mono ?_
      rintro e w2 ⟨⟨a3, c3, rfl, hown⟩, hb2⟩
      rw [HF.out] at hown ⊢
      obtain ⟨b3, off3, c3', e, _, hr3, hbW3⟩ := (ownsRow_isSl hown (bytesV_one _)).pos (by omega) (by decide)
      cases e
      have hW2 := hb.trans (hb2.mono (by omega))
      have HG2 := Lib.hid (HG1.out.below hW2)
      have HS2 := Lib.hid (HS.out.below hb2 HS.out.lt)
      have hs2 := hb2.size
      have HC3 := Lib.hid (fun i (hi : i < 64) => range_byte hr3 i (by rw [HF.out]; exact hi))
      clear hown hr3 hwr HPr HGr
      go_wp2_with (first
        | (refine wpList_load_row rfl 23 (.tmp 5) rfl w1.heap.size rfl 23 (stateI p N).vals.toArray (0, 0) _ (by exact HS2.out) Tryd.underlying23 rfl (vals_info _) ?_)
        | (go_at_call 16; refine (turn_any b3 off3 _ (fillP M) (stateI p N) w2 HC3.out HG2.out).mono ?_; rintro e w3 ⟨rfl, hb3⟩;
           have HS3 := Lib.hid (HS2.out.below hb3 HS2.out.lt);
           have hW3 := hW2.trans (hb3.mono (by omega)); clear hb3)
        | (refine wpList_store_row rfl 23 (.tmp 5) (.tmp 41) rfl w1.heap.size (turnI (stateI p N) (fillP M)).vals.toArray rfl rfl 23 (stateI p N).vals.toArray (by exact HS3.out) (vals_info _) rfl (vals_one _) ?_)
        | fail)
      obtain ⟨T4, hT4⟩ : ∃ T4, T4 = turnI (stateI p N) (fillP M) := ⟨_, rfl⟩
      have HT4 := Lib.hid hT4
      rw [← hT4]
      clear hT4
      have hW4 : Below w1.heap.size w1 (w3.setRow w1.heap.size T4.vals.toArray) := below_setRow hW3 (Nat.le_refl _) _
      have hB4 : Blk (w3.setRow w1.heap.size T4.vals.toArray) w1.heap.size T4.vals 23 := HS3.out.setRow _
      have hp4 : p.length ≤ 70368744177664 := by rw [HPL.out]; omega
      have hz4 : (w3.setRow w1.heap.size T4.vals.toArray).heap.size = w3.heap.size := by simp
      generalize w3.setRow w1.heap.size T4.vals.toArray = w4 at *
      rw [← hz4]
      clear hz4
      have HG4 := Lib.hid (HG1.out.below hW4)
      have hP4 := HP1.out.below hW4
      clear hW2 hb2 HG2 HS2 HC3
      refine (sum_at (n := 1) w4 [_] [p] _ (.cons hP4 .nil) rfl p (by simp [cat]) hp4 (by decide) HG4.out).mono ?_
      rintro e w5 ⟨rfl, hb5⟩
      have hs4 := hW4.size
      have hW5 := hW4.trans (hb5.mono hs4)
      have hs5 := hb5.size
      have hB5 := hB4.below hb5 hB4.lt
      have hH5 := HH.out.below hW5 HH.out.lt
      have hZ5 := hw1.trans (hW5.mono hs1')
      have hws : w.heap.size + 1 ≤ w5.heap.size := by omega
      have hws2 : w1.heap.size < w5.heap.size := hB5.lt
      have HB5 := Lib.hid hB5
      have HH5 := Lib.hid hH5
      clear hB4 hB5 hH5 hb5 hW5 HG4 hP4 hs4 hs5 hW4 hp4
      have hx : ∀ k, k < 8 → wordI (sumN p) k = T4.get k := by
        intro k hk
        rw [word_nat, sum_blocks p N (HPL.out.trans HM.out) k hk, HT4.out, state_nat, turn_nat _ _ (stateN_ok _ _), get_nat, HM.out]
      have HX := Lib.hid hx
      have hDl := sumN_len p
      clear hx
      generalize sumN p = D at *
      have HDL := Lib.hid hDl
      clear hDl
      go_wp2_with (first
        | (refine wpList_store_row rfl 31 (.tmp 8) (.tmp 44) rfl w5.heap.size (bytesV D).toArray rfl rfl 31 z32.toArray (by exact Blk.newL w5 z32 _) (by exact hash_info D HDL.out) (by simp [z32, bytesV, HDL.out]) (hash_one _) ?_)
        | fail)
      go_loopw [9] (fun i wr => ∃ k : Nat, k ≤ 8 ∧ i = .int .i64 k ∧ Blk wr w1.heap.size T4.vals 23 ∧ Blk wr w5.heap.size (bytesV D) 31 ∧ Blk wr w.heap.size s.vals 23 ∧ Below w.heap.size w wr) (fun i _ => 8 - (intOf i).toNat)
      case atStart =>
        refine ⟨0, by omega, rfl, (HB5.out.alloc _).setRow_other (by omega) _, (Blk.newL w5 z32 _).setRow _, (HH5.out.alloc _).setRow_other (by omega) _, below_setRow (hZ5.alloc (by omega) _) (by omega) _⟩
      case round =>
        obtain ⟨k, hk, rfl, hB, hD, hH, hW⟩ := hrel
        have HB := Lib.hid hB
        have HD := Lib.hid hD
        have HH2 := Lib.hid hH
        clear hB hD hH
        by_cases h8 : k < 8
        · have c0 : wr.cell? ⟨w5.heap.size, 4 * k, none⟩ = some (.int .u8 (byteI D (4 * k))) := by have := range_byte (p := D) (b := w5.heap.size) (off := 0) (fun j u hj => by rw [Nat.zero_add]; exact HD.out.cell hj) (4 * k) (by rw [HDL.out]; omega); rwa [Nat.zero_add] at this
          have c1 : wr.cell? ⟨w5.heap.size, 4 * k + 1, none⟩ = some (.int .u8 (byteI D (4 * k + 1))) := by have := range_byte (p := D) (b := w5.heap.size) (off := 0) (fun j u hj => by rw [Nat.zero_add]; exact HD.out.cell hj) (4 * k + 1) (by rw [HDL.out]; omega); rwa [Nat.zero_add] at this
          have c2 : wr.cell? ⟨w5.heap.size, 4 * k + 2, none⟩ = some (.int .u8 (byteI D (4 * k + 2))) := by have := range_byte (p := D) (b := w5.heap.size) (off := 0) (fun j u hj => by rw [Nat.zero_add]; exact HD.out.cell hj) (4 * k + 2) (by rw [HDL.out]; omega); rwa [Nat.zero_add] at this
          have c3 : wr.cell? ⟨w5.heap.size, 4 * k + 3, none⟩ = some (.int .u8 (byteI D (4 * k + 3))) := by have := range_byte (p := D) (b := w5.heap.size) (off := 0) (fun j u hj => by rw [Nat.zero_add]; exact HD.out.cell hj) (4 * k + 3) (by rw [HDL.out]; omega); rwa [Nat.zero_add] at this
          have d : wr.cell? ⟨w1.heap.size, k, none⟩ = some (.int .u32 (T4.get k)) := HB.out.cell (vals_at _ _ h8)
          have a0 := byteI_0 D (4 * k)
          have a1 := byteI_0 D (4 * k + 1)
          have a2 := byteI_0 D (4 * k + 2)
          have a3 := byteI_0 D (4 * k + 3)
          have e0 := byteI_1 D (4 * k)
          have e1 := byteI_1 D (4 * k + 1)
          have e2 := byteI_1 D (4 * k + 2)
          have e3 := byteI_1 D (4 * k + 3)
          have hx : bits .or .u32 (bits .or .u32 (bits .or .u32 (byteI D (4 * k) * 16777216) (byteI D (4 * k + 1) * 65536)) (byteI D (4 * k + 2) * 256)) (byteI D (4 * k + 3)) = T4.get k := HX.out k h8
          go_wp2_with fail
          go_quiet (fail)
          go_wp2_with fail
          exact ⟨⟨k + 1, by omega, by go_num, HB.out.drewN nq, HD.out.drewN nq, HH2.out.drewN nq, below_drewN hW nq⟩, by simp [intOf]; omega⟩
        · obtain rfl : k = 8 := by omega
          go_wp2_with fail
          have hsW := hW.size
          have hsz : w.heap.size + 1 ≤ wr.heap.size := HH2.out.lt
          have x0 := fun p : Later (w.heap.size + 1) wr => later_cell (HH2.out.cell (i := 0) rfl) (Nat.lt_succ_self _) p
          have x1 := fun p : Later (w.heap.size + 1) wr => later_cell (HH2.out.cell (i := 1) rfl) (Nat.lt_succ_self _) p
          have x2 := fun p : Later (w.heap.size + 1) wr => later_cell (HH2.out.cell (i := 2) rfl) (Nat.lt_succ_self _) p
          have x3 := fun p : Later (w.heap.size + 1) wr => later_cell (HH2.out.cell (i := 3) rfl) (Nat.lt_succ_self _) p
          have x4 := fun p : Later (w.heap.size + 1) wr => later_cell (HH2.out.cell (i := 4) rfl) (Nat.lt_succ_self _) p
          have x5 := fun p : Later (w.heap.size + 1) wr => later_cell (HH2.out.cell (i := 5) rfl) (Nat.lt_succ_self _) p
          have x6 := fun p : Later (w.heap.size + 1) wr => later_cell (HH2.out.cell (i := 6) rfl) (Nat.lt_succ_self _) p
          have x7 := fun p : Later (w.heap.size + 1) wr => later_cell (HH2.out.cell (i := 7) rfl) (Nat.lt_succ_self _) p
          have heq : ∀ w, (Op.equalIn 10000 23 (.agg s.vals.toArray) (.agg #[.int .u32 s.a, .int .u32 s.b, .int .u32 s.c, .int .u32 s.d, .int .u32 s.e, .int .u32 s.f, .int .u32 s.g, .int .u32 s.h])).run Tryd.prog w = .ok true w := fun w => eq_eight_same w s
          refine wp_region_quiet_later (w.heap.size + 1) (by kernel_rfl) (by kernel_rfl) ?_
          repeat (go_big_quiet_step ((go_at_call 16; exact quiet_later _ (turn_not none 0 0 s _ (by decide)) hsz)))
          refine wpQuiet_nil ?_
          intro _ hw'
          obtain ⟨q, hw''⟩ := hw'
          subst hw''
          go_wp2_with fail
          go_ret
          exact ⟨rfl, hW.trans (q.old.mono (by omega))⟩
end Go.Proofs.YtjjoiefngoghpaaDoor
