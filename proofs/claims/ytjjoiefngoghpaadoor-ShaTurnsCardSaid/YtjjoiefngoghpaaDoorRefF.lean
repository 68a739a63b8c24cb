/- The walks of Turn and Fill, the program's and the reference's, for whatever they are given. Conditions: the text can be read; the state's numbers are below 2^32; the package's tables read as they are laid. -/
import Derived.Test.YtjjoiefngoghpaaDoorLawBlocks
import Derived.Test.YtjjoiefngoghpaaDoorLawFills
import Derived.Test.YtjjoiefngoghpaaDoorRefE
namespace Go.Proofs.YtjjoiefngoghpaaDoor
open Go.RowKit

def turnAll (s : N8) (b : List UInt8) : N8 := if b.length = 64 then turnN s b else s
theorem bytes_cells {w : World} {v : Value} {l : List UInt8} (h : Bytes w v l) (hl : l.length = 64) : ∃ b off cap, v = .slice (some ⟨b, off, none⟩) 64 cap ∧ ∀ i, i < 64 → w.cell? ⟨b, off + i, none⟩ = some (.int .u8 (byteI l i)) := by
  obtain ⟨b, off, cap, rfl, hc⟩ := h.at (i := 0) (by omega)
  refine ⟨b, off, cap, by rw [hl], fun i hi => ?_⟩
  have h' := List.getElem?_eq_getElem (l := l) (i := i) (by omega)
  rw [hc i _ h']
  unfold byteI
  rw [h']
  rfl
theorem turn_all (v : Value) (b : List UInt8) (s : N8) (w : World) (hb : Bytes w v b) (hs : s.Ok) (hg : Glob w) :
    Calls Tryd.prog 16 #[.agg s.v32.toArray, v] w fun e w' => e = .returned (.agg (turnAll s b).v32.toArray) ∧ Below w.heap.size w w' := by
  by_cases hl : b.length = 64
  · obtain ⟨bb, off, cap, rfl, hc⟩ := bytes_cells hb hl
    refine (turn_any bb off cap b s.cast w hc hg).mono ?_
    rintro e w' ⟨rfl, hb'⟩
    rw [turn_nat s b hs, turnAll, if_pos hl]
    exact ⟨rfl, hb'⟩
  · obtain ⟨xa, ca, rfl, _⟩ := hb.form
    rw [turnAll, if_neg hl]
    exact turn_not xa b.length ca s.cast w hl
set_option maxRecDepth 100000 in
set_option maxHeartbeats 800000 in
theorem refturn_not (a : Option Addr) (n cap : Nat) (s : N8) (w : World) (hn : n ≠ 64) :
    Calls Tryd.prog 17 #[.agg s.v32.toArray, .slice a n cap] w fun e w' => e = .returned (.agg s.v32.toArray) ∧ Below w.heap.size w w' := by
  have hn' : ¬ ((n : Int) = 64) := by omega
  go_enter Tryd.func17, Tryd.ntmps17
  go_wp2_with (first
    | (refine wpList_load_row rfl 23 (.tmp 2) rfl w.heap.size rfl 23 s.v32.toArray (0, 0) _ (by exact (Blk.newL w s.v32 _).alloc _) Tryd.underlying23 rfl (vals_info _) ?_)
    | (refine wpList_store_row rfl 23 (.tmp 4) (.tmp 22) rfl (w.heap.size + 1) s.v32.toArray rfl rfl 23 zvals.toArray (by exact Blk.newL1 w _ zvals _) (vals_info _) rfl (vals_one _) ?_)
    | fail)
  exact bodyPost_ret (v := .agg s.v32.toArray) (results_cell_row rfl _ _ (w.heap.size + 1) 23 _ (0, 0) _ rfl (Blk.setRow (Blk.newL1 w _ zvals _) s.v32) Tryd.underlying23 rfl (vals_info _)) rfl ⟨rfl, by (repeat (first | with_reducible assumption | with_reducible exact Below.refl _ _ | ((with_reducible refine Below.setCell ?_ ?_ _); rotate_left; focus (first | omega | (simp; done) | (simp; omega))) | ((with_reducible refine Below.alloc ?_ ?_ _); rotate_left; focus (first | omega | (simp; done) | (simp; omega))) | ((with_reducible refine below_setRow ?_ ?_ _); rotate_left; focus (first | omega | (simp; done) | (simp; omega))) | (with_reducible refine below_drewN ?_ _) | (with_reducible refine Below.drew ?_)))⟩
theorem refturn_all (v : Value) (b : List UInt8) (s : N8) (w : World) (hb : Bytes w v b) (hs : s.Ok) (hg : Glob w) :
    Calls Tryd.prog 17 #[.agg s.v32.toArray, v] w fun e w' => e = .returned (.agg (turnAll s b).v32.toArray) ∧ Below w.heap.size w w' := by
  by_cases hl : b.length = 64
  · obtain ⟨bb, off, cap, rfl, hc⟩ := bytes_cells hb hl
    rw [turnAll, if_pos hl]
    exact refturn_any bb off cap b s w hs hc hg
  · obtain ⟨xa, ca, rfl, _⟩ := hb.form
    rw [turnAll, if_neg hl]
    exact refturn_not xa b.length ca s w hl

def fillAll (n : Int) : List UInt8 := if n < 0 then [] else fillP n.toNat
theorem fillAll_len (n : Int) : (fillAll n).length ≤ 100 := by
  unfold fillAll
  by_cases h : n < 0
  · rw [if_pos h]; decide
  · rw [if_neg h, fillP_len]; have := fillZ_lt n.toNat; omega
theorem fill_all (n : Int) (w : World) (hn : n ≤ 1000000) :
    Calls Tryd.prog 19 #[.int .i64 n] w fun e w' => (∃ v, e = .returned v ∧ Bytes w' v (fillAll n)) ∧ Below w.heap.size w w' := by
  unfold fillAll
  by_cases h : n < 0
  · rw [if_pos h]
    refine (fill_neg n w h).mono ?_
    rintro e w' ⟨rfl, rfl⟩
    exact ⟨⟨_, rfl, bytes_nil _⟩, Below.refl _ _⟩
  · rw [if_neg h]
    obtain ⟨m, rfl⟩ := Int.eq_ofNat_of_zero_le (by omega : 0 ≤ n)
    refine (fill_any m w (by omega)).mono ?_
    rintro e w' ⟨⟨a, c, rfl, ho⟩, hb⟩
    exact ⟨⟨_, rfl, by rw [Int.toNat_natCast]; exact ownsRow_isSl ho (bytesV_one _)⟩, hb⟩
theorem reffill_neg (n : Int) (w : World) (hn : n < 0) :
    Calls Tryd.prog 20 #[.int .i64 n] w fun e w' => e = .returned (.slice none 0 0) ∧ w' = w := by
  go_enter Tryd.func20, Tryd.ntmps20
  go_wp2
  go_ret
  exact ⟨rfl, rfl⟩
theorem reffill_all (n : Int) (w : World) (hn : n ≤ 1000000) :
    Calls Tryd.prog 20 #[.int .i64 n] w fun e w' => (∃ v, e = .returned v ∧ Bytes w' v (fillAll n)) ∧ Below w.heap.size w w' := by
  unfold fillAll
  by_cases h : n < 0
  · rw [if_pos h]
    refine (reffill_neg n w h).mono ?_
    rintro e w' ⟨rfl, rfl⟩
    exact ⟨⟨_, rfl, bytes_nil _⟩, Below.refl _ _⟩
  · rw [if_neg h]
    obtain ⟨m, rfl⟩ := Int.eq_ofNat_of_zero_le (by omega : 0 ≤ n)
    refine (reffill_any m w (by omega)).mono ?_
    rintro e w' ⟨⟨a, c, rfl, ho⟩, hb⟩
    exact ⟨⟨_, rfl, by rw [Int.toNat_natCast]; exact ownsRow_isSl ho (bytesV_one _)⟩, hb⟩
end Go.Proofs.YtjjoiefngoghpaaDoor
