/- The law ShaHex, walked: true, and nothing that was there has turned. Condition: the package's tables read as they are laid. -/
import Derived.Test.YtjjoiefngoghpaaDoorAlive1
namespace Go.Proofs.YtjjoiefngoghpaaDoor
open Go.RowKit

theorem hexP_len (l : List UInt8) : (hexP l).length = 2 * l.length := by
  unfold hexP
  induction l with
  | nil => rfl
  | cons a l ih => rw [List.flatMap_cons, List.length_append, ih]; simp; omega
theorem hexP_at (l : List UInt8) (i : Nat) (h : i < l.length) : (hexP l)[2 * i]? = some (dgt (l[i].toNat / 16)) ∧ (hexP l)[2 * i + 1]? = some (dgt (l[i].toNat % 16)) := by
  unfold hexP
  induction l generalizing i with
  | nil => simp at h
  | cons a l ih =>
    cases i with
    | zero => constructor <;> rfl
    | succ i =>
      have := ih i (by simpa using h)
      rw [List.flatMap_cons]
      constructor
      · rw [show 2 * (i + 1) = 2 * i + 2 by omega]; simpa using this.1
      · rw [show 2 * (i + 1) + 1 = (2 * i + 1) + 2 by omega]; simpa using this.2
/-- The half of a digest's byte that digit i tells. -/
def half (l : List UInt8) (i : Nat) : Nat := if i % 2 = 1 then (l[i / 2]?.getD 0).toNat % 16 else (l[i / 2]?.getD 0).toNat / 16
theorem half_lt (l : List UInt8) (i : Nat) : half l i < 16 := by
  unfold half
  have := (l[i / 2]?.getD 0).toNat_lt
  split <;> omega
theorem hexP_half (l : List UInt8) (i : Nat) (h : i < 2 * l.length) : (hexP l)[i]? = some (dgt (half l i)) := by
  have h2 : i / 2 < l.length := by omega
  have := hexP_at l (i / 2) h2
  unfold half
  rw [List.getElem?_eq_getElem h2, Option.getD_some]
  split
  · have e : 2 * (i / 2) + 1 = i := by omega
    rw [← this.2, e]
  · have e : 2 * (i / 2) = i := by omega
    rw [← this.1, e]
theorem dgt_lo (n : Nat) (h : n < 10) : (dgt n).toNat = 48 + n := by
  have : ∀ c : Fin 10, (dgt c.val).toNat = 48 + c.val := by decide +kernel
  exact this ⟨n, h⟩
theorem dgt_hi (n : Nat) (h : n < 16) (h' : 10 ≤ n) : (dgt n).toNat = 87 + n := by
  have : ∀ c : Fin 16, 10 ≤ c.val → (dgt c.val).toNat = 87 + c.val := by decide +kernel
  exact this ⟨n, h⟩ h'

set_option maxRecDepth 100000 in
set_option maxHeartbeats 400000 in
theorem lawhex_any (l : List UInt8) (hl : l.length = 32) (w : World) (hg : Glob w) :
    Calls Tryd.prog 8 #[hash32 l] w fun e w' => e = .returned (.bool true) ∧ Below w.heap.size w w' := by
  have HG := Lib.hid hg
  have HL := Lib.hid hl
  clear hg hl
  unfold hash32
  have hhex : (hexP l).length = 64 := by rw [hexP_len, HL.out]
  have hsz : ((⟨(hexP l).toArray⟩ : ByteArray).size : Nat) = 64 := hhex
  have HX := Lib.hid hhex
  clear hhex
  go_enter Tryd.func8, Tryd.ntmps8
  go_wp2_with (first
    | (go_at_call 15; refine (alive1_any _ (HG.out.below (by (repeat (first | with_reducible assumption | with_reducible exact Below.refl _ _ | ((with_reducible refine Below.setCell ?_ ?_ _); rotate_left; focus (first | omega | (simp; done) | (simp; omega))) | ((with_reducible refine Below.alloc ?_ ?_ _); rotate_left; focus (first | omega | (simp; done) | (simp; omega))) | ((with_reducible refine below_setRow ?_ ?_ _); rotate_left; focus (first | omega | (simp; done) | (simp; omega))) | (with_reducible refine below_drewN ?_ _) | (with_reducible refine Below.drew ?_)))))).mono ?_; rintro e w1 ⟨rfl, hb1⟩;
       have hB1 : Blk w1 w.heap.size (bytesV l) 31 := (Blk.newL w _ _).below hb1 (by simp);
       have hw1 : Below w.heap.size w w1 := ((Below.refl w.heap.size w).alloc (Nat.le_refl _) _).trans (hb1.mono (by simp));
       have HB := Lib.hid hB1; clear hB1)
    | (refine wpList_load_row rfl 31 (.tmp 1) rfl w.heap.size rfl 31 (bytesV l).toArray (0, 0) _ (by exact HB.out) Tryd.underlying31 rfl (by exact hash_info l HL.out) ?_)
    | (go_at_call 23; refine (hex_any l HL.out w1 (HG.out.below hw1)).mono ?_; rintro e w2 ⟨rfl, hb2⟩))
  have hw2 : Below w.heap.size w w2 := hw1.trans (hb2.mono hw1.size)
  have HB2 := Lib.hid (HB.out.below hb2 HB.out.lt)
  clear hb1 hb2 hw1
  go_loopw [4] (fun i wr => ∃ k : Nat, k ≤ 64 ∧ i = .int .i64 k ∧ wr = w2) (fun i _ => 64 - (intOf i).toNat)
  case atStart => exact ⟨0, by omega, rfl, rfl⟩
  case round =>
    obtain ⟨k, hk, rfl, rfl⟩ := hrel
    by_cases h64 : k < 64
    · have hx := hexP_half l k (by rw [HL.out]; omega)
      have hn := half_lt l k
      have hk2 : k / 2 < l.length := by rw [HL.out]; omega
      have hc256 := l[k / 2].toNat_lt
      have hc := HB2.out.cell (bytesV_at l (k / 2) _ (List.getElem?_eq_getElem hk2))
      have hix : ∀ w', (Instr.index 9 (.string ⟨(hexP l).toArray⟩) (.int .i64 (k : Int))).run Tryd.prog w' = .ok (.int .u8 ((dgt (half l k)).toNat : Int)) w' := fun w' => by
        rw [run_index_string w' _ _ _ _ Tryd.underlying9]
        rw [dif_pos ⟨by omega, by rw [hsz]; omega⟩]
        obtain ⟨h1, h2⟩ := List.getElem?_eq_some_iff.1 hx
        rw [← h2]
        rfl
      have hh : half l k = if k % 2 = 1 then l[k / 2].toNat % 16 else l[k / 2].toNat / 16 := by
        unfold half
        rw [List.getElem?_eq_getElem hk2]
        rfl
      generalize half l k = n at *
      generalize l[k / 2].toNat = c at *
      by_cases h10 : n < 10
      · have ev := dgt_lo n h10
        rw [ev] at hix
        clear ev
        have hn1 : ((48 + n : Nat) : Int) = 48 + (n : Int) := by omega
        rw [hn1] at hix
        by_cases hp : k % 2 = 1
        · rw [if_pos hp] at hh
          go_wp2_with fail
          exact ⟨⟨k + 1, by omega, by go_num, trivial⟩, by simp [intOf]; omega⟩
        · rw [if_neg hp] at hh
          go_wp2_with fail
          exact ⟨⟨k + 1, by omega, by go_num, trivial⟩, by simp [intOf]; omega⟩
      · have ev := dgt_hi n hn (by omega)
        rw [ev] at hix
        clear ev
        have hn1 : ((87 + n : Nat) : Int) = 87 + (n : Int) := by omega
        rw [hn1] at hix
        by_cases hp : k % 2 = 1
        · rw [if_pos hp] at hh
          go_wp2_with fail
          exact ⟨⟨k + 1, by omega, by go_num, trivial⟩, by simp [intOf]; omega⟩
        · rw [if_neg hp] at hh
          go_wp2_with fail
          exact ⟨⟨k + 1, by omega, by go_num, trivial⟩, by simp [intOf]; omega⟩
    · obtain rfl : k = 64 := by omega
      go_wp2_with fail
      go_ret
      exact ⟨rfl, hw2⟩
end Go.Proofs.YtjjoiefngoghpaaDoor
