/- The walk of the reference's Hex. Condition: 32 bytes. -/
import Derived.Test.YtjjoiefngoghpaaDoorShaH
import Derived.Test.YtjjoiefngoghpaaDoorRefC
namespace Go.Proofs.YtjjoiefngoghpaaDoor
open Go.RowKit

theorem u8_nat (c : UInt8) : (c.toNat : Int) % 256 = c.toNat := by have := c.toNat_lt; omega
theorem digS_at (n : Nat) (h : n < 16) : ((⟨digT.toArray⟩ : ByteArray).extract n (n + 1)) = ⟨#[dgt n]⟩ := by
  have : ∀ n : Fin 16, ((⟨digT.toArray⟩ : ByteArray).extract n.val (n.val + 1)) = ⟨#[dgt n.val]⟩ := by decide +kernel
  exact this ⟨n, h⟩

theorem slice_dig (n : Nat) (h : n < 16) (w : World) : (Instr.slice 9 (.string ⟨#[48, 49, 50, 51, 52, 53, 54, 55, 56, 57, 97, 98, 99, 100, 101, 102]⟩) (some (.int .u8 n)) (some (.int .u8 ((n : Int) + 1))) none).run Tryd.prog w = .ok (.string ⟨#[dgt n]⟩) w := by
  have h1 := run_slice_string_if (P := Tryd.prog) w 9 ⟨digT.toArray⟩ .u8 .u8 n ((n : Int) + 1) Tryd.underlying9
  rw [if_pos ⟨by omega, by show (n : Int) + 1 ≤ 16; omega⟩, if_pos ⟨by omega, by omega⟩, show ((n : Int) + 1).toNat = n + 1 by omega, Int.toNat_natCast, digS_at n h] at h1
  exact h1
theorem str_add (X Y : List UInt8) (h : X.length + Y.length ≤ 1000) (w : World) : (Op.stringOp .add ⟨X.toArray⟩ ⟨Y.toArray⟩).run Tryd.prog w = .ok (.string ⟨(X ++ Y).toArray⟩) w := by
  have h1 := run_string_add_sum (P := Tryd.prog) (w := w) ⟨X.toArray⟩ ⟨Y.toArray⟩ (by show X.toArray.size + Y.toArray.size ≤ _; rw [List.size_toArray, List.size_toArray]; omega)
  have e : (⟨X.toArray⟩ ++ ⟨Y.toArray⟩ : ByteArray) = ⟨(X ++ Y).toArray⟩ := by
    apply ByteArray.ext
    simp
  rw [h1, e]
theorem hexP_take_le (l : List UInt8) (k : Nat) (h : k ≤ 32) : (hexP (l.take k)).length ≤ 64 := by
  have : ∀ m : List UInt8, (hexP m).length = 2 * m.length := fun m => by
    induction m with
    | nil => rfl
    | cons c m ih => unfold hexP at *; rw [List.flatMap_cons, List.length_append, ih]; simp; omega
  rw [this, List.length_take]
  omega
set_option maxRecDepth 100000 in
set_option maxHeartbeats 800000 in
theorem refhex_any (l : List UInt8) (hl : l.length = 32) (w : World) :
    Calls Tryd.prog 24 #[hash32 l] w fun e w' => e = .returned (.string ⟨(hexP l).toArray⟩) ∧ Below w.heap.size w w' := by
  have HL := Lib.hid hl
  clear hl
  unfold hash32
  go_enter Tryd.func24, Tryd.ntmps24
  go_wp2_with fail
  go_loopw [4, 5] (fun v i wr => ∃ k : Nat, k ≤ 32 ∧ i = .int .i64 k ∧ v = .string ⟨(hexP (l.take k)).toArray⟩ ∧ Blk wr w.heap.size (bytesV l) 31 ∧ Below w.heap.size w wr) (fun _ i _ => 32 - (intOf i).toNat)
  case atStart => exact ⟨0, by omega, rfl, rfl, Blk.newL w _ _, by (repeat (first | with_reducible assumption | with_reducible exact Below.refl _ _ | ((with_reducible refine Below.setCell ?_ ?_ _); rotate_left; focus (first | omega | (simp; done) | (simp; omega))) | ((with_reducible refine Below.alloc ?_ ?_ _); rotate_left; focus (first | omega | (simp; done) | (simp; omega))) | ((with_reducible refine below_setRow ?_ ?_ _); rotate_left; focus (first | omega | (simp; done) | (simp; omega))) | (with_reducible refine below_drewN ?_ _) | (with_reducible refine Below.drew ?_)))⟩
  case round =>
    obtain ⟨k, hk, rfl, rfl, hB, hb⟩ := hrel
    have HB := Lib.hid hB
    clear hB
    by_cases h32 : k < 32
    · have hkl : k < l.length := by rw [HL.out]; exact h32
      obtain ⟨c, hc⟩ : ∃ c, l[k]? = some c := ⟨_, List.getElem?_eq_getElem hkl⟩
      have c0 : wr.cell? ⟨w.heap.size, k, none⟩ = some (.int .u8 (c.toNat : Int)) := HB.out.cell (bytesV_at l k c hc)
      have hlt := c.toNat_lt
      have hs1 := fun w' => slice_dig (c.toNat / 16) (by omega) w'
      have hs2 := fun w' => slice_dig (c.toNat % 16) (by omega) w'
      rw [show ((c.toNat / 16 : Nat) : Int) = (c.toNat : Int) / 16 by omega] at hs1
      rw [show ((c.toNat % 16 : Nat) : Int) = (c.toNat : Int) % 16 by omega] at hs2
      have hsn : hexP (l.take (k + 1)) = hexP (l.take k) ++ [dgt (c.toNat / 16), dgt (c.toNat % 16)] := by
        rw [List.take_add_one, hc]
        unfold hexP
        rw [Option.toList_some, List.flatMap_append]
        rfl
      have HS := Lib.hid hsn
      clear hsn hc
      have hXl := hexP_take_le l k hk
      generalize c.toNat = cn at *
      generalize hexP (l.take k) = X at *
      have ha1 := fun w' => str_add X [dgt (cn / 16)] (by simp; omega) w'
      have ha2 := fun w' => str_add (X ++ [dgt (cn / 16)]) [dgt (cn % 16)] (by simp; omega) w'
      go_wp2_with fail
      (refine wp_region_quiet_tail 25 (by kernel_rfl) (by kernel_rfl) ?_; simp only [List.take_succ_cons, List.take_zero, List.drop_succ_cons, List.drop_zero]; (repeat (go_big_quiet_step (fail))); refine wpQuiet_nil ?_; intro _ hw'; obtain ⟨nq, hw''⟩ := hw'; subst hw'')
      go_wp2_with fail
      refine ⟨⟨k + 1, by omega, by go_num, ?_, HB.out.drewN _, by (repeat (first | with_reducible assumption | with_reducible exact Below.refl _ _ | ((with_reducible refine Below.setCell ?_ ?_ _); rotate_left; focus (first | omega | (simp; done) | (simp; omega))) | ((with_reducible refine Below.alloc ?_ ?_ _); rotate_left; focus (first | omega | (simp; done) | (simp; omega))) | ((with_reducible refine below_setRow ?_ ?_ _); rotate_left; focus (first | omega | (simp; done) | (simp; omega))) | (with_reducible refine below_drewN ?_ _) | (with_reducible refine Below.drew ?_)))⟩, by simp [intOf]; omega⟩
      rw [HS.out]
    · obtain rfl : k = 32 := by omega
      go_wp2_with fail
      go_ret
      exact ⟨by rw [List.take_of_length_le (by rw [HL.out]; exact Nat.le_refl _)]; rfl, hb⟩
end Go.Proofs.YtjjoiefngoghpaaDoor
