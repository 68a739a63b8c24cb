/- The walk of law 2's great: are parts more than is looked at? Condition: the parts can be read. -/
import Derived.Test.YtjjoiefngoghpaaDoorMacD
namespace Go.Proofs.YtjjoiefngoghpaaDoor
open Go.RowKit

def sizeP (ls : List (List UInt8)) (k : Nat) : Nat := ((ls.take k).map fun l => 1 + l.length).sum
theorem sizeP_succ (ls : List (List UInt8)) (k : Nat) (l : List UInt8) (h : ls[k]? = some l) : sizeP ls (k + 1) = sizeP ls k + (1 + l.length) := by
  unfold sizeP
  rw [List.take_add_one, h]
  simp
theorem sizeP_all (ls : List (List UInt8)) : sizeP ls ls.length = ls.length + (cat ls).length := by
  unfold sizeP cat
  rw [List.take_length]
  induction ls with
  | nil => rfl
  | cons l ls ih =>
    simp only [List.map_cons, List.sum_cons, List.length_cons, List.flatten_cons, List.length_append] at ih ⊢
    omega

theorem sizeP_le (ls : List (List UInt8)) (k : Nat) : sizeP ls k ≤ ls.length + (cat ls).length := by
  rw [← sizeP_all]
  unfold sizeP
  rw [List.take_length]
  induction ls generalizing k with
  | nil => simp
  | cons l ls ih =>
    cases k with
    | zero => simp
    | succ k =>
      have := ih k
      simp only [List.take_succ_cons, List.map_cons, List.sum_cons]
      omega
set_option maxRecDepth 100000 in
set_option maxHeartbeats 800000 in
theorem great_any (v : Value) (ls : List (List UInt8)) (vs : List Value) (w : World) (hp : Parts w v ls vs) (hm : ∀ l ∈ ls, l.length ≤ 4611686018427387904) (hln : ls.length ≤ 4611686018427387904) :
    Calls Tryd.prog 26 #[v] w fun e w' => e = .returned (.bool (decide (1000 < ls.length + (cat ls).length))) ∧ Below w.heap.size w w' := by
  obtain ⟨xa, ca, rfl, _⟩ := hp.sl.form
  have HP := Lib.hid hp
  have HM := Lib.hid hm
  clear hp hm
  go_enter Tryd.func26, Tryd.ntmps26
  go_wp2_with fail
  go_loopw [3, 4] (fun n i wr => ∃ k m : Nat, k ≤ ls.length ∧ i = .int .i64 k ∧ n = .int .i64 m ∧ m = sizeP ls k ∧ m ≤ 1000 ∧ Below w.heap.size w wr) (fun _ i _ => ls.length - (intOf i).toNat)
  case atStart => exact ⟨0, 0, by omega, rfl, rfl, rfl, by omega, by (repeat (first | with_reducible assumption | with_reducible exact Below.refl _ _ | ((with_reducible refine Below.setCell ?_ ?_ _); rotate_left; focus (first | omega | (simp; done) | (simp; omega))) | ((with_reducible refine Below.alloc ?_ ?_ _); rotate_left; focus (first | omega | (simp; done) | (simp; omega))) | ((with_reducible refine below_setRow ?_ ?_ _); rotate_left; focus (first | omega | (simp; done) | (simp; omega))) | (with_reducible refine below_drewN ?_ _) | (with_reducible refine Below.drew ?_)))⟩
  case round =>
    obtain ⟨k, m, hk, rfl, rfl, hm, hm1, hb⟩ := hrel
    have HMM := Lib.hid hm
    clear hm
    by_cases hkn : k < ls.length
    · obtain ⟨b, off, cc, e, _, hr, hbW⟩ := HP.out.sl.pos (by omega) (by decide)
      cases e
      have hvl : k < vs.length := by rw [HP.out.len]; exact hkn
      have hlk := List.getElem?_eq_getElem hkn
      have hvk := List.getElem?_eq_getElem hvl
      have hby := HP.out.each k _ _ hvk hlk
      have hcell := hr k _ hvk
      have hll := HM.out ls[k] (List.getElem_mem hkn)
      obtain ⟨l, hle⟩ : ∃ l, l = ls[k] := ⟨_, rfl⟩
      obtain ⟨vk, hve⟩ : ∃ vk, vk = vs[k] := ⟨_, rfl⟩
      rw [← hle] at hby hlk hll
      rw [← hve] at hby hcell
      have HS := Lib.hid (sizeP_succ ls k l hlk)
      have hcw : wr.cell? ⟨b, off + k, none⟩ = some vk := (hb.cell (p := ⟨b, _, none⟩) hbW).trans hcell
      obtain ⟨xk, ck, rfl, _⟩ := hby.form
      clear hby hcell hlk hvk hle hve hr
      have hle := sizeP_le ls (k + 1)
      by_cases hg : 1000 < m + 1 + l.length
      · have HD := Lib.hid (show decide (1000 < ls.length + (cat ls).length) = true by rw [HS.out, ← HMM.out] at hle; rw [decide_eq_true_iff]; omega)
        clear hle
        go_wp2_with fail
        go_ret
        exact ⟨by rw [HD.out]; rfl, hb⟩
      · clear hle
        go_wp2_with fail
        refine ⟨⟨k + 1, m + 1 + l.length, by omega, by go_num, by go_num, by rw [HS.out, HMM.out]; omega, by omega, hb⟩, by simp [intOf]; omega⟩
    · obtain rfl : k = ls.length := by omega
      have hA := HMM.out
      rw [sizeP_all] at hA
      have HA := Lib.hid hA
      clear hA
      go_wp2_with fail
      go_ret
      exact ⟨by rw [show decide (1000 < ls.length + (cat ls).length) = false by rw [← HA.out, decide_eq_false_iff_not]; omega]; rfl, hb⟩
end Go.Proofs.YtjjoiefngoghpaaDoor
