/- The walks of a frontier's Size and Trees, and of Add, Size, Root and Trees of none. Conditions: the frontier lies as told, with at most 2^40 leaves; the package's tables read as they are laid. -/
import Derived.Test.YtkfplliipogagaaDoorFrontB
namespace Go.Proofs.YtkfplliipogagaaDoor
open Go.RowKit

set_option maxRecDepth 100000 in
set_option maxHeartbeats 400000 in
theorem size_none (w : World) : Calls Tryd.prog 25 #[.pointer none] w fun e w' => e = .returned (.int .i64 0) ∧ w' = w := by
  have hnil : ∀ (w : World), (binOp .eql 36 (.pointer none) (.pointer none)).run Tryd.prog w = .ok (.bool true) w := fun _ => rfl
  go_enter Tryd.func25, Tryd.ntmps25
  go_wp2_with fail
  go_ret
  exact ⟨rfl, rfl⟩
set_option maxRecDepth 100000 in
set_option maxHeartbeats 400000 in
theorem size_any (w : World) (b V : Nat) (l : List H) (hF : Fr w b V l) : Calls Tryd.prog 25 #[.pointer (some ⟨b, 0, none⟩)] w fun e w' => e = .returned (.int .i64 (l.length : Int)) ∧ w' = w := by
  have hnil : ∀ (w : World), (binOp .eql 36 (.pointer (some ⟨b, 0, none⟩)) (.pointer none)).run Tryd.prog w = .ok (.bool false) w := fun _ => rfl
  obtain ⟨sv, hB⟩ := St.blk hF
  have c1 : w.cell? ⟨b, 1, none⟩ = some (.int .i64 (l.length : Int)) := hB.cell rfl
  clear hF hB
  go_enter Tryd.func25, Tryd.ntmps25
  go_wp2_with fail
  go_ret
  exact ⟨rfl, rfl⟩
set_option maxRecDepth 100000 in
set_option maxHeartbeats 400000 in
theorem add_none (w : World) (h : H) : Calls Tryd.prog 24 #[.pointer none, hv h] w fun e w' => e = .returned (.tuple #[]) ∧ Below w.heap.size w w' := by
  have hnil : ∀ (w : World), (binOp .eql 36 (.pointer none) (.pointer none)).run Tryd.prog w = .ok (.bool true) w := fun _ => rfl
  go_enter Tryd.func24, Tryd.ntmps24
  unfold hv
  go_wp2_with fail
  refine bodyPost_ret (results_none rfl _ _ _) rfl ⟨rfl, ?_⟩
  (repeat (first | with_reducible assumption | with_reducible exact Below.refl _ _ | ((with_reducible refine Below.setCell ?_ ?_ _); rotate_left; focus (first | omega | (simp; done) | (simp; omega))) | ((with_reducible refine Below.alloc ?_ ?_ _); rotate_left; focus (first | omega | (simp; done) | (simp; omega))) | ((with_reducible refine below_setRow ?_ ?_ _); rotate_left; focus (first | omega | (simp; done) | (simp; omega))) | (with_reducible refine below_drewN ?_ _) | (with_reducible refine Below.drew ?_)))
set_option maxRecDepth 100000 in
set_option maxHeartbeats 400000 in
theorem trees_none (w : World) : Calls Tryd.prog 28 #[.pointer none] w fun e w' => e = .returned (.slice none 0 0) ∧ w' = w := by
  have hnil : ∀ (w : World), (binOp .eql 36 (.pointer none) (.pointer none)).run Tryd.prog w = .ok (.bool true) w := fun _ => rfl
  go_enter Tryd.func28, Tryd.ntmps28
  go_wp2_with fail
  go_ret
  exact ⟨rfl, rfl⟩
set_option maxRecDepth 100000 in
set_option maxHeartbeats 400000 in
theorem trees_any (w : World) (b V : Nat) (l : List H) (hF : Fr w b V l) (hl : l.length ≤ 1099511627776) : Calls Tryd.prog 28 #[.pointer (some ⟨b, 0, none⟩)] w fun e w' => (∃ v, e = .returned v ∧ Hs w' v (treesN ndH e0H l)) ∧ Below w.heap.size w w' := by
  have hnil : ∀ (w : World), (binOp .eql 36 (.pointer (some ⟨b, 0, none⟩)) (.pointer none)).run Tryd.prog w = .ok (.bool false) w := fun _ => rfl
  obtain ⟨i0, hi, hz0, hz1, hz2⟩ := info_parts info_hash
  obtain ⟨_, _, sv, hB, hO⟩ := hF
  have hlt := hB.lt
  have hk : (stackN ndH l).reverse.length ≤ 1099511627776 := by rw [List.length_reverse]; have := stackN_few ndH _ l rfl; omega
  rw [stackN_trees ndH e0H _ l rfl] at hO hk
  obtain ⟨T, hT⟩ : ∃ T, T = treesN ndH e0H l := ⟨_, rfl⟩
  rw [← hT] at hO hk ⊢
  obtain ⟨w1, hw1⟩ : ∃ w1, w1 = w.alloc (.cells #[] 24) := ⟨_, rfl⟩
  have hb1 : Below w.heap.size w w1 := by rw [hw1]; (repeat (first | with_reducible assumption | with_reducible exact Below.refl _ _ | ((with_reducible refine Below.setCell ?_ ?_ _); rotate_left; focus (first | omega | (simp; done) | (simp; omega))) | ((with_reducible refine Below.alloc ?_ ?_ _); rotate_left; focus (first | omega | (simp; done) | (simp; omega))) | ((with_reducible refine below_setRow ?_ ?_ _); rotate_left; focus (first | omega | (simp; done) | (simp; omega))) | (with_reducible refine below_drewN ?_ _) | (with_reducible refine Below.drew ?_)))
  have c1 : w1.cell? ⟨b, 0, none⟩ = some sv := (hB.below hb1 hlt).cell rfl
  have hsl : IsSl w1 sv 32 T.length (bytesV (hflat T)) := (ownsRow_isSl hO (bytesV_one _)).below hb1
  have hown : w1.ownsRow w.heap.size 24 32 (.slice (some ⟨w.heap.size, 0, none⟩) 0 0) 0 [] := by
    rw [hw1]
    exact World.ownsRow_made w #[] 0 (Nat.le_refl _) (by decide) rfl
  have hs1 : w.heap.size ≤ w1.heap.size := hb1.size
  have HSL := Lib.hid hsl
  have HO := Lib.hid hown
  have HI := Lib.hid hi
  have HW1 := Lib.hid hw1
  obtain ⟨sa, sc, rfl⟩ := ownsRow_form hO
  have c2 : (w.alloc (.cells #[] 24)).cell? ⟨b, 0, none⟩ = some (.slice sa T.length sc) := by rw [← hw1]; exact c1
  clear hB hO hsl hown hT hi hw1 c1
  go_enter Tryd.func28, Tryd.ntmps28
  go_wp2_with (first
    | (at_builtin; refine wpList_app rfl (.tmp 5) (.tmp 10) 31 rfl w.heap.size 24 i0 (.agg z32.toArray) 32 32 Tryd.underlying31 HI.out hz0 hz1 hz2 rfl (by decide) (.slice (some ⟨w.heap.size, 0, none⟩) 0 0) 0 [] rfl (by exact HW1.out ▸ HO.out) _ T.length (bytesV (hflat T)) rfl (by exact HW1.out ▸ HSL.out) (by unfold maxLen; omega) (by omega) (by simp) ?_; intro a3 cap3 w3 hown3 hgrow3 _)
    | fail)
  go_ret
  rw [← HW1.out] at hgrow3
  rw [List.nil_append, Nat.zero_add] at hown3
  refine ⟨⟨_, rfl, ?_⟩, hb1.grown hgrow3 hs1 (fun k hk => by cases hk; exact Nat.le_refl _)⟩
  exact ownsRow_isSl hown3 (bytesV_one _)
end Go.Proofs.YtkfplliipogagaaDoor
