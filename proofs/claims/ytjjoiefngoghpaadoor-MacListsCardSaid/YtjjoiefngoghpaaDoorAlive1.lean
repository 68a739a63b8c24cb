/- The walk of the first layer's alive: true. Condition: the package's tables read as they are laid. -/
import Derived.Test.YtjjoiefngoghpaaDoorShaN
import Derived.Lib.SlBytesConst
namespace Go.Proofs.YtjjoiefngoghpaaDoor
open Go.RowKit

theorem Parts.nil (w : World) : Parts w (.slice none 0 0) [] [] := ⟨rfl, IsSl.nil w 1, fun _ _ _ h => by cases h⟩
theorem hex_empty : hexP (sumN []) = [101, 51, 98, 48, 99, 52, 52, 50, 57, 56, 102, 99, 49, 99, 49, 52, 57, 97, 102, 98, 102, 52, 99, 56, 57, 57, 54, 102, 98, 57, 50, 52, 50, 55, 97, 101, 52, 49, 101, 52, 54, 52, 57, 98, 57, 51, 52, 99, 97, 52, 57, 53, 57, 57, 49, 98, 55, 56, 53, 50, 98, 56, 53, 53] := by
  decide +kernel

theorem convert_const1 {P : Program} (w : World) (A : Obj) (T E : TypeId) (C : Array Value) (n c : Nat) (hT : P.underlying T = some (.slice E)) (hE : P.underlying E = some (.int .u8)) :
    (convert T T (.slice (some ⟨w.heap.size + 1, 0, none⟩) n c)).run P ((w.alloc A).alloc (.cells C E)) = .ok (.slice (some ⟨w.heap.size + 1, 0, none⟩) n c) ((w.alloc A).alloc (.cells C E (C.size, C.size + 1))) := by
  have := Lib.run_convert_bytes_const (P := P) (w.alloc A) T E C n c hT hE
  rw [World.size_alloc] at this
  exact this
set_option maxRecDepth 100000 in
set_option maxHeartbeats 400000 in
theorem alive1_any (w : World) (hg : Glob w) :
    Calls Tryd.prog 15 #[] w fun e w' => e = .returned (.bool true) ∧ Below w.heap.size w w' := by
  have HG := Lib.hid hg
  clear hg
  have kc := fun (w : World) (C : Array Value) (n c : Nat) => Lib.run_convert_bytes_const (P := Tryd.prog) w 24 5 C n c Tryd.underlying24 Tryd.underlying5
  have kd := fun (w : World) (A : Obj) (C : Array Value) (n c : Nat) => convert_const1 (P := Tryd.prog) w A 24 5 C n c Tryd.underlying24 Tryd.underlying5
  go_enter Tryd.func15, Tryd.ntmps15
  go_wp2_with fail
  refine (sum_any _ [[97], [98, 99]] [.slice (some ⟨w.heap.size, 0, none⟩) 1 1, .slice (some ⟨w.heap.size + 1, 0, none⟩) 2 2] _ ?hp (by decide) (by decide) (HG.out.below (by (repeat (first | with_reducible assumption | with_reducible exact Below.refl _ _ | ((with_reducible refine Below.setCell ?_ ?_ _); rotate_left; focus (first | omega | (simp; done) | (simp; omega))) | ((with_reducible refine Below.alloc ?_ ?_ _); rotate_left; focus (first | omega | (simp; done) | (simp; omega))) | ((with_reducible refine below_setRow ?_ ?_ _); rotate_left; focus (first | omega | (simp; done) | (simp; omega))) | (with_reducible refine below_drewN ?_ _) | (with_reducible refine Below.drew ?_)))))).mono ?_
  case hp =>
    refine parts_alloc _ _ _ _ (by simp) rfl rfl (by simp [Value.oneCell']) ?_
    intro i x l hx hl
    match i with
    | 0 =>
      simp at hx hl
      subst hx hl
      exact (bytes_alloc w [97] _ (1, 2) rfl).below ((Below.refl _ _).alloc (Nat.le_refl _) _)
    | 1 =>
      simp at hx hl
      subst hx hl
      exact bytes_alloc (w.alloc _) [98, 99] _ (2, 3) (by simp)
    | i + 2 => simp at hx
  rintro e w1 ⟨rfl, hb1⟩
  have hW1 : Below w.heap.size w w1 := Below.trans (by (repeat (first | with_reducible assumption | with_reducible exact Below.refl _ _ | ((with_reducible refine Below.setCell ?_ ?_ _); rotate_left; focus (first | omega | (simp; done) | (simp; omega))) | ((with_reducible refine Below.alloc ?_ ?_ _); rotate_left; focus (first | omega | (simp; done) | (simp; omega))) | ((with_reducible refine below_setRow ?_ ?_ _); rotate_left; focus (first | omega | (simp; done) | (simp; omega))) | (with_reducible refine below_drewN ?_ _) | (with_reducible refine Below.drew ?_)))) (hb1.mono (by simp; omega))
  have HG1 := Lib.hid (HG.out.below hW1)
  clear hb1
  rw [show cat [[97], [98, 99]] = [97, 98, 99] from rfl, sum_nat]
  go_wp2_with fail
  refine (hex_any (sumN [97, 98, 99]) (sumN_len _) w1 HG1.out).mono ?_
  rintro e w2 ⟨rfl, hb2⟩
  have hW2 : Below w.heap.size w w2 := hW1.trans (hb2.mono hW1.size)
  have HG2 := Lib.hid (HG.out.below hW2)
  clear hb2 hW1 HG1
  rw [hex_abc]
  go_wp2_with fail
  refine (sum_any _ [] [] w2 (Parts.nil w2) (by decide) (by decide) HG2.out).mono ?_
  rintro e w3 ⟨rfl, hb3⟩
  have hW3 : Below w.heap.size w w3 := hW2.trans (hb3.mono hW2.size)
  have HG3 := Lib.hid (HG.out.below hW3)
  clear hb3 hW2 HG2
  rw [show cat [] = [] from rfl, sum_nat]
  go_wp2_with fail
  refine (hex_any (sumN []) (sumN_len _) w3 HG3.out).mono ?_
  rintro e w4 ⟨rfl, hb4⟩
  have hW4 : Below w.heap.size w w4 := hW3.trans (hb4.mono hW3.size)
  clear hb4 hW3 HG3
  rw [hex_empty]
  go_wp2_with fail
  refine (fill_any 0 w4 (by decide)).mono ?_
  rintro e w5 ⟨⟨a5, c5, rfl, _⟩, hb5⟩
  have hW5 : Below w.heap.size w w5 := hW4.trans (hb5.mono hW4.size)
  clear hb5 hW4
  rw [show (fillP 0).length = 64 from rfl]
  go_wp2_with fail
  refine (fill_any 56 w5 (by decide)).mono ?_
  rintro e w6 ⟨⟨a6, c6, rfl, _⟩, hb6⟩
  have hW6 : Below w.heap.size w w6 := hW5.trans (hb6.mono hW5.size)
  clear hb6 hW5
  rw [show (fillP 56).length = 72 from rfl]
  go_wp2_with fail
  go_ret
  exact ⟨rfl, hW6⟩
end Go.Proofs.YtjjoiefngoghpaaDoor
