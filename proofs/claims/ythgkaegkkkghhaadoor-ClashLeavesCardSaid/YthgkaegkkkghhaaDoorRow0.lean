/- What the rows of this seat share: the listed tables' cells out of the rows' condition, and a world that meets it. No condition. -/
import Derived.Test.YthgkaegkkkghhaaDoorRows
import Derived.Test.YthgkaegkkkghhaaDoorTie
import Derived.Test.YthgkaegkkkghhaaDoorCards
import Derived.Test.YthgkaegkkkghhaaDoorShaW
import Derived.ProofKit
import Derived.LaidMore
import Derived.OpenShut
import Derived.Stop.Joined
import Derived.Lib.LaidTab
import Derived.SevenTiedAt
namespace Go.Proofs.YthgkaegkkkghhaaDoor
open Go.ChangeShapes Go.WideShapes Go.ChangeAt Go.WideMaps Go.WideElems Go.RowKit

theorem own : ownKnob Tryd.prog.godebug = none := by kernel_rfl
theorem laidOut : laidOutB Tryd.prog = true := by kernel_rfl
theorem gK : Tryd.prog.globalNamed "inspeximus/api.K" = some 2 := by kernel_rfl
theorem gF : Tryd.prog.globalNamed "inspeximus/api.First" = some 1 := by kernel_rfl
theorem gD : Tryd.prog.globalNamed "inspeximus/sha.digits" = some 0 := by kernel_rfl
theorem tK : (Tryd.prog.globals[2]?).map (·.type) = some 85 := by kernel_rfl
theorem tF : (Tryd.prog.globals[1]?).map (·.type) = some 70 := by kernel_rfl
theorem tD : (Tryd.prog.globals[0]?).map (·.type) = some 65 := by kernel_rfl
def laidL : List (String × DataW Unit) := [("inspeximus/api.K", Rows.laid_inspeximus_api_K), ("inspeximus/api.First", Rows.laid_inspeximus_api_First), ("inspeximus/sha.digits", Rows.laid_inspeximus_sha_digits)]
def KZ : List Int := Ktab.map fun (n : Nat) => (n : Int)
def FZ : List Int := Ftab.map fun (n : Nat) => (n : Int)
def DZ : List Int := [48, 49, 50, 51, 52, 53, 54, 55, 56, 57, 97, 98, 99, 100, 101, 102]

/-- The door's own heap meets the condition. -/
theorem door_met (os : Os) (args : Array Value) : laidMetH Tryd.prog laidL ((World.doorLaid Tryd.prog 400 os).forCall (fun _ _ => 0) ⟨#[], args, []⟩).memory :=
  laidMetH_of_parts3 (fuel := 8) (laidMet_of_run' 8 (by kernel_rfl) (by kernel_rfl)) (by kernel_rfl) (by kernel_rfl)

theorem glob_of_laid {W : World} (h : laidMetH Tryd.prog laidL W) : Glob W := by
  rw [MakeChecks.laidMetH_plain _ _ _ (by kernel_rfl)] at h
  obtain ⟨ps, ⟨g0, t0, cs0, f0, p0, q0, hg0, ht0, hv0, hd0, ⟨g1, t1, cs1, f1, p1, q1, hg1, ht1, hv1, hd1, ⟨g2, t2, cs2, f2, p2, q2, hg2, ht2, hv2, hd2, _, _⟩, _⟩, _⟩, _, _⟩ := h
  obtain rfl := Option.some.inj (gK.symm.trans hg0)
  obtain rfl := Option.some.inj (gF.symm.trans hg1)
  obtain rfl := Option.some.inj (gD.symm.trans hg2)
  obtain rfl := Option.some.inj (tK.symm.trans ht0)
  obtain rfl := Option.some.inj (tF.symm.trans ht1)
  obtain rfl := Option.some.inj (tD.symm.trans ht2)
  have e0 := Lib.cells_of_tab (k := .u32) (zs := KZ) Tryd.underlying85 Tryd.underlying69 (by kernel_rfl) (by kernel_rfl) hd0
  have e1 := Lib.cells_of_tab (k := .u32) (zs := FZ) Tryd.underlying70 Tryd.underlying69 (by kernel_rfl) (by kernel_rfl) hd1
  have e2 := Lib.cells_of_tab (k := .u8) (zs := DZ) Tryd.underlying65 Tryd.underlying5 (by kernel_rfl) (by kernel_rfl) hd2
  have go : ∀ (g : Nat) (cs : Array Value) (n : String) (l : List Value), Tryd.prog.globalNamed n = some g → W.var? Tryd.prog n = some cs → cs.toList = l → W.rangeAt g 0 l := by
    intro g cs n l hg hv hl j u hj
    rw [Nat.zero_add, World.var?_cell hg hv j, ← Array.getElem?_toList, hl]
    exact hj
  exact ⟨go _ _ _ _ hg0 hv0 (e0.trans rfl), go _ _ _ _ hg1 hv1 (e1.trans rfl), go _ _ _ _ hg2 hv2 (e2.trans rfl)⟩
end Go.Proofs.YthgkaegkkkghhaaDoor
