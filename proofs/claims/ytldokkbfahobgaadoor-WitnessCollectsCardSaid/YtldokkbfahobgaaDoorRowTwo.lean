/- What the rows of this seat share where two tables are listed (DIG=0): the listed tables' cells out of the rows' condition, and a world that meets it. No condition. Conditions: what each part says. -/
import Derived.Test.YtldokkbfahobgaaDoorRows
import Derived.Test.YtldokkbfahobgaaDoorTie
import Derived.Test.YtldokkbfahobgaaDoorCards
import Derived.Test.YtldokkbfahobgaaDoorShaW
import Derived.LaidMore
import Derived.Lib.LaidTab
import Derived.OpenShut
import Derived.ProofKit
import Derived.SevenTiedAt
import Derived.Stop.Joined
/-! Row2: What the rows of this seat share where two tables are listed (DIG=0): the listed tables' cells out of the rows' condition, and a world that meets it. No condition. -/
namespace Go.Proofs.YtldokkbfahobgaaDoor
open Go.ChangeShapes Go.WideShapes Go.ChangeAt Go.WideMaps Go.WideElems Go.RowKit

theorem own : ownKnob Tryd.prog.godebug = none := by kernel_rfl
theorem laidOut : laidOutB Tryd.prog = true := by kernel_rfl
theorem gK : Tryd.prog.globalNamed "inspeximus/api.K" = some 1 := by kernel_rfl
theorem gF : Tryd.prog.globalNamed "inspeximus/api.First" = some 0 := by kernel_rfl
theorem tK : (Tryd.prog.globals[1]?).map (·.type) = some 114 := by kernel_rfl
theorem tF : (Tryd.prog.globals[0]?).map (·.type) = some 95 := by kernel_rfl
def laidL : List (String × DataW Unit) := [("inspeximus/api.K", Rows.laid_inspeximus_api_K), ("inspeximus/api.First", Rows.laid_inspeximus_api_First)]
def KZ : List Int := Ktab.map fun (n : Nat) => (n : Int)
def FZ : List Int := Ftab.map fun (n : Nat) => (n : Int)

/-- The door's own heap meets the condition. -/
theorem door_met (os : Os) (args : Array Value) : laidMetH Tryd.prog laidL ((World.doorLaid Tryd.prog 400 os).forCall (fun _ _ => 0) ⟨#[], args, []⟩).memory :=
  laidMetH_of_parts3 (fuel := 8) (laidMet_of_run' 8 (by kernel_rfl) (by kernel_rfl)) (by kernel_rfl) (by kernel_rfl)

theorem glob_of_laid {W : World} (h : laidMetH Tryd.prog laidL W) : Glob W := by
  rw [MakeChecks.laidMetH_plain _ _ _ (by kernel_rfl)] at h
  obtain ⟨ps, ⟨g0, t0, cs0, f0, p0, q0, hg0, ht0, hv0, hd0, ⟨g1, t1, cs1, f1, p1, q1, hg1, ht1, hv1, hd1, _, _⟩, _⟩, _, _⟩ := h
  obtain rfl := Option.some.inj (gK.symm.trans hg0)
  obtain rfl := Option.some.inj (gF.symm.trans hg1)
  obtain rfl := Option.some.inj (tK.symm.trans ht0)
  obtain rfl := Option.some.inj (tF.symm.trans ht1)
  have e0 := Lib.cells_of_tab (k := .u32) (zs := KZ) Tryd.underlying114 Tryd.underlying94 (by kernel_rfl) (by kernel_rfl) hd0
  have e1 := Lib.cells_of_tab (k := .u32) (zs := FZ) Tryd.underlying95 Tryd.underlying94 (by kernel_rfl) (by kernel_rfl) hd1
  have go : ∀ (g : Nat) (cs : Array Value) (n : String) (l : List Value), Tryd.prog.globalNamed n = some g → W.var? Tryd.prog n = some cs → cs.toList = l → W.rangeAt g 0 l := by
    intro g cs n l hg hv hl j u hj
    rw [Nat.zero_add, World.var?_cell hg hv j, ← Array.getElem?_toList, hl]
    exact hj
  exact ⟨go _ _ _ _ hg0 hv0 (e0.trans rfl), go _ _ _ _ hg1 hv1 (e1.trans rfl), trivial⟩
end Go.Proofs.YtldokkbfahobgaaDoor
