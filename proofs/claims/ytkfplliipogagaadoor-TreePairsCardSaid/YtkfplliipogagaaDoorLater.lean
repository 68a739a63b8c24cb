/- A region that draws its order, whose callees may lay new blocks: one walk in the order of the text serves every order. The class of worlds: those in which nothing below B has turned. -/
import Derived.Test.YtkfplliipogagaaDoorRegion
import Derived.Below
namespace Go.Proofs.YtkfplliipogagaaDoor
open Go Go.BigFrame Go.RowKit

/-- Worlds in which what lies below B is as in w. -/
def Later (B : Nat) (w : World) := { w' : World // Below B w w' }
def Later.w {B : Nat} {w : World} (p : Later B w) : World := p.1
theorem Later.old {B : Nat} {w : World} (p : Later B w) : Below B w p.w := p.2
instance {B : Nat} {w : World} : Nonempty (Later B w) := ⟨⟨w, Below.refl _ _⟩⟩
theorem later_cell {B : Nat} {w : World} {b o : Nat} {v : Value} (h : w.cell? ⟨b, o, none⟩ = some v) (hb : b < B) (p : Later B w) : p.w.cell? ⟨b, o, none⟩ = some v := (p.old.cell (p := ⟨b, o, none⟩) hb).trans h
theorem wp_region_quiet_later {P : Program} {id : Nat} {Q : Exit → Act → World → Prop} {a : Act} {w : World} {l : List Oper} (B : Nat) (hm : P.follows .mixedOrders = true) (hB : Region.lexB .any l.toArray = true)
    (h : wpQuiet P l.toArray (fun w' => ∃ p : Later B w, w' = p.w) (fun a' => ∀ w', (∃ p : Later B w, w' = p.w) → Q .normal a' w') l a) : (Code.region id l.toArray true).wp P Q a w :=
  wp_region_quiet (C := fun w' => ∃ p : Later B w, w' = p.w) hm hB ⟨⟨w.drew, Below.drew (Below.refl _ _)⟩, rfl⟩ (by simpa using h)
theorem wp_region_quiet_tail_later {P : Program} {id : Nat} {Q : Exit → Act → World → Prop} {a : Act} {w : World} {l : List Oper} (B : Nat) (n : Nat) (hm : P.follows .mixedOrders = true) (hB : Region.lexTailB .any l.toArray n = true)
    (h : wpQuiet P l.toArray (fun w' => ∃ p : Later B w, w' = p.w) (fun a' => ∀ w', (∃ p : Later B w, w' = p.w) → wpList P l.toArray Q (l.drop n) a' w') (l.take n) a) : (Code.region id l.toArray true).wp P Q a w :=
  wp_region_quiet_tail_class (C := fun w' => ∃ p : Later B w, w' = p.w) n hm hB ⟨⟨w.drew, Below.drew (Below.refl _ _)⟩, rfl⟩ h
/-- A callee that turns nothing old, as an operation of such a region. -/
theorem quiet_later {P : Program} {f : FuncId} {args : Array Value} {B : Nat} {w : World} {v : Value} (p : Later B w)
    (h : Calls P f args p.w fun e w' => e = .returned v ∧ Below p.w.heap.size p.w w') (hB : B ≤ w.heap.size) : Calls P f args p.w fun e w' => e = .returned v ∧ ∃ q : Later B w, w' = q.w :=
  h.mono fun _ _ h' => ⟨h'.1, ⟨⟨_, p.old.trans (h'.2.mono (Nat.le_trans hB p.old.size))⟩, rfl⟩⟩
end Go.Proofs.YtkfplliipogagaaDoor
