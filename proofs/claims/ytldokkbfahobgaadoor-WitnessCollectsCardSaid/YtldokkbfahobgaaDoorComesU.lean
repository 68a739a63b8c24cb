/- The walk of Comes' inner closure. Conditions: what each part says. -/
import Derived.Test.YtldokkbfahobgaaDoorPathW
import Derived.Test.YtldokkbfahobgaaDoorHashP
import Derived.Test.YtldokkbfahobgaaDoorTreeW
/-! ComesA: The walk of Comes' inner closure. Conditions: what it has captured reads as told; the package's tables read as they are laid. -/
namespace Go.Proofs.YtldokkbfahobgaaDoor
open Go.RowKit

theorem Tk.qlt {w : World} {g q : Nat} {pv : Value} {P : List H} {a : Nat} (h : Tk w g q pv P a) : q < w.heap.size := World.block_lt_of_cell? _ _ h.box
theorem Tk.plt {w : World} {g q : Nat} {pv : Value} {P : List H} {a : Nat} (h : Tk w g q pv P a) : 0 < P.length → ∀ ad k c, pv = .slice (some ad) k c → ad.block < w.heap.size := fun hp => IsSl.block_lt h.hs hp (by decide)
theorem Tk.ple {w : World} {g q : Nat} {pv : Value} {P : List H} {a B : Nat} (h : Tk w g q pv P a) (hB : w.heap.size ≤ B) : 0 < P.length → ∀ ad k c, pv = .slice (some ad) k c → ad.block < B := fun hp ad k c e => Nat.lt_of_lt_of_le (h.plt hp ad k c e) hB
/-- What the closure comes to, and how many hashes are left. -/
def UpPost (Z : Option (H × Nat)) (g q : Nat) (pv : Value) (P : List H) (e : Ending) (w' : World) : Prop :=
  match Z with
  | some (r, a') => e = .returned (hv r) ∧ Tk w' g q pv P a'
  | none => e = .panicked [{ v := shortP, recovered := false }]
end Go.Proofs.YtldokkbfahobgaaDoor
