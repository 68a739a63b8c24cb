/- append to an empty literal, from whatever slice: nothing that was there has turned. Conditions: the sizes' bounds. -/
import Derived.Test.YtkfplliipogagaaDoorSlice
import Derived.ArgAppend
namespace Go.Proofs.YtkfplliipogagaaDoor
open Go.RowKit
section
variable {P : Program}
theorem own_base {w : World} {base base' : Nat} {e : TypeId} {size : Nat} {v : Value} {n : Nat} {xs : List Value} (h : w.ownsRow base e size v n xs) (hb : base' ≤ base) : w.ownsRow base' e size v n xs := by
  refine ⟨h.1, ?_⟩
  rcases h.2 with hn | ⟨g, cap, cur, rfl, hbg, rest⟩
  · exact .inl hn
  · exact .inr ⟨g, cap, cur, rfl, Nat.le_trans hb hbg, rest⟩
theorem below_of_grown {w w' : World} (h : w.grownBy w' none) : Below w.heap.size w w' := (Below.refl _ _).grown h (Nat.le_refl _) (fun k hk => by cases hk)
theorem run_append_nothing (w : World) (t ty e : TypeId) (i : TypeInfo) (ht : P.underlying t = some (.slice e)) (hi : P.info? e = some i) (g : Nat) (xa : Option Addr) (xc : Nat) :
    (Builtin.append_ #[t, t] ty #[.slice (some ⟨g, 0, none⟩) 0 0, .slice xa 0 xc]).run P w = .ok (.slice (some ⟨g, 0, none⟩) 0 0) w := by
  cases xa <;> simp [Builtin.append_, run_underlying ht, sizeOf, typeInfo, hi, Builtin.firstCells, Builtin.lenOf, storeCells, loadCells, loadCellsFrom]
theorem wpList_app_lit {w : World} {ops : Array Oper} {rest : List Oper} {o : Oper} {a : Act} {Q : Exit → Act → World → Prop} (hgd : o.guard = none) (s x : Operand) (t : TypeId)
    (ho : o.op = .call { callee := .builtin .append, args := #[s, x], argTypes := #[t, t] })
    (base : Nat) (e : TypeId) (i : TypeInfo) (z : Value) (size bytes : Nat) (ht : P.underlying t = some (.slice e)) (hi : P.info? e = some i) (hz : i.zero = some z)
    (hsize : i.size = size) (hby : i.bytes = bytes) (hzs : z.cells.size = size) (hsz : 0 < size)
    (g : Nat) (hs : a.eval s = .slice (some ⟨g, 0, none⟩) 0 0) (hown : w.ownsRow base e size (.slice (some ⟨g, 0, none⟩) 0 0) 0 [])
    (xv : Value) (m : Nat) (news : List Value) (hx : a.eval x = xv) (hsrc : IsSl w xv size m news)
    (h63 : m ≤ maxLen) (hbytes : m * bytes ≤ 140737488355328) (hbase : base ≤ w.heap.size)
    (h : ∀ v' w', w'.ownsRow base e size v' m news → Below w.heap.size w w' → wpList P ops Q rest (a.put o.dst v') w') : wpList P ops Q (o :: rest) a w := by
  by_cases hm : m = 0
  · subst hm
    have hnil := hsrc.zero
    subst hnil
    obtain ⟨xa, xc, rfl, _⟩ := hsrc.form
    exact wpList_append_run hgd s x t t ho _ _ _ w hs hx (run_append_nothing w t _ e i ht hi g xa xc) (h _ w hown (Below.refl _ _))
  · obtain ⟨b, off, cap, rfl, hc, hr, _⟩ := hsrc.pos (by omega) hsz
    refine wpList_append_grows (P := P) w hgd s x t ho e i z size bytes ht hi hz hsize hby hzs hsz (some ⟨g, 0, none⟩) 0 0 [] hs (by simp) (by simp) (by simp) ⟨b, off, none⟩ m cap news hx hsrc.1 (fun j u hu => by rw [Addr.add_mid]; exact hr j u hu) hsrc.2.1 (by omega) (by omega) (by rw [Nat.zero_add]; exact hbytes) ?_
    intro v' w' hown' hgrow'
    rw [Nat.zero_add, List.nil_append] at hown'
    exact h v' w' (own_base hown' hbase) (below_of_grown hgrow')
end
end Go.Proofs.YtkfplliipogagaaDoor
