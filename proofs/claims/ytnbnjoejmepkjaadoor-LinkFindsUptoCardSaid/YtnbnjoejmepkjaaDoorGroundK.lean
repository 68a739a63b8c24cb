/- A region that draws its order and lays rows of its own, each filled by one store; what is so of the values may speak of the world. Conditions: what each part says. -/
import Derived.Test.YtnbnjoejmepkjaaDoorGround
/-! FilledK: A region that draws its order and lays rows of its own, each filled by one store; what is so of the values may speak of the world. Condition: the Bool monoFB, that the program follows the row on mixed orders, and that what is so of the values stays so behind each store. -/
namespace Go.Proofs.YtnbnjoejmepkjaaDoor
open Go Go.BigFrame Go.RowKit

structure RowsK (U : World) (C : List (Value → World → Prop)) (rows : List RowD) (L : Nat → Bool) (x : Nat → Value) (w : World) : Prop where
  old : Below U.heap.size U w
  kept : ∀ R ∈ C, Kept R
  rowk : ∀ R ∈ C, ∀ r ∈ rows, ∀ (v : Value) (w : World) (p : Nat), Blk w p r.z r.e → R v w → R v (w.setRow p r.c.toArray)
  vals : ∀ j, L j = true → C.getD j (fun _ _ => True) (x j) w
  at_ : ∀ r ∈ rows, L r.a = true → ∃ p, x r.a = .pointer (some ⟨p, 0, none⟩) ∧ U.heap.size ≤ p ∧ Blk w p (if L r.s = true then r.c else r.z) r.e
  ne : ∀ r ∈ rows, ∀ r' ∈ rows, r.a ≠ r'.a → L r.a = true → L r'.a = true → x r.a ≠ x r'.a
  ord : ∀ r ∈ rows, L r.s = true → L r.a = true
section
variable {P : Program} {ops : Array Oper} {md : Region.Mode} {U : World} {C : List (Value → World → Prop)} {rows : List RowD} {L : Nat → Bool} {x : Nat → Value} {w w' : World}
theorem getD_true (C : List (Value → World → Prop)) (j : Nat) : C.getD j (fun _ _ => True) ∈ C ∨ C.getD j (fun _ _ => True) = fun _ _ => True := by
  rw [List.getD_eq_getElem?_getD]
  cases h : C[j]? with
  | none => exact .inr rfl
  | some R => exact .inl (List.mem_of_getElem? h)
theorem RowsK.moves (h : RowsK U C rows L x w) (hw : Below w.heap.size w w') : ∀ j, L j = true → C.getD j (fun _ _ => True) (x j) w' := fun j hj => by
  rcases getD_true C j with h1 | h1
  · exact h.kept _ h1 _ _ _ hw (h.vals j hj)
  · rw [h1]; trivial
theorem vals_updK {i : Nat} {v : Value} (h : ∀ j, L j = true → C.getD j (fun _ _ => True) (x j) w) (hv : C.getD i (fun _ _ => True) v w) : ∀ j, updL L i j = true → C.getD j (fun _ _ => True) (upd x i v j) w := fun j hj => by
  by_cases e : j = i
  · subst e
    rw [upd_eq]
    exact hv
  · rw [upd_ne e]
    rw [updL_ne e] at hj
    exact h j hj
/-- An operation that is none of the rows'. -/
theorem RowsK.const {i : Nat} {v : Value} (h : RowsK U C rows L x w) (hi : (rows.all fun r => r.a != i && r.s != i) = true) (hv : C.getD i (fun _ _ => True) v w') (hw : Below w.heap.size w w') : RowsK U C rows (updL L i) (upd x i v) w' := by
  have hne : ∀ r ∈ rows, r.a ≠ i ∧ r.s ≠ i := fun r hr => by simpa using List.all_eq_true.1 hi r hr
  refine ⟨h.old.trans (hw.mono h.old.size), h.kept, h.rowk, vals_updK (h.moves hw) hv, fun r hr hL => ?_, fun r hr r' hr' hn hL hL' => ?_, fun r hr hL => ?_⟩
  · rw [updL_ne (hne r hr).1] at hL
    obtain ⟨p, e1, e2, e3⟩ := h.at_ r hr hL
    rw [upd_ne (hne r hr).1, updL_ne (hne r hr).2]
    exact ⟨p, e1, e2, e3.below hw e3.lt⟩
  · rw [updL_ne (hne r hr).1] at hL
    rw [updL_ne (hne r' hr').1] at hL'
    rw [upd_ne (hne r hr).1, upd_ne (hne r' hr').1]
    exact h.ne r hr r' hr' hn hL hL'
  · rw [updL_ne (hne r hr).2] at hL
    rw [updL_ne (hne r hr).1]
    exact h.ord r hr hL
/-- The operation that lays a row. -/
theorem RowsK.alloc {r : RowD} {i : Nat} (h : RowsK U C rows L x w) (hr : r ∈ rows) (hi : r.a = i) (hB : apB (rows.map RowD.ix) = true) (hL0 : L i = false) (hC : C.getD i (fun _ _ => True) = fun _ _ => True) {zs : Array Value} (hz : zs = r.z.toArray) :
    RowsK U C rows (updL L i) (upd x i (.pointer (some ⟨w.heap.size, 0, none⟩))) (w.alloc (.cells zs r.e)) := by
  subst hi hz
  have hs0 : L r.s = false := by
    cases hs : L r.s with
    | false => rfl
    | true => rw [h.ord r hr hs] at hL0; cases hL0
  have hown := apB_own hB r hr
  have hfresh : ∀ r' ∈ rows, r ≠ r' → L r'.a = true → x r'.a ≠ .pointer (some ⟨w.heap.size, 0, none⟩) := fun r' hr' _ hL' e => by
    obtain ⟨p, e1, e2, e3⟩ := h.at_ r' hr' hL'
    rw [e1] at e
    injection e with e
    injection e with e
    injection e with e
    have := e3.lt
    omega
  refine ⟨h.old.alloc h.old.size _, h.kept, h.rowk, vals_updK (h.moves ((Below.refl _ _).alloc (Nat.le_refl _) _)) (by rw [hC]; trivial), fun r' hr' hL => ?_, fun r1 h1 r2 h2 hn hL1 hL2 => ?_, fun r' hr' hL => ?_⟩
  · rcases apB_two hB r hr r' hr' with e | ⟨n1, n2, n3, n4⟩
    · subst e
      rw [upd_eq, updL_ne (Ne.symm hown), hs0]
      exact ⟨_, rfl, h.old.size, by rw [if_neg (by decide)]; exact Blk.newL w r.z r.e⟩
    · rw [updL_ne (Ne.symm n1)] at hL
      obtain ⟨p, e1, e2, e3⟩ := h.at_ r' hr' hL
      rw [upd_ne (Ne.symm n1), updL_ne (Ne.symm n2)]
      exact ⟨p, e1, e2, e3.alloc _⟩
  · by_cases e1 : r1.a = r.a
    · have e2 : r2.a ≠ r.a := fun e => hn (e1.trans e.symm)
      rw [e1, upd_eq, upd_ne e2]
      rw [updL_ne e2] at hL2
      exact fun e => hfresh r2 h2 (fun e' => e2 (by rw [e'])) hL2 e.symm
    · rw [upd_ne e1]
      rw [updL_ne e1] at hL1
      by_cases e2 : r2.a = r.a
      · rw [e2, upd_eq]
        exact hfresh r1 h1 (fun e' => e1 (by rw [e'])) hL1
      · rw [upd_ne e2]
        rw [updL_ne e2] at hL2
        exact h.ne r1 h1 r2 h2 hn hL1 hL2
  · rcases apB_two hB r hr r' hr' with e | ⟨n1, n2, n3, n4⟩
    · subst e
      exact updL_eq _
    · rw [updL_ne (Ne.symm n2)] at hL
      rw [updL_ne (Ne.symm n1)]
      exact h.ord r' hr' hL
/-- The operation that fills a row. -/
theorem RowsK.store {r : RowD} {i p : Nat} {v : Value} (h : RowsK U C rows L x w) (hr : r ∈ rows) (hi : r.s = i) (hB : apB (rows.map RowD.ix) = true) (hL0 : L i = false) (hLa : L r.a = true) (hp : x r.a = .pointer (some ⟨p, 0, none⟩)) (hC : C.getD i (fun _ _ => True) = fun _ _ => True) {cs : Array Value} (hc : cs = r.c.toArray) :
    RowsK U C rows (updL L i) (upd x i v) (w.setRow p cs) := by
  subst hi hc
  have hown := apB_own hB r hr
  obtain ⟨q, f1, f2, f3⟩ := h.at_ r hr hLa
  have hqp : q = p := by
    rw [f1] at hp
    injection hp with e
    injection e with e
    injection e
  subst hqp
  have f4 : Blk w q r.z r.e := by rw [if_neg (by rw [hL0]; decide)] at f3; exact f3
  refine ⟨below_setRow h.old f2 _, h.kept, h.rowk, vals_updK (fun j hj => by
    rcases getD_true C j with h1 | h1
    · exact h.rowk _ h1 r hr _ _ _ f4 (h.vals j hj)
    · rw [h1]; trivial) (by rw [hC]; trivial), fun r' hr' hL => ?_, fun r1 h1 r2 h2 hn hL1 hL2 => ?_, fun r' hr' hL => ?_⟩
  · rcases apB_two hB r hr r' hr' with e | ⟨n1, n2, n3, n4⟩
    · subst e
      rw [upd_ne hown, updL_eq]
      exact ⟨q, f1, f2, by rw [if_pos rfl]; exact f3.setRow _⟩
    · rw [updL_ne (Ne.symm n3)] at hL
      obtain ⟨p', e1, e2, e3⟩ := h.at_ r' hr' hL
      rw [upd_ne (Ne.symm n3), updL_ne (Ne.symm n4)]
      refine ⟨p', e1, e2, e3.setRow_other (fun e => ?_) _⟩
      subst e
      exact h.ne r hr r' hr' n1 hLa hL (f1.trans e1.symm)
  · have e1 : r1.a ≠ r.s := by
      rcases apB_two hB r hr r1 h1 with e | ⟨_, _, n3, _⟩
      · subst e; exact hown
      · exact Ne.symm n3
    have e2 : r2.a ≠ r.s := by
      rcases apB_two hB r hr r2 h2 with e | ⟨_, _, n3, _⟩
      · subst e; exact hown
      · exact Ne.symm n3
    rw [upd_ne e1, upd_ne e2]
    rw [updL_ne e1] at hL1
    rw [updL_ne e2] at hL2
    exact h.ne r1 h1 r2 h2 hn hL1 hL2
  · rcases apB_two hB r hr r' hr' with e | ⟨n1, n2, n3, n4⟩
    · subst e
      rw [updL_ne hown]
      exact hLa
    · rw [updL_ne (Ne.symm n4)] at hL
      rw [updL_ne (Ne.symm n3)]
      exact h.ord r' hr' hL
theorem RowsK.fresh {r : RowD} (h : RowsK U C rows L x w) (hr : r ∈ rows) (hLa : L r.a = true) (hLs : L r.s = false) : ∃ p, x r.a = .pointer (some ⟨p, 0, none⟩) ∧ U.heap.size ≤ p ∧ Blk w p r.z r.e := by
  obtain ⟨p, e1, e2, e3⟩ := h.at_ r hr hLa
  rw [if_neg (by rw [hLs]; decide)] at e3
  exact ⟨p, e1, e2, e3⟩
def rowsAllK (P : Program) (md : Region.Mode) (ops : Array Oper) (U : World) (C : List (Value → World → Prop)) (rows : List RowD) (ds : List (Option Tmp)) (a0 : Act) : List Oper → Nat → Prop
  | [], _ => True
  | o :: rest, i => (∀ (L : Nat → Bool) (x : Nat → Value) (w : World), L i = false → (∀ j ∈ needs md o, L j = true) → (∀ j ∈ needs md o, C.getD j (fun _ _ => True) (x j) w) → RowsK U C rows L x w → ∀ Qg : Exit → Act → World → Prop,
      (∀ v w', RowsK U C rows (updL L i) (upd x i v) w' → True → Qg .normal ((fill x ds 0 a0).put o.dst v) w') → wpList P ops Qg [o] (fill x ds 0 a0) w) ∧ rowsAllK P md ops U C rows ds a0 rest (i + 1)
theorem rowsAllK_inv {ds : List (Option Tmp)} {a0 : Act} : ∀ (l : List Oper) (i : Nat), rowsAllK P md ops U C rows ds a0 l i → invAll P md ops (RowsK U C rows) (fun _ _ => False) ds a0 l i
  | [], _, _ => trivial
  | _ :: l, i, h => ⟨fun L x w hL hn hJ Qg hK _ => h.1 L x w hL hn (fun j hj => hJ.vals j (hn j hj)) hJ Qg (fun v w' hv _ => hK v w' hv), rowsAllK_inv l (i + 1) h.2⟩
theorem wp_region_rowsK {id : Nat} {Q : Exit → Act → World → Prop} {a0 : Act} {w0 : World} {l : List Oper} (n : Nat) (C : List (Value → World → Prop)) (rows : List RowD) (hm : P.follows .mixedOrders = true) (hB : monoFB l.toArray n = true)
    (hkept : ∀ R ∈ C, Kept R) (hrowk : ∀ R ∈ C, ∀ r ∈ rows, ∀ (v : Value) (w : World) (p : Nat), Blk w p r.z r.e → R v w → R v (w.setRow p r.c.toArray)) (hlen : C.length = n) (hin : (rows.all fun r => decide (r.a < n) && decide (r.s < n)) = true) (ds : List (Option Tmp)) (hds : (l.take n).map (·.dst) = ds)
    (hops : rowsAllK P .any l.toArray w0 C rows ds a0 (l.take n) 0)
    (hfin : ∀ (x : Nat → Value) (w : World), Below w0.heap.size w0 w → (∀ j, j < n → C.getD j (fun _ _ => True) (x j) w) → (∀ r ∈ rows, ∃ p, x r.a = .pointer (some ⟨p, 0, none⟩) ∧ w0.heap.size ≤ p ∧ Blk w p r.c r.e) →
      (∀ r ∈ rows, ∀ r' ∈ rows, r.a ≠ r'.a → x r.a ≠ x r'.a) → wpList P l.toArray Q (l.drop n) (fill x ds 0 a0) w) : (Code.region id l.toArray true).wp P Q a0 w0 := by
  have hin' : ∀ r ∈ rows, r.a < n ∧ r.s < n := fun r hr => by simpa using List.all_eq_true.1 hin r hr
  refine wp_region_inv n (RowsK w0 C rows) (fun _ _ => False) hm hB ds hds (fun L x hL => ⟨(Below.refl _ _).drew, hkept, hrowk, fun j hj => ?_, fun r hr h => ?_, fun r hr r' _ _ h _ => ?_, fun r hr h => ?_⟩) (fun _ _ _ _ h => h.elim) (rowsAllK_inv _ 0 hops) (fun L x w hL hJ => ?_)
  · by_cases h : j < n
    · rw [hL j h] at hj
      cases hj
    · rw [List.getD_eq_getElem?_getD, List.getElem?_eq_none (by omega)]
      trivial
  · rw [hL _ (hin' r hr).1] at h
    cases h
  · rw [hL _ (hin' r hr).1] at h
    cases h
  · rw [hL _ (hin' r hr).2] at h
    cases h
  · refine hfin x w hJ.old (fun j hj => hJ.vals j (hL j hj)) (fun r hr => ?_) (fun r hr r' hr' hn => hJ.ne r hr r' hr' hn (hL _ (hin' r hr).1) (hL _ (hin' r' hr').1))
    obtain ⟨p, e1, e2, e3⟩ := hJ.at_ r hr (hL _ (hin' r hr).1)
    rw [if_pos (hL _ (hin' r hr).2)] at e3
    exact ⟨p, e1, e2, e3⟩
end
end Go.Proofs.YtnbnjoejmepkjaaDoor
