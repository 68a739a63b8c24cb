/- Helper lemmas on blocks of cells, for the walks of this seat. No condition. A region that draws its order, of which the first n operations are quiet in a class of worlds and the others stand in one forced order: one walk in the order of the text serves every order. The condition: the Bool Region.lexTailB, and that the program follows the row on mixed orders. A region that draws its order, whose callees may lay new blocks: one walk in the order of the text serves every order. The class of worlds: those in which nothing below B has turned. A region that draws its order, of which some operations are pure (they yield one value in every world and read no memory) and may come early or late, and the others stand in one forced order: one walk serves every order. The condition: the Bool forcedTailB, and that the program follows the row on mixed orders. Helper lemmas on slices: what a slice reads as, appends to a slice of the call's own from whatever source. No condition. append to an empty literal, from whatever slice: nothing that was there has turned. Laws for a range over a function at the wide fence: the statement, out of the iterator's contract; one round, out of the body's walk; loads, stores and appends inside. No condition. A region that draws its order, of which the first n operations may lay new blocks, in whatever order: each is shown once, in a frame with letters at the region's slots, from what is so of the operations that it waits for; what is said of an operation's value stays so while memory only grows. One walk serves every order. The condition: the Bool monoB, and that the program follows the row on mixed orders. wp_region_mono once more, for regions in which some operations lay a block of their own (alloc): the pointers of those are apart; and the tail may wait for the head through others (at most five between). wp_region_monoF once more, for regions in which some operations (zs) are pure (they yield one value in every world and read no memory) and may come early or late: these are taken first. A region that draws its order, its state told by which operations have been done: one step for each operation, whatever has been done ahead; the tail stands in one forced order; an operation may panic. A region that draws its order and lays rows of its own, each filled by one store: the invariant, step by step. Plain law of a list turned round in place, two elements at a time. No condition. Conditions: what each part says. -/
import Derived.ArgAppend
import Derived.Below
import Derived.BigQuiet
import Derived.BigRegion
import Derived.Deep.MidRow
import Derived.Deep.Quiet
import Derived.Deep.QuietTactic
import Derived.Laws.AppendOwnNone
import Derived.Laws.CopyOwn
import Derived.Lib.Hide
import Derived.LoopIn
import Derived.LoopNIn
import Derived.OwnWalkIn
import Derived.RangeFuncBound
import Derived.RangeFuncCalls
import Derived.RangeFuncLeaves
import Derived.RangeFuncNested
import Derived.Shelf.Abstract
import Derived.Shelf.RegionOpen
import Derived.StillTail
import Derived.StillTailTactics
import Derived.TacticsInMore
import Derived.WalkKit
import Derived.WalkLawsBesides
import Derived.WalkSpells
/-! Base: Helper lemmas on blocks of cells, for the walks of this seat. No condition. -/
namespace Go.Proofs.YtldokkbfahobgaaDoor
open Go.RowKit

/-- Block b holds just these cells, none of them frozen. -/
def Blk (w : World) (b : Nat) (l : List Value) (e : TypeId) : Prop := w.heap[b]? = some (.cells l.toArray e (0, 0))

theorem Blk.lt {w : World} {b : Nat} {l : List Value} {e : TypeId} (h : Blk w b l e) : b < w.heap.size := (Array.getElem?_eq_some_iff.1 h).1
theorem Blk.cell? {w : World} {b : Nat} {l : List Value} {e : TypeId} (h : Blk w b l e) (i : Nat) : w.cell? ⟨b, i, none⟩ = l[i]? := by
  unfold Blk at h
  simp [World.cell?, h]
theorem Blk.cell {w : World} {b : Nat} {l : List Value} {e : TypeId} (h : Blk w b l e) {i : Nat} {v : Value} (hi : l[i]? = some v) : w.cell? ⟨b, i, none⟩ = some v := by
  rw [h.cell?, hi]
theorem Blk.frozen {w : World} {b : Nat} {l : List Value} {e : TypeId} (h : Blk w b l e) (i : Nat) : w.frozen? ⟨b, i, none⟩ = false := by
  unfold Blk at h
  simp [World.frozen?, h]
theorem Blk.set {w : World} {b : Nat} {l : List Value} {e : TypeId} (h : Blk w b l e) (i : Nat) (v : Value) : Blk (w.setCell ⟨b, i, none⟩ v) b (l.set i v) e := by
  unfold Blk at h ⊢
  simp [World.setCell, Array.getElem?_modify, h]
theorem Blk.set_other {w : World} {b : Nat} {l : List Value} {e : TypeId} (h : Blk w b l e) {p : Addr} (hp : p.block ≠ b) (v : Value) : Blk (w.setCell p v) b l e := by
  unfold Blk at h ⊢
  rw [Below.heap_setCell _ _ _ _ (Ne.symm hp)]
  exact h
theorem Blk.new (w : World) (a : Array Value) (e : TypeId) : Blk (w.alloc (.cells a e)) w.heap.size a.toList e := by
  unfold Blk
  rw [heap_alloc_new]
theorem Blk.alloc {w : World} {b : Nat} {l : List Value} {e : TypeId} (h : Blk w b l e) (o : Obj) : Blk (w.alloc o) b l e := by
  unfold Blk at h ⊢
  rw [Below.heap_alloc _ _ _ (Blk.lt h)]
  exact h
theorem Blk.drew {w : World} {b : Nat} {l : List Value} {e : TypeId} (h : Blk w b l e) : Blk w.drew b l e := h
theorem Blk.drewN {w : World} {b : Nat} {l : List Value} {e : TypeId} (h : Blk w b l e) (n : Nat) : Blk (w.drewN n) b l e := by
  exact h
theorem Blk.below {w w' : World} {B b : Nat} {l : List Value} {e : TypeId} (h : Blk w b l e) (hb : Below B w w') (hB : b < B) : Blk w' b l e := by
  unfold Blk at h ⊢
  rw [hb.block b hB]
  exact h
theorem Blk.setRow {w : World} {b : Nat} {l : List Value} {e : TypeId} (h : Blk w b l e) (l' : List Value) : Blk (w.setRow b l'.toArray) b l' e :=
  setRow_heap w b l.toArray l'.toArray e (0, 0) h
theorem Blk.setRow_other {w : World} {b : Nat} {l : List Value} {e : TypeId} (h : Blk w b l e) {g : Nat} (hg : b ≠ g) (cs : Array Value) : Blk (w.setRow g cs) b l e := by
  unfold Blk at h ⊢
  rw [Go.setRow_other _ _ _ _ hg]
  exact h
theorem below_setRow {B : Nat} {a w : World} (h : Below B a w) {g : Nat} (hg : B ≤ g) (cs : Array Value) : Below B a (w.setRow g cs) :=
  h.trans ⟨rfl, rfl, rfl, by simp, fun k hk => Go.setRow_other w g k cs (by omega)⟩
/-- An element of an array value whose elements are one cell each. -/
theorem run_index_arr {P : Program} (t e n : Nat) (d : TypeDesc) (hu : P.underlying t = some (.array n e)) (he : P.underlying e = some d)
    (hd : (match d with | .struct _ | .array _ _ => true | _ => false) = false) (hs : (P.info? e).map (·.size) = some 1)
    (cs : Array Value) (i : Nat) (hi : i < n) (v : Value) (hv : cs[i]? = some v) (w : World) :
    (Instr.index t (.agg cs) (.int .i64 (i : Int))).run P w = .ok v w := by
  cases hq : P.info? e with
  | none => simp [hq] at hs
  | some inf =>
    have hs1 : inf.size = 1 := by simpa [hq] using hs
    have hagg : (isAgg e).run P w = .ok false w := by
      unfold isAgg
      rw [Sem.run_bind, run_underlying he w]
      cases d <;> simp_all
    have h1 : (0 : Int) ≤ i ∧ (i : Int) < n := ⟨by omega, by omega⟩
    simp [Instr.index, asIntOf, Sem.run_bind, run_underlying hu, h1, sizeOf, typeInfo, hq, hs1, part, hagg, hi, hv]
theorem heap_alloc3_new (w : World) (A B C : Obj) : (((w.alloc A).alloc B).alloc C).heap[w.heap.size + 1 + 1]? = some C := by
  have h := heap_alloc_new ((w.alloc A).alloc B) C
  simpa using h
theorem Blk.newL (w : World) (l : List Value) (e : TypeId) : Blk (w.alloc (.cells l.toArray e)) w.heap.size l e := Blk.new w l.toArray e
theorem Blk.newL1 (w : World) (o : Obj) (l : List Value) (e : TypeId) : Blk ((w.alloc o).alloc (.cells l.toArray e)) (w.heap.size + 1) l e := by
  have h := Blk.newL (w.alloc o) l e
  rw [World.size_alloc] at h
  exact h
theorem Blk.newL2 (w : World) (o o' : Obj) (l : List Value) (e : TypeId) : Blk (((w.alloc o).alloc o').alloc (.cells l.toArray e)) (w.heap.size + 1 + 1) l e := by
  have h := Blk.newL ((w.alloc o).alloc o') l e
  rw [World.size_alloc, World.size_alloc] at h
  exact h
theorem quiet_add {P : Program} {f : FuncId} {args : Array Value} {w : World} {a n : Nat} {v : Value}
    (h : Calls P f args (w.drewN (a + n)) fun e w' => e = .returned v ∧ ∃ m, w' = (w.drewN (a + n)).drewN m) :
    Calls P f args (w.drewN (a + n)) fun e w'' => e = .returned v ∧ ∃ m, w'' = w.drewN (a + m) :=
  h.mono fun _ _ ⟨he, m, hm⟩ => ⟨he, n + m, by rw [hm, World.drewN_drewN, Nat.add_assoc]⟩
theorem quiet_add_same {P : Program} {f : FuncId} {args : Array Value} {w : World} {a n : Nat} {v : Value}
    (h : Calls P f args (w.drewN (a + n)) fun e w' => e = .returned v ∧ w' = w.drewN (a + n)) :
    Calls P f args (w.drewN (a + n)) fun e w'' => e = .returned v ∧ ∃ m, w'' = w.drewN (a + m) :=
  h.mono fun _ _ ⟨he, hm⟩ => ⟨he, n, hm⟩
end Go.Proofs.YtldokkbfahobgaaDoor

/-! Region: A region that draws its order, of which the first n operations are quiet in a class of worlds and the others stand in one forced order: one walk in the order of the text serves every order. The condition: the Bool Region.lexTailB, and that the program follows the row on mixed orders. -/
namespace Go.Proofs.YtldokkbfahobgaaDoor
open Go Go.BigFrame
section
variable {P : Program} {ops : Array Oper} {md : Region.Mode} {C : World → Prop}

def wpAnyLQ (P : Program) (md : Region.Mode) (ops : Array Oper) (C : World → Prop) (n : Nat) (L : Array Bool → Act → Prop) : Nat → Array Bool → Act → Prop
  | 0, listed, a => L listed a
  | f + 1, listed, a =>
    Region.ready md ops listed ≠ [] ∧ ∀ i ∈ Region.ready md ops listed, i < n ∧ qOp P ops C i (wpAnyLQ P md ops C n L f (listed.setIfInBounds i true)) a

theorem wpAny_of_headQ {n g : Nat} {L : Array Bool → Act → Prop} {Q' : Exit → Act → World → Prop} (hL : ∀ listed a w, C w → L listed a → wpAny P md ops Q' g listed a w) :
    ∀ (f : Nat) (listed : Array Bool) (a : Act) (w : World), C w → wpAnyLQ P md ops C n L f listed a → wpAny P md ops Q' (f + g) listed a w
  | 0, listed, a, w, hw, h => by rw [Nat.zero_add]; exact hL _ _ _ hw h
  | f + 1, listed, a, w, hw, h => by
    rw [show f + 1 + g = (f + g) + 1 by omega]
    exact ⟨fun h0 => absurd h0 h.1, fun i hi => wpOp_of_qOp hw (fun a' w' hw' h' => wpAny_of_headQ hL f _ a' w' hw' h') (h.2 i hi).2⟩

theorem wpAnyLQ_first {n i : Nat} {oi : Oper} {v : Value} {L : Array Bool → Act → Prop} (hi : ops[i]? = some oi) (hsel : ∀ (j : Nat) (o : Oper) cs b, ops[j]? = some o → o.op ≠ .select cs b)
    (hs : Region.sinkB md ops n = true) (hc : Region.chainB md ops n = true) (hn : n < ops.size) (hin : i < n)
    (hdone : ∀ listed a, L listed a → ∀ j ∈ Region.ready md ops listed, n ≤ j) :
    ∀ (f : Nat) (listed : Array Bool) (a : Act), HeadInv md ops n listed →
      (∀ j oj, ops[j]? = some oj → j ≠ i → listed.getD j true = false → (∀ e ∈ oj.after, Region.binds md e = true → e.on ≠ i) → oi.apart ops oj = true) →
      i ∈ Region.ready md ops listed → YieldsIn P ops C oi v a →
      wpAnyLQ P md ops C n L f (listed.setIfInBounds i true) (a.put oi.dst v) → wpAnyLQ P md ops C n L (f + 1) listed a := by
  intro f
  induction f with
  | zero =>
    intro listed a inv _ hr hy H
    have hun := (mem_ready.1 hr).1
    refine ⟨fun h => (by rw [h] at hr; cases hr), fun j hj => ?_⟩
    have hjn : j < n := by
      rcases Nat.lt_or_ge j n with h | h
      · exact h
      · exact absurd hj (tail_waits hs hc hn inv _ i rfl hin hun j h)
    refine ⟨hjn, ?_⟩
    by_cases hji : j = i
    · subst hji; exact hy.qOp hi H
    · have := hdone _ _ H j (ready_mono hj hji)
      omega
  | succ f ih =>
    intro listed a inv hfree hr hy H
    have hun := (mem_ready.1 hr).1
    refine ⟨fun h => (by rw [h] at hr; cases hr), fun j hj => ?_⟩
    have hjn : j < n := by
      rcases Nat.lt_or_ge j n with h | h
      · exact h
      · exact absurd hj (tail_waits hs hc hn inv _ i rfl hin hun j h)
    refine ⟨hjn, ?_⟩
    by_cases hji : j = i
    · subst hji; exact hy.qOp hi H
    · have h1 := (H.2 j (ready_mono hj hji)).2
      obtain ⟨hjun, oj, hoj, hall⟩ := mem_ready.1 hj
      have hnot : ∀ e ∈ oj.after, Region.binds md e = true → e.on ≠ i := fun e he hb heq => by
        have h1 := hall e he hb
        rw [heq, getD_both hun] at h1
        cases h1
      have h2 := qOp_put hoj (hfree j oj hoj hji hjun hnot) (fun cs b => hsel i oi cs b hi) (fun cs b => hsel j oj cs b hoj) hy h1
      have hfree' : ∀ k ok, ops[k]? = some ok → k ≠ i → (listed.setIfInBounds j true).getD k true = false →
          (∀ e ∈ ok.after, Region.binds md e = true → e.on ≠ i) → oi.apart ops ok = true := fun k ok hk hki hun hno => by
        refine hfree k ok hk hki ?_ hno
        by_cases hjk : j = k
        · subst hjk; exact hjun
        · rw [getD_set_ne true hjk] at hun; exact hun
      refine qOp_mono (fun a' h3 => ih (listed.setIfInBounds j true) a' (inv.set hj hjn) hfree' (ready_mono hr (Ne.symm hji)) h3.1 ?_) h2
      rw [Array.setIfInBounds_comm _ _ hji]
      exact h3.2

theorem wpAnyLQ_lex {n g : Nat} {Lq : Act → Prop} (hsel : Region.noSelect ops = true) (hs : Region.sinkB md ops n = true) (hc : Region.chainB md ops n = true) (hn : n < ops.size) :
    ∀ (l : List Oper) (k : Nat) (listed : Array Bool) (a : Act), (∀ j, j < l.length → l[j]? = ops[k + j]?) → k + l.length = n → HeadInv md ops n listed →
    Region.lexHead md ops g l.length k listed = true → wpQuiet P ops C Lq l a →
    wpAnyLQ P md ops C n (fun listed' a' => Region.seqB md ops g n listed' = true ∧ Lq a') l.length listed a
  | [], k, listed, a, _, hk, _, hB, h => by
    have : k = n := by simpa using hk
    subst this
    exact ⟨by simpa [Region.lexHead] using hB, h⟩
  | o :: l, k, listed, a, hl, hk, inv, hB, h => by
    have h0 : ops[k]? = some o := by simpa using (hl 0 (by simp)).symm
    simp only [List.length_cons, Region.lexHead, Bool.and_eq_true] at hB
    obtain ⟨⟨hr, hf⟩, hB'⟩ := hB
    have hkn : k < n := by simp only [List.length_cons] at hk; omega
    have hr' : k ∈ Region.ready md ops listed := by simpa using hr
    have hst : qOp P ops C k (wpQuiet P ops C Lq l) a := by unfold qOp; simp only [h0]; exact h
    obtain ⟨v, hy, hK⟩ := yieldsIn_of_qOp h0 hst
    exact wpAnyLQ_first h0 (Region.noSelect_spec hsel) hs hc hn hkn (fun listed' a' hL => seqB_ready hL.1) l.length listed a inv (Region.free_spec h0 hf) hr' hy
      (wpAnyLQ_lex hsel hs hc hn l (k + 1) _ _ (fun j hj => by have := hl (j + 1) (by simp; omega); simpa [Nat.add_assoc, Nat.add_comm 1 j] using this) (by simp only [List.length_cons] at hk; omega) (inv.set hr' hkn) hB' hK)

/-- The first n operations are quiet in the class, the others stand in one forced order: one walk in the order of the text serves every order. -/
theorem wp_region_quiet_tail_class {id : Nat} {Q : Exit → Act → World → Prop} {a : Act} {w : World} {l : List Oper} (n : Nat) (hm : P.follows .mixedOrders = true) (hB : Region.lexTailB .any l.toArray n = true)
    (hC : C { w with drawn := w.drawn + 1 })
    (h : wpQuiet P l.toArray C (fun a' => ∀ w', C w' → wpList P l.toArray Q (l.drop n) a' w') (l.take n) a) : (Code.region id l.toArray true).wp P Q a w := by
  simp only [Region.lexTailB, Bool.and_eq_true, decide_eq_true_eq] at hB
  obtain ⟨⟨⟨⟨hsel, hn⟩, hs⟩, hc⟩, hlex⟩ := hB
  have hn' : n < l.length := by simpa using hn
  have htl : (l.take n).length = n := by simp; omega
  have hdl : (l.drop n).length = l.toArray.size - n := by simp
  have inv0 : HeadInv .any l.toArray n (Array.replicate l.toArray.size false) :=
    ⟨by simp, fun j oj _ hl => (by rw [getD_replicate_false] at hl; cases hl), fun t _ ht => getD_in (by simpa using ht) (getD_replicate_false _ _)⟩
  have H := wpAnyLQ_lex (C := C) (md := .any) (g := l.toArray.size - n) hsel hs hc hn (l.take n) 0 _ a (fun j hj => by
    have hj' : j < n := by rw [htl] at hj; exact hj
    simp [hj']) (by simpa using htl) inv0 (by rw [htl]; exact hlex) h
  refine wp_region_any hm ?_
  have := wpAny_of_headQ (C := C) (Q' := Q) (g := l.toArray.size - n) (fun listed a' w' hw' hL => by
    have := wpAny_of_seq (md := .any) (Q' := Q) (l.drop n) n listed a' w' (fun j => by simp [List.getElem?_drop]) (by rw [hdl]; exact hL.1) (hL.2 w' hw')
    rwa [hdl] at this) _ _ _ _ hC H
  rw [htl, show n + (l.toArray.size - n) = l.toArray.size by omega] at this
  exact this

theorem wp_region_quiet_tail {id : Nat} {Q : Exit → Act → World → Prop} {a : Act} {w : World} {l : List Oper} (n : Nat) (hm : P.follows .mixedOrders = true) (hB : Region.lexTailB .any l.toArray n = true)
    (h : wpQuiet P l.toArray (fun w' => ∃ n, w' = w.drewN n) (fun a' => ∀ w', (∃ n, w' = w.drewN n) → wpList P l.toArray Q (l.drop n) a' w') (l.take n) a) : (Code.region id l.toArray true).wp P Q a w :=
  wp_region_quiet_tail_class (C := fun w' => ∃ n, w' = w.drewN n) n hm hB ⟨1, rfl⟩ h

/-! ### Moves that may come late: taken first -/
def isMove (o : Oper) : Bool := match o.op, o.guard with
  | .move _, none => true
  | _, _ => false
theorem isMove_spec {o : Oper} (h : isMove o = true) : ∃ x, o.op = .move x ∧ o.guard = none := by
  unfold isMove at h
  split at h
  · exact ⟨_, by assumption, by assumption⟩
  · cases h
def marked (zs : List Nat) (listed : Array Bool) : Array Bool := zs.foldl (fun l i => l.setIfInBounds i true) listed
def movesB (md : Region.Mode) (ops : Array Oper) : List Nat → Array Bool → Bool
  | [], _ => true
  | i :: zs, listed => ((ops[i]?).map isMove).getD false && Region.free md ops listed i && (Region.ready md ops listed).contains i && movesB md ops zs (listed.setIfInBounds i true)
theorem wpQuiet_append {Q : Act → Prop} : ∀ (l1 l2 : List Oper) (a : Act), wpQuiet P ops C Q (l1 ++ l2) a → wpQuiet P ops C (fun a' => wpQuiet P ops C Q l2 a') l1 a
  | [], _, _, h => h
  | o :: l1, l2, a, h => by
    simp only [List.cons_append, wpQuiet] at h ⊢
    split
    · rename_i hw
      simp only [hw, if_true] at h
      exact Oper.quiet_mono (fun a' h' => wpQuiet_append l1 l2 a' h') h
    · rename_i hw
      simp only [hw] at h
      exact wpQuiet_append l1 l2 _ h
theorem wpAny_moves {Q : Exit → Act → World → Prop} {Lq : Act → Prop} {fuel : Nat} {w : World} (hs : Region.noSelect ops = true) (hC : C w)
    (hQ : ∀ c a w d v, Q (.panic c) (Act.put a d v) w → Q (.panic c) a w) : ∀ (zs : List Nat) (listed : Array Bool) (a : Act), movesB md ops zs listed = true →
    wpQuiet P ops C Lq (zs.filterMap (ops[·]?)) a → (∀ a', Lq a' → wpAny P md ops Q fuel (marked zs listed) a' w) → wpAny P md ops Q (fuel + zs.length) listed a w
  | [], _, _, _, h, hk => hk _ h
  | i :: zs, listed, a, hB, h, hk => by
    simp only [movesB, Bool.and_eq_true] at hB
    obtain ⟨⟨⟨hm, hf⟩, hr⟩, hB'⟩ := hB
    cases ho : ops[i]? with
    | none => simp [ho] at hm
    | some o =>
      simp only [ho, Option.map_some, Option.getD_some] at hm
      obtain ⟨x, hx, hg⟩ := isMove_spec hm
      simp only [List.filterMap_cons, ho, wpQuiet] at h
      have hw : Region.wanted o (yielded ops a.tmps) = true := by simp [Region.wanted, hg]
      rw [if_pos hw] at h
      obtain ⟨v, hv, hK⟩ := h
      have h1 := hv w hC
      unfold Oper.quietAt at h1
      rw [run_move x hx] at h1
      obtain ⟨_, hva⟩ := h1
      have hK' := wpAny_moves hs hC hQ zs (listed.setIfInBounds i true) _ hB' hK (fun a' ha' => hk a' ha')
      exact wpAny_take (v := v) ho hs hf hr (fun c a' w' h => hQ c a' w' _ _ h) (.inl ⟨hw, fun w' => by rw [run_move x hx, hva]⟩) hK'

def sinkB2 (md : Region.Mode) (ops : Array Oper) (n : Nat) (zs : List Nat) : Bool :=
  (List.range n).all fun i => zs.contains i || (List.range (n + 1)).any fun j => decide (i < j) && Region.waitsFor md ops j i
structure HeadInv2 (md : Region.Mode) (ops : Array Oper) (n : Nat) (zs : List Nat) (listed : Array Bool) : Prop where
  inv : HeadInv md ops n listed
  zs : ∀ z ∈ zs, listed.getD z true = true
theorem HeadInv2.set {n i : Nat} {zs : List Nat} {listed : Array Bool} (h : HeadInv2 md ops n zs listed) (hi : i ∈ Region.ready md ops listed) (hin : i < n) : HeadInv2 md ops n zs (listed.setIfInBounds i true) :=
  ⟨h.inv.set hi hin, fun z hz => by
    by_cases e : i = z
    · subst e
      rcases Nat.lt_or_ge i listed.size with h' | h'
      · simp [h']
      · simp
    · rw [getD_set_ne true e]
      exact h.zs z hz⟩
theorem tail_waits2 {n : Nat} {zs : List Nat} {listed : Array Bool} (hs : sinkB2 md ops n zs = true) (hc : Region.chainB md ops n = true) (hn : n < ops.size) (inv2 : HeadInv2 md ops n zs listed) :
    ∀ (d i : Nat), n - i = d → i < n → listed.getD i true = false → ∀ t, n ≤ t → t ∉ Region.ready md ops listed := by
  have inv := inv2.inv
  intro d
  induction d using Nat.strongRecOn with
  | _ d ih =>
    intro i hd hi hun t ht hr
    obtain ⟨_, ot, hot, hall⟩ := mem_ready.1 hr
    have htlt : t < ops.size := (Array.getElem?_eq_some_iff.1 hot).1
    by_cases htn : t = n
    · subst htn
      have h1 := List.all_eq_true.1 hs i (List.mem_range.2 hi)
      rw [Bool.or_eq_true] at h1
      rcases h1 with h1 | h1
      · have := inv2.zs i (by simpa using h1)
        rw [hun] at this
        cases this
      obtain ⟨j, hj, hj2⟩ := List.any_eq_true.1 h1
      simp only [Bool.and_eq_true, decide_eq_true_eq] at hj2
      obtain ⟨oj, hoj, e, he, hb, hon⟩ := Region.waitsFor_spec hj2.2
      have hjle : j ≤ t := by have := List.mem_range.1 hj; omega
      by_cases hjt : j = t
      · subst hjt
        have : oj = ot := Option.some.inj (hoj.symm.trans hot)
        subst this
        have h2 := hall e he hb
        rw [hon, getD_both hun] at h2
        cases h2
      · cases hl : listed.getD j false with
        | true =>
          have h2 := inv.closed j oj hoj hl e he hb
          rw [hon, getD_both hun] at h2
          cases h2
        | false =>
          have hjs : j < listed.size := by rw [inv.size]; omega
          exact ih (t - j) (by omega) j rfl (by omega) (getD_in hjs hl) t (Nat.le_refl _) hr
    · have h1 := List.all_eq_true.1 hc t (List.mem_range.2 htlt)
      simp only [Bool.or_eq_true, decide_eq_true_eq] at h1
      rcases h1 with h1 | h1
      · omega
      · obtain ⟨o', ho', e, he, hb, hon⟩ := Region.waitsFor_spec h1
        have : o' = ot := Option.some.inj (ho'.symm.trans hot)
        subst this
        have h2 := hall e he hb
        rw [hon, getD_both (inv.tail (t - 1) (by omega) (by omega))] at h2
        cases h2
theorem wpAnyLQ_first2 {n i : Nat} {zs : List Nat} {oi : Oper} {v : Value} {L : Array Bool → Act → Prop} (hi : ops[i]? = some oi) (hsel : ∀ (j : Nat) (o : Oper) cs b, ops[j]? = some o → o.op ≠ .select cs b)
    (hs : sinkB2 md ops n zs = true) (hc : Region.chainB md ops n = true) (hn : n < ops.size) (hin : i < n)
    (hdone : ∀ listed a, L listed a → ∀ j ∈ Region.ready md ops listed, n ≤ j) :
    ∀ (f : Nat) (listed : Array Bool) (a : Act), HeadInv2 md ops n zs listed →
      (∀ j oj, ops[j]? = some oj → j ≠ i → listed.getD j true = false → (∀ e ∈ oj.after, Region.binds md e = true → e.on ≠ i) → oi.apart ops oj = true) →
      i ∈ Region.ready md ops listed → YieldsIn P ops C oi v a →
      wpAnyLQ P md ops C n L f (listed.setIfInBounds i true) (a.put oi.dst v) → wpAnyLQ P md ops C n L (f + 1) listed a := by
  intro f
  induction f with
  | zero =>
    intro listed a inv _ hr hy H
    have hun := (mem_ready.1 hr).1
    refine ⟨fun h => (by rw [h] at hr; cases hr), fun j hj => ?_⟩
    have hjn : j < n := by
      rcases Nat.lt_or_ge j n with h | h
      · exact h
      · exact absurd hj (tail_waits2 hs hc hn inv _ i rfl hin hun j h)
    refine ⟨hjn, ?_⟩
    by_cases hji : j = i
    · subst hji; exact hy.qOp hi H
    · have := hdone _ _ H j (ready_mono hj hji)
      omega
  | succ f ih =>
    intro listed a inv hfree hr hy H
    have hun := (mem_ready.1 hr).1
    refine ⟨fun h => (by rw [h] at hr; cases hr), fun j hj => ?_⟩
    have hjn : j < n := by
      rcases Nat.lt_or_ge j n with h | h
      · exact h
      · exact absurd hj (tail_waits2 hs hc hn inv _ i rfl hin hun j h)
    refine ⟨hjn, ?_⟩
    by_cases hji : j = i
    · subst hji; exact hy.qOp hi H
    · have h1 := (H.2 j (ready_mono hj hji)).2
      obtain ⟨hjun, oj, hoj, hall⟩ := mem_ready.1 hj
      have hnot : ∀ e ∈ oj.after, Region.binds md e = true → e.on ≠ i := fun e he hb heq => by
        have h1 := hall e he hb
        rw [heq, getD_both hun] at h1
        cases h1
      have h2 := qOp_put hoj (hfree j oj hoj hji hjun hnot) (fun cs b => hsel i oi cs b hi) (fun cs b => hsel j oj cs b hoj) hy h1
      have hfree' : ∀ k ok, ops[k]? = some ok → k ≠ i → (listed.setIfInBounds j true).getD k true = false →
          (∀ e ∈ ok.after, Region.binds md e = true → e.on ≠ i) → oi.apart ops ok = true := fun k ok hk hki hun hno => by
        refine hfree k ok hk hki ?_ hno
        by_cases hjk : j = k
        · subst hjk; exact hjun
        · rw [getD_set_ne true hjk] at hun; exact hun
      refine qOp_mono (fun a' h3 => ih (listed.setIfInBounds j true) a' (inv.set hj hjn) hfree' (ready_mono hr (Ne.symm hji)) h3.1 ?_) h2
      rw [Array.setIfInBounds_comm _ _ hji]
      exact h3.2
/-- The head's operations in the order of a list, then the forced tail. -/
def lexHeadL (md : Region.Mode) (ops : Array Oper) (n g : Nat) : List Nat → Array Bool → Bool
  | [], listed => Region.seqB md ops g n listed
  | k :: hs, listed => decide (k < n) && (Region.ready md ops listed).contains k && Region.free md ops listed k && lexHeadL md ops n g hs (listed.setIfInBounds k true)
theorem wpAnyLQ_lexL {n g : Nat} {zs : List Nat} {Lq : Act → Prop} (hsel : Region.noSelect ops = true) (hs : sinkB2 md ops n zs = true) (hc : Region.chainB md ops n = true) (hn : n < ops.size) :
    ∀ (hs' : List Nat) (listed : Array Bool) (a : Act), HeadInv2 md ops n zs listed →
    lexHeadL md ops n g hs' listed = true → wpQuiet P ops C Lq (hs'.filterMap (ops[·]?)) a →
    wpAnyLQ P md ops C n (fun listed' a' => Region.seqB md ops g n listed' = true ∧ Lq a') hs'.length listed a
  | [], listed, a, _, hB, h => ⟨hB, h⟩
  | k :: hs', listed, a, inv, hB, h => by
    simp only [lexHeadL, Bool.and_eq_true, decide_eq_true_eq] at hB
    obtain ⟨⟨⟨hkn, hr⟩, hf⟩, hB'⟩ := hB
    have hr' : k ∈ Region.ready md ops listed := by simpa using hr
    obtain ⟨_, o, h0, _⟩ := mem_ready.1 hr'
    simp only [List.filterMap_cons, h0] at h
    have hst : qOp P ops C k (wpQuiet P ops C Lq (hs'.filterMap (ops[·]?))) a := by unfold qOp; simp only [h0]; exact h
    obtain ⟨v, hy, hK⟩ := yieldsIn_of_qOp h0 hst
    exact wpAnyLQ_first2 h0 (Region.noSelect_spec hsel) hs hc hn hkn (fun listed' a' hL => seqB_ready hL.1) hs'.length listed a inv (Region.free_spec h0 hf) hr' hy
      (wpAnyLQ_lexL hsel hs hc hn hs' _ _ (inv.set hr' hkn) hB' hK)
def headInvB (md : Region.Mode) (ops : Array Oper) (n : Nat) (zs : List Nat) (listed : Array Bool) : Bool :=
  (listed.size == ops.size) && ((List.range ops.size).all fun j => !(listed.getD j false) || match ops[j]? with
    | some oj => oj.after.all fun e => !(Region.binds md e) || listed.getD e.on false
    | none => true) && ((List.range ops.size).all fun t => decide (t < n) || !(listed.getD t true)) && zs.all fun z => listed.getD z true
theorem headInvB_spec {n : Nat} {zs : List Nat} {listed : Array Bool} (h : headInvB md ops n zs listed = true) : HeadInv2 md ops n zs listed := by
  simp only [headInvB, Bool.and_eq_true, beq_iff_eq] at h
  obtain ⟨⟨⟨h1, h2⟩, h3⟩, h4⟩ := h
  refine ⟨⟨h1, fun j oj hj hl e he hb => ?_, fun t ht ht' => ?_⟩, fun z hz => List.all_eq_true.1 h4 z hz⟩
  · have := List.all_eq_true.1 h2 j (List.mem_range.2 (Array.getElem?_eq_some_iff.1 hj).1)
    simp only [hl, Bool.not_true, Bool.false_or, hj, Array.all_eq_true_iff_forall_mem] at this
    have := this e he
    simpa [hb] using this
  · have := List.all_eq_true.1 h3 t (List.mem_range.2 ht')
    simp only [Bool.or_eq_true, decide_eq_true_eq, Bool.not_eq_true'] at this
    rcases this with h | h
    · omega
    · exact h
def tailB (ops : Array Oper) (n : Nat) (zs hs : List Nat) : Bool :=
  Region.noSelect ops && decide (n < ops.size) && ((zs ++ hs).all fun i => decide (i < ops.size)) && decide (zs.length + hs.length = n) && movesB .any ops zs (Array.replicate ops.size false) &&
    sinkB2 .any ops n zs && Region.chainB .any ops n && headInvB .any ops n zs (marked zs (Array.replicate ops.size false)) && lexHeadL .any ops n (ops.size - n) hs (marked zs (Array.replicate ops.size false))
theorem pick_eq (l : List Oper) : ∀ (is : List Nat), (is.all fun i => decide (i < l.toArray.size)) = true → is.filterMap (l[·]?) = is.map fun i => l.getD i default
  | [], _ => rfl
  | i :: is, h => by
    simp only [List.all_cons, Bool.and_eq_true, decide_eq_true_eq, List.size_toArray] at h
    rw [List.filterMap_cons, List.map_cons, List.getElem?_eq_getElem h.1, pick_eq l is (by simpa using h.2)]
    simp [h.1]
/-- As wp_region_quiet_tail_class, where some moves (zs) may come late. -/
theorem wp_region_moves_tail_class {id : Nat} {Q : Exit → Act → World → Prop} {a : Act} {w : World} {l : List Oper} (n : Nat) (zs hs : List Nat) (hm : P.follows .mixedOrders = true) (hB : tailB l.toArray n zs hs = true)
    (hQ : ∀ c a w d v, Q (.panic c) (Act.put a d v) w → Q (.panic c) a w)
    (hC : C { w with drawn := w.drawn + 1 })
    (L : List Oper) (hL : ((zs ++ hs).map fun i => l.getD i default) = L)
    (h : wpQuiet P l.toArray C (fun a' => ∀ w', C w' → wpList P l.toArray Q (l.drop n) a' w') L a) : (Code.region id l.toArray true).wp P Q a w := by
  simp only [tailB, Bool.and_eq_true, decide_eq_true_eq] at hB
  obtain ⟨⟨⟨⟨⟨⟨⟨⟨hsel, hn⟩, hall⟩, hlen⟩, hmv⟩, hsk⟩, hc⟩, hinv⟩, hlex⟩ := hB
  have hdl : (l.drop n).length = l.toArray.size - n := by simp
  rw [← hL, ← pick_eq l _ hall, List.filterMap_append] at h
  have h1 := wpQuiet_append _ _ _ h
  refine wp_region_any hm ?_
  have hsz : l.toArray.size = (hs.length + (l.toArray.size - n)) + zs.length := by omega
  suffices goal : wpAny P .any l.toArray Q ((hs.length + (l.toArray.size - n)) + zs.length) (Array.replicate l.toArray.size false) a { w with drawn := w.drawn + 1 } by
    rwa [← hsz] at goal
  refine wpAny_moves (C := C) (md := .any) hsel hC hQ zs _ a hmv (by simpa using h1) ?_
  intro a' ha'
  have H := wpAnyLQ_lexL (C := C) (md := .any) (g := l.toArray.size - n) hsel hsk hc hn hs _ a' (headInvB_spec hinv) hlex (by simpa using ha')
  have := wpAny_of_headQ (C := C) (Q' := Q) (g := l.toArray.size - n) (fun listed a' w' hw' hL => by
    have := wpAny_of_seq (md := .any) (Q' := Q) (l.drop n) n listed a' w' (fun j => by simp [List.getElem?_drop]) (by rw [hdl]; exact hL.1) (hL.2 w' hw')
    rwa [hdl] at this) _ _ _ _ hC H
  exact this
theorem wp_region_moves_tail {id : Nat} {Q : Exit → Act → World → Prop} {a : Act} {w : World} {l : List Oper} (n : Nat) (zs hs : List Nat) (hm : P.follows .mixedOrders = true) (hB : tailB l.toArray n zs hs = true)
    (hQ : ∀ c a w d v, Q (.panic c) (Act.put a d v) w → Q (.panic c) a w)
    (L : List Oper) (hL : ((zs ++ hs).map fun i => l.getD i default) = L)
    (h : wpQuiet P l.toArray (fun w' => ∃ n, w' = w.drewN n) (fun a' => ∀ w', (∃ n, w' = w.drewN n) → wpList P l.toArray Q (l.drop n) a' w') L a) : (Code.region id l.toArray true).wp P Q a w :=
  wp_region_moves_tail_class (C := fun w' => ∃ n, w' = w.drewN n) n zs hs hm hB hQ ⟨1, rfl⟩ L hL h
end
end Go.Proofs.YtldokkbfahobgaaDoor

/-! Later: A region that draws its order, whose callees may lay new blocks: one walk in the order of the text serves every order. The class of worlds: those in which nothing below B has turned. -/
namespace Go.Proofs.YtldokkbfahobgaaDoor
open Go Go.BigFrame Go.RowKit

/-- Worlds in which what lies below B is as in w. -/
def Later (B : Nat) (w : World) := { w' : World // Below B w w' }
def Later.w {B : Nat} {w : World} (p : Later B w) : World := p.1
theorem Later.old {B : Nat} {w : World} (p : Later B w) : Below B w p.w := p.2
instance {B : Nat} {w : World} : Nonempty (Later B w) := ⟨⟨w, Below.refl _ _⟩⟩
theorem later_cell {B : Nat} {w : World} {b o : Nat} {v : Value} (h : w.cell? ⟨b, o, none⟩ = some v) (hb : b < B) (p : Later B w) : p.w.cell? ⟨b, o, none⟩ = some v := (p.old.cell (p := ⟨b, o, none⟩) hb).trans h
theorem wp_region_quiet_later {P : Program} {id : Nat} {Q : Exit → Act → World → Prop} {a : Act} {w : World} {l : List Oper} (B : Nat) (hm : P.follows .mixedOrders = true) (hB : Region.lexB .any l.toArray = true)
    (h : wpQuiet P l.toArray (fun w' => ∃ p : Later B w, w' = p.w) (fun a' => ∀ w', (∃ p : Later B w, w' = p.w) → Q .normal a' w') l a) : (Code.region id l.toArray true).wp P Q a w :=
  wp_region_quiet (C := fun w' => ∃ p : Later B w, w' = p.w) hm hB ⟨⟨w.drew, Below.drew (Below.refl _ _)⟩, rfl⟩ (by simpa using h)
theorem wp_region_quiet_tail_later {P : Program} {id : Nat} {Q : Exit → Act → World → Prop} {a : Act} {w : World} {l : List Oper} (B : Nat) (n : Nat) (hm : P.follows .mixedOrders = true) (hB : Region.lexTailB .any l.toArray n = true)
    (h : wpQuiet P l.toArray (fun w' => ∃ p : Later B w, w' = p.w) (fun a' => ∀ w', (∃ p : Later B w, w' = p.w) → wpList P l.toArray Q (l.drop n) a' w') (l.take n) a) : (Code.region id l.toArray true).wp P Q a w :=
  wp_region_quiet_tail_class (C := fun w' => ∃ p : Later B w, w' = p.w) n hm hB ⟨⟨w.drew, Below.drew (Below.refl _ _)⟩, rfl⟩ h
/-- A callee that turns nothing old, as an operation of such a region. -/
theorem quiet_later {P : Program} {f : FuncId} {args : Array Value} {B : Nat} {w : World} {v : Value} (p : Later B w)
    (h : Calls P f args p.w fun e w' => e = .returned v ∧ Below p.w.heap.size p.w w') (hB : B ≤ w.heap.size) : Calls P f args p.w fun e w' => e = .returned v ∧ ∃ q : Later B w, w' = q.w :=
  h.mono fun _ _ h' => ⟨h'.1, ⟨⟨_, p.old.trans (h'.2.mono (Nat.le_trans hB p.old.size))⟩, rfl⟩⟩
end Go.Proofs.YtldokkbfahobgaaDoor

/-! Forced: A region that draws its order, of which some operations are pure (they yield one value in every world and read no memory) and may come early or late, and the others stand in one forced order: one walk serves every order. The condition: the Bool forcedTailB, and that the program follows the row on mixed orders. -/
namespace Go.Proofs.YtldokkbfahobgaaDoor
open Go Go.BigFrame
section
variable {P : Program} {ops : Array Oper} {md : Region.Mode}

/-- Operations that yield one value each in every world. -/
def wpPure (P : Program) (K : Act → Prop) : List Oper → Act → Prop
  | [], a => K a
  | o :: rest, a => ∃ v, o.guard = none ∧ (∀ w', (execOp a.eval o).run P w' = .ok (.value v) w') ∧ wpPure P K rest (a.put o.dst v)
theorem wpPure_move {K : Act → Prop} {o : Oper} {rest : List Oper} {a : Act} (x : Operand) (ho : o.op = .move x) (hg : o.guard = none) (h : wpPure P K rest (a.put o.dst (a.eval x))) : wpPure P K (o :: rest) a :=
  ⟨_, hg, fun w' => by rw [run_move x ho], h⟩
theorem wpPure_run {K : Act → Prop} {o : Oper} {rest : List Oper} {a : Act} (v : Value) (hg : o.guard = none) (hr : ∀ w', (execOp a.eval o).run P w' = .ok (.value v) w') (h : wpPure P K rest (a.put o.dst v)) : wpPure P K (o :: rest) a :=
  ⟨v, hg, hr, h⟩
theorem wpPure_nil {K : Act → Prop} {a : Act} (h : K a) : wpPure P K [] a := h
def pureB (md : Region.Mode) (ops : Array Oper) : List Nat → Array Bool → Bool
  | [], _ => true
  | i :: zs, listed => Region.free md ops listed i && (Region.ready md ops listed).contains i && pureB md ops zs (listed.setIfInBounds i true)
def forcedB (md : Region.Mode) (ops : Array Oper) : List Nat → Array Bool → Bool
  | [], listed => (Region.ready md ops listed).isEmpty
  | r :: rs, listed => decide (Region.ready md ops listed = [r]) && forcedB md ops rs (listed.setIfInBounds r true)
theorem wpAny_forced {Q : Exit → Act → World → Prop} : ∀ (rs : List Nat) (listed : Array Bool) (a : Act) (w : World), forcedB md ops rs listed = true → wpList P ops Q (rs.filterMap (ops[·]?)) a w → wpAny P md ops Q rs.length listed a w
  | [], _, _, _, hB, h => ⟨by simpa [forcedB] using hB, h⟩
  | r :: rs, listed, a, w, hB, h => by
    simp only [forcedB, Bool.and_eq_true, decide_eq_true_eq] at hB
    refine ⟨fun h1 => (by rw [hB.1] at h1; cases h1), fun i hi => ?_⟩
    rw [hB.1] at hi
    obtain rfl : i = r := by simpa using hi
    have hr : i ∈ Region.ready md ops listed := by rw [hB.1]; simp
    obtain ⟨_, o, h0, _⟩ := mem_ready.1 hr
    simp only [List.filterMap_cons, h0] at h
    have hw : wpOp P ops Q i (wpList P ops Q (rs.filterMap (ops[·]?))) a w := by unfold wpOp; simp only [h0]; exact h
    exact wpOp_mono (fun a' w' h' => wpAny_forced rs _ a' w' hB.2 h') hw
theorem wpAny_pure {Q : Exit → Act → World → Prop} {K : Act → Prop} {fuel : Nat} {w : World} (hs : Region.noSelect ops = true)
    (hQ : ∀ c a w d v, Q (.panic c) (Act.put a d v) w → Q (.panic c) a w) : ∀ (zs : List Nat) (listed : Array Bool) (a : Act), pureB md ops zs listed = true →
    wpPure P K (zs.filterMap (ops[·]?)) a → (∀ a', K a' → wpAny P md ops Q fuel (marked zs listed) a' w) → wpAny P md ops Q (fuel + zs.length) listed a w
  | [], _, _, _, h, hk => hk _ h
  | i :: zs, listed, a, hB, h, hk => by
    simp only [pureB, Bool.and_eq_true] at hB
    obtain ⟨⟨hf, hr⟩, hB'⟩ := hB
    obtain ⟨_, o, ho, _⟩ := mem_ready.1 (show i ∈ Region.ready md ops listed by simpa using hr)
    simp only [List.filterMap_cons, ho] at h
    obtain ⟨v, hg, hv, hK⟩ := h
    have hw : Region.wanted o (yielded ops a.tmps) = true := by simp [Region.wanted, hg]
    exact wpAny_take (v := v) ho hs hf hr (fun c a' w' h => hQ c a' w' _ _ h) (.inl ⟨hw, hv⟩) (wpAny_pure hs hQ zs (listed.setIfInBounds i true) _ hB' hK hk)
def forcedTailB (ops : Array Oper) (zs rs : List Nat) : Bool :=
  Region.noSelect ops && ((zs ++ rs).all fun i => decide (i < ops.size)) && decide (zs.length + rs.length = ops.size) && pureB .any ops zs (Array.replicate ops.size false) && forcedB .any ops rs (marked zs (Array.replicate ops.size false))
theorem wp_region_forced {id : Nat} {Q : Exit → Act → World → Prop} {a : Act} {w : World} {l : List Oper} (zs rs : List Nat) (hm : P.follows .mixedOrders = true) (hB : forcedTailB l.toArray zs rs = true)
    (hQ : ∀ c a w d v, Q (.panic c) (Act.put a d v) w → Q (.panic c) a w)
    (L R : List Oper) (hL : (zs.map fun i => l.getD i default) = L) (hR : (rs.map fun i => l.getD i default) = R)
    (h : wpPure P (fun a' => ∀ nq, wpList P l.toArray Q R a' (w.drewN nq)) L a) : (Code.region id l.toArray true).wp P Q a w := by
  simp only [forcedTailB, Bool.and_eq_true, decide_eq_true_eq, List.all_append] at hB
  obtain ⟨⟨⟨⟨hsel, hzs, hrs⟩, hlen⟩, hpu⟩, hfo⟩ := hB
  rw [← hL, ← pick_eq l _ hzs] at h
  rw [← hR, ← pick_eq l _ hrs] at h
  refine wp_region_any hm ?_
  have hsz : l.toArray.size = rs.length + zs.length := by omega
  suffices goal : wpAny P .any l.toArray Q (rs.length + zs.length) (Array.replicate l.toArray.size false) a { w with drawn := w.drawn + 1 } by
    rwa [← hsz] at goal
  exact wpAny_pure (md := .any) hsel hQ zs _ a hpu (by simpa using h) (fun a' ha' => wpAny_forced rs _ a' _ hfo (by
    have h1 : wpList P l.toArray Q (rs.filterMap (l.toArray[·]?)) a' (w.drewN 1) := by
      have := ha' 1
      simpa using this
    exact h1))
end
end Go.Proofs.YtldokkbfahobgaaDoor

/-! Slice: Helper lemmas on slices: what a slice reads as, appends to a slice of the call's own from whatever source. No condition. -/
namespace Go.Proofs.YtldokkbfahobgaaDoor
open Go.RowKit

def bytesV (l : List UInt8) : List Value := l.map fun c => .int .u8 (c.toNat : Int)
theorem bytesV_len (l : List UInt8) : (bytesV l).length = l.length := by simp [bytesV]
theorem bytesV_app (l l' : List UInt8) : bytesV (l ++ l') = bytesV l ++ bytesV l' := by simp [bytesV]
theorem bytesV_one (l : List UInt8) : ∀ u ∈ bytesV l, u.oneCell' = true := by
  intro u hu
  obtain ⟨_, _, rfl⟩ := List.mem_map.1 hu
  rfl
theorem bytesV_at (l : List UInt8) (i : Nat) (c : UInt8) (h : l[i]? = some c) : (bytesV l)[i]? = some (.int .u8 (c.toNat : Int)) := by
  simp [bytesV, h]
theorem bytesV_inj (l l' : List UInt8) (h : bytesV l = bytesV l') : l = l' := by
  have := congrArg (List.map fun v : Value => match v with | .int _ n => UInt8.ofNat n.toNat | _ => 0) h
  simpa [bytesV, Function.comp_def] using this

/-- A slice of n elements, 'size' cells each, whose cells are these. -/
def IsSl (w : World) (v : Value) (size n : Nat) (cs : List Value) : Prop :=
  cs.length = n * size ∧ (∀ u ∈ cs, u.oneCell' = true) ∧
  ((v = .slice none 0 0 ∧ n = 0) ∨ ∃ ad cap, v = .slice (some ad) n cap ∧ n ≤ cap ∧ ∀ j u, cs[j]? = some u → w.cell? (ad.add j) = some u)

theorem IsSl.form {w : World} {v : Value} {size n : Nat} {cs : List Value} (h : IsSl w v size n cs) : ∃ a cap, v = .slice a n cap ∧ n ≤ cap := by
  rcases h.2.2 with ⟨rfl, rfl⟩ | ⟨ad, cap, rfl, hc, _⟩
  · exact ⟨_, _, rfl, Nat.le_refl _⟩
  · exact ⟨_, _, rfl, hc⟩

theorem IsSl.pos {w : World} {v : Value} {size n : Nat} {cs : List Value} (h : IsSl w v size n cs) (hn : 0 < n) (hs : 0 < size) :
    ∃ b off cap, v = .slice (some ⟨b, off, none⟩) n cap ∧ n ≤ cap ∧ w.rangeAt b off cs ∧ b < w.heap.size := by
  obtain ⟨hl, _, h⟩ := h
  have hp : 0 < cs.length := by rw [hl]; exact Nat.mul_pos hn hs
  rcases h with ⟨rfl, rfl⟩ | ⟨ad, cap, rfl, hc, hr⟩
  · omega
  · have h0 := hr 0 cs[0] (by simp [hp])
    have hs : ad.spot = none := by
      have : ad.add 0 = ad := by simp [Addr.add]
      rw [this] at h0
      unfold World.cell? at h0
      split at h0
      · split at h0
        · cases h0
        · rename_i hsp; simpa using hsp
      · cases h0
    obtain ⟨b, off, sp⟩ := ad
    obtain rfl : sp = none := hs
    refine ⟨b, off, cap, rfl, hc, fun j u hj => ?_, ?_⟩
    · have := hr j u hj
      rwa [Addr.add_mid] at this
    · rw [Addr.add_mid] at h0
      exact World.block_lt_of_cell? _ _ h0

theorem IsSl.zero {w : World} {v : Value} {size : Nat} {cs : List Value} (h : IsSl w v size 0 cs) : cs = [] := by
  have := h.1
  rw [Nat.zero_mul] at this
  exact List.eq_nil_of_length_eq_zero this

theorem IsSl.of_range {w : World} {b off n cap size : Nat} {cs : List Value} (hl : cs.length = n * size) (h1 : ∀ u ∈ cs, u.oneCell' = true) (hc : n ≤ cap) (h : w.rangeAt b off cs) :
    IsSl w (.slice (some ⟨b, off, none⟩) n cap) size n cs :=
  ⟨hl, h1, .inr ⟨_, cap, rfl, hc, fun j u hj => by rw [Addr.add_mid]; exact h j u hj⟩⟩

theorem IsSl.nil (w : World) (size : Nat) : IsSl w (.slice none 0 0) size 0 [] :=
  ⟨by simp, (fun _ h => by cases h), .inl ⟨rfl, rfl⟩⟩

theorem IsSl.of_cells {w w' : World} {v : Value} {size n : Nat} {cs : List Value} (h : IsSl w v size n cs) (hk : ∀ p u, w.cell? p = some u → (∃ a k c, v = .slice (some a) k c ∧ a.block = p.block) → w'.cell? p = some u) : IsSl w' v size n cs := by
  refine ⟨h.1, h.2.1, ?_⟩
  rcases h.2.2 with h | ⟨ad, cap, rfl, hc, hr⟩
  · exact .inl h
  · refine .inr ⟨ad, cap, rfl, hc, fun j u hj => hk _ _ (hr j u hj) ⟨ad, n, cap, rfl, ?_⟩⟩
    unfold Addr.add
    split <;> rfl

theorem IsSl.below {w w' : World} {v : Value} {size n : Nat} {cs : List Value} (h : IsSl w v size n cs) (hb : Below w.heap.size w w') : IsSl w' v size n cs :=
  h.of_cells fun _ _ hu _ => (hb.cell (World.block_lt_of_cell? _ _ hu)).trans hu

theorem IsSl.below' {B : Nat} {w w' : World} {v : Value} {size n : Nat} {cs : List Value} (h : IsSl w v size n cs) (hb : Below B w w') (hB : ∀ a k c, v = .slice (some a) k c → a.block < B) : IsSl w' v size n cs :=
  h.of_cells fun p _ hu ⟨a, k, c, hv, he⟩ => (hb.cell (p := p) (he ▸ hB a k c hv)).trans hu

theorem IsSl.block_lt {w : World} {v : Value} {size n : Nat} {cs : List Value} (h : IsSl w v size n cs) (hn : 0 < n) (hs : 0 < size) : ∀ a k c, v = .slice (some a) k c → a.block < w.heap.size := by
  obtain ⟨b, off, cap, rfl, _, _, hb⟩ := h.pos hn hs
  intro a k c e
  cases e
  exact hb

theorem rangeAt_new (w : World) (l : List Value) (e : TypeId) : (w.alloc (.cells l.toArray e)).rangeAt w.heap.size 0 l := fun j u hj => by
  rw [Nat.zero_add]
  exact (Blk.newL w l e).cell hj
theorem isSl_new (w : World) (l : List Value) (e : TypeId) (size n : Nat) (hl : l.length = n * size) (h1 : ∀ u ∈ l, u.oneCell' = true) :
    IsSl (w.alloc (.cells l.toArray e)) (.slice (some ⟨w.heap.size, 0, none⟩) n n) size n l :=
  IsSl.of_range hl h1 (Nat.le_refl _) (rangeAt_new w l e)
theorem ownsRow_form {w : World} {base : Nat} {e : TypeId} {size : Nat} {v : Value} {n : Nat} {xs : List Value} (h : w.ownsRow base e size v n xs) : ∃ a cap, v = .slice a n cap := by
  rcases h.2 with ⟨rfl, rfl⟩ | ⟨g, cap, cur, rfl, _⟩
  · exact ⟨_, _, rfl⟩
  · exact ⟨_, _, rfl⟩

theorem ownsRow_isSl {w : World} {base : Nat} {e : TypeId} {size : Nat} {v : Value} {n : Nat} {xs : List Value} (h : w.ownsRow base e size v n xs) (h1 : ∀ u ∈ xs, u.oneCell' = true) : IsSl w v size n xs := by
  refine ⟨h.1, h1, ?_⟩
  rcases h.2 with ⟨rfl, rfl⟩ | ⟨g, cap, cur, rfl, _, _, hc, _⟩
  · exact .inl ⟨rfl, rfl⟩
  · exact .inr ⟨_, cap, rfl, hc, fun j u hj => World.ownsRow.cells h rfl j u hj⟩

theorem ownsRow_below {w w' : World} {B base : Nat} {e : TypeId} {size : Nat} {v : Value} {n : Nat} {xs : List Value} (h : w.ownsRow base e size v n xs) (hb : Below B w w') (hB : ∀ g, v.ownBlock = some g → g < B) : w'.ownsRow base e size v n xs := by
  refine ⟨h.1, ?_⟩
  rcases h.2 with hn | ⟨g, cap, cur, rfl, hbg, hg, rest⟩
  · exact .inl hn
  · exact .inr ⟨g, cap, cur, rfl, hbg, (hb.block g (hB g rfl)).trans hg, rest⟩
theorem ownsRow_block {w : World} {base : Nat} {e : TypeId} {size : Nat} {v : Value} {n : Nat} {xs : List Value} (h : w.ownsRow base e size v n xs) : ∀ g, v.ownBlock = some g → g < w.heap.size :=
  fun g hg => (h.lt g hg).2
theorem Blk.grown {w w' : World} {b : Nat} {l : List Value} {e : TypeId} {row : Option Nat} (h : Blk w b l e) (hg : w.grownBy w' row) (hne : some b ≠ row) : Blk w' b l e := by
  unfold Blk at h ⊢
  rw [hg.block b (Blk.lt h) hne]
  exact h

section
variable {P : Program}
/-- append to a slice of the call's own, from whatever slice. -/
theorem run_app (w : World) (base : Nat) (t ty e : TypeId) (i : TypeInfo) (z : Value) (size bytes : Nat) (ht : P.underlying t = some (.slice e)) (hi : P.info? e = some i) (hz : i.zero = some z)
    (hsize : i.size = size) (hby : i.bytes = bytes) (hzs : z.cells.size = size) (hsz : 0 < size)
    (v : Value) (n : Nat) (xs : List Value) (hown : w.ownsRow base e size v n xs)
    (x : Value) (m : Nat) (news : List Value) (hx : IsSl w x size m news)
    (h63 : n + m ≤ maxLen) (hbytes : (n + m) * bytes ≤ 140737488355328) (hbase : base ≤ w.heap.size) :
    ∃ a' cap' w', (Builtin.append_ #[t, t] ty #[v, x]).run P w = .ok (.slice a' (n + m) cap') w' ∧ w'.ownsRow base e size (.slice a' (n + m) cap') (n + m) (xs ++ news) ∧ w.grownBy w' v.ownBlock ∧
      (a' = none ↔ v = .slice none 0 0 ∧ m = 0) := by
  obtain ⟨hl, h1, hx⟩ := hx
  rcases hx with ⟨rfl, rfl⟩ | ⟨ad, cap, rfl, _, hr⟩
  · have hn : news = [] := List.eq_nil_of_length_eq_zero (by simpa using hl)
    subst hn
    have hrun := run_append_owned_none (P := P) (w := w) base t ty e i size ht hi v n xs hown
    obtain ⟨a, c, rfl⟩ := ownsRow_form hown
    refine ⟨a, c, w, hrun, by simpa using hown, ⟨rfl, rfl, rfl, Nat.le_refl _, fun _ _ _ => rfl⟩, ?_⟩
    constructor
    · rintro rfl
      rcases hown.2 with ⟨h, _⟩ | ⟨g, cap, cur, h, _⟩
      · exact ⟨h, rfl⟩
      · cases h
    · rintro ⟨h, _⟩
      cases h
      rfl
  · obtain ⟨v', w', hrun, hown', hgrow, hiff⟩ := run_append_own (P := P) w base t ty e i z size bytes ht hi hz hsize hby hzs hsz v n xs hown ad m cap news hl hr h1 h63 hbytes hbase
    obtain ⟨a, c, rfl⟩ := ownsRow_form hown'
    refine ⟨a, c, w', hrun, hown', hgrow, ?_⟩
    rw [← hiff]
    constructor
    · rintro rfl
      rcases hown'.2 with ⟨h, _⟩ | ⟨g, cap, cur, h, _⟩
      · exact h
      · cases h
    · intro h
      exact (Value.slice.inj h).1

/-- append(nil, make([]T, n)...), as slices.Grow has it. -/
theorem run_append_nil_zeros (w : World) (t u ty e : TypeId) (k : IntKind) (i : TypeInfo) (z : Value) (ht : P.underlying t = some (.slice e)) (hu : P.underlying u = some (.int k)) (hi : P.info? e = some i) (hz : i.zero = some z)
    (n : Nat) (h0 : 0 < n) (h63 : (n : Int) ≤ 9223372036854775807) (h48 : n * i.bytes ≤ 281474976710656) (hsz : 0 < i.size) :
    (Builtin.append_ #[t, u] ty #[.slice none 0 0, .int .i64 n]).run P w =
      .ok (.slice (some ⟨w.heap.size, 0, none⟩) n (grownCap w n 0 e)) (w.drew.alloc (.cells (Builtin.zeroCells z.cells n ++ Builtin.zeroCells z.cells (grownCap w n 0 e - n)) e)) := by
  have hn : n ≠ 0 := by omega
  have h63' : ¬ (9223372036854775807 < (n : Int)) := by omega
  have h48' : ¬ (281474976710656 < Builtin.nextslicecap n 0 * i.bytes) := by rw [nextslicecap_zero h0]; omega
  have h48i : ¬ (281474976710656 < (n : Int) * (i.bytes : Int)) := by
    have : ((n * i.bytes : Nat) : Int) ≤ ((281474976710656 : Nat) : Int) := Int.ofNat_le.2 h48
    rw [Int.natCast_mul] at this
    omega
  have hw : IntKind.i64.wrap (n : Int) = n := IntWalk.i64_in _ (by omega)
  have hm : ¬ (n * i.size = 0) := Nat.ne_of_gt (Nat.mul_pos h0 hsz)
  simp [Builtin.append_, run_underlying ht, run_underlying hu, sizeOf, typeInfo, zeroValue, hi, hz, asInt, asIntOf, hw, h48i, Builtin.firstCells, hn, h63', h48', hm, Question.forced, newRow, grownCap]
  intro h
  omega

theorem wpList_append_run {w : World} {ops : Array Oper} {rest : List Oper} {o : Oper} {a : Act} {Q : Exit → Act → World → Prop} (hgd : o.guard = none) (s x : Operand) (t u : TypeId)
    (ho : o.op = .call { callee := .builtin .append, args := #[s, x], argTypes := #[t, u] }) (sv xv v : Value) (w' : World) (hs : a.eval s = sv) (hx : a.eval x = xv)
    (hr : (Builtin.append_ #[t, u] o.type #[sv, xv]).run P w = .ok v w') (h : wpList P ops Q rest (a.put o.dst v) w') : wpList P ops Q (o :: rest) a w := by
  refine wpList_plain hgd fun K hK => ?_
  unfold Oper.wp execOp
  simp only [ho, resolve, invoke, builtin, Sem.run_bind, Sem.run_pure, Result.andThen_ok, List.map_toArray, List.map_cons, List.map_nil, hs, hx, hr]
  exact hK _ _ h

theorem wpList_app {w : World} {ops : Array Oper} {rest : List Oper} {o : Oper} {a : Act} {Q : Exit → Act → World → Prop} (hgd : o.guard = none) (s x : Operand) (t : TypeId)
    (ho : o.op = .call { callee := .builtin .append, args := #[s, x], argTypes := #[t, t] })
    (base : Nat) (e : TypeId) (i : TypeInfo) (z : Value) (size bytes : Nat) (ht : P.underlying t = some (.slice e)) (hi : P.info? e = some i) (hz : i.zero = some z)
    (hsize : i.size = size) (hby : i.bytes = bytes) (hzs : z.cells.size = size) (hsz : 0 < size)
    (v : Value) (n : Nat) (xs : List Value) (hs : a.eval s = v) (hown : w.ownsRow base e size v n xs)
    (xv : Value) (m : Nat) (news : List Value) (hx : a.eval x = xv) (hsrc : IsSl w xv size m news)
    (h63 : n + m ≤ maxLen) (hbytes : (n + m) * bytes ≤ 140737488355328) (hbase : base ≤ w.heap.size)
    (h : ∀ a' cap' w', w'.ownsRow base e size (.slice a' (n + m) cap') (n + m) (xs ++ news) → w.grownBy w' v.ownBlock → (a' = none ↔ v = .slice none 0 0 ∧ m = 0) → wpList P ops Q rest (a.put o.dst (.slice a' (n + m) cap')) w') : wpList P ops Q (o :: rest) a w := by
  refine wpList_plain hgd fun K hK => ?_
  obtain ⟨a', cap', w', hr, h2, h3, h4⟩ := run_app (P := P) w base t o.type e i z size bytes ht hi hz hsize hby hzs hsz v n xs hown xv m news hsrc h63 hbytes hbase
  unfold Oper.wp execOp
  simp only [ho, resolve, invoke, builtin, Sem.run_bind, Sem.run_pure, Result.andThen_ok, List.map_toArray, List.map_cons, List.map_nil, hs, hx, hr]
  exact hK _ _ (h a' cap' w' h2 h3 h4)
end
def Bytes (w : World) (v : Value) (l : List UInt8) : Prop := IsSl w v 1 l.length (bytesV l)
/-- A slice of byte slices. -/
structure Parts (w : World) (v : Value) (ls : List (List UInt8)) (vs : List Value) : Prop where
  len : vs.length = ls.length
  sl : IsSl w v 1 ls.length vs
  each : ∀ (i : Nat) (x : Value) (l : List UInt8), vs[i]? = some x → ls[i]? = some l → Bytes w x l
theorem Parts.below {w w' : World} {v : Value} {ls : List (List UInt8)} {vs : List Value} (h : Parts w v ls vs) (hb : Below w.heap.size w w') : Parts w' v ls vs :=
  ⟨h.len, h.sl.below hb, fun i x l hx hl => (h.each i x l hx hl).below hb⟩
theorem Parts.drewN {w : World} {v : Value} {ls : List (List UInt8)} {vs : List Value} (h : Parts w v ls vs) (n : Nat) : Parts (w.drewN n) v ls vs := ⟨h.len, h.sl, h.each⟩
theorem range_below {w w' : World} {b o : Nat} {cs : List Value} (h : w.rangeAt b o cs) (hb : Below w.heap.size w w') : w'.rangeAt b o cs := fun j u hu => (hb.cell (World.block_lt_of_cell? _ _ (h j u hu))).trans (h j u hu)
theorem range_alloc (w : World) (l : List Value) (e : TypeId) (fr : Nat × Nat) : (w.alloc (.cells l.toArray e fr)).rangeAt w.heap.size 0 l := fun j u hu => by
  rw [Nat.zero_add]
  rw [cell_of_row _ _ _ _ _ _ (heap_alloc_new w (.cells l.toArray e fr)), List.getElem?_toArray]
  exact hu
/-- A new block whose cells are these bytes. -/
theorem bytes_alloc (w : World) (l : List UInt8) (e : TypeId) (fr : Nat × Nat) {B : Nat} (hB : w.heap.size = B) : Bytes (w.alloc (.cells (bytesV l).toArray e fr)) (.slice (some ⟨B, 0, none⟩) l.length l.length) l := by
  subst hB
  exact IsSl.of_range (by rw [bytesV_len, Nat.mul_one]) (bytesV_one l) (Nat.le_refl _) (range_alloc w _ e fr)
/-- Arguments of a variadic function, laid in a new block. -/
theorem parts_alloc (w : World) (vs : List Value) (ls : List (List UInt8)) (e : TypeId) {B n : Nat} (hB : w.heap.size = B) (hn : ls.length = n) (hl : vs.length = ls.length) (h1 : ∀ u ∈ vs, u.oneCell' = true)
    (h : ∀ (i : Nat) (x : Value) (l : List UInt8), vs[i]? = some x → ls[i]? = some l → Bytes w x l) : Parts (w.alloc (.cells vs.toArray e)) (.slice (some ⟨B, 0, none⟩) n n) ls vs := by
  subst hB hn
  refine ⟨hl, IsSl.of_range (by rw [hl, Nat.mul_one]) h1 (Nat.le_refl _) (range_alloc w vs e (0, 0)), fun i x l hx hl => (h i x l hx hl).below ?_⟩
  exact (Below.refl _ w).alloc (Nat.le_refl _) _
end Go.Proofs.YtldokkbfahobgaaDoor

/-! AppLit: append to an empty literal, from whatever slice: nothing that was there has turned. Conditions: the sizes' bounds. -/
namespace Go.Proofs.YtldokkbfahobgaaDoor
open Go.RowKit
section
variable {P : Program}
theorem own_base {w : World} {base base' : Nat} {e : TypeId} {size : Nat} {v : Value} {n : Nat} {xs : List Value} (h : w.ownsRow base e size v n xs) (hb : base' ≤ base) : w.ownsRow base' e size v n xs := by
  refine ⟨h.1, ?_⟩
  rcases h.2 with hn | ⟨g, cap, cur, rfl, hbg, rest⟩
  · exact .inl hn
  · exact .inr ⟨g, cap, cur, rfl, Nat.le_trans hb hbg, rest⟩
theorem below_of_grown {w w' : World} (h : w.grownBy w' none) : Below w.heap.size w w' := (Below.refl _ _).grown h (Nat.le_refl _) (fun k hk => by cases hk)
theorem run_append_nothing (w : World) (t ty e : TypeId) (i : TypeInfo) (ht : P.underlying t = some (.slice e)) (hi : P.info? e = some i) (g : Nat) (xa : Option Addr) (xc : Nat) :
    (Builtin.append_ #[t, t] ty #[.slice (some ⟨g, 0, none⟩) 0 0, .slice xa 0 xc]).run P w = .ok (.slice (some ⟨g, 0, none⟩) 0 0) w := by
  cases xa <;> simp [Builtin.append_, run_underlying ht, sizeOf, typeInfo, hi, Builtin.firstCells, Builtin.lenOf, storeCells, loadCells, loadCellsFrom]
theorem wpList_app_lit {w : World} {ops : Array Oper} {rest : List Oper} {o : Oper} {a : Act} {Q : Exit → Act → World → Prop} (hgd : o.guard = none) (s x : Operand) (t : TypeId)
    (ho : o.op = .call { callee := .builtin .append, args := #[s, x], argTypes := #[t, t] })
    (base : Nat) (e : TypeId) (i : TypeInfo) (z : Value) (size bytes : Nat) (ht : P.underlying t = some (.slice e)) (hi : P.info? e = some i) (hz : i.zero = some z)
    (hsize : i.size = size) (hby : i.bytes = bytes) (hzs : z.cells.size = size) (hsz : 0 < size)
    (g : Nat) (hs : a.eval s = .slice (some ⟨g, 0, none⟩) 0 0) (hown : w.ownsRow base e size (.slice (some ⟨g, 0, none⟩) 0 0) 0 [])
    (xv : Value) (m : Nat) (news : List Value) (hx : a.eval x = xv) (hsrc : IsSl w xv size m news)
    (h63 : m ≤ maxLen) (hbytes : m * bytes ≤ 140737488355328) (hbase : base ≤ w.heap.size)
    (h : ∀ v' w', w'.ownsRow base e size v' m news → Below w.heap.size w w' → wpList P ops Q rest (a.put o.dst v') w') : wpList P ops Q (o :: rest) a w := by
  by_cases hm : m = 0
  · subst hm
    have hnil := hsrc.zero
    subst hnil
    obtain ⟨xa, xc, rfl, _⟩ := hsrc.form
    exact wpList_append_run hgd s x t t ho _ _ _ w hs hx (run_append_nothing w t _ e i ht hi g xa xc) (h _ w hown (Below.refl _ _))
  · obtain ⟨b, off, cap, rfl, hc, hr, _⟩ := hsrc.pos (by omega) hsz
    refine wpList_append_grows (P := P) w hgd s x t ho e i z size bytes ht hi hz hsize hby hzs hsz (some ⟨g, 0, none⟩) 0 0 [] hs (by simp) (by simp) (by simp) ⟨b, off, none⟩ m cap news hx hsrc.1 (fun j u hu => by rw [Addr.add_mid]; exact hr j u hu) hsrc.2.1 (by omega) (by omega) (by rw [Nat.zero_add]; exact hbytes) ?_
    intro v' w' hown' hgrow'
    rw [Nat.zero_add, List.nil_append] at hown'
    exact h v' w' (own_base hown' hbase) (below_of_grown hgrow')
end
end Go.Proofs.YtldokkbfahobgaaDoor

/-! Range: Laws for a range over a function at the wide fence: the statement, out of the iterator's contract; one round, out of the body's walk; loads, stores and appends inside. No condition. -/
namespace Go.Proofs.YtldokkbfahobgaaDoor
open Go.RowKit Go.Shelf
section
variable {F : Fence} {n : Nat} {P : Program} {ops : Array Oper} {Q : Exit → Act → World → Prop} {a : Act} {w : World} {rest : List Oper} {o : Oper}

theorem wpListIn_load_row (hgd : o.guard = none) (ty : TypeId) (x : Operand) (ho : o.op = .load ty x)
    (g : Nat) (hx : a.eval x = .pointer (some ⟨g, 0, none⟩)) (t : TypeId) (cs : Array Value) (fr : Nat × Nat) (d : TypeDesc) (hg : w.heap[g]? = some (.cells cs t fr))
    (hu : P.underlying ty = some d) (hd : (match d with | .struct _ | .array _ _ => true | _ => false) = true) (hi : (P.info? ty).map (·.size) = some cs.size)
    (h : wpListIn F n P ops Q rest (a.put o.dst (.agg cs)) w) : wpListIn F n P ops Q (o :: rest) a w := by
  refine wpListIn_plain hgd fun K hK' => ?_
  unfold Oper.wpIn
  refine ⟨?_, ?_⟩
  · simp [Oper.about, ho]
  · rw [Oper.semAt_plain F _ _ (by rw [ho]; intro c hc'; cases hc')]
    unfold execOp
    simp only [ho, hx, Instr.loadAt, Instr.sureAddr, Sem.run_bind, Sem.run_pure, Result.andThen_ok, run_loadVar_row w g t ty cs fr d hg hu hd hi]
    exact hK' _ _ h

theorem wpListIn_load_mid (hgd : o.guard = none) (ty : TypeId) (x : Operand) (ho : o.op = .load ty x)
    (b off : Nat) (hx : a.eval x = .pointer (some ⟨b, off, none⟩)) (cs : List Value) (d : TypeDesc) (hc : w.rangeAt b off cs)
    (hu : P.underlying ty = some d) (hd : d.isRow = true) (hi : (P.info? ty).map (·.size) = some cs.length)
    (h : wpListIn F n P ops Q rest (a.put o.dst (.agg cs.toArray)) w) : wpListIn F n P ops Q (o :: rest) a w := by
  refine wpListIn_plain hgd fun K hK' => ?_
  unfold Oper.wpIn
  refine ⟨?_, ?_⟩
  · simp [Oper.about, ho]
  · rw [Oper.semAt_plain F _ _ (by rw [ho]; intro c hc'; cases hc')]
    unfold execOp
    simp only [ho, hx, Instr.loadAt, Instr.sureAddr, Sem.run_bind, Sem.run_pure, Result.andThen_ok, run_loadVar_mid w b off ty cs d hc hu hd hi]
    exact hK' _ _ h

theorem wpListIn_store_row (hgd : o.guard = none) (ty : TypeId) (x y : Operand) (ho : o.op = .store ty x y)
    (g : Nat) (cells : Array Value) (hx : a.eval x = .pointer (some ⟨g, 0, none⟩)) (hy : a.eval y = .agg cells)
    (t : TypeId) (old : Array Value) (hg : w.heap[g]? = some (.cells old t (0, 0))) (hi : (P.info? ty).map (·.size) = some cells.size)
    (hold : old.size = cells.size) (h1 : cells.all (·.oneCell') = true)
    (h : wpListIn F n P ops Q rest (a.put o.dst undef) (w.setRow g cells)) : wpListIn F n P ops Q (o :: rest) a w := by
  refine wpListIn_plain hgd fun K hK' => ?_
  unfold Oper.wpIn
  refine ⟨?_, ?_⟩
  · simp [Oper.about, ho]
  · rw [Oper.semAt_plain F _ _ (by rw [ho]; intro c hc'; cases hc')]
    unfold execOp
    simp only [ho, hx, hy, Instr.storeAt, Instr.sureAddr, Sem.run_bind, Sem.run_pure, Result.andThen_ok, run_storeVar_row w g t ty old cells hg hi hold h1]
    exact hK' _ _ h

theorem wpListIn_app (hgd : o.guard = none) (s x : Operand) (t : TypeId)
    (ho : o.op = .call { callee := .builtin .append, args := #[s, x], argTypes := #[t, t] })
    (base : Nat) (e : TypeId) (i : TypeInfo) (z : Value) (size bytes : Nat) (ht : P.underlying t = some (.slice e)) (hi : P.info? e = some i) (hz : i.zero = some z)
    (hsize : i.size = size) (hby : i.bytes = bytes) (hzs : z.cells.size = size) (hsz : 0 < size)
    (v : Value) (k : Nat) (xs : List Value) (hs : a.eval s = v) (hown : w.ownsRow base e size v k xs)
    (xv : Value) (m : Nat) (news : List Value) (hx : a.eval x = xv) (hsrc : IsSl w xv size m news)
    (h63 : k + m ≤ maxLen) (hbytes : (k + m) * bytes ≤ 140737488355328) (hbase : base ≤ w.heap.size)
    (h : ∀ a' cap' w', w'.ownsRow base e size (.slice a' (k + m) cap') (k + m) (xs ++ news) → w.grownBy w' v.ownBlock → (a' = none ↔ v = .slice none 0 0 ∧ m = 0) → wpListIn F n P ops Q rest (a.put o.dst (.slice a' (k + m) cap')) w') : wpListIn F n P ops Q (o :: rest) a w := by
  refine wpListIn_plain hgd fun K hK => ?_
  obtain ⟨a', cap', w', hr, h2, h3, h4⟩ := run_app (P := P) w base t o.type e i z size bytes ht hi hz hsize hby hzs hsz v k xs hown xv m news hsrc h63 hbytes hbase
  unfold Oper.wpIn
  refine ⟨?_, ?_⟩
  · simp [Oper.about, ho, resolve, Target.leads, Sem.run_pure]
  · rw [Oper.semAt_plain F _ _ (by rw [ho]; intro c hc'; cases hc')]
    simp [execOp, ho, resolve, invoke, builtin, hs, hx, hr, Result.andThen]
    exact hK _ _ (h a' cap' w' h2 h3 h4)
end

theorem below_putObj {B : Nat} {a w : World} (h : Below B a w) {r : Nat} (hr : B ≤ r) (o : Obj) : Below B a (w.putObj r o) :=
  h.trans ⟨rfl, rfl, rfl, by simp, fun k hk => World.putObj_heap_other (by omega)⟩
theorem Blk.putObj {w : World} {b : Nat} {l : List Value} {e : TypeId} (h : Blk w b l e) {r : Nat} (hr : b ≠ r) (o : Obj) : Blk (w.putObj r o) b l e := by
  unfold Blk at h ⊢
  rw [World.putObj_heap_other hr]
  exact h
theorem cell_putObj {w : World} {p : Addr} {r : Nat} (hr : p.block ≠ r) (o : Obj) : (w.putObj r o).cell? p = w.cell? p :=
  World.cell?_of_block (World.putObj_heap_other hr)

section
variable {P : Program}
/-- The statement. -/
theorem rangeFunc_plain {m : Nat} {g : Operand} {ps : Array Tmp} {assign body : Code} {Q : Exit → Act → World → Prop} {a : Act} {w : World} {gf : Nat} {lb : Array Value}
    (hg : a.eval g = .func (.func gf) #[] lb) (eg : ∀ args w, (callFunc gf args).run P w = .ok (.enter gf args) w)
    (h : ∀ fn, ∀ rec : LoopState → Option Code → Loop, rec = (fun st pe => { state := st, pending := pe, fn, tmps := a.tmps, params := ps, assign, body, defers := w.heap.size }) →
      CallsIn Fence.wide m P gf (#[.func (.yield (w.heap.size + 1)) #[] #[]] ++ lb) ((w.alloc (.deferred (some []))).alloc (.loop (rec .ready none))) fun e W2 =>
        (∃ v, e = .returned v) ∧ W2.heap[w.heap.size + 1]? = some (.loop (rec .ready none)) ∧
          Q .normal { a with defers := { target := .collected w.heap.size, args := #[] } :: a.defers } (W2.putObj (w.heap.size + 1) (.loop (rec .exhausted none)))) :
    (Code.rangeFunc g ps assign body).wpIn Fence.wide (m + 1) P Q a w := by
  refine wpIn_rangeFunc ?_
  intro fn hfn
  show ∃ _, _
  obtain ⟨rec, hrec⟩ : ∃ rec : LoopState → Option Code → Loop, rec = fun st pe => { state := st, pending := pe, fn, tmps := a.tmps, params := ps, assign, body, defers := w.heap.size } := ⟨_, rfl⟩
  refine ⟨w.heap.size + 1, [{ target := .collected w.heap.size, args := #[] }], (w.alloc (.deferred (some []))).alloc (.loop (rec .ready none)), { target := .fn (.func gf) lb, args := #[.func (.yield (w.heap.size + 1)) #[] #[]] }, (w.alloc (.deferred (some []))).alloc (.loop (rec .ready none)), gf,
    #[.func (.yield (w.heap.size + 1)) #[] #[]] ++ lb, (w.alloc (.deferred (some []))).alloc (.loop (rec .ready none)), ?_, ?_, ?_, ?_, fun _ => by omega, ?_⟩
  · rw [hrec]; exact run_enterLoop_outer _ _ _ _ _
  · simp only [resolve, hg]
    simp [go_sem]
  · intro f' _; trivial
  · simp [invoke, go_sem, eg]
  · refine (h fn rec hrec).mono ?_
    rintro e W2 ⟨⟨v, rfl⟩, hl, hq⟩
    refine ⟨none, _, by have := run_endLoop (P := P) hl (by rw [hrec]; simp); rw [hrec] at this; exact this, ?_⟩
    rw [hrec] at hq
    exact hq

/-- One round that goes on. -/
theorem yield_plain {m l : Nat} {rec : LoopState → Option Code → Loop} {fn : FuncId} {tmps : Array Value} {ps : Array Tmp} {assign body : Code} {D : Nat}
    (hrec : rec = fun st pe => { state := st, pending := pe, fn, tmps, params := ps, assign, body, defers := D })
    {W : World} (hl : W.heap[l]? = some (.loop (rec .ready none))) {args : Array Value} (hs : args.size = ps.size) {R : Ending → World → Prop}
    (h : assign.wpIn (Fence.wide.inRound l) m P (Exit.then (fun a₁ w₁ => w₁.heap[l]? = some (.loop (rec .ready none)) ∧
        body.wpIn (Fence.wide.inRound l) m P (Exit.then (fun _ w₃ => w₃.heap[l]? = some (.loop (rec .busy none)) ∧ R (.returned (.bool true)) (w₃.putObj l (.loop (rec .ready none)))) (fun _ _ _ => False)) a₁ (w₁.putObj l (.loop (rec .busy none)))) (fun _ _ _ => False))
      { tmps := (ps.zip args).foldl (fun t (p, v) => t.setIfInBounds p v) tmps, defers := [] } W) :
    YieldAt Fence.wide m P l args W R := by
  have hy := run_yield (P := P) (args := args) hl (by rw [hrec]; exact hs)
  rw [hrec] at hy
  refine ⟨fn, _, assign, body, hy, roundIn_of_wpIn trivial (wpIn_mono h ?_)⟩
  rintro e a₁ w₁ hp
  cases e with
  | normal =>
    obtain ⟨hl1, hb⟩ := hp
    have hbr := run_beginRound (P := P) hl1 (by rw [hrec])
    refine ⟨_, hbr, ?_⟩
    rw [hrec] at hb ⊢
    refine wpIn_mono hb ?_
    rintro e a₃ w₃ hq
    cases e with
    | normal =>
      obtain ⟨hl3, hr⟩ := hq
      exact ⟨_, _, run_endRound none hl3, hr⟩
    | ret => exact hq.elim
    | exit id => exact hq.elim
    | goto t => exact hq.elim
    | panic c => exact hq.elim
    | outgrown => exact hq.elim
  | ret => exact hp.elim
  | exit id => exact hp.elim
  | goto t => exact hp.elim
  | panic c => exact hp.elim
  | outgrown => exact hp.elim
end
end Go.Proofs.YtldokkbfahobgaaDoor

/-! Mono: A region that draws its order, of which the first n operations may lay new blocks, in whatever order: each is shown once, in a frame with letters at the region's slots, from what is so of the operations that it waits for; what is said of an operation's value stays so while memory only grows. One walk serves every order. The condition: the Bool monoB, and that the program follows the row on mixed orders. -/
namespace Go.Proofs.YtldokkbfahobgaaDoor
open Go Go.BigFrame Go.RowKit
section
variable {P : Program} {ops : Array Oper} {md : Region.Mode}

def over (Q : Exit → Act → World → Prop) (K : Act → World → Prop) : Exit → Act → World → Prop := fun e a w => match e with
  | .normal => K a w
  | e => Q e a w
theorem wp_over {Q : Exit → Act → World → Prop} {K K' : Act → World → Prop} {o : Oper} {a : Act} {w : World} (h : o.wp P a w K (over Q K')) : o.wp P a w K Q := by
  unfold Oper.wp at *
  generalize (execOp a.eval o).run P w = r at *
  cases r with
  | ok n w' =>
    cases n <;> simp only [Oper.upon] at h ⊢ <;>
      first
        | exact h
        | exact Calls.mono h (fun e w'' he => by cases e <;> exact he)
  | halt x w' => cases x <;> simp only [Oper.upon] at h ⊢ <;> exact h

/-- The frame with letters at the region's slots. -/
def fill (x : Nat → Value) : List (Option Tmp) → Nat → Act → Act
  | [], _, a => a
  | d :: ds, i, a => fill x ds (i + 1) (a.put d (x i))
theorem put_put (a : Act) (d : Option Tmp) (v u : Value) : (a.put d v).put d u = a.put d u := by
  cases d with
  | none => rfl
  | some d => simp [Act.put]
theorem put_comm (a : Act) (d d' : Option Tmp) (v u : Value) (h : d ≠ d' ∨ d = none) : (a.put d v).put d' u = (a.put d' u).put d v := by
  cases d with
  | none => rfl
  | some d =>
    cases d' with
    | none => rfl
    | some d' =>
      have hne : d ≠ d' := by
        rcases h with h | h
        · intro e; exact h (by rw [e])
        · cases h
      simp only [Act.put]
      rw [Array.setIfInBounds_comm _ _ hne]
theorem fill_put (x : Nat → Value) (d : Option Tmp) (v : Value) : ∀ (ds : List (Option Tmp)) (i : Nat) (a : Act), (d ∉ ds ∨ d = none) → fill x ds i (a.put d v) = (fill x ds i a).put d v
  | [], _, _, _ => rfl
  | d' :: ds, i, a, h => by
    have h1 : d ≠ d' ∨ d = none := h.imp (fun h e => h (by rw [e]; exact List.mem_cons_self)) id
    have h2 : d ∉ ds ∨ d = none := h.imp (fun h e => h (List.mem_cons_of_mem _ e)) id
    simp only [fill]
    rw [put_comm a d d' v (x i) h1, fill_put x d v ds (i + 1) _ h2]
theorem fill_congr (x y : Nat → Value) : ∀ (ds : List (Option Tmp)) (i : Nat) (a : Act), (∀ k, i ≤ k → x k = y k) → fill x ds i a = fill y ds i a
  | [], _, _, _ => rfl
  | d :: ds, i, a, h => by
    simp only [fill]
    rw [h i (Nat.le_refl _)]
    exact fill_congr x y ds (i + 1) _ (fun k hk => h k (by omega))
def upd (x : Nat → Value) (i : Nat) (v : Value) : Nat → Value := fun k => if k = i then v else x k
def apartB : List (Option Tmp) → Bool
  | [] => true
  | d :: ds => (!ds.contains d || d == none) && apartB ds
theorem fill_upd (x : Nat → Value) (v : Value) : ∀ (ds : List (Option Tmp)) (i j : Nat) (a : Act) (d : Option Tmp), apartB ds = true → ds[j]? = some d → (fill x ds i a).put d v = fill (upd x (i + j) v) ds i a
  | [], _, _, _, _, _, h => by simp at h
  | d' :: ds, i, j, a, d, hB, h => by
    simp only [apartB, Bool.and_eq_true, Bool.or_eq_true, Bool.not_eq_true', beq_iff_eq] at hB
    obtain ⟨h1, h2⟩ := hB
    have h1' : d' ∉ ds ∨ d' = none := h1.imp (fun h e => by rw [List.contains_iff_mem.2 e] at h; cases h) id
    cases j with
    | zero =>
      have e : d' = d := by simpa using h
      subst e
      simp only [fill, Nat.add_zero]
      rw [← fill_put x d' v ds (i + 1) _ h1', put_put]
      rw [show upd x i v i = v by simp [upd]]
      exact fill_congr _ _ ds (i + 1) _ (fun k hk => by simp [upd]; omega)
    | succ j =>
      simp only [fill]
      rw [fill_upd x v ds (i + 1) j _ d h2 (by simpa using h)]
      rw [show i + 1 + j = i + (j + 1) by omega, show upd x (i + (j + 1)) v i = x i by simp [upd]]
theorem fill_self : ∀ (ds : List (Option Tmp)) (i : Nat) (x : Nat → Value) (a : Act), (∀ k d, ds[k]? = some (some d) → x (i + k) = a.tmps.getD d undef) → fill x ds i a = a
  | [], _, _, _, _ => rfl
  | d :: ds, i, x, a, h => by
    have e : a.put d (x i) = a := by
      cases d with
      | none => rfl
      | some d =>
        rw [show x i = a.tmps.getD d undef from h 0 d rfl]
        simp only [Act.put]
        congr 1
        apply Array.ext
        · simp
        · intro k h1 h2
          by_cases hk : d = k
          · subst hk
            simp [h2]
          · rw [Array.getElem_setIfInBounds]
            rw [if_neg hk]
    simp only [fill]
    rw [e]
    exact fill_self ds (i + 1) x a (fun k d' hk => by rw [show i + 1 + k = i + (k + 1) by omega]; exact h (k + 1) d' (by simpa using hk))

def unl (listed : Array Bool) : Nat → Nat
  | 0 => 0
  | n + 1 => unl listed n + (if listed.getD n true = true then 0 else 1)
theorem unl_zero (listed : Array Bool) : ∀ n, unl listed n = 0 → ∀ i, i < n → listed.getD i true = true
  | 0, _, i, hi => by omega
  | n + 1, h, i, hi => by
    simp only [unl] at h
    by_cases e : i = n
    · subst e
      by_cases h2 : listed.getD i true = true
      · exact h2
      · rw [if_neg h2] at h; omega
    · exact unl_zero listed n (by omega) i (by omega)
theorem unl_pos (listed : Array Bool) : ∀ n, 0 < unl listed n → ∃ i, i < n ∧ listed.getD i true = false ∧ ∀ j, j < i → listed.getD j true = true
  | 0, h => by simp [unl] at h
  | n + 1, h => by
    by_cases h0 : 0 < unl listed n
    · obtain ⟨i, h1, h2, h3⟩ := unl_pos listed n h0
      exact ⟨i, by omega, h2, h3⟩
    · simp only [unl] at h
      refine ⟨n, by omega, ?_, unl_zero listed n (by omega)⟩
      cases hl : listed.getD n true with
      | false => rfl
      | true => rw [hl, if_pos rfl] at h; omega
theorem unl_set_ge (listed : Array Bool) (i : Nat) : ∀ n, n ≤ i → unl (listed.setIfInBounds i true) n = unl listed n
  | 0, _ => rfl
  | n + 1, h => by
    simp only [unl]
    rw [unl_set_ge listed i n (by omega), getD_set_ne true (by omega)]
theorem unl_set (listed : Array Bool) (i : Nat) (hu : listed.getD i true = false) : ∀ n, i < n → unl (listed.setIfInBounds i true) n + 1 = unl listed n
  | 0, h => by omega
  | n + 1, h => by
    simp only [unl]
    by_cases e : i = n
    · subst e
      have hi : i < listed.size := by
        rcases Nat.lt_or_ge i listed.size with h' | h'
        · exact h'
        · simp [Array.getElem?_eq_none h'] at hu
      rw [unl_set_ge listed i i (Nat.le_refl _), hu]
      simp [hi]
    · rw [← unl_set listed i hu n (by omega), getD_set_ne true e]
      omega

def needs (md : Region.Mode) (o : Oper) : List Nat := (o.after.toList.filter (Region.binds md)).map (·.on)
theorem needs_mem {md : Region.Mode} {o : Oper} {j : Nat} (h : j ∈ needs md o) : ∃ e ∈ o.after, Region.binds md e = true ∧ e.on = j := by
  unfold needs at h
  obtain ⟨e, he, rfl⟩ := List.mem_map.1 h
  obtain ⟨h1, h2⟩ := List.mem_filter.1 he
  exact ⟨e, by simpa using h1, h2, rfl⟩
def backB (md : Region.Mode) (ops : Array Oper) : Bool := (List.range ops.size).all fun i => ((ops[i]?).map fun o => o.after.all fun e => !Region.binds md e || decide (e.on < i)).getD true
def listedH (m n : Nat) : Array Bool := ((List.range m).map fun i => decide (i < n)).toArray
def tailWaitsB (md : Region.Mode) (ops : Array Oper) (n : Nat) : Bool := (List.range ops.size).all fun t => decide (t < n) || (decide (n < t) && Region.waitsFor md ops t (t - 1)) || (List.range n).all fun i => Region.waitsFor md ops t i
def monoB (ops : Array Oper) (n : Nat) : Bool :=
  decide (n ≤ ops.size) && backB .any ops && apartB ((ops.toList.take n).map (·.dst)) && tailWaitsB .any ops n && Region.seqB .any ops (ops.size - n) n (listedH ops.size n)
def Kept (R : Value → World → Prop) : Prop := ∀ v w w', Below w.heap.size w w' → R v w → R v w'
def monoAll (P : Program) (md : Region.Mode) (ops : Array Oper) (R : Nat → Value → World → Prop) (ds : List (Option Tmp)) (a0 : Act) (B : Nat) (w0 : World) : List Oper → Nat → Prop
  | [], _ => True
  | o :: rest, i => (∀ (x : Nat → Value) (w : World), Below B w0 w → (∀ j ∈ needs md o, R j (x j) w) → ∀ Qg : Exit → Act → World → Prop,
      (∀ v w', R i v w' → Below w.heap.size w w' → Qg .normal ((fill x ds 0 a0).put o.dst v) w') → wpList P ops Qg [o] (fill x ds 0 a0) w) ∧ monoAll P md ops R ds a0 B w0 rest (i + 1)
theorem monoAll_at {R : Nat → Value → World → Prop} {ds : List (Option Tmp)} {a0 : Act} {B : Nat} {w0 : World} : ∀ (l : List Oper) (i j : Nat) (o : Oper), monoAll P md ops R ds a0 B w0 l i → l[j]? = some o →
    ∀ (x : Nat → Value) (w : World), Below B w0 w → (∀ k ∈ needs md o, R k (x k) w) → ∀ Qg : Exit → Act → World → Prop,
      (∀ v w', R (i + j) v w' → Below w.heap.size w w' → Qg .normal ((fill x ds 0 a0).put o.dst v) w') → wpList P ops Qg [o] (fill x ds 0 a0) w
  | [], _, _, _, _, h => by simp at h
  | o' :: l, i, j, o, h, ho => by
    cases j with
    | zero =>
      have e : o' = o := by simpa using ho
      subst e
      exact h.1
    | succ j =>
      have := monoAll_at l (i + 1) j o h.2 (by simpa using ho)
      rw [show i + 1 + j = i + (j + 1) by omega] at this
      exact this

theorem wpAny_mono {Q : Exit → Act → World → Prop} {R : Nat → Value → World → Prop} {n B : Nat} {a0 : Act} {w0 : World} {l : List Oper} (hl : l.toArray = ops) (hK : ∀ j, Kept (R j)) (hBw : B ≤ w0.heap.size)
    (hback : backB md ops = true) (hn : n ≤ ops.size) (hap : apartB ((l.take n).map (·.dst)) = true) (htw : tailWaitsB md ops n = true) (hseq : Region.seqB md ops (ops.size - n) n (listedH ops.size n) = true)
    (hops : monoAll P md ops R ((l.take n).map (·.dst)) a0 B w0 (l.take n) 0)
    (hfin : ∀ (x : Nat → Value) (w : World), Below B w0 w → (∀ j, j < n → R j (x j) w) → wpList P ops Q (l.drop n) (fill x ((l.take n).map (·.dst)) 0 a0) w) :
    ∀ (g : Nat) (listed : Array Bool) (x : Nat → Value) (w : World), listed.size = ops.size → (∀ t, n ≤ t → t < ops.size → listed.getD t true = false) → unl listed n = g → Below B w0 w →
      (∀ j, j < n → listed.getD j true = true → R j (x j) w) → wpAny P md ops Q (g + (ops.size - n)) listed (fill x ((l.take n).map (·.dst)) 0 a0) w := by
  have hsz : ops.size = l.length := by rw [← hl]; simp
  intro g
  induction g with
  | zero =>
    intro listed x w hs ht hu hb hR
    have hall := unl_zero listed n hu
    have e : listed = listedH ops.size n := by
      apply Array.ext
      · simp [listedH, hs]
      · intro i h1 h2
        simp only [listedH, List.getElem_toArray, List.getElem_map, List.getElem_range]
        by_cases hi : i < n
        · have := hall i hi
          simp [h1] at this
          simp [hi, this]
        · have := ht i (by omega) (by omega)
          simp [h1] at this
          simp [hi, this]
    rw [Nat.zero_add]
    have h := hfin x w hb (fun j hj => hR j hj (hall j hj))
    have hd : (l.drop n).length = ops.size - n := by rw [List.length_drop, hsz]
    rw [← hd]
    refine wpAny_of_seq (l.drop n) n listed _ w (fun j => ?_) ?_ h
    · rw [← hl]; simp
    · rw [e, hd]; exact hseq
  | succ g ih =>
    intro listed x w hs ht hu hb hR
    rw [show g + 1 + (ops.size - n) = (g + (ops.size - n)) + 1 by omega]
    obtain ⟨i0, hi0, hun0, hmin⟩ := unl_pos listed n (by omega)
    refine ⟨fun h0 => ?_, fun i hi => ?_⟩
    · exfalso
      have hmem : i0 ∈ Region.ready md ops listed := by
        have h1 := List.all_eq_true.1 hback i0 (List.mem_range.2 (by omega))
        have ho : ops[i0]? = some ops[i0] := Array.getElem?_eq_getElem (by omega)
        rw [ho] at h1
        simp only [Option.map_some, Option.getD_some] at h1
        refine mem_ready.2 ⟨hun0, _, ho, fun e he hb => ?_⟩
        have h2 := Array.all_eq_true_iff_forall_mem.1 h1 e he
        rw [hb] at h2
        have h3 : e.on < i0 := by simpa using h2
        have h4 := hmin e.on h3
        have h5 : e.on < listed.size := by omega
        simp [h5] at h4 ⊢
        exact h4
      rw [h0] at hmem
      cases hmem
    · obtain ⟨hun, o, ho, hall⟩ := mem_ready.1 hi
      have his : i < ops.size := (Array.getElem?_eq_some_iff.1 ho).1
      have hin : i < n := by
        rcases Nat.lt_or_ge i n with h | h
        · exact h
        · exfalso
          have h1 := List.all_eq_true.1 htw i (List.mem_range.2 his)
          simp only [Bool.or_eq_true, Bool.and_eq_true, decide_eq_true_eq] at h1
          rcases h1 with (h1 | h1) | h1
          · omega
          · obtain ⟨oj, hoj, e, he, hb', hon⟩ := Region.waitsFor_spec h1.2
            have e2 : oj = o := Option.some.inj (hoj.symm.trans ho)
            subst e2
            have h2 := hall e he hb'
            rw [hon, getD_both (ht (i - 1) (by omega) (by omega))] at h2
            cases h2
          · have h2 := List.all_eq_true.1 h1 i0 (List.mem_range.2 hi0)
            obtain ⟨oj, hoj, e, he, hb', hon⟩ := Region.waitsFor_spec h2
            have e2 : oj = o := Option.some.inj (hoj.symm.trans ho)
            subst e2
            have h3 := hall e he hb'
            rw [hon, getD_both hun0] at h3
            cases h3
      have hol : l[i]? = some o := by rw [← ho, ← hl]; simp
      have hot : (l.take n)[i]? = some o := by rw [List.getElem?_take, if_pos hin]; exact hol
      have hod : ((l.take n).map (·.dst))[i]? = some o.dst := by rw [List.getElem?_map, hot]; rfl
      have hstep := monoAll_at (l.take n) 0 i o hops hot x w hb (fun k hk => by
        obtain ⟨e, he, hb', rfl⟩ := needs_mem hk
        have h1 := hall e he hb'
        have h2 := List.all_eq_true.1 hback i (List.mem_range.2 his)
        rw [ho] at h2
        simp only [Option.map_some, Option.getD_some] at h2
        have h3 := Array.all_eq_true_iff_forall_mem.1 h2 e he
        rw [hb'] at h3
        have h4 : e.on < i := by simpa using h3
        have h5 : e.on < listed.size := by omega
        refine hR e.on (by omega) ?_
        simp [h5] at h1 ⊢
        exact h1)
        (over Q (wpAny P md ops Q (g + (ops.size - n)) (listed.setIfInBounds i true))) (fun v w' hRv hbw => ?_)
      · simp only [wpList] at hstep
        unfold wpOp
        simp only [ho]
        split
        · rename_i hw
          rw [if_pos hw] at hstep
          exact hstep.imp wp_over id
        · rename_i hw
          rw [if_neg hw] at hstep
          exact hstep
      · show wpAny P md ops Q (g + (ops.size - n)) (listed.setIfInBounds i true) _ w'
        rw [fill_upd x v _ 0 i a0 o.dst hap hod, Nat.zero_add]
        have hBw' : B ≤ w.heap.size := Nat.le_trans hBw hb.size
        refine ih _ _ _ (by simpa using hs) (fun t h1 h2 => ?_) ?_ (hb.trans (hbw.mono hBw')) (fun j hj hlj => ?_)
        · rw [getD_set_ne true (by omega)]
          exact ht t h1 h2
        · have := unl_set listed i hun n hin
          omega
        · by_cases e : j = i
          · subst e
            simpa [upd] using (by simpa using hRv : R j v w')
          · rw [getD_set_ne true (Ne.symm e)] at hlj
            simp only [upd, if_neg e]
            exact hK j _ _ _ hbw (hR j hj hlj)

theorem wp_region_mono {id : Nat} {Q : Exit → Act → World → Prop} {a0 : Act} {w0 : World} {l : List Oper} (n B : Nat) (Rs : List (Value → World → Prop)) (hm : P.follows .mixedOrders = true) (hB : monoB l.toArray n = true)
    (hBw : B ≤ w0.heap.size) (hK : ∀ R ∈ Rs, Kept R) (ds : List (Option Tmp)) (hds : (l.take n).map (·.dst) = ds)
    (hops : monoAll P .any l.toArray (fun j => Rs.getD j fun _ _ => True) ds a0 B w0 (l.take n) 0)
    (hfin : ∀ (x : Nat → Value) (w : World), Below B w0 w → (∀ j, j < n → (Rs.getD j fun _ _ => True) (x j) w) → wpList P l.toArray Q (l.drop n) (fill x ds 0 a0) w) : (Code.region id l.toArray true).wp P Q a0 w0 := by
  subst hds
  simp only [monoB, Bool.and_eq_true, decide_eq_true_eq] at hB
  obtain ⟨⟨⟨⟨hn, hback⟩, hap⟩, htw⟩, hseq⟩ := hB
  refine wp_region_any hm ?_
  have hK' : ∀ j, Kept (Rs.getD j fun _ _ => True) := fun j => by
    rw [List.getD_eq_getElem?_getD]
    cases h : Rs[j]? with
    | none => exact fun _ _ _ _ _ => trivial
    | some R => exact hK R (List.mem_of_getElem? h)
  have hu2 : ∀ k, k ≤ l.toArray.size → unl (Array.replicate l.toArray.size false) k = k := fun k => by
    induction k with
    | zero => exact fun _ => rfl
    | succ k ih =>
      intro hk
      simp only [unl]
      rw [ih (by omega), if_neg]
      rw [getD_in (by rw [Array.size_replicate]; omega) (getD_replicate_false _ _)]
      exact Bool.false_ne_true
  obtain ⟨x0, e0⟩ : ∃ x0 : Nat → Value, fill x0 ((l.take n).map (·.dst)) 0 a0 = a0 := ⟨fun k => match ((l.take n).map (·.dst))[k]? with
      | some (some d) => a0.tmps.getD d undef
      | _ => undef, fill_self _ 0 _ a0 (fun k d hk => by rw [Nat.zero_add, hk])⟩
  have hlast := wpAny_mono (P := P) (md := .any) (Q := Q) (R := fun j => Rs.getD j fun _ _ => True) (n := n) (B := B) (a0 := a0) (w0 := w0) (l := l) rfl hK' hBw hback hn (by simpa using hap) htw hseq hops hfin
    n (Array.replicate l.toArray.size false) x0 ({ w0 with drawn := w0.drawn + 1 } : World) (by simp) (fun t _ ht => getD_in (by simpa using ht) (getD_replicate_false _ _)) (hu2 n hn) (show Below B w0 w0.drew from Below.drew (Below.refl _ _))
    (fun j hj hlj => by rw [getD_in (by rw [Array.size_replicate]; omega) (getD_replicate_false _ _)] at hlj; cases hlj)
  rw [e0, show n + (l.toArray.size - n) = l.toArray.size by omega] at hlast
  exact hlast
theorem wpList_load_rowIf {rest : List Oper} {o : Oper} {a : Act} {w : World} {Q : Exit → Act → World → Prop} (hw : Region.wanted o (yielded ops a.tmps) = true) (ty : TypeId) (x : Operand) (ho : o.op = .load ty x)
    (g : Nat) (hx : a.eval x = .pointer (some ⟨g, 0, none⟩)) (t : TypeId) (cs : Array Value) (fr : Nat × Nat) (d : TypeDesc) (hg : w.heap[g]? = some (.cells cs t fr))
    (hu : P.underlying ty = some d) (hd : (match d with | .struct _ | .array _ _ => true | _ => false) = true) (hi : (P.info? ty).map (·.size) = some cs.size)
    (h : wpList P ops Q rest (a.put o.dst (.agg cs)) w) : wpList P ops Q (o :: rest) a w := by
  simp only [wpList]
  rw [if_pos hw]
  exact .inl (wp_load_row ty x ho g hx t cs fr d hg hu hd hi h)
end
end Go.Proofs.YtldokkbfahobgaaDoor

/-! MonoF: wp_region_mono once more, for regions in which some operations lay a block of their own (alloc): the pointers of those are apart; and the tail may wait for the head through others (at most five between). Condition: the Bool monoFB, and that the program follows the row on mixed orders. -/
namespace Go.Proofs.YtldokkbfahobgaaDoor
open Go Go.BigFrame Go.RowKit
section
variable {P : Program} {ops : Array Oper} {md : Region.Mode}

def waitsIn (md : Region.Mode) (ops : Array Oper) : Nat → Nat → Nat → Bool
  | 0, t, i => Region.waitsFor md ops t i
  | f + 1, t, i => Region.waitsFor md ops t i || (List.range ops.size).any fun k => Region.waitsFor md ops t k && waitsIn md ops f k i
def Closed (md : Region.Mode) (ops : Array Oper) (listed : Array Bool) : Prop := ∀ j oj, ops[j]? = some oj → listed.getD j false = true → ∀ e ∈ oj.after, Region.binds md e = true → listed.getD e.on false = true
theorem getD_replicate_false' (n i : Nat) : (Array.replicate n false).getD i false = false := getD_replicate_false n i
theorem waitsIn_listed {listed : Array Bool} (hc : Closed md ops listed) : ∀ (f t i : Nat) (ot : Oper), ops[t]? = some ot → (∀ e ∈ ot.after, Region.binds md e = true → listed.getD e.on false = true) → waitsIn md ops f t i = true → listed.getD i false = true := by
  intro f
  induction f with
  | zero =>
    intro t i ot ho hall h
    obtain ⟨o', ho', e, he, hb, rfl⟩ := Region.waitsFor_spec h
    obtain rfl := Option.some.inj (ho.symm.trans ho')
    exact hall e he hb
  | succ f ih =>
    intro t i ot ho hall h
    simp only [waitsIn, Bool.or_eq_true, List.any_eq_true, Bool.and_eq_true] at h
    rcases h with h | ⟨k, hk, h1, h2⟩
    · obtain ⟨o', ho', e, he, hb, rfl⟩ := Region.waitsFor_spec h
      obtain rfl := Option.some.inj (ho.symm.trans ho')
      exact hall e he hb
    · obtain ⟨o', ho', e, he, hb, rfl⟩ := Region.waitsFor_spec h1
      obtain rfl := Option.some.inj (ho.symm.trans ho')
      have hl := hall e he hb
      have hlt : e.on < ops.size := List.mem_range.1 hk
      exact ih e.on i ops[e.on] (Array.getElem?_eq_getElem hlt) (hc e.on _ (Array.getElem?_eq_getElem hlt) hl) h2
def tailWaitsF (md : Region.Mode) (ops : Array Oper) (n : Nat) : Bool := (List.range ops.size).all fun t => decide (t < n) || (decide (n < t) && Region.waitsFor md ops t (t - 1)) || (List.range n).all fun i => waitsIn md ops 5 t i
def monoFB (ops : Array Oper) (n : Nat) : Bool :=
  decide (n ≤ ops.size) && backB .any ops && apartB ((ops.toList.take n).map (·.dst)) && tailWaitsF .any ops n && Region.seqB .any ops (ops.size - n) n (listedH ops.size n)
/-- The value points to a block that was laid between these two. -/
def New (w w' : World) (v : Value) : Prop := ∃ g, v = .pointer (some ⟨g, 0, none⟩) ∧ w.heap.size ≤ g ∧ g < w'.heap.size
def Old (w : World) (v : Value) : Prop := ∃ g, v = .pointer (some ⟨g, 0, none⟩) ∧ g < w.heap.size
theorem new_alloc (w : World) (o : Obj) : New w (w.alloc o) (.pointer (some ⟨w.heap.size, 0, none⟩)) := ⟨_, rfl, Nat.le_refl _, by simp⟩
theorem new_apart {w w' : World} {v u : Value} (h : New w w' v) (h' : Old w u) : v ≠ u := by
  obtain ⟨g, rfl, h1, _⟩ := h
  obtain ⟨g', rfl, h2⟩ := h'
  intro e
  simp at e
structure Apart (fr : List Nat) (listed : Array Bool) (x : Nat → Value) (w : World) : Prop where
  old : ∀ j ∈ fr, listed.getD j true = true → Old w (x j)
  ne : ∀ i ∈ fr, ∀ j ∈ fr, i ≠ j → listed.getD i true = true → listed.getD j true = true → x i ≠ x j
def monoAllF (P : Program) (md : Region.Mode) (ops : Array Oper) (fr : List Nat) (R : Nat → Value → World → Prop) (ds : List (Option Tmp)) (a0 : Act) (B : Nat) (w0 : World) : List Oper → Nat → Prop
  | [], _ => True
  | o :: rest, i => (∀ (x : Nat → Value) (w : World), Below B w0 w → (∀ j ∈ needs md o, R j (x j) w) → ∀ Qg : Exit → Act → World → Prop,
      (∀ v w', R i v w' → (i ∈ fr → New w w' v) → Below w.heap.size w w' → Qg .normal ((fill x ds 0 a0).put o.dst v) w') → wpList P ops Qg [o] (fill x ds 0 a0) w) ∧ monoAllF P md ops fr R ds a0 B w0 rest (i + 1)
theorem monoAllF_at {fr : List Nat} {R : Nat → Value → World → Prop} {ds : List (Option Tmp)} {a0 : Act} {B : Nat} {w0 : World} : ∀ (l : List Oper) (i j : Nat) (o : Oper), monoAllF P md ops fr R ds a0 B w0 l i → l[j]? = some o →
    ∀ (x : Nat → Value) (w : World), Below B w0 w → (∀ k ∈ needs md o, R k (x k) w) → ∀ Qg : Exit → Act → World → Prop,
      (∀ v w', R (i + j) v w' → (i + j ∈ fr → New w w' v) → Below w.heap.size w w' → Qg .normal ((fill x ds 0 a0).put o.dst v) w') → wpList P ops Qg [o] (fill x ds 0 a0) w
  | [], _, _, _, _, h => by simp at h
  | o' :: l, i, j, o, h, ho => by
    cases j with
    | zero =>
      have e : o' = o := by simpa using ho
      subst e
      exact h.1
    | succ j =>
      have := monoAllF_at l (i + 1) j o h.2 (by simpa using ho)
      rw [show i + 1 + j = i + (j + 1) by omega] at this
      exact this

theorem wpAny_monoF {fr : List Nat} {Q : Exit → Act → World → Prop} {R : Nat → Value → World → Prop} {n B : Nat} {a0 : Act} {w0 : World} {l : List Oper} (hl : l.toArray = ops) (hK : ∀ j, Kept (R j)) (hBw : B ≤ w0.heap.size)
    (hfr : ∀ j ∈ fr, j < n) (hback : backB md ops = true) (hn : n ≤ ops.size) (hap : apartB ((l.take n).map (·.dst)) = true) (htw : tailWaitsF md ops n = true) (hseq : Region.seqB md ops (ops.size - n) n (listedH ops.size n) = true)
    (hops : monoAllF P md ops fr R ((l.take n).map (·.dst)) a0 B w0 (l.take n) 0)
    (hfin : ∀ (x : Nat → Value) (w : World), Below B w0 w → (∀ j, j < n → R j (x j) w) → (∀ i ∈ fr, ∀ j ∈ fr, i ≠ j → x i ≠ x j) → wpList P ops Q (l.drop n) (fill x ((l.take n).map (·.dst)) 0 a0) w) :
    ∀ (g : Nat) (listed : Array Bool) (x : Nat → Value) (w : World), listed.size = ops.size → (∀ t, n ≤ t → t < ops.size → listed.getD t true = false) → unl listed n = g → Below B w0 w →
      (∀ j, j < n → listed.getD j true = true → R j (x j) w) → Closed md ops listed → Apart fr listed x w → wpAny P md ops Q (g + (ops.size - n)) listed (fill x ((l.take n).map (·.dst)) 0 a0) w := by
  have hsz : ops.size = l.length := by rw [← hl]; simp
  intro g
  induction g with
  | zero =>
    intro listed x w hs ht hu hb hR hcl hap2
    have hall := unl_zero listed n hu
    have e : listed = listedH ops.size n := by
      apply Array.ext
      · simp [listedH, hs]
      · intro i h1 h2
        simp only [listedH, List.getElem_toArray, List.getElem_map, List.getElem_range]
        by_cases hi : i < n
        · have := hall i hi
          simp [h1] at this
          simp [hi, this]
        · have := ht i (by omega) (by omega)
          simp [h1] at this
          simp [hi, this]
    rw [Nat.zero_add]
    have h := hfin x w hb (fun j hj => hR j hj (hall j hj)) (fun i hi j hj hne => hap2.ne i hi j hj hne (hall i (hfr i hi)) (hall j (hfr j hj)))
    have hd : (l.drop n).length = ops.size - n := by rw [List.length_drop, hsz]
    rw [← hd]
    refine wpAny_of_seq (l.drop n) n listed _ w (fun j => ?_) ?_ h
    · rw [← hl]; simp
    · rw [e, hd]; exact hseq
  | succ g ih =>
    intro listed x w hs ht hu hb hR hcl hap2
    rw [show g + 1 + (ops.size - n) = (g + (ops.size - n)) + 1 by omega]
    obtain ⟨i0, hi0, hun0, hmin⟩ := unl_pos listed n (by omega)
    refine ⟨fun h0 => ?_, fun i hi => ?_⟩
    · exfalso
      have hmem : i0 ∈ Region.ready md ops listed := by
        have h1 := List.all_eq_true.1 hback i0 (List.mem_range.2 (by omega))
        have ho : ops[i0]? = some ops[i0] := Array.getElem?_eq_getElem (by omega)
        rw [ho] at h1
        simp only [Option.map_some, Option.getD_some] at h1
        refine mem_ready.2 ⟨hun0, _, ho, fun e he hb => ?_⟩
        have h2 := Array.all_eq_true_iff_forall_mem.1 h1 e he
        rw [hb] at h2
        have h3 : e.on < i0 := by simpa using h2
        have h4 := hmin e.on h3
        have h5 : e.on < listed.size := by omega
        simp [h5] at h4 ⊢
        exact h4
      rw [h0] at hmem
      cases hmem
    · obtain ⟨hun, o, ho, hall⟩ := mem_ready.1 hi
      have his : i < ops.size := (Array.getElem?_eq_some_iff.1 ho).1
      have hin : i < n := by
        rcases Nat.lt_or_ge i n with h | h
        · exact h
        · exfalso
          have h1 := List.all_eq_true.1 htw i (List.mem_range.2 his)
          simp only [Bool.or_eq_true, Bool.and_eq_true, decide_eq_true_eq] at h1
          rcases h1 with (h1 | h1) | h1
          · omega
          · obtain ⟨oj, hoj, e, he, hb', hon⟩ := Region.waitsFor_spec h1.2
            have e2 : oj = o := Option.some.inj (hoj.symm.trans ho)
            subst e2
            have h2 := hall e he hb'
            rw [hon, getD_both (ht (i - 1) (by omega) (by omega))] at h2
            cases h2
          · have h2 := List.all_eq_true.1 h1 i0 (List.mem_range.2 hi0)
            have h3 := waitsIn_listed hcl 5 i i0 o ho hall h2
            rw [getD_both hun0] at h3
            cases h3
      have hol : l[i]? = some o := by rw [← ho, ← hl]; simp
      have hot : (l.take n)[i]? = some o := by rw [List.getElem?_take, if_pos hin]; exact hol
      have hod : ((l.take n).map (·.dst))[i]? = some o.dst := by rw [List.getElem?_map, hot]; rfl
      have hstep := monoAllF_at (l.take n) 0 i o hops hot x w hb (fun k hk => by
        obtain ⟨e, he, hb', rfl⟩ := needs_mem hk
        have h1 := hall e he hb'
        have h2 := List.all_eq_true.1 hback i (List.mem_range.2 his)
        rw [ho] at h2
        simp only [Option.map_some, Option.getD_some] at h2
        have h3 := Array.all_eq_true_iff_forall_mem.1 h2 e he
        rw [hb'] at h3
        have h4 : e.on < i := by simpa using h3
        have h5 : e.on < listed.size := by omega
        refine hR e.on (by omega) ?_
        simp [h5] at h1 ⊢
        exact h1)
        (over Q (wpAny P md ops Q (g + (ops.size - n)) (listed.setIfInBounds i true))) (fun v w' hRv hnw hbw => ?_)
      · simp only [wpList] at hstep
        unfold wpOp
        simp only [ho]
        split
        · rename_i hw
          rw [if_pos hw] at hstep
          exact hstep.imp wp_over id
        · rename_i hw
          rw [if_neg hw] at hstep
          exact hstep
      · show wpAny P md ops Q (g + (ops.size - n)) (listed.setIfInBounds i true) _ w'
        rw [fill_upd x v _ 0 i a0 o.dst hap hod, Nat.zero_add]
        have hBw' : B ≤ w.heap.size := Nat.le_trans hBw hb.size
        refine ih _ _ _ (by simpa using hs) (fun t h1 h2 => ?_) ?_ (hb.trans (hbw.mono hBw')) (fun j hj hlj => ?_) ?_ ?_
        · rw [getD_set_ne true (by omega)]
          exact ht t h1 h2
        · have := unl_set listed i hun n hin
          omega
        · by_cases e : j = i
          · subst e
            simpa [upd] using (by simpa using hRv : R j v w')
          · rw [getD_set_ne true (Ne.symm e)] at hlj
            simp only [upd, if_neg e]
            exact hK j _ _ _ hbw (hR j hj hlj)
        · intro j oj hoj hlj e he hbe
          have hkeep : ∀ t, listed.getD t false = true → (listed.setIfInBounds i true).getD t false = true := fun t ht' => by
            by_cases e' : i = t
            · subst e'
              have : i < listed.size := by omega
              simp [this]
            · rw [getD_set_ne false e']
              exact ht'
          by_cases e' : i = j
          · subst e'
            have e2 : oj = o := Option.some.inj (hoj.symm.trans ho)
            subst e2
            exact hkeep _ (hall e he hbe)
          · rw [getD_set_ne false e'] at hlj
            exact hkeep _ (hcl j oj hoj hlj e he hbe)
        · have hnv : i ∈ fr → New w w' v := by simpa using hnw
          refine ⟨fun j hj hlj => ?_, fun a ha b hb2 hne hla hlb => ?_⟩
          · by_cases e : j = i
            · subst e
              obtain ⟨g, h1, _, h2⟩ := hnv hj
              exact ⟨g, by simpa [upd] using h1, h2⟩
            · rw [getD_set_ne true (Ne.symm e)] at hlj
              obtain ⟨g, h1, h2⟩ := hap2.old j hj hlj
              refine ⟨g, ?_, Nat.lt_of_lt_of_le h2 hbw.size⟩
              simp only [upd, if_neg e]
              exact h1
          · by_cases e1 : a = i
            · subst e1
              have e2 : b ≠ a := fun h => hne h.symm
              rw [getD_set_ne true (Ne.symm e2)] at hlb
              have := new_apart (hnv ha) (hap2.old b hb2 hlb)
              simpa [upd, e2] using this
            · by_cases e2 : b = i
              · subst e2
                rw [getD_set_ne true (Ne.symm e1)] at hla
                have := new_apart (hnv hb2) (hap2.old a ha hla)
                simpa [upd, e1] using this.symm
              · rw [getD_set_ne true (Ne.symm e1)] at hla
                rw [getD_set_ne true (Ne.symm e2)] at hlb
                simpa [upd, e1, e2] using hap2.ne a ha b hb2 hne hla hlb

theorem wp_region_monoF {id : Nat} {Q : Exit → Act → World → Prop} {a0 : Act} {w0 : World} {l : List Oper} (n B : Nat) (fr : List Nat) (Rs : List (Value → World → Prop)) (hm : P.follows .mixedOrders = true) (hB : monoFB l.toArray n = true)
    (hfr : (fr.all fun j => decide (j < n)) = true) (hBw : B ≤ w0.heap.size) (hK : ∀ R ∈ Rs, Kept R) (ds : List (Option Tmp)) (hds : (l.take n).map (·.dst) = ds)
    (hops : monoAllF P .any l.toArray fr (fun j => Rs.getD j fun _ _ => True) ds a0 B w0 (l.take n) 0)
    (hfin : ∀ (x : Nat → Value) (w : World), Below B w0 w → (∀ j, j < n → (Rs.getD j fun _ _ => True) (x j) w) → (∀ i ∈ fr, ∀ j ∈ fr, i ≠ j → x i ≠ x j) → wpList P l.toArray Q (l.drop n) (fill x ds 0 a0) w) : (Code.region id l.toArray true).wp P Q a0 w0 := by
  subst hds
  simp only [monoFB, Bool.and_eq_true, decide_eq_true_eq] at hB
  obtain ⟨⟨⟨⟨hn, hback⟩, hap⟩, htw⟩, hseq⟩ := hB
  refine wp_region_any hm ?_
  have hK' : ∀ j, Kept (Rs.getD j fun _ _ => True) := fun j => by
    rw [List.getD_eq_getElem?_getD]
    cases h : Rs[j]? with
    | none => exact fun _ _ _ _ _ => trivial
    | some R => exact hK R (List.mem_of_getElem? h)
  have hu2 : ∀ k, k ≤ l.toArray.size → unl (Array.replicate l.toArray.size false) k = k := fun k => by
    induction k with
    | zero => exact fun _ => rfl
    | succ k ih =>
      intro hk
      simp only [unl]
      rw [ih (by omega), if_neg]
      rw [getD_in (by rw [Array.size_replicate]; omega) (getD_replicate_false _ _)]
      exact Bool.false_ne_true
  obtain ⟨x0, e0⟩ : ∃ x0 : Nat → Value, fill x0 ((l.take n).map (·.dst)) 0 a0 = a0 := ⟨fun k => match ((l.take n).map (·.dst))[k]? with
      | some (some d) => a0.tmps.getD d undef
      | _ => undef, fill_self _ 0 _ a0 (fun k d hk => by rw [Nat.zero_add, hk])⟩
  have hlast := wpAny_monoF (P := P) (md := .any) (Q := Q) (R := fun j => Rs.getD j fun _ _ => True) (n := n) (B := B) (a0 := a0) (w0 := w0) (l := l) rfl hK' hBw (fun j hj => by simpa using List.all_eq_true.1 hfr j hj) hback hn (by simpa using hap) htw hseq hops hfin
    n (Array.replicate l.toArray.size false) x0 ({ w0 with drawn := w0.drawn + 1 } : World) (by simp) (fun t _ ht => getD_in (by simpa using ht) (getD_replicate_false _ _)) (hu2 n hn) (show Below B w0 w0.drew from Below.drew (Below.refl _ _))
    (fun j hj hlj => by rw [getD_in (by rw [Array.size_replicate]; omega) (getD_replicate_false _ _)] at hlj; cases hlj)
    (fun j oj hoj hlj => by rw [getD_replicate_false'] at hlj; cases hlj) ⟨(fun j hj hlj => by rw [getD_in (by rw [Array.size_replicate]; have := List.all_eq_true.1 hfr j hj; simp at this; omega) (getD_replicate_false _ _)] at hlj; cases hlj), (fun a ha b hb hne hla hlb => by rw [getD_in (by rw [Array.size_replicate]; have := List.all_eq_true.1 hfr a ha; simp at this; omega) (getD_replicate_false _ _)] at hla; cases hla)⟩
  rw [e0, show n + (l.toArray.size - n) = l.toArray.size by omega] at hlast
  exact hlast
/-- The value points to a block of its own, laid behind B, with these cells. -/
def RowAt (l : List Value) (e : TypeId) (B : Nat) (v : Value) (w : World) : Prop := ∃ g, v = .pointer (some ⟨g, 0, none⟩) ∧ B ≤ g ∧ Blk w g l e
theorem RowAt.below {l : List Value} {e : TypeId} {B : Nat} {v : Value} {w w' : World} (h : RowAt l e B v w) (hb : Below w.heap.size w w') : RowAt l e B v w' := by
  obtain ⟨g, h1, h2, h3⟩ := h
  exact ⟨g, h1, h2, h3.below hb h3.lt⟩
end
end Go.Proofs.YtldokkbfahobgaaDoor

/-! MonoZ: wp_region_monoF once more, for regions in which some operations (zs) are pure (they yield one value in every world and read no memory) and may come early or late: these are taken first. Condition: the Bool monoZB, and that the program follows the row on mixed orders. -/
namespace Go.Proofs.YtldokkbfahobgaaDoor
open Go Go.BigFrame Go.RowKit
section
variable {P : Program} {ops : Array Oper} {md : Region.Mode}

def listedZ (m n : Nat) (zs : List Nat) : Array Bool := ((List.range m).map fun i => decide (i < n) || zs.contains i).toArray
def tailWaitsZ (md : Region.Mode) (ops : Array Oper) (n : Nat) (zs : List Nat) : Bool := (List.range ops.size).all fun t => decide (t < n) || zs.contains t || ((List.range ops.size).any fun r => decide (n ≤ r) && !zs.contains r && Region.waitsFor md ops t r) || (List.range n).all fun i => zs.contains i || waitsIn md ops 5 t i
def closedB (md : Region.Mode) (ops : Array Oper) (listed : Array Bool) : Bool := (List.range ops.size).all fun j => !listed.getD j false || ((ops[j]?).map fun o => o.after.all fun e => !Region.binds md e || listed.getD e.on false).getD true
theorem closedB_spec {listed : Array Bool} (h : closedB md ops listed = true) : Closed md ops listed := by
  intro j oj hoj hlj e he hb
  have hj : j < ops.size := (Array.getElem?_eq_some_iff.1 hoj).1
  have h1 := List.all_eq_true.1 h j (List.mem_range.2 hj)
  rw [hlj, hoj] at h1
  simp only [Bool.not_true, Bool.false_or, Option.map_some, Option.getD_some] at h1
  have h2 := Array.all_eq_true_iff_forall_mem.1 h1 e he
  rw [hb] at h2
  simpa using h2
def monoZB (ops : Array Oper) (n : Nat) (zs rs : List Nat) : Bool :=
  Region.noSelect ops && decide (n ≤ ops.size) && backB .any ops && apartB ((ops.toList.take n).map (·.dst)) && tailWaitsZ .any ops n zs && forcedB .any ops rs (listedZ ops.size n zs) && ((zs ++ rs).all fun i => decide (i < ops.size)) &&
    pureB .any ops zs (Array.replicate ops.size false) && closedB .any ops (marked zs (Array.replicate ops.size false)) && decide (unl (marked zs (Array.replicate ops.size false)) n + rs.length + zs.length = ops.size) &&
    ((List.range ops.size).all fun i => (marked zs (Array.replicate ops.size false)).getD i true == zs.contains i) && decide ((marked zs (Array.replicate ops.size false)).size = ops.size)
theorem wpAny_monoZ {fr : List Nat} {Q : Exit → Act → World → Prop} {R : Nat → Value → World → Prop} {n B : Nat} {a0 : Act} {w0 : World} {l : List Oper} (hl : l.toArray = ops) (hK : ∀ j, Kept (R j)) (hBw : B ≤ w0.heap.size)
    (hfr : ∀ j ∈ fr, j < n) (hback : backB md ops = true) (hn : n ≤ ops.size) (hap : apartB ((l.take n).map (·.dst)) = true) (zs rs : List Nat) (htw : tailWaitsZ md ops n zs = true) (hseq : forcedB md ops rs (listedZ ops.size n zs) = true) (hrs : (rs.all fun i => decide (i < ops.size)) = true)
    (hops : monoAllF P md ops fr R ((l.take n).map (·.dst)) a0 B w0 (l.take n) 0)
    (hfin : ∀ (x : Nat → Value) (w : World), Below B w0 w → (∀ j, j < n → R j (x j) w) → (∀ i ∈ fr, ∀ j ∈ fr, i ≠ j → x i ≠ x j) → wpList P ops Q (rs.map fun i => l.getD i default) (fill x ((l.take n).map (·.dst)) 0 a0) w) :
    ∀ (g : Nat) (listed : Array Bool) (x : Nat → Value) (w : World), listed.size = ops.size → (∀ t, n ≤ t → t < ops.size → t ∉ zs → listed.getD t true = false) → (∀ t ∈ zs, listed.getD t true = true) → unl listed n = g → Below B w0 w →
      (∀ j, j < n → listed.getD j true = true → R j (x j) w) → Closed md ops listed → Apart fr listed x w → wpAny P md ops Q (g + rs.length) listed (fill x ((l.take n).map (·.dst)) 0 a0) w := by
  have hsz : ops.size = l.length := by rw [← hl]; simp
  intro g
  induction g with
  | zero =>
    intro listed x w hs ht hzl hu hb hR hcl hap2
    have hall := unl_zero listed n hu
    have e : listed = listedZ ops.size n zs := by
      apply Array.ext
      · simp [listedZ, hs]
      · intro i h1 h2
        simp only [listedZ, List.getElem_toArray, List.getElem_map, List.getElem_range]
        by_cases hi : i < n
        · have := hall i hi
          simp [h1] at this
          simp [hi, this]
        · by_cases hz : i ∈ zs
          · have := hzl i hz
            simp [h1] at this
            simp [hz, this]
          · have := ht i (by omega) (by omega) hz
            simp [h1] at this
            simp [hi, hz, this]
    rw [Nat.zero_add]
    have h := hfin x w hb (fun j hj => hR j hj (hall j hj)) (fun i hi j hj hne => hap2.ne i hi j hj hne (hall i (hfr i hi)) (hall j (hfr j hj)))
    refine wpAny_forced rs listed _ w (by rw [e]; exact hseq) ?_
    subst hl
    have hf : (fun x : Nat => l.toArray[x]?) = (fun x : Nat => l[x]?) := by funext x; simp
    rw [hf, pick_eq l rs (by simpa using hrs)]
    exact h
  | succ g ih =>
    intro listed x w hs ht hzl hu hb hR hcl hap2
    rw [show g + 1 + rs.length = (g + rs.length) + 1 by omega]
    obtain ⟨i0, hi0, hun0, hmin⟩ := unl_pos listed n (by omega)
    refine ⟨fun h0 => ?_, fun i hi => ?_⟩
    · exfalso
      have hmem : i0 ∈ Region.ready md ops listed := by
        have h1 := List.all_eq_true.1 hback i0 (List.mem_range.2 (by omega))
        have ho : ops[i0]? = some ops[i0] := Array.getElem?_eq_getElem (by omega)
        rw [ho] at h1
        simp only [Option.map_some, Option.getD_some] at h1
        refine mem_ready.2 ⟨hun0, _, ho, fun e he hb => ?_⟩
        have h2 := Array.all_eq_true_iff_forall_mem.1 h1 e he
        rw [hb] at h2
        have h3 : e.on < i0 := by simpa using h2
        have h4 := hmin e.on h3
        have h5 : e.on < listed.size := by omega
        simp [h5] at h4 ⊢
        exact h4
      rw [h0] at hmem
      cases hmem
    · obtain ⟨hun, o, ho, hall⟩ := mem_ready.1 hi
      have his : i < ops.size := (Array.getElem?_eq_some_iff.1 ho).1
      have hin : i < n := by
        rcases Nat.lt_or_ge i n with h | h
        · exact h
        · exfalso
          have hiz : i ∉ zs := fun hz => by
            have := hzl i hz
            rw [hun] at this
            cases this
          have h1 := List.all_eq_true.1 htw i (List.mem_range.2 his)
          simp only [Bool.or_eq_true, decide_eq_true_eq] at h1
          rcases h1 with ((h1 | h1) | h1) | h1
          · omega
          · exact hiz (by simpa using h1)
          · obtain ⟨r, hr, h2⟩ := List.any_eq_true.1 h1
            simp only [Bool.and_eq_true, decide_eq_true_eq, Bool.not_eq_true'] at h2
            obtain ⟨oj, hoj, e, he, hb', hon⟩ := Region.waitsFor_spec h2.2
            have e2 : oj = o := Option.some.inj (hoj.symm.trans ho)
            subst e2
            have h3 := hall e he hb'
            rw [hon, getD_both (ht r h2.1.1 (List.mem_range.1 hr) (fun hz => by have := h2.1.2; simp [hz] at this))] at h3
            cases h3
          · have h2 := List.all_eq_true.1 h1 i0 (List.mem_range.2 hi0)
            rw [Bool.or_eq_true] at h2
            rcases h2 with h2 | h2
            · have := hzl i0 (by simpa using h2)
              rw [hun0] at this
              cases this
            · have h3 := waitsIn_listed hcl 5 i i0 o ho hall h2
              rw [getD_both hun0] at h3
              cases h3
      have hol : l[i]? = some o := by rw [← ho, ← hl]; simp
      have hot : (l.take n)[i]? = some o := by rw [List.getElem?_take, if_pos hin]; exact hol
      have hod : ((l.take n).map (·.dst))[i]? = some o.dst := by rw [List.getElem?_map, hot]; rfl
      have hstep := monoAllF_at (l.take n) 0 i o hops hot x w hb (fun k hk => by
        obtain ⟨e, he, hb', rfl⟩ := needs_mem hk
        have h1 := hall e he hb'
        have h2 := List.all_eq_true.1 hback i (List.mem_range.2 his)
        rw [ho] at h2
        simp only [Option.map_some, Option.getD_some] at h2
        have h3 := Array.all_eq_true_iff_forall_mem.1 h2 e he
        rw [hb'] at h3
        have h4 : e.on < i := by simpa using h3
        have h5 : e.on < listed.size := by omega
        refine hR e.on (by omega) ?_
        simp [h5] at h1 ⊢
        exact h1)
        (over Q (wpAny P md ops Q (g + rs.length) (listed.setIfInBounds i true))) (fun v w' hRv hnw hbw => ?_)
      · simp only [wpList] at hstep
        unfold wpOp
        simp only [ho]
        split
        · rename_i hw
          rw [if_pos hw] at hstep
          exact hstep.imp wp_over id
        · rename_i hw
          rw [if_neg hw] at hstep
          exact hstep
      · show wpAny P md ops Q (g + rs.length) (listed.setIfInBounds i true) _ w'
        rw [fill_upd x v _ 0 i a0 o.dst hap hod, Nat.zero_add]
        have hBw' : B ≤ w.heap.size := Nat.le_trans hBw hb.size
        refine ih _ _ _ (by simpa using hs) (fun t h1 h2 h3 => ?_) (fun t hz => ?_) ?_ (hb.trans (hbw.mono hBw')) (fun j hj hlj => ?_) ?_ ?_
        · rw [getD_set_ne true (by omega)]
          exact ht t h1 h2 h3
        · have h1 := hzl t hz
          by_cases e' : i = t
          · subst e'
            rw [hun] at h1
            cases h1
          · rw [getD_set_ne true e']
            exact h1
        · have := unl_set listed i hun n hin
          omega
        · by_cases e : j = i
          · subst e
            simpa [upd] using (by simpa using hRv : R j v w')
          · rw [getD_set_ne true (Ne.symm e)] at hlj
            simp only [upd, if_neg e]
            exact hK j _ _ _ hbw (hR j hj hlj)
        · intro j oj hoj hlj e he hbe
          have hkeep : ∀ t, listed.getD t false = true → (listed.setIfInBounds i true).getD t false = true := fun t ht' => by
            by_cases e' : i = t
            · subst e'
              have : i < listed.size := by omega
              simp [this]
            · rw [getD_set_ne false e']
              exact ht'
          by_cases e' : i = j
          · subst e'
            have e2 : oj = o := Option.some.inj (hoj.symm.trans ho)
            subst e2
            exact hkeep _ (hall e he hbe)
          · rw [getD_set_ne false e'] at hlj
            exact hkeep _ (hcl j oj hoj hlj e he hbe)
        · have hnv : i ∈ fr → New w w' v := by simpa using hnw
          refine ⟨fun j hj hlj => ?_, fun a ha b hb2 hne hla hlb => ?_⟩
          · by_cases e : j = i
            · subst e
              obtain ⟨g, h1, _, h2⟩ := hnv hj
              exact ⟨g, by simpa [upd] using h1, h2⟩
            · rw [getD_set_ne true (Ne.symm e)] at hlj
              obtain ⟨g, h1, h2⟩ := hap2.old j hj hlj
              refine ⟨g, ?_, Nat.lt_of_lt_of_le h2 hbw.size⟩
              simp only [upd, if_neg e]
              exact h1
          · by_cases e1 : a = i
            · subst e1
              have e2 : b ≠ a := fun h => hne h.symm
              rw [getD_set_ne true (Ne.symm e2)] at hlb
              have := new_apart (hnv ha) (hap2.old b hb2 hlb)
              simpa [upd, e2] using this
            · by_cases e2 : b = i
              · subst e2
                rw [getD_set_ne true (Ne.symm e1)] at hla
                have := new_apart (hnv hb2) (hap2.old a ha hla)
                simpa [upd, e1] using this.symm
              · rw [getD_set_ne true (Ne.symm e1)] at hla
                rw [getD_set_ne true (Ne.symm e2)] at hlb
                simpa [upd, e1, e2] using hap2.ne a ha b hb2 hne hla hlb

def valD (ds : List (Option Tmp)) (a : Act) (k : Nat) : Value := match ds[k]? with
  | some (some d) => a.tmps.getD d undef
  | _ => undef
theorem wp_region_monoZ {id : Nat} {Q : Exit → Act → World → Prop} {a0 : Act} {w0 : World} {l : List Oper} (n B : Nat) (zs rs fr : List Nat) (Rs : List (Value → World → Prop)) (hm : P.follows .mixedOrders = true) (hB : monoZB l.toArray n zs rs = true)
    (hfr : (fr.all fun j => decide (j < n) && !zs.contains j) = true) (hQ : ∀ c a w d v, Q (.panic c) (Act.put a d v) w → Q (.panic c) a w) (hBw : B ≤ w0.heap.size) (hK : ∀ R ∈ Rs, Kept R) (ds : List (Option Tmp)) (hds : (l.take n).map (·.dst) = ds)
    (L R : List Oper) (hL : (zs.map fun i => l.getD i default) = L) (hR : (rs.map fun i => l.getD i default) = R)
    (h : wpPure P (fun a' => monoAllF P .any l.toArray fr (fun j => Rs.getD j fun _ _ => True) ds a' B w0 (l.take n) 0 ∧ (∀ j ∈ zs, j < n → ∀ w, (Rs.getD j fun _ _ => True) (valD ds a' j) w) ∧
      ∀ (x : Nat → Value) (w : World), Below B w0 w → (∀ j, j < n → (Rs.getD j fun _ _ => True) (x j) w) → (∀ i ∈ fr, ∀ j ∈ fr, i ≠ j → x i ≠ x j) → wpList P l.toArray Q R (fill x ds 0 a') w) L a0) : (Code.region id l.toArray true).wp P Q a0 w0 := by
  subst hds hR hL
  simp only [monoZB, Bool.and_eq_true, decide_eq_true_eq, List.all_append] at hB
  obtain ⟨⟨⟨⟨⟨⟨⟨⟨⟨⟨⟨hsel, hn⟩, hback⟩, hap⟩, htw⟩, hseq⟩, hzs, hrs⟩, hpu⟩, hcl⟩, hun⟩, hmk⟩, hms⟩ := hB
  rw [← pick_eq l _ hzs] at h
  refine wp_region_any hm ?_
  have hK' : ∀ j, Kept (Rs.getD j fun _ _ => True) := fun j => by
    rw [List.getD_eq_getElem?_getD]
    cases h : Rs[j]? with
    | none => exact fun _ _ _ _ _ => trivial
    | some R => exact hK R (List.mem_of_getElem? h)
  have hmk2 : ∀ t, t < l.toArray.size → (marked zs (Array.replicate l.toArray.size false)).getD t true = zs.contains t := fun t ht => by
    have := List.all_eq_true.1 hmk t (List.mem_range.2 ht)
    exact eq_of_beq this
  have hzsz : ∀ t ∈ zs, t < l.toArray.size := fun t ht => by simpa using List.all_eq_true.1 hzs t ht
  suffices goal : wpAny P .any l.toArray Q (unl (marked zs (Array.replicate l.toArray.size false)) n + rs.length + zs.length) (Array.replicate l.toArray.size false) a0 { w0 with drawn := w0.drawn + 1 } by
    rwa [hun] at goal
  have hf : (fun x : Nat => l.toArray[x]?) = (fun x : Nat => l[x]?) := by funext x; simp
  refine wpAny_pure (md := .any) hsel hQ zs _ a0 hpu (by rw [hf]; exact h) (fun a' ha' => ?_)
  obtain ⟨hops, hz, hfin⟩ := ha'
  obtain ⟨x0, ex0, e0⟩ : ∃ x0 : Nat → Value, x0 = valD ((l.take n).map (·.dst)) a' ∧ fill x0 ((l.take n).map (·.dst)) 0 a' = a' := ⟨_, rfl, fill_self _ 0 _ a' (fun k d hk => by unfold valD; rw [Nat.zero_add, hk])⟩
  have hlast := wpAny_monoZ (P := P) (md := .any) (Q := Q) (fr := fr) (R := fun j => Rs.getD j fun _ _ => True) (n := n) (B := B) (a0 := a') (w0 := w0) (l := l) rfl hK' hBw (fun j hj => by have := List.all_eq_true.1 hfr j hj; simp at this; exact this.1) hback hn (by simpa using hap) zs rs htw hseq hrs hops hfin
    _ (marked zs (Array.replicate l.toArray.size false)) x0 ({ w0 with drawn := w0.drawn + 1 } : World) hms
    (fun t h1 h2 h3 => by rw [hmk2 t h2]; simpa using h3) (fun t ht => by rw [hmk2 t (hzsz t ht)]; simpa using ht) rfl (show Below B w0 w0.drew from Below.drew (Below.refl _ _))
    (fun j hj hlj => by rw [hmk2 j (by omega)] at hlj; rw [ex0]; exact hz j (by simpa using hlj) hj _)
    (closedB_spec hcl)
    ⟨(fun j hj hlj => by have h1 := List.all_eq_true.1 hfr j hj; simp at h1; rw [hmk2 j (by omega)] at hlj; exact absurd (by simpa using hlj) h1.2),
      (fun a ha b hb hne hla hlb => by have h1 := List.all_eq_true.1 hfr a ha; simp at h1; rw [hmk2 a (by omega)] at hla; exact absurd (by simpa using hla) h1.2)⟩
  rw [e0] at hlast
  exact hlast
theorem wpList_load_midIf {rest : List Oper} {o : Oper} {a : Act} {w : World} {Q : Exit → Act → World → Prop} (hw : Region.wanted o (yielded ops a.tmps) = true) (ty : TypeId) (x : Operand) (ho : o.op = .load ty x)
    (b off : Nat) (hx : a.eval x = .pointer (some ⟨b, off, none⟩)) (cs : List Value) (d : TypeDesc) (hc : w.rangeAt b off cs)
    (hu : P.underlying ty = some d) (hd : d.isRow = true) (hi : (P.info? ty).map (·.size) = some cs.length)
    (h : wpList P ops Q rest (a.put o.dst (.agg cs.toArray)) w) : wpList P ops Q (o :: rest) a w := by
  simp only [wpList]
  rw [if_pos hw]
  exact .inl (wp_load_mid ty x ho b off hx cs d hc hu hd hi h)
end
end Go.Proofs.YtldokkbfahobgaaDoor

/-! Inv: A region that draws its order, its state told by which operations have been done: one step for each operation, whatever has been done ahead; the tail stands in one forced order; an operation may panic. Condition: the Bool monoFB, and that the program follows the row on mixed orders. -/
namespace Go.Proofs.YtldokkbfahobgaaDoor
open Go Go.BigFrame Go.RowKit
section
variable {P : Program} {ops : Array Oper} {md : Region.Mode}

def updL (L : Nat → Bool) (i : Nat) : Nat → Bool := fun j => if j = i then true else L j
/-- One step for each operation. -/
def invAll (P : Program) (md : Region.Mode) (ops : Array Oper) (J : (Nat → Bool) → (Nat → Value) → World → Prop) (Pn : List PanicEntry → World → Prop) (ds : List (Option Tmp)) (a0 : Act) : List Oper → Nat → Prop
  | [], _ => True
  | o :: rest, i => (∀ (L : Nat → Bool) (x : Nat → Value) (w : World), L i = false → (∀ j ∈ needs md o, L j = true) → J L x w → ∀ Qg : Exit → Act → World → Prop,
      (∀ v w', J (updL L i) (upd x i v) w' → Qg .normal ((fill x ds 0 a0).put o.dst v) w') → (∀ c a w', a.defers = a0.defers → Pn c w' → Qg (.panic c) a w') → wpList P ops Qg [o] (fill x ds 0 a0) w) ∧ invAll P md ops J Pn ds a0 rest (i + 1)
theorem invAll_at {J : (Nat → Bool) → (Nat → Value) → World → Prop} {Pn : List PanicEntry → World → Prop} {ds : List (Option Tmp)} {a0 : Act} : ∀ (l : List Oper) (i j : Nat) (o : Oper), invAll P md ops J Pn ds a0 l i → l[j]? = some o →
    ∀ (L : Nat → Bool) (x : Nat → Value) (w : World), L (i + j) = false → (∀ k ∈ needs md o, L k = true) → J L x w → ∀ Qg : Exit → Act → World → Prop,
      (∀ v w', J (updL L (i + j)) (upd x (i + j) v) w' → Qg .normal ((fill x ds 0 a0).put o.dst v) w') → (∀ c a w', a.defers = a0.defers → Pn c w' → Qg (.panic c) a w') → wpList P ops Qg [o] (fill x ds 0 a0) w
  | [], _, _, _, _, h => by simp at h
  | o' :: l, i, j, o, h, ho => by
    cases j with
    | zero =>
      have e : o' = o := by simpa using ho
      subst e
      exact h.1
    | succ j =>
      have := invAll_at l (i + 1) j o h.2 (by simpa using ho)
      rw [show i + 1 + j = i + (j + 1) by omega] at this
      exact this
def unlL (listed : Array Bool) : Nat → Bool := fun j => listed.getD j true
theorem unlL_set (listed : Array Bool) (i : Nat) (hi : listed.getD i true = false) : unlL (listed.setIfInBounds i true) = updL (unlL listed) i := by
  funext j
  unfold unlL updL
  by_cases e : j = i
  · subst e
    rw [if_pos rfl]
    have : j < listed.size := by
      rcases Nat.lt_or_ge j listed.size with h | h
      · exact h
      · simp [Array.getElem?_eq_none h] at hi
    simp [this]
  · rw [if_neg e, getD_set_ne true (Ne.symm e)]
theorem wpAny_inv {Q : Exit → Act → World → Prop} {J : (Nat → Bool) → (Nat → Value) → World → Prop} {Pn : List PanicEntry → World → Prop} {n : Nat} {a0 : Act} {l : List Oper} (hl : l.toArray = ops)
    (hback : backB md ops = true) (hn : n ≤ ops.size) (hap : apartB ((l.take n).map (·.dst)) = true) (htw : tailWaitsF md ops n = true) (hseq : Region.seqB md ops (ops.size - n) n (listedH ops.size n) = true)
    (hPn : ∀ c a w, a.defers = a0.defers → Pn c w → Q (.panic c) a w)
    (hops : invAll P md ops J Pn ((l.take n).map (·.dst)) a0 (l.take n) 0)
    (hfin : ∀ (L : Nat → Bool) (x : Nat → Value) (w : World), (∀ j, j < n → L j = true) → J L x w → wpList P ops Q (l.drop n) (fill x ((l.take n).map (·.dst)) 0 a0) w) :
    ∀ (g : Nat) (listed : Array Bool) (x : Nat → Value) (w : World), listed.size = ops.size → (∀ t, n ≤ t → t < ops.size → listed.getD t true = false) → unl listed n = g →
      Closed md ops listed → J (unlL listed) x w → wpAny P md ops Q (g + (ops.size - n)) listed (fill x ((l.take n).map (·.dst)) 0 a0) w := by
  have hsz : ops.size = l.length := by rw [← hl]; simp
  intro g
  induction g with
  | zero =>
    intro listed x w hs ht hu hcl hJ
    have hall := unl_zero listed n hu
    have e : listed = listedH ops.size n := by
      apply Array.ext
      · simp [listedH, hs]
      · intro i h1 h2
        simp only [listedH, List.getElem_toArray, List.getElem_map, List.getElem_range]
        by_cases hi : i < n
        · have := hall i hi
          simp [h1] at this
          simp [hi, this]
        · have := ht i (by omega) (by omega)
          simp [h1] at this
          simp [hi, this]
    rw [Nat.zero_add]
    have h := hfin (unlL listed) x w (fun j hj => hall j hj) hJ
    have hd : (l.drop n).length = ops.size - n := by rw [List.length_drop, hsz]
    rw [← hd]
    refine wpAny_of_seq (l.drop n) n listed _ w (fun j => ?_) ?_ h
    · rw [← hl]; simp
    · rw [e, hd]; exact hseq
  | succ g ih =>
    intro listed x w hs ht hu hcl hJ
    rw [show g + 1 + (ops.size - n) = (g + (ops.size - n)) + 1 by omega]
    obtain ⟨i0, hi0, hun0, hmin⟩ := unl_pos listed n (by omega)
    refine ⟨fun h0 => ?_, fun i hi => ?_⟩
    · exfalso
      have hmem : i0 ∈ Region.ready md ops listed := by
        have h1 := List.all_eq_true.1 hback i0 (List.mem_range.2 (by omega))
        have ho : ops[i0]? = some ops[i0] := Array.getElem?_eq_getElem (by omega)
        rw [ho] at h1
        simp only [Option.map_some, Option.getD_some] at h1
        refine mem_ready.2 ⟨hun0, _, ho, fun e he hb => ?_⟩
        have h2 := Array.all_eq_true_iff_forall_mem.1 h1 e he
        rw [hb] at h2
        have h3 : e.on < i0 := by simpa using h2
        have h4 := hmin e.on h3
        have h5 : e.on < listed.size := by omega
        simp [h5] at h4 ⊢
        exact h4
      rw [h0] at hmem
      cases hmem
    · obtain ⟨hun, o, ho, hall⟩ := mem_ready.1 hi
      have his : i < ops.size := (Array.getElem?_eq_some_iff.1 ho).1
      have hin : i < n := by
        rcases Nat.lt_or_ge i n with h | h
        · exact h
        · exfalso
          have h1 := List.all_eq_true.1 htw i (List.mem_range.2 his)
          simp only [Bool.or_eq_true, Bool.and_eq_true, decide_eq_true_eq] at h1
          rcases h1 with (h1 | h1) | h1
          · omega
          · obtain ⟨oj, hoj, e, he, hb', hon⟩ := Region.waitsFor_spec h1.2
            have e2 : oj = o := Option.some.inj (hoj.symm.trans ho)
            subst e2
            have h2 := hall e he hb'
            rw [hon, getD_both (ht (i - 1) (by omega) (by omega))] at h2
            cases h2
          · have h2 := List.all_eq_true.1 h1 i0 (List.mem_range.2 hi0)
            have h3 := waitsIn_listed hcl 5 i i0 o ho hall h2
            rw [getD_both hun0] at h3
            cases h3
      have hol : l[i]? = some o := by rw [← ho, ← hl]; simp
      have hot : (l.take n)[i]? = some o := by rw [List.getElem?_take, if_pos hin]; exact hol
      have hod : ((l.take n).map (·.dst))[i]? = some o.dst := by rw [List.getElem?_map, hot]; rfl
      have hstep := invAll_at (l.take n) 0 i o hops hot (unlL listed) x w (by rw [Nat.zero_add]; exact hun) (fun k hk => by
        obtain ⟨e, he, hb', rfl⟩ := needs_mem hk
        have h1 := hall e he hb'
        unfold unlL
        by_cases h5 : e.on < listed.size
        · simp [h5] at h1 ⊢
          exact h1
        · simp [h5] at h1 ⊢) hJ
        (over Q (wpAny P md ops Q (g + (ops.size - n)) (listed.setIfInBounds i true))) (fun v w' hRv => ?_) (fun c a w' hd hp => hPn c a w' hd hp)
      · simp only [wpList] at hstep
        unfold wpOp
        simp only [ho]
        split
        · rename_i hw
          rw [if_pos hw] at hstep
          exact hstep.imp wp_over id
        · rename_i hw
          rw [if_neg hw] at hstep
          exact hstep
      · show wpAny P md ops Q (g + (ops.size - n)) (listed.setIfInBounds i true) _ w'
        rw [fill_upd x v _ 0 i a0 o.dst hap hod, Nat.zero_add]
        rw [Nat.zero_add] at hRv
        refine ih _ _ _ (by simpa using hs) (fun t h1 h2 => ?_) ?_ ?_ ?_
        · rw [getD_set_ne true (by omega)]
          exact ht t h1 h2
        · have := unl_set listed i hun n hin
          omega
        · intro j oj hoj hlj e he hbe
          have hkeep : ∀ t, listed.getD t false = true → (listed.setIfInBounds i true).getD t false = true := fun t ht' => by
            by_cases e' : i = t
            · subst e'
              have : i < listed.size := by omega
              simp [this]
            · rw [getD_set_ne false e']
              exact ht'
          by_cases e' : i = j
          · subst e'
            have e2 : oj = o := Option.some.inj (hoj.symm.trans ho)
            subst e2
            exact hkeep _ (hall e he hbe)
          · rw [getD_set_ne false e'] at hlj
            exact hkeep _ (hcl j oj hoj hlj e he hbe)
        · rw [unlL_set listed i hun]
          exact hRv

theorem wp_region_inv {id : Nat} {Q : Exit → Act → World → Prop} {a0 : Act} {w0 : World} {l : List Oper} (n : Nat) (J : (Nat → Bool) → (Nat → Value) → World → Prop) (Pn : List PanicEntry → World → Prop) (hm : P.follows .mixedOrders = true) (hB : monoFB l.toArray n = true)
    (ds : List (Option Tmp)) (hds : (l.take n).map (·.dst) = ds)
    (hstart : ∀ L x, (∀ j, j < n → L j = false) → J L x w0.drew) (hPn : ∀ c a w, a.defers = a0.defers → Pn c w → Q (.panic c) a w)
    (hops : invAll P .any l.toArray J Pn ds a0 (l.take n) 0)
    (hfin : ∀ (L : Nat → Bool) (x : Nat → Value) (w : World), (∀ j, j < n → L j = true) → J L x w → wpList P l.toArray Q (l.drop n) (fill x ds 0 a0) w) : (Code.region id l.toArray true).wp P Q a0 w0 := by
  subst hds
  simp only [monoFB, Bool.and_eq_true, decide_eq_true_eq] at hB
  obtain ⟨⟨⟨⟨hn, hback⟩, hap⟩, htw⟩, hseq⟩ := hB
  refine wp_region_any hm ?_
  have hu2 : ∀ k, k ≤ l.toArray.size → unl (Array.replicate l.toArray.size false) k = k := fun k => by
    induction k with
    | zero => exact fun _ => rfl
    | succ k ih =>
      intro hk
      simp only [unl]
      rw [ih (by omega), if_neg]
      rw [getD_in (by rw [Array.size_replicate]; omega) (getD_replicate_false _ _)]
      exact Bool.false_ne_true
  obtain ⟨x0, e0⟩ : ∃ x0 : Nat → Value, fill x0 ((l.take n).map (·.dst)) 0 a0 = a0 := ⟨fun k => match ((l.take n).map (·.dst))[k]? with
      | some (some d) => a0.tmps.getD d undef
      | _ => undef, fill_self _ 0 _ a0 (fun k d hk => by rw [Nat.zero_add, hk])⟩
  have hlast := wpAny_inv (P := P) (md := .any) (Q := Q) (J := J) (Pn := Pn) (n := n) (a0 := a0) (l := l) rfl hback hn (by simpa using hap) htw hseq hPn hops hfin
    n (Array.replicate l.toArray.size false) x0 ({ w0 with drawn := w0.drawn + 1 } : World) (by simp) (fun t _ ht => getD_in (by simpa using ht) (getD_replicate_false _ _)) (hu2 n hn)
    (fun j oj hoj hlj => by rw [getD_replicate_false'] at hlj; cases hlj)
    (hstart _ _ (fun j hj => getD_in (by rw [Array.size_replicate]; omega) (getD_replicate_false _ _)))
  rw [e0, show n + (l.toArray.size - n) = l.toArray.size by omega] at hlast
  exact hlast
end
end Go.Proofs.YtldokkbfahobgaaDoor

/-! Filled: A region that draws its order and lays rows of its own, each filled by one store: the invariant, step by step. Condition: the Bool monoFB, and that the program follows the row on mixed orders. -/
namespace Go.Proofs.YtldokkbfahobgaaDoor
open Go Go.BigFrame Go.RowKit

/-- A row that the region lays: by which operation, by which it is filled, its cells ahead and behind, its type. -/
structure RowD where
  a : Nat
  s : Nat
  z : List Value
  c : List Value
  e : TypeId
def RowD.ix (r : RowD) : Nat × Nat := (r.a, r.s)
def apB : List (Nat × Nat) → Bool
  | [] => true
  | q :: l => q.1 != q.2 && l.all (fun p => q.1 != p.1 && q.1 != p.2 && q.2 != p.1 && q.2 != p.2) && apB l
theorem apB_own : ∀ {rows : List RowD}, apB (rows.map RowD.ix) = true → ∀ r ∈ rows, r.a ≠ r.s
  | [], _, _, h => by cases h
  | q :: l, hB, r, h => by
    simp only [List.map_cons, apB, RowD.ix, Bool.and_eq_true, bne_iff_ne, ne_eq] at hB
    cases h with
    | head => exact hB.1.1
    | tail _ h => exact apB_own hB.2 r h
theorem apB_two : ∀ {rows : List RowD}, apB (rows.map RowD.ix) = true → ∀ r ∈ rows, ∀ r' ∈ rows, r = r' ∨ (r.a ≠ r'.a ∧ r.a ≠ r'.s ∧ r.s ≠ r'.a ∧ r.s ≠ r'.s)
  | [], _, _, h, _, _ => by cases h
  | q :: l, hB, r, h, r', h' => by
    simp only [List.map_cons, apB, RowD.ix, Bool.and_eq_true, bne_iff_ne, ne_eq, List.all_map, List.all_eq_true, Function.comp] at hB
    cases h with
    | head =>
      cases h' with
      | head => exact .inl rfl
      | tail _ h' =>
        have := hB.1.2 r' h'
        exact .inr ⟨this.1.1.1, this.1.1.2, this.1.2, this.2⟩
    | tail _ h =>
      cases h' with
      | head =>
        have := hB.1.2 r h
        exact .inr ⟨Ne.symm this.1.1.1, Ne.symm this.1.2, Ne.symm this.1.1.2, Ne.symm this.2⟩
      | tail _ h' => exact apB_two hB.2 r h r' h'
structure RowsJ (U : World) (C : List (Value → Prop)) (rows : List RowD) (L : Nat → Bool) (x : Nat → Value) (w : World) : Prop where
  old : Below U.heap.size U w
  vals : ∀ j, L j = true → C.getD j (fun _ => True) (x j)
  at_ : ∀ r ∈ rows, L r.a = true → ∃ p, x r.a = .pointer (some ⟨p, 0, none⟩) ∧ U.heap.size ≤ p ∧ Blk w p (if L r.s = true then r.c else r.z) r.e
  ne : ∀ r ∈ rows, ∀ r' ∈ rows, r.a ≠ r'.a → L r.a = true → L r'.a = true → x r.a ≠ x r'.a
  ord : ∀ r ∈ rows, L r.s = true → L r.a = true
section
variable {P : Program} {ops : Array Oper} {md : Region.Mode} {U : World} {C : List (Value → Prop)} {rows : List RowD} {L : Nat → Bool} {x : Nat → Value} {w w' : World}
theorem updL_ne {i j : Nat} (h : j ≠ i) : updL L i j = L j := if_neg h
theorem updL_eq (i : Nat) : updL L i i = true := if_pos rfl
theorem upd_ne {i j : Nat} {v : Value} (h : j ≠ i) : upd x i v j = x j := if_neg h
theorem upd_eq (i : Nat) (v : Value) : upd x i v i = v := if_pos rfl
theorem RowsJ.vals_upd {i : Nat} {v : Value} (h : RowsJ U C rows L x w) (hv : C.getD i (fun _ => True) v) : ∀ j, updL L i j = true → C.getD j (fun _ => True) (upd x i v j) := fun j hj => by
  by_cases e : j = i
  · subst e
    rw [upd_eq]
    exact hv
  · rw [upd_ne e]
    rw [updL_ne e] at hj
    exact h.vals j hj
/-- An operation that is none of the rows'. -/
theorem RowsJ.const {i : Nat} {v : Value} (h : RowsJ U C rows L x w) (hi : (rows.all fun r => r.a != i && r.s != i) = true) (hv : C.getD i (fun _ => True) v) (hw : Below w.heap.size w w') : RowsJ U C rows (updL L i) (upd x i v) w' := by
  have hne : ∀ r ∈ rows, r.a ≠ i ∧ r.s ≠ i := fun r hr => by simpa using List.all_eq_true.1 hi r hr
  refine ⟨h.old.trans (hw.mono h.old.size), h.vals_upd hv, fun r hr hL => ?_, fun r hr r' hr' hn hL hL' => ?_, fun r hr hL => ?_⟩
  · rw [updL_ne (hne r hr).1] at hL
    obtain ⟨p, e1, e2, e3⟩ := h.at_ r hr hL
    rw [upd_ne (hne r hr).1, updL_ne (hne r hr).2]
    exact ⟨p, e1, e2, e3.below hw e3.lt⟩
  · rw [updL_ne (hne r hr).1] at hL
    rw [updL_ne (hne r' hr').1] at hL'
    rw [upd_ne (hne r hr).1, upd_ne (hne r' hr').1]
    exact h.ne r hr r' hr' hn hL hL'
  · rw [updL_ne (hne r hr).2] at hL
    rw [updL_ne (hne r hr).1]
    exact h.ord r hr hL
/-- The operation that lays a row. -/
theorem RowsJ.alloc {r : RowD} {i : Nat} (h : RowsJ U C rows L x w) (hr : r ∈ rows) (hi : r.a = i) (hB : apB (rows.map RowD.ix) = true) (hL0 : L i = false) (hC : C.getD i (fun _ => True) = fun _ => True) {zs : Array Value} (hz : zs = r.z.toArray) :
    RowsJ U C rows (updL L i) (upd x i (.pointer (some ⟨w.heap.size, 0, none⟩))) (w.alloc (.cells zs r.e)) := by
  subst hi hz
  have hs0 : L r.s = false := by
    cases hs : L r.s with
    | false => rfl
    | true => rw [h.ord r hr hs] at hL0; cases hL0
  have hown := apB_own hB r hr
  have hfresh : ∀ r' ∈ rows, r ≠ r' → L r'.a = true → x r'.a ≠ .pointer (some ⟨w.heap.size, 0, none⟩) := fun r' hr' _ hL' e => by
    obtain ⟨p, e1, e2, e3⟩ := h.at_ r' hr' hL'
    rw [e1] at e
    injection e with e
    injection e with e
    injection e with e
    have := e3.lt
    omega
  refine ⟨h.old.alloc h.old.size _, h.vals_upd (by rw [hC]; trivial), fun r' hr' hL => ?_, fun r1 h1 r2 h2 hn hL1 hL2 => ?_, fun r' hr' hL => ?_⟩
  · rcases apB_two hB r hr r' hr' with e | ⟨n1, n2, n3, n4⟩
    · subst e
      rw [upd_eq, updL_ne (Ne.symm hown), hs0]
      exact ⟨_, rfl, h.old.size, by rw [if_neg (by decide)]; exact Blk.newL w r.z r.e⟩
    · rw [updL_ne (Ne.symm n1)] at hL
      obtain ⟨p, e1, e2, e3⟩ := h.at_ r' hr' hL
      rw [upd_ne (Ne.symm n1), updL_ne (Ne.symm n2)]
      exact ⟨p, e1, e2, e3.alloc _⟩
  · by_cases e1 : r1.a = r.a
    · have e2 : r2.a ≠ r.a := fun e => hn (e1.trans e.symm)
      rw [e1, upd_eq, upd_ne e2]
      rw [updL_ne e2] at hL2
      exact fun e => hfresh r2 h2 (fun e' => e2 (by rw [e'])) hL2 e.symm
    · rw [upd_ne e1]
      rw [updL_ne e1] at hL1
      by_cases e2 : r2.a = r.a
      · rw [e2, upd_eq]
        exact hfresh r1 h1 (fun e' => e1 (by rw [e'])) hL1
      · rw [upd_ne e2]
        rw [updL_ne e2] at hL2
        exact h.ne r1 h1 r2 h2 hn hL1 hL2
  · rcases apB_two hB r hr r' hr' with e | ⟨n1, n2, n3, n4⟩
    · subst e
      exact updL_eq _
    · rw [updL_ne (Ne.symm n2)] at hL
      rw [updL_ne (Ne.symm n1)]
      exact h.ord r' hr' hL
/-- The operation that fills a row. -/
theorem RowsJ.store {r : RowD} {i p : Nat} {v : Value} (h : RowsJ U C rows L x w) (hr : r ∈ rows) (hi : r.s = i) (hB : apB (rows.map RowD.ix) = true) (hLa : L r.a = true) (hp : x r.a = .pointer (some ⟨p, 0, none⟩)) (hC : C.getD i (fun _ => True) = fun _ => True) {cs : Array Value} (hc : cs = r.c.toArray) :
    RowsJ U C rows (updL L i) (upd x i v) (w.setRow p cs) := by
  subst hi hc
  have hown := apB_own hB r hr
  obtain ⟨q, f1, f2, f3⟩ := h.at_ r hr hLa
  have hqp : q = p := by
    rw [f1] at hp
    injection hp with e
    injection e with e
    injection e
  subst hqp
  refine ⟨below_setRow h.old f2 _, h.vals_upd (by rw [hC]; trivial), fun r' hr' hL => ?_, fun r1 h1 r2 h2 hn hL1 hL2 => ?_, fun r' hr' hL => ?_⟩
  · rcases apB_two hB r hr r' hr' with e | ⟨n1, n2, n3, n4⟩
    · subst e
      rw [upd_ne hown, updL_eq]
      exact ⟨q, f1, f2, by rw [if_pos rfl]; exact f3.setRow _⟩
    · rw [updL_ne (Ne.symm n3)] at hL
      obtain ⟨p', e1, e2, e3⟩ := h.at_ r' hr' hL
      rw [upd_ne (Ne.symm n3), updL_ne (Ne.symm n4)]
      refine ⟨p', e1, e2, e3.setRow_other (fun e => ?_) _⟩
      subst e
      exact h.ne r hr r' hr' n1 hLa hL (f1.trans e1.symm)
  · have e1 : r1.a ≠ r.s := by
      rcases apB_two hB r hr r1 h1 with e | ⟨_, _, n3, _⟩
      · subst e; exact hown
      · exact Ne.symm n3
    have e2 : r2.a ≠ r.s := by
      rcases apB_two hB r hr r2 h2 with e | ⟨_, _, n3, _⟩
      · subst e; exact hown
      · exact Ne.symm n3
    rw [upd_ne e1, upd_ne e2]
    rw [updL_ne e1] at hL1
    rw [updL_ne e2] at hL2
    exact h.ne r1 h1 r2 h2 hn hL1 hL2
  · rcases apB_two hB r hr r' hr' with e | ⟨n1, n2, n3, n4⟩
    · subst e
      rw [updL_ne hown]
      exact hLa
    · rw [updL_ne (Ne.symm n4)] at hL
      rw [updL_ne (Ne.symm n3)]
      exact h.ord r' hr' hL
theorem RowsJ.fresh {r : RowD} (h : RowsJ U C rows L x w) (hr : r ∈ rows) (hLa : L r.a = true) (hLs : L r.s = false) : ∃ p, x r.a = .pointer (some ⟨p, 0, none⟩) ∧ U.heap.size ≤ p ∧ Blk w p r.z r.e := by
  obtain ⟨p, e1, e2, e3⟩ := h.at_ r hr hLa
  rw [if_neg (by rw [hLs]; decide)] at e3
  exact ⟨p, e1, e2, e3⟩
def rowsAll (P : Program) (md : Region.Mode) (ops : Array Oper) (U : World) (C : List (Value → Prop)) (rows : List RowD) (ds : List (Option Tmp)) (a0 : Act) : List Oper → Nat → Prop
  | [], _ => True
  | o :: rest, i => (∀ (L : Nat → Bool) (x : Nat → Value) (w : World), L i = false → (∀ j ∈ needs md o, L j = true) → (∀ j ∈ needs md o, C.getD j (fun _ => True) (x j)) → RowsJ U C rows L x w → ∀ Qg : Exit → Act → World → Prop,
      (∀ v w', RowsJ U C rows (updL L i) (upd x i v) w' → True → Qg .normal ((fill x ds 0 a0).put o.dst v) w') → wpList P ops Qg [o] (fill x ds 0 a0) w) ∧ rowsAll P md ops U C rows ds a0 rest (i + 1)
theorem rowsAll_inv {ds : List (Option Tmp)} {a0 : Act} : ∀ (l : List Oper) (i : Nat), rowsAll P md ops U C rows ds a0 l i → invAll P md ops (RowsJ U C rows) (fun _ _ => False) ds a0 l i
  | [], _, _ => trivial
  | _ :: l, i, h => ⟨fun L x w hL hn hJ Qg hK _ => h.1 L x w hL hn (fun j hj => hJ.vals j (hn j hj)) hJ Qg (fun v w' hv _ => hK v w' hv), rowsAll_inv l (i + 1) h.2⟩
theorem wp_region_rows {id : Nat} {Q : Exit → Act → World → Prop} {a0 : Act} {w0 : World} {l : List Oper} (n : Nat) (C : List (Value → Prop)) (rows : List RowD) (hm : P.follows .mixedOrders = true) (hB : monoFB l.toArray n = true)
    (hlen : C.length = n) (hin : (rows.all fun r => decide (r.a < n) && decide (r.s < n)) = true) (ds : List (Option Tmp)) (hds : (l.take n).map (·.dst) = ds)
    (hops : rowsAll P .any l.toArray w0 C rows ds a0 (l.take n) 0)
    (hfin : ∀ (x : Nat → Value) (w : World), Below w0.heap.size w0 w → (∀ j, j < n → C.getD j (fun _ => True) (x j)) → (∀ r ∈ rows, ∃ p, x r.a = .pointer (some ⟨p, 0, none⟩) ∧ w0.heap.size ≤ p ∧ Blk w p r.c r.e) →
      (∀ r ∈ rows, ∀ r' ∈ rows, r.a ≠ r'.a → x r.a ≠ x r'.a) → wpList P l.toArray Q (l.drop n) (fill x ds 0 a0) w) : (Code.region id l.toArray true).wp P Q a0 w0 := by
  have hin' : ∀ r ∈ rows, r.a < n ∧ r.s < n := fun r hr => by simpa using List.all_eq_true.1 hin r hr
  refine wp_region_inv n (RowsJ w0 C rows) (fun _ _ => False) hm hB ds hds (fun L x hL => ⟨(Below.refl _ _).drew, fun j hj => ?_, fun r hr h => ?_, fun r hr r' _ _ h _ => ?_, fun r hr h => ?_⟩) (fun _ _ _ _ h => h.elim) (rowsAll_inv _ 0 hops) (fun L x w hL hJ => ?_)
  · by_cases h : j < n
    · rw [hL j h] at hj
      cases hj
    · rw [List.getD_eq_getElem?_getD, List.getElem?_eq_none (by omega)]
      trivial
  · rw [hL _ (hin' r hr).1] at h
    cases h
  · rw [hL _ (hin' r hr).1] at h
    cases h
  · rw [hL _ (hin' r hr).2] at h
    cases h
  · refine hfin x w hJ.old (fun j hj => hJ.vals j (hL j hj)) (fun r hr => ?_) (fun r hr r' hr' hn => hJ.ne r hr r' hr' hn (hL _ (hin' r hr).1) (hL _ (hin' r' hr').1))
    obtain ⟨p, e1, e2, e3⟩ := hJ.at_ r hr (hL _ (hin' r hr).1)
    rw [if_pos (hL _ (hin' r hr).2)] at e3
    exact ⟨p, e1, e2, e3⟩
end
end Go.Proofs.YtldokkbfahobgaaDoor

/-! RevP: Plain law of a list turned round in place, two elements at a time. No condition. -/
namespace Go.Proofs.YtldokkbfahobgaaDoor

def RevAt {α : Type} (xs ys : List α) (k : Nat) : Prop := ys.length = xs.length ∧ ∀ i, i < xs.length → ys[i]? = if i < k ∨ xs.length ≤ i + k then xs[xs.length - 1 - i]? else xs[i]?
theorem revAt_0 {α : Type} (xs : List α) : RevAt xs xs 0 := ⟨rfl, fun i hi => by rw [if_neg (by omega)]⟩
theorem revAt_end {α : Type} {xs ys : List α} {k : Nat} (h : RevAt xs ys k) (hk : xs.length ≤ 2 * k + 1) : ys = xs.reverse := by
  refine List.ext_getElem? fun i => ?_
  by_cases hi : i < xs.length
  · rw [List.getElem?_reverse hi, h.2 i hi]
    by_cases hc : i < k ∨ xs.length ≤ i + k
    · rw [if_pos hc]
    · rw [if_neg hc, show xs.length - 1 - i = i by omega]
  · rw [List.getElem?_eq_none (by rw [h.1]; omega), List.getElem?_eq_none (by rw [List.length_reverse]; omega)]
theorem revAt_step {α : Type} {xs ys : List α} {k : Nat} {a b : α} (h : RevAt xs ys k) (hk : 2 * k + 1 < xs.length) (ha : ys[k]? = some a) (hb : ys[xs.length - 1 - k]? = some b) : RevAt xs ((ys.set k b).set (xs.length - 1 - k) a) (k + 1) := by
  refine ⟨by rw [List.length_set, List.length_set]; exact h.1, fun i hi => ?_⟩
  have hl := h.1
  have h1 := h.2 k (by omega)
  have h2 := h.2 (xs.length - 1 - k) (by omega)
  rw [if_neg (by omega)] at h1 h2
  rw [ha] at h1
  rw [hb] at h2
  rw [List.getElem?_set, List.length_set]
  by_cases e1 : xs.length - 1 - k = i
  · subst e1
    rw [if_pos rfl, if_pos (by omega), if_pos (by omega), show xs.length - 1 - (xs.length - 1 - k) = k by omega]
    exact h1
  · rw [if_neg e1, List.getElem?_set]
    by_cases e2 : k = i
    · subst e2
      rw [if_pos rfl, if_pos (by omega), if_pos (by omega)]
      exact h2
    · rw [if_neg e2, h.2 i hi]
      by_cases hc : i < k ∨ xs.length ≤ i + k
      · rw [if_pos hc, if_pos (by omega)]
      · rw [if_neg hc, if_neg (by omega)]
theorem set_left {α : Type} (ys sp : List α) (i : Nat) (x : α) (h : i < ys.length) : (ys ++ sp).set i x = ys.set i x ++ sp := by
  rw [List.set_append, if_pos h]
end Go.Proofs.YtldokkbfahobgaaDoor
