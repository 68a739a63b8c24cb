/- The walks of a stack's push and pop. Conditions: the stack's block, and the slice that it owns, lie as told; at most 2^40 hashes. -/
import Derived.Test.YtkfplliipogagaaDoorTreeC
import Derived.Test.YtkfplliipogagaaDoorMonoZ
import Derived.Test.YtkfplliipogagaaDoorHashB
namespace Go.Proofs.YtkfplliipogagaaDoor
open Go.RowKit

/-- A front's block: its slice, its number; the slice is its own, behind V. -/
def St (w : World) (b V : Nat) (x : Value) (st : List H) : Prop := b < V ∧ V ≤ w.heap.size ∧ ∃ sv, Blk w b [sv, x] 35 ∧ w.ownsRow V 24 32 sv st.length (bytesV (hflat st))
/-- The same, and the slice's block lies below U. -/
def StU (w : World) (b V U : Nat) (x : Value) (st : List H) : Prop := b < V ∧ V ≤ w.heap.size ∧ ∃ sv, Blk w b [sv, x] 35 ∧ w.ownsRow V 24 32 sv st.length (bytesV (hflat st)) ∧ ∀ k, sv.ownBlock = some k → k < U
theorem St.u {w : World} {b V : Nat} {x : Value} {st : List H} (h : St w b V x st) : StU w b V w.heap.size x st := by
  obtain ⟨h0, hV, sv, h1, h2⟩ := h
  exact ⟨h0, hV, sv, h1, h2, fun k hk => (h2.lt k hk).2⟩
theorem StU.st {w : World} {b V U : Nat} {x : Value} {st : List H} (h : StU w b V U x st) : St w b V x st := by
  obtain ⟨h0, hV, sv, h1, h2, _⟩ := h
  exact ⟨h0, hV, sv, h1, h2⟩
theorem StU.lt {w : World} {b V U : Nat} {x : Value} {st : List H} (h : StU w b V U x st) : b < w.heap.size := Nat.lt_of_lt_of_le h.1 h.2.1
theorem StU.keep {w w' : World} {b V U : Nat} {x : Value} {st : List H} (h : StU w b V U x st) (hb : Below w.heap.size w w') : StU w' b V U x st := by
  obtain ⟨h0, hV, sv, h1, h2, h3⟩ := h
  exact ⟨h0, Nat.le_trans hV hb.size, sv, h1.below hb h1.lt, ownsRow_below h2 hb (ownsRow_block h2), h3⟩
/-- Nothing has turned but what is the front's own. -/
structure Bes (b V : Nat) (w w' : World) : Prop where
  old : Below b w w'
  oth : ∀ k, k < V → k ≠ b → k < w.heap.size → w'.heap[k]? = w.heap[k]?
theorem Bes.of {b V : Nat} {w w' : World} (h : Below w.heap.size w w') (hb : b ≤ w.heap.size) : Bes b V w w' := ⟨h.mono hb, fun k _ _ hk => h.block k hk⟩
theorem Bes.trans {b V : Nat} {u w w' : World} (h : Bes b V u w) (h' : Bes b V w w') : Bes b V u w' :=
  ⟨h.old.trans h'.old, fun k h1 h2 h3 => (h'.oth k h1 h2 (Nat.lt_of_lt_of_le h3 h.old.size)).trans (h.oth k h1 h2 h3)⟩
theorem Bes.grown {b V : Nat} {u w w' : World} {row : Option Nat} (h : Bes b V u w) (hg : w.grownBy w' row) (hb : b ≤ w.heap.size) (hr : ∀ k, row = some k → k = b ∨ (b ≤ k ∧ V ≤ k)) : Bes b V u w' :=
  ⟨h.old.grown hg hb (fun k hk => by rcases hr k hk with rfl | h <;> omega), fun k h1 h2 h3 => (hg.block k (Nat.lt_of_lt_of_le h3 h.old.size) (fun e => by rcases hr k e.symm with rfl | h <;> omega)).trans (h.oth k h1 h2 h3)⟩
theorem Bes.set {b V : Nat} {u w : World} (h : Bes b V u w) (i : Nat) (v : Value) : Bes b V u (w.setCell ⟨b, i, none⟩ v) :=
  ⟨h.old.setCell (Nat.le_refl _) _, fun k h1 h2 h3 => (Below.heap_setCell _ _ _ _ h2).trans (h.oth k h1 h2 h3)⟩
theorem Bes.row {b V r : Nat} {u w : World} (h : Bes b V u w) (cs : Array Value) (hr : u.heap.size ≤ r) (hb : b ≤ r) : Bes b V u (w.setRow r cs) :=
  ⟨below_setRow h.old hb _, fun k h1 h2 h3 => (Go.setRow_other _ _ _ _ (by omega)).trans (h.oth k h1 h2 h3)⟩
theorem Bes.drewN {b V : Nat} {u w : World} (h : Bes b V u w) (n : Nat) : Bes b V u (w.drewN n) := ⟨below_drewN h.old n, h.oth⟩
theorem Bes.blk {b V r : Nat} {w w' : World} {l : List Value} {e : TypeId} (h : Bes b V w w') (hr : Blk w r l e) (h1 : r < V) (h2 : r ≠ b) : Blk w' r l e := (h.oth r h1 h2 hr.lt).trans hr
theorem calls_world {P : Program} {f : FuncId} {args : Array Value} {w w' : World} {R : Ending → World → Prop} (h : w' = w) (hc : Calls P f args w' R) : Calls P f args w R := h ▸ hc
theorem bytesV_snoc (st : List H) (h : H) : bytesV (hflat (st ++ [h])) = bytesV (hflat st) ++ bytesV h.b := by
  rw [hflat_app, bytesV_app]
  simp [hflat]
theorem St.below {w w' : World} {b V B : Nat} {x : Value} {st : List H} (h : St w b V x st) (hb : Below B w w') (h1 : ∀ k, k < w.heap.size → k < B) : St w' b V x st := by
  obtain ⟨h0, hV, sv, h2, h3⟩ := h
  exact ⟨h0, Nat.le_trans hV hb.size, sv, h2.below hb (h1 _ h2.lt), ownsRow_below h3 hb (fun g hg => h1 _ (h3.lt g hg).2)⟩
theorem St.keep {w w' : World} {b V : Nat} {x : Value} {st : List H} (h : St w b V x st) (hb : Below w.heap.size w w') : St w' b V x st := h.below hb (fun _ h => h)
theorem St.lt {w : World} {b V : Nat} {x : Value} {st : List H} (h : St w b V x st) : b < w.heap.size := Nat.lt_of_lt_of_le h.1 h.2.1
set_option maxRecDepth 100000 in
set_option maxHeartbeats 1000000 in
theorem push_any (w : World) (b V : Nat) (x : Value) (st : List H) (h : H) (hS : St w b V x st) (hl : st.length ≤ 1099511627776) :
    Calls Tryd.prog 50 #[.pointer (some ⟨b, 0, none⟩), hv h] w fun e w' => e = .returned (.tuple #[]) ∧ St w' b V x (st ++ [h]) ∧ Bes b V w w' := by
  obtain ⟨hbV, hVw, sv, hB, hO⟩ := hS
  obtain ⟨i0, hi, hz0, hz1, hz2⟩ := info_parts info_hash
  have hlt := hB.lt
  obtain ⟨w1, hw1⟩ : ∃ w1, w1 = w.alloc (.cells (bytesV h.b).toArray 24) := ⟨_, rfl⟩
  have hb1 : Below w.heap.size w w1 := by rw [hw1]; (repeat (first | with_reducible assumption | with_reducible exact Below.refl _ _ | ((with_reducible refine Below.setCell ?_ ?_ _); rotate_left; focus (first | omega | (simp; done) | (simp; omega))) | ((with_reducible refine Below.alloc ?_ ?_ _); rotate_left; focus (first | omega | (simp; done) | (simp; omega))) | ((with_reducible refine below_setRow ?_ ?_ _); rotate_left; focus (first | omega | (simp; done) | (simp; omega))) | (with_reducible refine below_drewN ?_ _) | (with_reducible refine Below.drew ?_)))
  have hs1 : w1.heap.size = w.heap.size + 1 := by rw [hw1]; simp
  have hX : Blk w1 w.heap.size (bytesV h.b) 24 := by rw [hw1]; exact Blk.newL w _ _
  have hB1 := hB.below hb1 hlt
  have hO1 := ownsRow_below hO hb1 (ownsRow_block hO)
  obtain ⟨sa, sc, rfl⟩ := ownsRow_form hO
  have HX := Lib.hid hX
  have HB := Lib.hid hB1
  have HO := Lib.hid hO1
  have HI := Lib.hid hi
  clear hX hB1 hO1 hB hO hi
  go_enter Tryd.func50, Tryd.ntmps50
  unfold hv
  go_wp2_with fail
  refine wp_world hw1 ?_
  have hcB : ∀ wr : World, Below w1.heap.size w1 wr → wr.cell? ⟨b, 0, none⟩ = some (.slice sa st.length sc) := fun wr hb => (HB.out.below hb (by omega)).cell rfl
  have HC := Lib.hid hcB
  clear hcB
  refine wp_region_monoZ 7 (w1.heap.size) [0] [7, 8, 9, 10] [] [(fun v _ => v = .pointer (some ⟨b, 0, none⟩)), (fun v _ => v = .pointer (some ⟨b, 0, none⟩)), (fun v _ => v = .pointer (some ⟨b, 0, none⟩)), (fun v _ => v = .pointer (some ⟨b, 0, none⟩)), (fun v _ => v = .slice sa st.length sc), (fun v _ => v = .agg (bytesV h.b).toArray), (fun v w => Hs w v [h])] (by kernel_rfl) (by kernel_rfl) (by decide) (fun _ _ _ d _ h => by cases d <;> exact h) (Nat.le_refl _) ?mkept _ rfl _ _ rfl rfl ?mpure
  case mkept =>
    repeat (refine List.forall_mem_cons.2 ⟨by first | exact fun _ _ _ _ h => h | exact fun _ _ _ hb h => Parts.below h hb | exact fun _ _ _ hb h => IsSl.below h hb | exact fun _ _ _ hb h => Hs.below h hb | exact fun _ _ _ hb h => RowAt.below h hb | exact fun _ _ _ hb ⟨vs, h⟩ => ⟨vs, Parts.below h hb⟩, ?_⟩)
    exact fun _ h => by cases h
  simp only [List.map_cons, List.map_nil, List.getD_cons_succ, List.getD_cons_zero]
  refine wpPure_move _ rfl rfl ?_
  refine wpPure_nil ⟨?mops, ?mz, ?mfin⟩
  case mz =>
    intro j hj hjn w
    simp only [List.mem_cons, List.not_mem_nil, or_false] at hj
    first
    | (rcases hj with rfl | rfl | rfl | rfl <;> first | rfl | (exfalso; omega))
    | (rcases hj with rfl | rfl | rfl <;> first | rfl | (exfalso; omega))
    | (rcases hj with rfl | rfl <;> first | rfl | (exfalso; omega))
    | (subst hj; first | rfl | (exfalso; omega))
  case mops =>
    simp only [List.take_succ_cons, List.take_zero, monoAllF, List.getD_cons_zero, List.getD_cons_succ]
    iterate 7
    
     (refine ⟨fun x wr hb hd Qg hK => ?_, ?_⟩
      · as_aux_lemma =>
        simp only [fill, Act.put, List.setIfInBounds_toArray, List.set_cons_succ, List.set_cons_zero, needs, Region.binds, List.filter_cons, List.filter_nil, List.map_cons, List.map_nil, if_true, List.mem_cons, List.not_mem_nil, or_false, forall_eq, List.getD_cons_zero, List.getD_cons_succ, false_implies, implies_true] at hd hK ⊢
        (try simp only [hd] at hK ⊢)
        first
        | (have hBr := HX.out.below hb (by omega); refine wpList_load_rowIf rfl 24 (.tmp 3) rfl _ rfl 24 (bytesV h.b).toArray (0, 0) _ (by exact hBr) Tryd.underlying24 rfl (hv_row h) ?_; exact hK _ _ rfl (by first | exact trivial | exact fun h => absurd h (by decide) | exact fun _ => new_alloc _ _) (Below.refl _ _))
        | (refine wpList_hashes rfl [h] 1 _ rfl rfl (by decide) (by decide) (by simp only [List.map_toArray, List.map_cons, List.map_nil]; rfl) ?_; exact hK _ _ (hs_new wr [h] _ rfl rfl) (by first | exact trivial | exact fun h => absurd h (by decide) | exact fun _ => new_alloc _ _) ((Below.refl _ _).alloc (Nat.le_refl _) _))
        | (have c0 := HC.out wr hb; go_wp2_with fail; exact hK _ _ rfl (by first | exact trivial | exact fun h => absurd h (by decide) | exact fun _ => new_alloc _ _) (Below.refl _ _))
        | (go_wp2_with fail; exact hK _ _ rfl (by first | exact trivial | exact fun h => absurd h (by decide) | exact fun _ => new_alloc _ _) (Below.refl _ _)))
    trivial
  case mfin =>
    intro y wr hb hR _
    have x0 := hR 0 (by decide)
    have x4 := hR 4 (by decide)
    have x6 := hR 6 (by decide)
    simp only [List.getD_cons_zero, List.getD_cons_succ] at x0 x4 x6
    have HX6 := Lib.hid x6
    have HB2 := Lib.hid (HB.out.below hb (by omega))
    have HO2 := Lib.hid (ownsRow_below HO.out hb (ownsRow_block HO.out))
    have hw2 : Below w.heap.size w wr := hb1.trans (hb.mono hb1.size)
    clear hR hb hb1 HX HB HO HC x6
    generalize List.toArray _ = L0
    simp only [List.take_succ_cons, List.take_zero, List.map_cons, List.map_nil, fill, Act.put, List.setIfInBounds_toArray, List.set_cons_succ, List.set_cons_zero, x0, x4]
    clear x0 x4
    have hsz := hw2.size
    go_wp2_with (first
      | (at_builtin; refine wpList_app rfl (.tmp 8) (.tmp 10) 31 rfl V 24 i0 (.agg z32.toArray) 32 32 Tryd.underlying31 HI.out hz0 hz1 hz2 rfl (by decide) (.slice sa st.length sc) _ _ rfl (by exact HO2.out) _ 1 (bytesV (hflat [h])) rfl (by exact HX6.out) (by unfold maxLen; omega) (by omega) (by omega) ?_; intro a3 cap3 w3 hown3 hgrow3 _;
         have hB3 := HB2.out.grown hgrow3 (fun e => by have := (HO2.out.lt _ e.symm).1; omega); have c3 : w3.cell? ⟨b, 0, none⟩ = some (.slice sa st.length sc) := hB3.cell rfl; have f3 := hB3.frozen 0; have HB3 := Lib.hid hB3; have HO3 := Lib.hid hown3; have HG3 := Lib.hid hgrow3; clear hB3 hown3 hgrow3)
      | fail)
    have hO3 := HO3.out
    rw [← bytesV_app, ← hflat_app] at hO3
    have hlt3 : b < wr.heap.size := HB2.out.lt
    go_end0
    refine ⟨rfl, ⟨hbV, by have := HG3.out.size; simp <;> omega, _, HB3.out.set 0 _, ?_⟩, ((Bes.of hw2 (Nat.le_of_lt hlt)).grown HG3.out (by omega) (fun k hk => by have := (HO2.out.lt k hk).1; omega)).set 0 _⟩
    rw [List.length_append]
    exact ownsRow_setCell_below hO3 hbV _

theorem own_cut {w : World} {base : Nat} {a : Option Addr} {n c m : Nat} {xs : List Value} {e : TypeId} {size : Nat} (h : w.ownsRow base e size (.slice a n c) n xs) (hm : m ≤ n) (hn : 0 < n) : w.ownsRow base e size (.slice a m c) m (xs.take (m * size)) := by
  have hm' : m * size ≤ n * size := Nat.mul_le_mul_right _ hm
  refine ⟨by rw [List.length_take, h.1]; omega, ?_⟩
  rcases h.2 with ⟨h1, h2⟩ | ⟨g, cap, cur, h1, h2, h3, h4, h5, h6, h7⟩
  · omega
  · cases h1
    exact .inr ⟨g, c, cur, rfl, h2, h3, by omega, h5, h6, by rw [← h7, List.take_take, Nat.min_eq_left hm']⟩
theorem grown_alloc {w w' : World} {row : Option Nat} (h : w.grownBy w' row) (o : Obj) : w.grownBy (w'.alloc o) row :=
  ⟨h.os, h.tape, h.output, Nat.le_trans h.size (by simp), fun k hk hne => (heap_alloc_old w' o k (Nat.lt_of_lt_of_le hk h.size)).trans (h.block k hk hne)⟩
theorem below_grown {w w' : World} {row : Option Nat} (h : Below w.heap.size w w') : w.grownBy w' row :=
  ⟨h.os, h.tape, h.output, h.size, fun k hk _ => h.block k hk⟩
theorem grown_trans {a b c : World} {row : Option Nat} (h : a.grownBy b row) (h' : b.grownBy c row) : a.grownBy c row :=
  ⟨h'.os.trans h.os, h'.tape.trans h.tape, h'.output.trans h.output, Nat.le_trans h.size h'.size, fun k hk hne => (h'.block k (Nat.lt_of_lt_of_le hk h.size) hne).trans (h.block k hk hne)⟩
theorem grown_set {w w' : World} {b : Nat} (h : w.grownBy w' (some b)) (i : Nat) (v : Value) : w.grownBy (w'.setCell ⟨b, i, none⟩ v) (some b) :=
  ⟨h.os, h.tape, h.output, by simpa using h.size, fun k hk hne => (Below.heap_setCell _ _ _ _ (fun e => hne (by rw [e]))).trans (h.block k hk hne)⟩
theorem ownsRow_set_row {w : World} {base : Nat} {e : TypeId} {size : Nat} {v : Value} {n : Nat} {xs : List Value} (h : w.ownsRow base e size v n xs) {r : Nat} (cs : Array Value) (hr : ∀ k, v.ownBlock = some k → r ≠ k) : (w.setRow r cs).ownsRow base e size v n xs := by
  refine ⟨h.1, ?_⟩
  rcases h.2 with hn | ⟨g, cap, cur, rfl, hb, hg, rest⟩
  · exact .inl hn
  · exact .inr ⟨g, cap, cur, rfl, hb, (Go.setRow_other _ _ _ _ (Ne.symm (hr g rfl))).trans hg, rest⟩
theorem slice_cut (g off n m c : Nat) (hm : m ≤ c) (hc : 0 < c) (w : World) :
    (Instr.slice 31 (.slice (some ⟨g, off, none⟩) n c) none (some (.int .i64 (m : Int))) none).run Tryd.prog w = .ok (.slice (some ⟨g, off, none⟩) m c) w := by
  have he := elem_of (P := Tryd.prog) Tryd.underlying31
  have ht' : Tryd.prog.underlying 31 = some (.slice (Tryd.prog.elem 31)) := by rw [he]; exact Tryd.underlying31
  rw [run_slice_h w 31 _ n c ht' .i64 m (by omega) (by omega), he, hash_cells]
  simp only [Result.andThen_ok, sliced, Int.toNat_natCast, Nat.zero_mul, Nat.sub_zero]
  rw [if_neg (by omega), Option.map_some, Addr.add_mid, Nat.add_zero]
set_option maxRecDepth 100000 in
set_option maxHeartbeats 1000000 in
theorem pop_any (w : World) (b V : Nat) (x : Value) (st : List H) (h : H) (U : Nat) (hS : StU w b V U x (st ++ [h])) (hl : st.length ≤ 1099511627776) :
    Calls Tryd.prog 49 #[.pointer (some ⟨b, 0, none⟩)] w fun e w' => e = .returned (hv h) ∧ StU w' b V U x st ∧ w.grownBy w' (some b) := by
  obtain ⟨hbV, hVw, sv, hB, hO, hU⟩ := hS
  rw [List.length_append, List.length_singleton] at hO
  have hlt := hB.lt
  obtain ⟨sa, sc, rfl⟩ := ownsRow_form hO
  obtain ⟨g, off, cap, e, hcap, hr, hgw⟩ := (ownsRow_isSl hO (bytesV_one _)).pos (by omega) (by decide)
  cases e
  have hgb := (hO.lt g rfl).1
  have hE := Hs.elem hr (i := st.length) (x := h) (by simp)
  obtain ⟨w1, hw1⟩ : ∃ w1, w1 = w.alloc (.cells z32.toArray 24) := ⟨_, rfl⟩
  have hb1 : Below w.heap.size w w1 := by rw [hw1]; (repeat (first | with_reducible assumption | with_reducible exact Below.refl _ _ | ((with_reducible refine Below.setCell ?_ ?_ _); rotate_left; focus (first | omega | (simp; done) | (simp; omega))) | ((with_reducible refine Below.alloc ?_ ?_ _); rotate_left; focus (first | omega | (simp; done) | (simp; omega))) | ((with_reducible refine below_setRow ?_ ?_ _); rotate_left; focus (first | omega | (simp; done) | (simp; omega))) | (with_reducible refine below_drewN ?_ _) | (with_reducible refine Below.drew ?_)))
  have hs1 : w1.heap.size = w.heap.size + 1 := by rw [hw1]; simp
  have hX : Blk w1 w.heap.size z32 24 := by rw [hw1]; exact Blk.newL w _ _
  have HX := Lib.hid hX
  have HB := Lib.hid (hB.below hb1 hlt)
  have HO := Lib.hid (ownsRow_below hO hb1 (ownsRow_block hO))
  have HE := Lib.hid (range_below hE hb1)
  have hmax : sc ≤ maxLen := by
    rcases hO.2 with ⟨h1, _⟩ | ⟨_, _, _, h1, _, _, _, h2, _⟩
    · cases h1
    · cases h1; exact h2
  unfold maxLen at hmax
  clear hX hB hO hr hE
  go_enter Tryd.func49, Tryd.ntmps49
  go_wp2_with fail
  refine wp_world hw1 ?_
  have hcB : ∀ wr : World, Below w1.heap.size w1 wr → wr.cell? ⟨b, 0, none⟩ = some (.slice (some ⟨g, off, none⟩) (st.length + 1) sc) := fun wr hb => (HB.out.below hb (by omega)).cell rfl
  have HC := Lib.hid hcB
  clear hcB
  refine wp_region_monoF 13 (w1.heap.size) [12] [(fun v _ => v = .pointer (some ⟨b, 0, none⟩)), (fun v _ => v = .pointer (some ⟨b, 0, none⟩)), (fun v _ => v = .pointer (some ⟨b, 0, none⟩)), (fun v _ => v = .slice (some ⟨g, off, none⟩) (st.length + 1) sc), (fun v _ => v = .pointer (some ⟨b, 0, none⟩)), (fun v _ => v = .pointer (some ⟨b, 0, none⟩)), (fun v _ => v = .pointer (some ⟨b, 0, none⟩)), (fun v _ => v = .slice (some ⟨g, off, none⟩) (st.length + 1) sc), (fun v _ => v = .int .i64 ((st.length : Int) + 1)), (fun v _ => v = .int .i64 (st.length : Int)), (fun v _ => v = .pointer (some ⟨g, off + st.length * 32, none⟩)), (fun v _ => v = .agg (bytesV h.b).toArray), RowAt z32 24 w1.heap.size] (by kernel_rfl) (by kernel_rfl) (by decide) (Nat.le_refl _) ?mkept _ rfl ?mops ?mfin
  case mkept =>
    repeat (refine List.forall_mem_cons.2 ⟨by first | exact fun _ _ _ _ h => h | exact fun _ _ _ hb h => Parts.below h hb | exact fun _ _ _ hb h => IsSl.below h hb | exact fun _ _ _ hb h => RowAt.below h hb | exact fun _ _ _ hb ⟨vs, h⟩ => ⟨vs, Parts.below h hb⟩ | exact fun _ _ _ hb h => ownsRow_below h hb (ownsRow_block h) | exact fun _ _ _ hb ⟨g, e, h⟩ => ⟨g, e, ownsRow_below h hb (ownsRow_block h)⟩, ?_⟩)
    exact fun _ h => by cases h
  case mops =>
    simp only [List.take_succ_cons, List.take_zero, monoAllF, List.getD_cons_zero, List.getD_cons_succ]
    iterate 13
    
     (refine ⟨fun x wr hb hd Qg hK => ?_, ?_⟩
      · as_aux_lemma =>
        simp only [fill, Act.put, List.setIfInBounds_toArray, List.set_cons_succ, List.set_cons_zero, needs, Region.binds, List.filter_cons, List.filter_nil, List.map_cons, List.map_nil, if_true, List.mem_cons, List.not_mem_nil, or_false, forall_eq_or_imp, forall_eq, List.getD_cons_zero, List.getD_cons_succ, false_implies, implies_true] at hd hK ⊢
        (try simp only [hd] at hK ⊢)
        first
        | (show wpList _ _ _ [⟨some 3, .alloc _, _, _, _, _⟩] _ _; go_wp2_with fail; exact hK _ _ ⟨_, rfl, hb.size, Blk.newL wr z32 24⟩ (by first | exact trivial | exact fun h => absurd h (by decide) | exact fun _ => new_alloc _ _) ((Below.refl _ _).alloc (Nat.le_refl _) _))
        | ((refine wpList_load_midIf rfl 24 (.tmp 14) rfl g (off + st.length * 32) rfl (bytesV h.b) _ (range_below HE.out hb) Tryd.underlying24 rfl (hv_info h) ?_; exact hK _ _ rfl (by first | exact trivial | exact fun h => absurd h (by decide) | exact fun _ => new_alloc _ _) (Below.refl _ _)))
        | (have c0 := HC.out wr hb; go_wp2_with fail; exact hK _ _ rfl (by first | exact trivial | exact fun h => absurd h (by decide) | exact fun _ => new_alloc _ _) (Below.refl _ _))
        | (go_wp2_with fail; exact hK _ _ rfl (by first | exact trivial | exact fun h => absurd h (by decide) | exact fun _ => new_alloc _ _) (Below.refl _ _)))
    trivial
  case mfin =>
    intro y wr hb hR _
    have x11 := hR 11 (by decide)
    have x12 := hR 12 (by decide)
    simp only [List.getD_cons_zero, List.getD_cons_succ] at x11 x12
    obtain ⟨gp, x12, hgp, hP⟩ := x12
    have HP := Lib.hid hP
    have hB2 := HB.out.below hb (by omega)
    have hO2 := ownsRow_below HO.out hb (ownsRow_block HO.out)
    have hX2 := HX.out.below hb (by omega)
    have hg2 : w.grownBy wr (some b) := below_grown (hb1.trans (hb.mono hb1.size))
    clear hR hb hb1 HX HB HO HC HE hP
    simp only [List.drop_succ_cons, List.drop_zero]
    generalize List.toArray _ = L0
    simp only [List.take_succ_cons, List.take_zero, List.map_cons, List.map_nil, fill, Act.put, List.setIfInBounds_toArray, List.set_cons_succ, List.set_cons_zero, x11, x12]
    clear x11 x12
    have hPlt := HP.out.lt
    obtain ⟨w3, hw3⟩ : ∃ w3, w3 = wr.setRow gp (bytesV h.b).toArray := ⟨_, rfl⟩
    have hP3 : Blk w3 gp (bytesV h.b) 24 := by rw [hw3]; exact HP.out.setRow _
    have hB3 : Blk w3 b [.slice (some ⟨g, off, none⟩) (st.length + 1) sc, x] 35 := by rw [hw3]; exact hB2.setRow_other (by omega) _
    have hX3 : Blk w3 w.heap.size z32 24 := by rw [hw3]; exact hX2.setRow_other (by omega) _
    have hO3 : w3.ownsRow V 24 32 (.slice (some ⟨g, off, none⟩) (st.length + 1) sc) (st.length + 1) (bytesV (hflat (st ++ [h]))) := by
      rw [hw3]
      exact ownsRow_below hO2 (B := gp) (below_setRow (Below.refl _ _) (Nat.le_refl _) _) (fun k hk => by cases hk; show g < gp; omega)
    have hg3 : w.grownBy w3 (some b) := by
      rw [hw3]
      exact ⟨hg2.os, hg2.tape, hg2.output, by simpa using hg2.size, fun k hk hne => (Go.setRow_other _ _ _ _ (by omega)).trans (hg2.block k hk hne)⟩
    have hs3 : w.heap.size < w3.heap.size := hX3.lt
    have c0 : w3.cell? ⟨b, 0, none⟩ = some (.slice (some ⟨g, off, none⟩) (st.length + 1) sc) := hB3.cell rfl
    have f0 : w3.frozen? ⟨b, 0, none⟩ = false := hB3.frozen 0
    have hcut := fun w => slice_cut g off (st.length + 1) st.length sc (by omega) (by omega) w
    have HB3 := Lib.hid hB3
    have HX3 := Lib.hid hX3
    have HP3 := Lib.hid hP3
    have HO3 := Lib.hid hO3
    clear hB2 hO2 hX2 hg2 hB3 hX3 hP3 hO3
    go_wp2_with (first
      | (refine wpList_store_row rfl 24 (.tmp 3) (.tmp 15) rfl gp (bytesV h.b).toArray rfl rfl 24 z32.toArray (by exact HP.out) (by exact hv_row _) (by exact z32_old _) (by exact hv_one _) ?_)
      | fail)
    refine wp_world hw3 ?_
    have hcB : ∀ wr : World, Below w3.heap.size w3 wr → wr.cell? ⟨b, 0, none⟩ = some (.slice (some ⟨g, off, none⟩) (st.length + 1) sc) := fun wr hb => (HB3.out.below hb (by omega)).cell rfl
    have HC := Lib.hid hcB
    clear hcB c0 f0
    refine wp_region_monoF 14 (w3.heap.size) [] [(fun v _ => v = .pointer (some ⟨b, 0, none⟩)), (fun v _ => v = .pointer (some ⟨b, 0, none⟩)), (fun v _ => v = .pointer (some ⟨b, 0, none⟩)), (fun v _ => v = .pointer (some ⟨b, 0, none⟩)), (fun v _ => v = .slice (some ⟨g, off, none⟩) (st.length + 1) sc), (fun v _ => v = .pointer (some ⟨b, 0, none⟩)), (fun v _ => v = .pointer (some ⟨b, 0, none⟩)), (fun v _ => v = .pointer (some ⟨b, 0, none⟩)), (fun v _ => v = .slice (some ⟨g, off, none⟩) (st.length + 1) sc), (fun v _ => v = .int .i64 ((st.length : Int) + 1)), (fun v _ => v = .int .i64 (st.length : Int)), (fun v _ => v = .slice (some ⟨g, off, none⟩) st.length sc), (fun v _ => v = .pointer (some ⟨b, 0, none⟩)), (fun v _ => v = .pointer (some ⟨b, 0, none⟩))] (by kernel_rfl) (by kernel_rfl) (by decide) (Nat.le_refl _) ?mkept _ rfl ?mops ?mfin
    case mkept =>
      repeat (refine List.forall_mem_cons.2 ⟨by first | exact fun _ _ _ _ h => h | exact fun _ _ _ hb h => Parts.below h hb | exact fun _ _ _ hb h => IsSl.below h hb | exact fun _ _ _ hb h => RowAt.below h hb | exact fun _ _ _ hb ⟨vs, h⟩ => ⟨vs, Parts.below h hb⟩ | exact fun _ _ _ hb h => ownsRow_below h hb (ownsRow_block h) | exact fun _ _ _ hb ⟨g, e, h⟩ => ⟨g, e, ownsRow_below h hb (ownsRow_block h)⟩, ?_⟩)
      exact fun _ h => by cases h
    case mops =>
      simp only [List.take_succ_cons, List.take_zero, monoAllF, List.getD_cons_zero, List.getD_cons_succ]
      iterate 14
      
       (refine ⟨fun x wr hb hd Qg hK => ?_, ?_⟩
        · as_aux_lemma =>
          simp only [fill, Act.put, List.setIfInBounds_toArray, List.set_cons_succ, List.set_cons_zero, needs, Region.binds, List.filter_cons, List.filter_nil, List.map_cons, List.map_nil, if_true, List.mem_cons, List.not_mem_nil, or_false, forall_eq_or_imp, forall_eq, List.getD_cons_zero, List.getD_cons_succ, false_implies, implies_true] at hd hK ⊢
          (try simp only [hd] at hK ⊢)
          first
          | (have c0 := HC.out wr hb; go_wp2_with fail; exact hK _ _ rfl (by first | exact trivial | exact fun h => absurd h (by decide) | exact fun _ => new_alloc _ _) (Below.refl _ _))
          | (go_wp2_with fail; exact hK _ _ rfl (by first | exact trivial | exact fun h => absurd h (by decide) | exact fun _ => new_alloc _ _) (Below.refl _ _)))
      trivial
    case mfin =>
      intro y wr hb hR _
      have x11 := hR 11 (by decide)
      have x13 := hR 13 (by decide)
      simp only [List.getD_cons_zero, List.getD_cons_succ] at x11 x13
      have hB4 := HB3.out.below hb (by omega)
      have hX4 := HX3.out.below hb (by omega)
      have hP4 := HP3.out.below hb (by rw [hw3]; simpa using hPlt)
      have hO4 := ownsRow_below HO3.out hb (ownsRow_block HO3.out)
      have hg4 : w.grownBy wr (some b) := grown_trans hg3 (below_grown hb)
      have c0 : wr.cell? ⟨b, 0, none⟩ = some (.slice (some ⟨g, off, none⟩) (st.length + 1) sc) := hB4.cell rfl
      have f0 : wr.frozen? ⟨b, 0, none⟩ = false := hB4.frozen 0
      obtain ⟨w5, hw5⟩ : ∃ w5, w5 = wr.setCell ⟨b, 0, none⟩ (.slice (some ⟨g, off, none⟩) st.length sc) := ⟨_, rfl⟩
      have hB5 : Blk w5 b [.slice (some ⟨g, off, none⟩) st.length sc, x] 35 := by rw [hw5]; exact hB4.set 0 _
      have hX5 : Blk w5 w.heap.size z32 24 := by rw [hw5]; exact hX4.set_other (by simp <;> omega) _
      have hP5 : Blk w5 gp (bytesV h.b) 24 := by rw [hw5]; exact hP4.set_other (by simp <;> omega) _
      have hO5 : w5.ownsRow V 24 32 (.slice (some ⟨g, off, none⟩) st.length sc) st.length (bytesV (hflat st)) := by
        rw [hw5]
        have h1 := own_cut hO4 (Nat.le_succ st.length) (by omega)
        have h2 : (bytesV (hflat (st ++ [h]))).take (st.length * 32) = bytesV (hflat st) := by
          unfold bytesV
          rw [← List.map_take, ← hflat_take, List.take_left']
          rfl
        rw [h2] at h1
        exact ownsRow_setCell_below h1 hbV _
      have hg5 : w.grownBy w5 (some b) := by rw [hw5]; exact grown_set hg4 0 _
      have HX5 := Lib.hid hX5
      have HP5 := Lib.hid hP5
      clear hR hb HB3 HX3 HP3 HO3 HC hB4 hX4 hP4 hO4 hg3 hg4 hX5 hP5 HP hcut
      simp only [List.drop_succ_cons, List.drop_zero]
      generalize List.toArray _ = L0
      simp only [List.take_succ_cons, List.take_zero, List.map_cons, List.map_nil, fill, Act.put, List.setIfInBounds_toArray, List.set_cons_succ, List.set_cons_zero, x11, x13]
      clear x11 x13
      go_wp2_with (first
        | (refine wpList_load_row rfl 24 (.tmp 3) rfl gp rfl 24 (bytesV h.b).toArray (0, 0) _ (by exact hw5 ▸ HP5.out) Tryd.underlying24 rfl (by exact hv_row _) ?_)
        | (refine wpList_store_row rfl 24 (.tmp 2) (.tmp 30) rfl w.heap.size (bytesV h.b).toArray rfl rfl 24 z32.toArray (by exact hw5 ▸ HX5.out) (by exact hv_row _) (by exact z32_old _) (by exact hv_one _) ?_)
        | fail)
      rw [← hw5]
      refine bodyPost_ret (v := hv h) (results_cell_row rfl _ _ w.heap.size 24 _ (0, 0) _ rfl (HX5.out.setRow _) Tryd.underlying24 rfl (hv_row _)) rfl ⟨rfl, ⟨hbV, by have := hg5.size; simp; omega, _, hB5.setRow_other (by omega) _, ?_, fun k hk => hU k hk⟩, ?_⟩
      · exact ownsRow_set_row hO5 _ (fun k hk => by cases hk; show w.heap.size ≠ g; omega)
      · exact ⟨hg5.os, hg5.tape, hg5.output, by simpa using hg5.size, fun k hk hne => (Go.setRow_other _ _ _ _ (by omega)).trans (hg5.block k hk hne)⟩
end Go.Proofs.YtkfplliipogagaaDoor
