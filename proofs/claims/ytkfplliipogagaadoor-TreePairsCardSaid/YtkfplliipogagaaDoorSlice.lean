/- Helper lemmas on slices: what a slice reads as, appends to a slice of the call's own from whatever source. No condition. -/
import Derived.Test.YtkfplliipogagaaDoorBase
import Derived.Laws.AppendOwnNone
namespace Go.Proofs.YtkfplliipogagaaDoor
open Go.RowKit

def bytesV (l : List UInt8) : List Value := l.map fun c => .int .u8 (c.toNat : Int)
theorem bytesV_len (l : List UInt8) : (bytesV l).length = l.length := by simp [bytesV]
theorem bytesV_app (l l' : List UInt8) : bytesV (l ++ l') = bytesV l ++ bytesV l' := by simp [bytesV]
theorem bytesV_one (l : List UInt8) : ∀ u ∈ bytesV l, u.oneCell' = true := by
  intro u hu
  obtain ⟨_, _, rfl⟩ := List.mem_map.1 hu
  rfl
theorem bytesV_at (l : List UInt8) (i : Nat) (c : UInt8) (h : l[i]? = some c) : (bytesV l)[i]? = some (.int .u8 (c.toNat : Int)) := by
  simp [bytesV, h]
theorem bytesV_inj (l l' : List UInt8) (h : bytesV l = bytesV l') : l = l' := by
  have := congrArg (List.map fun v : Value => match v with | .int _ n => UInt8.ofNat n.toNat | _ => 0) h
  simpa [bytesV, Function.comp_def] using this

/-- A slice of n elements, 'size' cells each, whose cells are these. -/
def IsSl (w : World) (v : Value) (size n : Nat) (cs : List Value) : Prop :=
  cs.length = n * size ∧ (∀ u ∈ cs, u.oneCell' = true) ∧
  ((v = .slice none 0 0 ∧ n = 0) ∨ ∃ ad cap, v = .slice (some ad) n cap ∧ n ≤ cap ∧ ∀ j u, cs[j]? = some u → w.cell? (ad.add j) = some u)

theorem IsSl.form {w : World} {v : Value} {size n : Nat} {cs : List Value} (h : IsSl w v size n cs) : ∃ a cap, v = .slice a n cap ∧ n ≤ cap := by
  rcases h.2.2 with ⟨rfl, rfl⟩ | ⟨ad, cap, rfl, hc, _⟩
  · exact ⟨_, _, rfl, Nat.le_refl _⟩
  · exact ⟨_, _, rfl, hc⟩

theorem IsSl.pos {w : World} {v : Value} {size n : Nat} {cs : List Value} (h : IsSl w v size n cs) (hn : 0 < n) (hs : 0 < size) :
    ∃ b off cap, v = .slice (some ⟨b, off, none⟩) n cap ∧ n ≤ cap ∧ w.rangeAt b off cs ∧ b < w.heap.size := by
  obtain ⟨hl, _, h⟩ := h
  have hp : 0 < cs.length := by rw [hl]; exact Nat.mul_pos hn hs
  rcases h with ⟨rfl, rfl⟩ | ⟨ad, cap, rfl, hc, hr⟩
  · omega
  · have h0 := hr 0 cs[0] (by simp [hp])
    have hs : ad.spot = none := by
      have : ad.add 0 = ad := by simp [Addr.add]
      rw [this] at h0
      unfold World.cell? at h0
      split at h0
      · split at h0
        · cases h0
        · rename_i hsp; simpa using hsp
      · cases h0
    obtain ⟨b, off, sp⟩ := ad
    obtain rfl : sp = none := hs
    refine ⟨b, off, cap, rfl, hc, fun j u hj => ?_, ?_⟩
    · have := hr j u hj
      rwa [Addr.add_mid] at this
    · rw [Addr.add_mid] at h0
      exact World.block_lt_of_cell? _ _ h0

theorem IsSl.zero {w : World} {v : Value} {size : Nat} {cs : List Value} (h : IsSl w v size 0 cs) : cs = [] := by
  have := h.1
  rw [Nat.zero_mul] at this
  exact List.eq_nil_of_length_eq_zero this

theorem IsSl.of_range {w : World} {b off n cap size : Nat} {cs : List Value} (hl : cs.length = n * size) (h1 : ∀ u ∈ cs, u.oneCell' = true) (hc : n ≤ cap) (h : w.rangeAt b off cs) :
    IsSl w (.slice (some ⟨b, off, none⟩) n cap) size n cs :=
  ⟨hl, h1, .inr ⟨_, cap, rfl, hc, fun j u hj => by rw [Addr.add_mid]; exact h j u hj⟩⟩

theorem IsSl.nil (w : World) (size : Nat) : IsSl w (.slice none 0 0) size 0 [] :=
  ⟨by simp, (fun _ h => by cases h), .inl ⟨rfl, rfl⟩⟩

theorem IsSl.of_cells {w w' : World} {v : Value} {size n : Nat} {cs : List Value} (h : IsSl w v size n cs) (hk : ∀ p u, w.cell? p = some u → (∃ a k c, v = .slice (some a) k c ∧ a.block = p.block) → w'.cell? p = some u) : IsSl w' v size n cs := by
  refine ⟨h.1, h.2.1, ?_⟩
  rcases h.2.2 with h | ⟨ad, cap, rfl, hc, hr⟩
  · exact .inl h
  · refine .inr ⟨ad, cap, rfl, hc, fun j u hj => hk _ _ (hr j u hj) ⟨ad, n, cap, rfl, ?_⟩⟩
    unfold Addr.add
    split <;> rfl

theorem IsSl.below {w w' : World} {v : Value} {size n : Nat} {cs : List Value} (h : IsSl w v size n cs) (hb : Below w.heap.size w w') : IsSl w' v size n cs :=
  h.of_cells fun _ _ hu _ => (hb.cell (World.block_lt_of_cell? _ _ hu)).trans hu

theorem IsSl.below' {B : Nat} {w w' : World} {v : Value} {size n : Nat} {cs : List Value} (h : IsSl w v size n cs) (hb : Below B w w') (hB : ∀ a k c, v = .slice (some a) k c → a.block < B) : IsSl w' v size n cs :=
  h.of_cells fun p _ hu ⟨a, k, c, hv, he⟩ => (hb.cell (p := p) (he ▸ hB a k c hv)).trans hu

theorem IsSl.block_lt {w : World} {v : Value} {size n : Nat} {cs : List Value} (h : IsSl w v size n cs) (hn : 0 < n) (hs : 0 < size) : ∀ a k c, v = .slice (some a) k c → a.block < w.heap.size := by
  obtain ⟨b, off, cap, rfl, _, _, hb⟩ := h.pos hn hs
  intro a k c e
  cases e
  exact hb

theorem rangeAt_new (w : World) (l : List Value) (e : TypeId) : (w.alloc (.cells l.toArray e)).rangeAt w.heap.size 0 l := fun j u hj => by
  rw [Nat.zero_add]
  exact (Blk.newL w l e).cell hj
theorem isSl_new (w : World) (l : List Value) (e : TypeId) (size n : Nat) (hl : l.length = n * size) (h1 : ∀ u ∈ l, u.oneCell' = true) :
    IsSl (w.alloc (.cells l.toArray e)) (.slice (some ⟨w.heap.size, 0, none⟩) n n) size n l :=
  IsSl.of_range hl h1 (Nat.le_refl _) (rangeAt_new w l e)
theorem ownsRow_form {w : World} {base : Nat} {e : TypeId} {size : Nat} {v : Value} {n : Nat} {xs : List Value} (h : w.ownsRow base e size v n xs) : ∃ a cap, v = .slice a n cap := by
  rcases h.2 with ⟨rfl, rfl⟩ | ⟨g, cap, cur, rfl, _⟩
  · exact ⟨_, _, rfl⟩
  · exact ⟨_, _, rfl⟩

theorem ownsRow_isSl {w : World} {base : Nat} {e : TypeId} {size : Nat} {v : Value} {n : Nat} {xs : List Value} (h : w.ownsRow base e size v n xs) (h1 : ∀ u ∈ xs, u.oneCell' = true) : IsSl w v size n xs := by
  refine ⟨h.1, h1, ?_⟩
  rcases h.2 with ⟨rfl, rfl⟩ | ⟨g, cap, cur, rfl, _, _, hc, _⟩
  · exact .inl ⟨rfl, rfl⟩
  · exact .inr ⟨_, cap, rfl, hc, fun j u hj => World.ownsRow.cells h rfl j u hj⟩

theorem ownsRow_below {w w' : World} {B base : Nat} {e : TypeId} {size : Nat} {v : Value} {n : Nat} {xs : List Value} (h : w.ownsRow base e size v n xs) (hb : Below B w w') (hB : ∀ g, v.ownBlock = some g → g < B) : w'.ownsRow base e size v n xs := by
  refine ⟨h.1, ?_⟩
  rcases h.2 with hn | ⟨g, cap, cur, rfl, hbg, hg, rest⟩
  · exact .inl hn
  · exact .inr ⟨g, cap, cur, rfl, hbg, (hb.block g (hB g rfl)).trans hg, rest⟩
theorem ownsRow_block {w : World} {base : Nat} {e : TypeId} {size : Nat} {v : Value} {n : Nat} {xs : List Value} (h : w.ownsRow base e size v n xs) : ∀ g, v.ownBlock = some g → g < w.heap.size :=
  fun g hg => (h.lt g hg).2
theorem Blk.grown {w w' : World} {b : Nat} {l : List Value} {e : TypeId} {row : Option Nat} (h : Blk w b l e) (hg : w.grownBy w' row) (hne : some b ≠ row) : Blk w' b l e := by
  unfold Blk at h ⊢
  rw [hg.block b (Blk.lt h) hne]
  exact h

section
variable {P : Program}
/-- append to a slice of the call's own, from whatever slice. -/
theorem run_app (w : World) (base : Nat) (t ty e : TypeId) (i : TypeInfo) (z : Value) (size bytes : Nat) (ht : P.underlying t = some (.slice e)) (hi : P.info? e = some i) (hz : i.zero = some z)
    (hsize : i.size = size) (hby : i.bytes = bytes) (hzs : z.cells.size = size) (hsz : 0 < size)
    (v : Value) (n : Nat) (xs : List Value) (hown : w.ownsRow base e size v n xs)
    (x : Value) (m : Nat) (news : List Value) (hx : IsSl w x size m news)
    (h63 : n + m ≤ maxLen) (hbytes : (n + m) * bytes ≤ 140737488355328) (hbase : base ≤ w.heap.size) :
    ∃ a' cap' w', (Builtin.append_ #[t, t] ty #[v, x]).run P w = .ok (.slice a' (n + m) cap') w' ∧ w'.ownsRow base e size (.slice a' (n + m) cap') (n + m) (xs ++ news) ∧ w.grownBy w' v.ownBlock ∧
      (a' = none ↔ v = .slice none 0 0 ∧ m = 0) := by
  obtain ⟨hl, h1, hx⟩ := hx
  rcases hx with ⟨rfl, rfl⟩ | ⟨ad, cap, rfl, _, hr⟩
  · have hn : news = [] := List.eq_nil_of_length_eq_zero (by simpa using hl)
    subst hn
    have hrun := run_append_owned_none (P := P) (w := w) base t ty e i size ht hi v n xs hown
    obtain ⟨a, c, rfl⟩ := ownsRow_form hown
    refine ⟨a, c, w, hrun, by simpa using hown, ⟨rfl, rfl, rfl, Nat.le_refl _, fun _ _ _ => rfl⟩, ?_⟩
    constructor
    · rintro rfl
      rcases hown.2 with ⟨h, _⟩ | ⟨g, cap, cur, h, _⟩
      · exact ⟨h, rfl⟩
      · cases h
    · rintro ⟨h, _⟩
      cases h
      rfl
  · obtain ⟨v', w', hrun, hown', hgrow, hiff⟩ := run_append_own (P := P) w base t ty e i z size bytes ht hi hz hsize hby hzs hsz v n xs hown ad m cap news hl hr h1 h63 hbytes hbase
    obtain ⟨a, c, rfl⟩ := ownsRow_form hown'
    refine ⟨a, c, w', hrun, hown', hgrow, ?_⟩
    rw [← hiff]
    constructor
    · rintro rfl
      rcases hown'.2 with ⟨h, _⟩ | ⟨g, cap, cur, h, _⟩
      · exact h
      · cases h
    · intro h
      exact (Value.slice.inj h).1

/-- append(nil, make([]T, n)...), as slices.Grow has it. -/
theorem run_append_nil_zeros (w : World) (t u ty e : TypeId) (k : IntKind) (i : TypeInfo) (z : Value) (ht : P.underlying t = some (.slice e)) (hu : P.underlying u = some (.int k)) (hi : P.info? e = some i) (hz : i.zero = some z)
    (n : Nat) (h0 : 0 < n) (h63 : (n : Int) ≤ 9223372036854775807) (h48 : n * i.bytes ≤ 281474976710656) (hsz : 0 < i.size) :
    (Builtin.append_ #[t, u] ty #[.slice none 0 0, .int .i64 n]).run P w =
      .ok (.slice (some ⟨w.heap.size, 0, none⟩) n (grownCap w n 0 e)) (w.drew.alloc (.cells (Builtin.zeroCells z.cells n ++ Builtin.zeroCells z.cells (grownCap w n 0 e - n)) e)) := by
  have hn : n ≠ 0 := by omega
  have h63' : ¬ (9223372036854775807 < (n : Int)) := by omega
  have h48' : ¬ (281474976710656 < Builtin.nextslicecap n 0 * i.bytes) := by rw [nextslicecap_zero h0]; omega
  have h48i : ¬ (281474976710656 < (n : Int) * (i.bytes : Int)) := by
    have : ((n * i.bytes : Nat) : Int) ≤ ((281474976710656 : Nat) : Int) := Int.ofNat_le.2 h48
    rw [Int.natCast_mul] at this
    omega
  have hw : IntKind.i64.wrap (n : Int) = n := IntWalk.i64_in _ (by omega)
  have hm : ¬ (n * i.size = 0) := Nat.ne_of_gt (Nat.mul_pos h0 hsz)
  simp [Builtin.append_, run_underlying ht, run_underlying hu, sizeOf, typeInfo, zeroValue, hi, hz, asInt, asIntOf, hw, h48i, Builtin.firstCells, hn, h63', h48', hm, Question.forced, newRow, grownCap]
  intro h
  omega

theorem wpList_append_run {w : World} {ops : Array Oper} {rest : List Oper} {o : Oper} {a : Act} {Q : Exit → Act → World → Prop} (hgd : o.guard = none) (s x : Operand) (t u : TypeId)
    (ho : o.op = .call { callee := .builtin .append, args := #[s, x], argTypes := #[t, u] }) (sv xv v : Value) (w' : World) (hs : a.eval s = sv) (hx : a.eval x = xv)
    (hr : (Builtin.append_ #[t, u] o.type #[sv, xv]).run P w = .ok v w') (h : wpList P ops Q rest (a.put o.dst v) w') : wpList P ops Q (o :: rest) a w := by
  refine wpList_plain hgd fun K hK => ?_
  unfold Oper.wp execOp
  simp only [ho, resolve, invoke, builtin, Sem.run_bind, Sem.run_pure, Result.andThen_ok, List.map_toArray, List.map_cons, List.map_nil, hs, hx, hr]
  exact hK _ _ h

theorem wpList_app {w : World} {ops : Array Oper} {rest : List Oper} {o : Oper} {a : Act} {Q : Exit → Act → World → Prop} (hgd : o.guard = none) (s x : Operand) (t : TypeId)
    (ho : o.op = .call { callee := .builtin .append, args := #[s, x], argTypes := #[t, t] })
    (base : Nat) (e : TypeId) (i : TypeInfo) (z : Value) (size bytes : Nat) (ht : P.underlying t = some (.slice e)) (hi : P.info? e = some i) (hz : i.zero = some z)
    (hsize : i.size = size) (hby : i.bytes = bytes) (hzs : z.cells.size = size) (hsz : 0 < size)
    (v : Value) (n : Nat) (xs : List Value) (hs : a.eval s = v) (hown : w.ownsRow base e size v n xs)
    (xv : Value) (m : Nat) (news : List Value) (hx : a.eval x = xv) (hsrc : IsSl w xv size m news)
    (h63 : n + m ≤ maxLen) (hbytes : (n + m) * bytes ≤ 140737488355328) (hbase : base ≤ w.heap.size)
    (h : ∀ a' cap' w', w'.ownsRow base e size (.slice a' (n + m) cap') (n + m) (xs ++ news) → w.grownBy w' v.ownBlock → (a' = none ↔ v = .slice none 0 0 ∧ m = 0) → wpList P ops Q rest (a.put o.dst (.slice a' (n + m) cap')) w') : wpList P ops Q (o :: rest) a w := by
  refine wpList_plain hgd fun K hK => ?_
  obtain ⟨a', cap', w', hr, h2, h3, h4⟩ := run_app (P := P) w base t o.type e i z size bytes ht hi hz hsize hby hzs hsz v n xs hown xv m news hsrc h63 hbytes hbase
  unfold Oper.wp execOp
  simp only [ho, resolve, invoke, builtin, Sem.run_bind, Sem.run_pure, Result.andThen_ok, List.map_toArray, List.map_cons, List.map_nil, hs, hx, hr]
  exact hK _ _ (h a' cap' w' h2 h3 h4)
end
def Bytes (w : World) (v : Value) (l : List UInt8) : Prop := IsSl w v 1 l.length (bytesV l)
/-- A slice of byte slices. -/
structure Parts (w : World) (v : Value) (ls : List (List UInt8)) (vs : List Value) : Prop where
  len : vs.length = ls.length
  sl : IsSl w v 1 ls.length vs
  each : ∀ (i : Nat) (x : Value) (l : List UInt8), vs[i]? = some x → ls[i]? = some l → Bytes w x l
theorem Parts.below {w w' : World} {v : Value} {ls : List (List UInt8)} {vs : List Value} (h : Parts w v ls vs) (hb : Below w.heap.size w w') : Parts w' v ls vs :=
  ⟨h.len, h.sl.below hb, fun i x l hx hl => (h.each i x l hx hl).below hb⟩
theorem Parts.drewN {w : World} {v : Value} {ls : List (List UInt8)} {vs : List Value} (h : Parts w v ls vs) (n : Nat) : Parts (w.drewN n) v ls vs := ⟨h.len, h.sl, h.each⟩
theorem range_below {w w' : World} {b o : Nat} {cs : List Value} (h : w.rangeAt b o cs) (hb : Below w.heap.size w w') : w'.rangeAt b o cs := fun j u hu => (hb.cell (World.block_lt_of_cell? _ _ (h j u hu))).trans (h j u hu)
theorem range_alloc (w : World) (l : List Value) (e : TypeId) (fr : Nat × Nat) : (w.alloc (.cells l.toArray e fr)).rangeAt w.heap.size 0 l := fun j u hu => by
  rw [Nat.zero_add]
  rw [cell_of_row _ _ _ _ _ _ (heap_alloc_new w (.cells l.toArray e fr)), List.getElem?_toArray]
  exact hu
/-- A new block whose cells are these bytes. -/
theorem bytes_alloc (w : World) (l : List UInt8) (e : TypeId) (fr : Nat × Nat) {B : Nat} (hB : w.heap.size = B) : Bytes (w.alloc (.cells (bytesV l).toArray e fr)) (.slice (some ⟨B, 0, none⟩) l.length l.length) l := by
  subst hB
  exact IsSl.of_range (by rw [bytesV_len, Nat.mul_one]) (bytesV_one l) (Nat.le_refl _) (range_alloc w _ e fr)
/-- Arguments of a variadic function, laid in a new block. -/
theorem parts_alloc (w : World) (vs : List Value) (ls : List (List UInt8)) (e : TypeId) {B n : Nat} (hB : w.heap.size = B) (hn : ls.length = n) (hl : vs.length = ls.length) (h1 : ∀ u ∈ vs, u.oneCell' = true)
    (h : ∀ (i : Nat) (x : Value) (l : List UInt8), vs[i]? = some x → ls[i]? = some l → Bytes w x l) : Parts (w.alloc (.cells vs.toArray e)) (.slice (some ⟨B, 0, none⟩) n n) ls vs := by
  subst hB hn
  refine ⟨hl, IsSl.of_range (by rw [hl, Nat.mul_one]) h1 (Nat.le_refl _) (range_alloc w vs e (0, 0)), fun i x l hx hl => (h i x l hx hl).below ?_⟩
  exact (Below.refl _ w).alloc (Nat.le_refl _) _
end Go.Proofs.YtkfplliipogagaaDoor
