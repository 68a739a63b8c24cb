/- A list of pairs of texts: what it reads as, one made, one put ahead. No condition. The walk of link.nodes' closure. The walk of link.nodes' closure where the part is whole. Conditions: what each part says. -/
import Derived.Test.YtnbnjoejmepkjaaDoorClashW
import Derived.Test.YtnbnjoejmepkjaaDoorLinkR
import Derived.Test.YtnbnjoejmepkjaaDoorGround
import Derived.Test.YtnbnjoejmepkjaaDoorComesW
/-! LinkF: A list of pairs of texts: what it reads as, one made, one put ahead. No condition. -/
namespace Go.Proofs.YtnbnjoejmepkjaaDoor
open Go.RowKit

def flat2 (vs : List (Value × Value)) : List Value := vs.flatMap fun p => [p.1, p.2]
theorem flat2_cons (x y : Value) (vs : List (Value × Value)) : flat2 ((x, y) :: vs) = [x, y] ++ flat2 vs := rfl
theorem flat2_at : ∀ (vs : List (Value × Value)) (i : Nat) (p : Value × Value), vs[i]? = some p → (flat2 vs)[i * 2]? = some p.1 ∧ (flat2 vs)[i * 2 + 1]? = some p.2
  | [], i, p, h => by cases h
  | (x, y) :: vs, 0, p, h => by cases h; exact ⟨rfl, rfl⟩
  | (x, y) :: vs, i + 1, p, h => by
    rw [List.getElem?_cons_succ] at h
    obtain ⟨h1, h2⟩ := flat2_at vs i p h
    rw [flat2_cons]
    refine ⟨?_, ?_⟩
    · rw [show (i + 1) * 2 = (i * 2 + 1) + 1 by omega]; exact h1
    · rw [show (i + 1) * 2 + 1 = (i * 2 + 1 + 1) + 1 by omega]; exact h2
/-- A slice of pairs of texts. -/
structure Pairs (w : World) (v : Value) (zs : List (List UInt8 × List UInt8)) (vs : List (Value × Value)) : Prop where
  len : vs.length = zs.length
  sl : IsSl w v 2 zs.length (flat2 vs)
  each : ∀ (i : Nat) (p : Value × Value) (z : List UInt8 × List UInt8), vs[i]? = some p → zs[i]? = some z → Bytes w p.1 z.1 ∧ Bytes w p.2 z.2
def Prs (w : World) (v : Value) (zs : List (List UInt8 × List UInt8)) : Prop := ∃ vs, Pairs w v zs vs
theorem Prs.nil (w : World) : Prs w (.slice none 0 0) [] := ⟨[], rfl, IsSl.nil w 2, fun _ _ _ h => by cases h⟩
theorem Prs.below {w w' : World} {v : Value} {zs : List (List UInt8 × List UInt8)} (h : Prs w v zs) (hb : Below w.heap.size w w') : Prs w' v zs := by
  obtain ⟨vs, h1, h2, h3⟩ := h
  exact ⟨vs, h1, h2.below hb, fun i p z hp hz => ⟨(h3 i p z hp hz).1.below hb, (h3 i p z hp hz).2.below hb⟩⟩
theorem Prs.form {w : World} {v : Value} {zs : List (List UInt8 × List UInt8)} (h : Prs w v zs) : ∃ a c, v = .slice a zs.length c := by
  obtain ⟨vs, _, h2, _⟩ := h
  obtain ⟨a, c, e, _⟩ := h2.form
  exact ⟨a, c, e⟩
/-- One of them. -/
theorem Prs.at {w : World} {v : Value} {zs : List (List UInt8 × List UInt8)} (h : Prs w v zs) {i : Nat} {z : List UInt8 × List UInt8} (hz : zs[i]? = some z) : ∃ b off c x y, v = .slice (some ⟨b, off, none⟩) zs.length c ∧ w.cell? ⟨b, off + i * 2, none⟩ = some x ∧ w.cell? ⟨b, off + i * 2 + 1, none⟩ = some y ∧ Bytes w x z.1 ∧ Bytes w y z.2 := by
  obtain ⟨vs, h1, h2, h3⟩ := h
  have hi : i < zs.length := (List.getElem?_eq_some_iff.1 hz).1
  obtain ⟨b, off, c, rfl, _, hr, _⟩ := h2.pos (by omega) (by decide)
  have hp : vs[i]? = some vs[i] := List.getElem?_eq_getElem (by omega)
  obtain ⟨q1, q2⟩ := flat2_at vs i _ hp
  obtain ⟨r1, r2⟩ := h3 i _ z hp hz
  exact ⟨b, off, c, _, _, rfl, hr _ _ q1, by have := hr _ _ q2; rwa [← Nat.add_assoc] at this, r1, r2⟩
theorem info_texts : (Tryd.prog.info? 43).map (fun i => (i.zero, i.size, i.bytes)) = some (some (.agg #[.slice none 0 0, .slice none 0 0]), 2, 48) := by kernel_rfl
theorem run_append_none {P : Program} (w : World) (t ty e : TypeId) (i : TypeInfo) (ht : P.underlying t = some (.slice e)) (hi : P.info? e = some i) (g n : Nat) (xa : Option Addr) (xc : Nat) :
    (Builtin.append_ #[t, t] ty #[.slice (some ⟨g, 0, none⟩) n n, .slice xa 0 xc]).run P w = .ok (.slice (some ⟨g, 0, none⟩) n n) w := by
  cases xa <;> simp [Builtin.append_, run_underlying ht, sizeOf, typeInfo, hi, Builtin.firstCells, Builtin.lenOf, storeCells, loadCells, loadCellsFrom]
/-- A new pair, in a block of its own, ahead of others. -/
theorem wpList_pairs {w : World} {ops : Array Oper} {rest : List Oper} {o : Oper} {a : Act} {Q : Exit → Act → World → Prop} (hgd : o.guard = none) (s y : Operand)
    (ho : o.op = .call { callee := .builtin .append, args := #[s, y], argTypes := #[39, 39] }) (v xv : Value) (z : List UInt8 × List UInt8) (zs : List (List UInt8 × List UInt8)) (g : Nat) (hs : a.eval s = v) (hv : v = .slice (some ⟨g, 0, none⟩) 1 1) (hO : Prs w v [z])
    (hy : a.eval y = xv) (hX : Prs w xv zs) (hlen : zs.length ≤ 1099511627776)
    (h : ∀ v' w', Prs w' v' (z :: zs) → Below w.heap.size w w' → wpList Tryd.prog ops Q rest (a.put o.dst v') w') : wpList Tryd.prog ops Q (o :: rest) a w := by
  obtain ⟨i0, hi, hz0, hz1, hz2⟩ := info_parts info_texts
  subst hv
  by_cases hm : zs.length = 0
  · obtain rfl := List.eq_nil_of_length_eq_zero hm
    obtain ⟨xa, xc, e⟩ := hX.form
    exact wpList_append_run hgd s y _ _ ho _ _ _ w hs (by rw [hy, e]; rfl) (run_append_none w _ _ _ i0 Tryd.underlying39 hi g 1 xa xc) (h _ w hO (Below.refl _ _))
  · obtain ⟨vs, h1, h2, h3⟩ := hX
    obtain ⟨us, g1, g2, g3⟩ := hO
    have hul : us.length = 1 := g1
    obtain ⟨u, rfl⟩ := List.length_eq_one_iff.1 hul
    obtain ⟨b, off, cap, rfl, hc, hr, _⟩ := h2.pos (by omega) (by decide)
    obtain ⟨b0, off0, cap0, e0, _, hr0, _⟩ := g2.pos (by simp) (by decide)
    cases e0
    have hl1 : (flat2 [u]).length = 1 * 2 := g2.1
    refine wpList_append_grows (P := Tryd.prog) w hgd s y 39 ho 43 i0 _ 2 48 Tryd.underlying39 hi hz0 hz1 hz2 rfl (by decide) (some ⟨g, 0, none⟩) 1 1 (flat2 [u]) hs (by simp) hl1 (fun b' e' j x hx => by cases e'; rw [Addr.add_mid]; exact hr0 j x hx) ⟨b, off, none⟩ zs.length cap (flat2 vs) hy h2.1 (fun j u hu => by rw [Addr.add_mid]; exact hr j u hu) h2.2.1 (by omega) (by unfold maxLen; omega) (by omega) ?_
    intro v' w' hown' hgrow'
    have hb := below_of_grown hgrow'
    have hone : ∀ x ∈ flat2 [u] ++ flat2 vs, x.oneCell' = true := fun x hx => by
      rcases List.mem_append.1 hx with hx | hx
      · exact g2.2.1 x hx
      · exact h2.2.1 x hx
    refine h v' w' ⟨u :: vs, by simp [h1], ?_, fun i p z' hp hz => ?_⟩ hb
    · have := ownsRow_isSl hown' hone
      rw [List.length_cons, Nat.add_comm]
      exact this
    · cases i with
      | zero =>
        cases hp
        cases hz
        obtain ⟨q1, q2⟩ := g3 0 _ _ rfl rfl
        exact ⟨q1.below hb, q2.below hb⟩
      | succ i =>
        obtain ⟨q1, q2⟩ := h3 i _ _ hp hz
        exact ⟨q1.below hb, q2.below hb⟩
/-- A pair that has just been laid. -/
theorem prs_new (w : World) (x y : Value) (s t : List UInt8) (hx : Bytes w x s) (hy : Bytes w y t) {B : Nat} (hB : w.heap.size = B) : Prs (w.alloc (.cells #[x, y] 43)) (.slice (some ⟨B, 0, none⟩) 1 1) [(s, t)] := by
  subst hB
  have hal : Below w.heap.size w (w.alloc (.cells #[x, y] 43)) := (Below.refl _ _).alloc (Nat.le_refl _) _
  refine ⟨[(x, y)], rfl, ?_, fun i p z hp hz => ?_⟩
  · exact isSl_new w [x, y] 43 2 1 rfl (fun u hu => by
      simp only [List.mem_cons, List.not_mem_nil, or_false] at hu
      rcases hu with rfl | rfl
      · exact hx.one
      · exact hy.one)
  · cases i with
    | zero => cases hp; cases hz; exact ⟨hx.below hal, hy.below hal⟩
    | succ i => cases hp
end Go.Proofs.YtnbnjoejmepkjaaDoor

/-! LinkG: The walk of link.nodes' closure. Conditions: what it has captured reads as told; the list and the proof can be read, the proof as long as the way down; the package's tables read as they are laid. -/
namespace Go.Proofs.YtnbnjoejmepkjaaDoor
open Go.RowKit

set_option maxRecDepth 100000 in
set_option maxHeartbeats 400000 in
theorem lpair_fresh (l r : H) (w : World) :
    Calls Tryd.prog 38 #[hv l, hv r] w fun e w' => (∃ v, e = .returned v ∧ Bytes w' v (1 :: (l.b ++ r.b)) ∧ Fresh w.heap.size v) ∧ Below w.heap.size w w' := by
  have hb1 : Below w.heap.size w (pairW w l r) := by unfold pairW; (repeat (first | with_reducible assumption | with_reducible exact Below.refl _ _ | ((with_reducible refine Below.setCell ?_ ?_ _); rotate_left; focus (first | omega | (simp; done) | (simp; omega))) | ((with_reducible refine Below.alloc ?_ ?_ _); rotate_left; focus (first | omega | (simp; done) | (simp; omega))) | ((with_reducible refine below_setRow ?_ ?_ _); rotate_left; focus (first | omega | (simp; done) | (simp; omega))) | (with_reducible refine below_drewN ?_ _) | (with_reducible refine Below.drew ?_)))
  have hL : Blk (pairW w l r) w.heap.size (bytesV l.b) 32 := (Blk.newL w _ _).alloc _
  have hR : Blk (pairW w l r) (w.heap.size + 1) (bytesV r.b) 32 := Blk.newL1 w _ _ _
  have hs : (pairW w l r).heap.size = w.heap.size + 1 + 1 := by simp [pairW]
  have HL := Lib.hid hL
  have HR := Lib.hid hR
  clear hL hR
  go_enter Tryd.func38, Tryd.ntmps38
  unfold hv
  go_wp2_with fail
  refine wp_region_forced [1, 2] [0, 3, 4, 5] (by kernel_rfl) (by kernel_rfl) (fun _ _ _ d _ h => by cases d <;> exact h) _ _ rfl rfl ?_
  simp only [List.map_cons, List.map_nil, List.getD_cons_succ, List.getD_cons_zero]
  refine wpPure_run (.slice (some ⟨w.heap.size, 0, none⟩) 32 32) rfl (fun w' => ?_) ?_
  · simp [go_sem, execOp]
  refine wpPure_run (.slice (some ⟨w.heap.size + 1, 0, none⟩) 32 32) rfl (fun w' => ?_) ?_
  · simp [go_sem, execOp]
  refine wpPure_nil ?_
  intro nq
  go_wp2_with fail
  obtain ⟨w1, hw1e⟩ : ∃ w1, w1 = ((pairW w l r).drewN nq).alloc (.cells (bytesV [1]).toArray 5) := ⟨_, rfl⟩
  have hbn : Below (w.heap.size + 1 + 1) (pairW w l r) w1 := by rw [hw1e]; exact (below_drewN (Below.refl _ _) nq).alloc (by simp [hs]) _
  have hT : Bytes w1 (.slice (some ⟨w.heap.size + 1 + 1, 0, none⟩) 1 1) [1] := by rw [hw1e]; exact bytes_alloc _ [1] _ _ (by simp [hs])
  have hL1 := bytes_box (HL.out.below hbn (by omega))
  have hR1 := bytes_box (HR.out.below hbn (by omega))
  have hs1 : w1.heap.size = w.heap.size + 1 + 1 + 1 := by rw [hw1e]; simp [hs]
  refine (concat_atF (n := 3) w1 [_, _, _] [[1], l.b, r.b] _ hs1 (.cons hT (.cons hL1 (.cons hR1 .nil))) rfl (1 :: (l.b ++ r.b)) (by simp [cat]) (by simp [l.len, r.len]) (by decide)).mono ?_ |> (fun h => by rw [hw1e] at h; exact h)
  rintro e w2 ⟨⟨v2, rfl, hv2, hf2⟩, hb2⟩
  have hw2 := hb1.trans ((hbn.trans (hb2.mono (by omega))).mono (by omega))
  clear hb1 hb2 HL HR hbn hT hL1 hR1
  have HV := Lib.hid hv2
  have HF := Lib.hid (hf2.mono (show w.heap.size ≤ w1.heap.size by omega))
  clear hv2 hf2
  go_wp2_with fail
  go_ret
  exact ⟨⟨_, rfl, HV.out, HF.out⟩, hw2⟩
theorem lpair_any (l r : H) (w : World) :
    Calls Tryd.prog 38 #[hv l, hv r] w fun e w' => (∃ v, e = .returned v ∧ Bytes w' v (1 :: (l.b ++ r.b))) ∧ Below w.heap.size w w' :=
  (lpair_fresh l r w).mono fun _ _ ⟨⟨v, e1, h1, _⟩, hb⟩ => ⟨⟨v, e1, h1⟩, hb⟩

/-- The first hashes, with no room behind. -/
theorem hs_cut {w : World} {v : Value} {l : List H} (h : Hs w v l) (j : Nat) (hj : j ≤ l.length) :
    ∃ a, (∀ w' : World, (Instr.slice 23 v none (some (.int .i64 (j : Int))) (some (.int .i64 (j : Int)))).run Tryd.prog w' = .ok (.slice a j j) w') ∧ Hs w (.slice a j j) (l.take j) := by
  obtain ⟨_, _, _, h2⟩ := hs_head h j hj
  have he := elem_of Tryd.underlying23
  have ht' : Tryd.prog.underlying 23 = some (.slice (Tryd.prog.elem 23)) := by rw [he]; exact Tryd.underlying23
  have hl : (l.take j).length = j := by rw [List.length_take]; omega
  have hb : bytesV (hflat (l.take j)) = (bytesV (hflat l)).take (j * 32) := by
    rw [hflat_take]
    unfold bytesV
    rw [List.map_take]
  have h0 := h2
  unfold Hs IsSl at h0
  rcases h.2.2 with ⟨rfl, hn⟩ | ⟨ad, cap, rfl, hc, hr⟩
  · obtain rfl : j = 0 := by omega
    refine ⟨none, fun w' => ?_, by rw [List.take_zero]; exact Hs.nil w⟩
    rw [run_slice_hm w' 23 none 0 0 ht' .i64 .i64 ((0 : Nat) : Int) ((0 : Nat) : Int) (by decide) (by decide) (by decide), he, hash_cells]
    rfl
  · refine ⟨some ad, fun w' => ?_, h0.1, h0.2.1, .inr ⟨ad, j, by rw [hl], by rw [hl]; exact Nat.le_refl _, fun q u hu => ?_⟩⟩
    · rw [run_slice_hm w' 23 (some ad) l.length cap ht' .i64 .i64 (j : Int) (j : Int) (by omega) (by omega) (by omega), he, hash_cells]
      have hadd : ad.add 0 = ad := by simp [Addr.add]
      simp only [Result.andThen_ok, sliced, Int.toNat_natCast, Nat.sub_zero, Nat.zero_mul, Option.map_some, hadd, ite_self]
    · rw [hb, List.getElem?_take] at hu
      split at hu
      · exact hr q u hu
      · cases hu
/-- The closure as a value; what it has captured. -/
def dnV (ob ub : Nat) : Value := .func (.func 36) #[] #[.pointer (some ⟨ob, 0, none⟩), .pointer (some ⟨ub, 0, none⟩)]
structure Dn (w : World) (ob ub : Nat) (x : H) : Prop where
  h : Blk w ob (bytesV x.b) 32
  up : w.cell? ⟨ub, 0, none⟩ = some (dnV ob ub)
theorem Dn.below {w w' : World} {ob ub : Nat} {x : H} (h : Dn w ob ub x) (hb : Below w.heap.size w w') : Dn w' ob ub x := ⟨h.h.below hb h.h.lt, (hb.cell (World.block_lt_of_cell? _ _ h.up)).trans h.up⟩
def DnPost (x : H) (b : List (List UInt8)) (m : Nat) (wh : Bool) (P : List H) (e : Ending) (w' : World) : Prop :=
  ∃ v, e = .returned (.tuple #[hv (saidB x b.length m wh P.reverse), v]) ∧ Prs w' v (nodesB x b m wh P.reverse)
theorem said_end (x : H) (n m : Nat) (wh : Bool) (rp : List H) (h : n < 2 ∨ m = n) : saidB x n m wh rp = if wh then x else rp.headD e0H := by rw [saidB, dif_pos h]
theorem said_left (x o : H) (n m : Nat) (wh : Bool) (rp : List H) (h : ¬ (n < 2 ∨ m = n)) (hk : m ≤ splitN n) : saidB x n m wh (o :: rp) = ndH (saidB x (splitN n) m wh rp) o := by rw [saidB, dif_neg h, if_pos hk]; rfl
theorem said_right (x o : H) (n m : Nat) (wh : Bool) (rp : List H) (h : ¬ (n < 2 ∨ m = n)) (hk : ¬ m ≤ splitN n) : saidB x n m wh (o :: rp) = ndH o (saidB x (n - splitN n) (m - splitN n) false rp) := by rw [saidB, dif_neg h, if_neg hk]; rfl
theorem nodes_end (x : H) (b : List (List UInt8)) (m : Nat) (wh : Bool) (rp : List H) (h : b.length < 2 ∨ m = b.length) : nodesB x b m wh rp = [] := by rw [nodesB, dif_pos h]
theorem nodes_left (x o : H) (b : List (List UInt8)) (m : Nat) (wh : Bool) (rp : List H) (h : ¬ (b.length < 2 ∨ m = b.length)) (hk : m ≤ splitN b.length) : nodesB x b m wh (o :: rp) = (1 :: ((saidB x (splitN b.length) m wh rp).b ++ o.b), textB b) :: nodesB x (b.take (splitN b.length)) m wh rp := by rw [nodesB, dif_neg h, if_pos hk]; rfl
theorem nodes_right (x o : H) (b : List (List UInt8)) (m : Nat) (wh : Bool) (rp : List H) (h : ¬ (b.length < 2 ∨ m = b.length)) (hk : ¬ m ≤ splitN b.length) : nodesB x b m wh (o :: rp) = (1 :: (o.b ++ (saidB x (b.length - splitN b.length) (m - splitN b.length) false rp).b), textB b) :: nodesB x (b.drop (splitN b.length)) (m - splitN b.length) false rp := by rw [nodesB, dif_neg h, if_neg hk]; rfl
theorem rev_last {P : List H} {o : H} {n : Nat} (hl : P.length = n + 1) (ho : P[n]? = some o) : P.reverse = o :: (P.take n).reverse := by
  have h1 : P.take (n + 1) = P.take n ++ [o] := by rw [List.take_add_one, ho]; rfl
  rw [List.take_of_length_le (by omega)] at h1
  conv => lhs; rw [h1]
  rw [List.reverse_append]
  rfl
theorem nodes_few (x : H) : ∀ (n : Nat) (b : List (List UInt8)) (m : Nat) (wh : Bool) (rp : List H), b.length = n → (nodesB x b m wh rp).length ≤ n := by
  intro n
  induction n using Nat.strongRecOn with
  | _ n ih =>
    intro b m wh rp hn
    rw [nodesB]
    split
    · simp
    · rename_i h
      have hlt := splitN_lt n (by omega)
      have hpos := splitN_pos n (by omega)
      split
      · have := ih _ hlt (b.take (splitN b.length)) m wh rp.tail (by rw [List.length_take, hn]; omega)
        rw [List.length_cons]; omega
      · have := ih (n - splitN n) (by omega) (b.drop (splitN b.length)) (m - splitN b.length) false rp.tail (by rw [List.length_drop, hn])
        rw [List.length_cons]; omega
/-- A text that begins with 1, or a list of such, does not lie in a row of zeros. -/
theorem apart_zero {w : World} {g b o : Nat} {e : TypeId} {u : Value} (hB : Blk w g z32 e) (hc : w.cell? ⟨b, o, none⟩ = some u) (hu : u ≠ .int .u8 0) : b ≠ g := by
  rintro rfl
  rw [hB.cell?] at hc
  have hm := List.mem_of_getElem? hc
  unfold z32 bytesV at hm
  rw [List.map_replicate] at hm
  exact hu (List.eq_of_mem_replicate hm)
def Ones (Z : List (List UInt8 × List UInt8)) : Prop := ∀ z ∈ Z, z.1.head? = some 1 ∧ z.2.head? = some 1
theorem bytes_but {w w' : World} {g : Nat} {e : TypeId} {x : Value} {l : List UInt8} (h : Bytes w x l) (hb : But g w w') (hB : Blk w g z32 e) (h1 : l.head? = some 1) : Bytes w' x l :=
  hb.isSl h (fun hn a k c e' => by
    obtain ⟨b, off, cap, e2, _, hr, _⟩ := IsSl.pos h hn (by decide)
    rw [e2] at e'
    cases e'
    cases l with
    | nil => cases h1
    | cons y l =>
      cases h1
      exact apart_zero hB (hr 0 (.int .u8 1) rfl) (by simp))
theorem Prs.but {w w' : World} {g : Nat} {e : TypeId} {v : Value} {Z : List (List UInt8 × List UInt8)} (h : Prs w v Z) (hb : But g w w') (hB : Blk w g z32 e) (h1 : Ones Z) : Prs w' v Z := by
  obtain ⟨vs, g1, g2, g3⟩ := h
  refine ⟨vs, g1, hb.isSl g2 (fun hn a k c e' => ?_), fun i p z hp hz => ?_⟩
  · obtain ⟨b, off, cap, e2, _, hr, _⟩ := g2.pos hn (by decide)
    rw [e2] at e'
    cases e'
    have hp : vs[0]? = some vs[0] := List.getElem?_eq_getElem (by omega)
    obtain ⟨q1, _⟩ := flat2_at vs 0 _ hp
    obtain ⟨r1, _⟩ := g3 0 _ _ hp (List.getElem?_eq_getElem hn)
    obtain ⟨a0, c0, e0, _⟩ := r1.form
    exact apart_zero hB (hr _ _ q1) (by rw [e0]; simp)
  · obtain ⟨r1, r2⟩ := g3 i p z hp hz
    obtain ⟨k1, k2⟩ := h1 z (List.mem_of_getElem? hz)
    exact ⟨bytes_but r1 hb hB k1, bytes_but r2 hb hB k2⟩
theorem nodes_ones (x : H) : ∀ (n : Nat) (b : List (List UInt8)) (m : Nat) (wh : Bool) (rp : List H), b.length = n → Ones (nodesB x b m wh rp) := by
  intro n
  induction n using Nat.strongRecOn with
  | _ n ih =>
    intro b m wh rp hn z hz
    rw [nodesB] at hz
    split at hz
    · cases hz
    · rename_i h
      have hlt := splitN_lt n (by omega)
      have hpos := splitN_pos n (by omega)
      have ht : (textB b).head? = some 1 := by rw [textB_two b (by omega)]; rfl
      split at hz
      · rcases List.mem_cons.1 hz with rfl | hz
        · exact ⟨rfl, ht⟩
        · exact ih _ hlt (b.take (splitN b.length)) m wh rp.tail (by rw [List.length_take, hn]; omega) z hz
      · rcases List.mem_cons.1 hz with rfl | hz
        · exact ⟨rfl, ht⟩
        · exact ih (n - splitN n) (by omega) (b.drop (splitN b.length)) (m - splitN b.length) false rp.tail (by rw [List.length_drop, hn]) z hz
end Go.Proofs.YtnbnjoejmepkjaaDoor

/-! LinkH: The walk of link.nodes' closure where the part is whole. Conditions: what it has captured reads as told; the proof can be read. -/
namespace Go.Proofs.YtnbnjoejmepkjaaDoor
open Go.RowKit

set_option maxRecDepth 100000 in
set_option maxHeartbeats 1000000 in
theorem ldown_end (ob ub : Nat) (x : H) (vb vl : Value) (b : List (List UInt8)) (ys : List Value) (wh : Bool) (P : List H) (w : World) (hb : Parts w vb b ys) (hs : Hs w vl P) (hP : P.length = if wh then 0 else 1) (hD : Dn w ob ub x) :
    Calls Tryd.prog 36 #[vb, .int .i64 b.length, .bool wh, vl, .pointer (some ⟨ob, 0, none⟩), .pointer (some ⟨ub, 0, none⟩)] w fun e w' => DnPost x b b.length wh P e w' ∧ Below w.heap.size w w' := by
  obtain ⟨xb, cb, rfl, _⟩ := hb.sl.form
  have hal : Below w.heap.size w (w.alloc (.cells z32.toArray 32)) := (Below.refl _ _).alloc (Nat.le_refl _) _
  have hX : Blk (w.alloc (.cells z32.toArray 32)) w.heap.size z32 32 := Blk.newL w _ _
  have hU := hD.h.below hal hD.h.lt
  have HX := Lib.hid hX
  have HU := Lib.hid hU
  unfold DnPost
  rw [nodes_end x b b.length wh P.reverse (.inr rfl), said_end x b.length b.length wh P.reverse (.inr rfl)]
  have hne : ((b.length : Int) == b.length) = true := by simp
  cases wh with
  | true =>
    clear hX hU hD hb hs hP
    simp only [if_true]
    go_enter Tryd.func36, Tryd.ntmps36
    go_wp2_with (first
      | (refine wpList_load_row rfl 32 (.tmp 4) rfl ob rfl 32 (bytesV x.b).toArray (0, 0) _ (by exact HU.out) Tryd.underlying32 rfl (by exact hv_row _) ?_)
      | (refine wpList_store_row rfl 32 (.tmp 10) (.tmp 26) rfl w.heap.size (bytesV x.b).toArray rfl rfl 32 z32.toArray (by exact HX.out) (by exact hv_row _) (by exact z32_old _) (by exact hv_one _) ?_)
      | fail)
    exact bodyPost_ret (results_row_tmp (p := 10) (u := 11) rfl _ _ w.heap.size 32 (bytesV x.b).toArray (0, 0) _ rfl (HX.out.setRow _) Tryd.underlying32 rfl (hv_row x)) rfl ⟨⟨_, rfl, Prs.nil _⟩, below_setRow hal (Nat.le_refl _) _⟩
  | false =>
    obtain ⟨o, rfl⟩ := List.length_eq_one_iff.1 hP
    obtain ⟨lb, lo, cl, rfl, _, hr, _⟩ := Hs.pos hs (by simp)
    have hE : (w.alloc (.cells z32.toArray 32)).rangeAt lb lo (bytesV o.b) := range_below (by have := Hs.elem hr (i := 0) (x := o) rfl; simpa using this) hal
    have HE := Lib.hid hE
    clear hX hU hD hb hs hP hr hE
    simp only [Bool.false_eq_true, if_false, List.reverse_singleton, List.headD_cons]
    go_enter Tryd.func36, Tryd.ntmps36
    go_wp2_with (first
      | (refine wpList_load_mid rfl 32 (.tmp 28) rfl lb lo rfl (bytesV o.b) _ (by exact HE.out) Tryd.underlying32 rfl (by exact hv_info _) ?_)
      | (refine wpList_store_row rfl 32 (.tmp 10) (.tmp 29) rfl w.heap.size (bytesV o.b).toArray rfl rfl 32 z32.toArray (by exact HX.out) (by exact hv_row _) (by exact z32_old _) (by exact hv_one _) ?_)
      | fail)
    exact bodyPost_ret (results_row_tmp (p := 10) (u := 11) rfl _ _ w.heap.size 32 (bytesV o.b).toArray (0, 0) _ rfl (HX.out.setRow _) Tryd.underlying32 rfl (hv_row o)) rfl ⟨⟨_, rfl, Prs.nil _⟩, below_setRow hal (Nat.le_refl _) _⟩
end Go.Proofs.YtnbnjoejmepkjaaDoor
