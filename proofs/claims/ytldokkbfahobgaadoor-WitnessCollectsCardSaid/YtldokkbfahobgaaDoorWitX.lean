/- The law of XInv inside a fence: a region that draws its order, its state told by which operations have been done. The walks of asked and of its iterator, whatever the loop's body keeps. Many witnesses: what stays so where only their blocks turn; what a Collect makes of them. No program. What a witness makes of lists that begin one another, in plain Lean. No condition. The walk of Few, the keys of the document's example. No condition. A list of fresh witnesses, made one by one; what a Collect makes of them. No program. Conditions: what each part says. -/
import Derived.Test.YtldokkbfahobgaaDoorGround
import Derived.Test.YtldokkbfahobgaaDoorAskV
import Derived.Test.YtldokkbfahobgaaDoorRef6V
/-! InvIn: The law of XInv inside a fence: a region that draws its order, its state told by which operations have been done. Condition: the Bool monoFB, and that the program follows the row on mixed orders. -/
namespace Go.Proofs.YtldokkbfahobgaaDoor
open Go Go.BigFrame Go.RowKit
section
variable {F : Fence} {m : Nat} {P : Program} {ops : Array Oper} {md : Region.Mode}

theorem wpIn_over {Q : Exit → Act → World → Prop} {K K' : Act → World → Prop} {o : Oper} {a : Act} {w : World} (h : o.wpIn F m P a w K (over Q K')) : o.wpIn F m P a w K Q := by
  unfold Oper.wpIn at *
  refine ⟨h.1, ?_⟩
  have hh := h.2
  generalize (o.semAt F.round a.eval).run P w = r at *
  cases r with
  | ok x w' =>
    cases x <;> simp only [Oper.uponIn] at hh ⊢ <;>
      first
        | exact hh
        | exact ⟨hh.1, CallsIn.mono hh.2 (fun e w'' he => by cases e <;> exact he)⟩
        | exact ⟨hh.1, RoundIn.mono hh.2 (fun e w'' he => by cases e <;> exact he)⟩
  | halt x w' => cases x <;> simp only [Oper.uponIn] at hh ⊢ <;> exact hh
theorem wpAnyIn_of_seq {Q' : Exit → Act → World → Prop} : ∀ (l : List Oper) (k : Nat) (listed : Array Bool) (a : Act) (w : World), (∀ j, l[j]? = ops[k + j]?) →
    Region.seqB md ops l.length k listed = true → wpListIn F m P ops Q' l a w → wpAnyIn F m P md ops Q' l.length listed a w
  | [], _, _, _, _, _, hB, h => ⟨by simpa [Region.seqB] using hB, h⟩
  | o :: l, k, listed, a, w, hl, hB, h => by
    have h0 : ops[k]? = some o := by simpa using (hl 0).symm
    simp only [List.length_cons, Region.seqB, Bool.and_eq_true, decide_eq_true_eq] at hB
    refine ⟨fun h1 => (by rw [hB.1] at h1; cases h1), fun i hi => ?_⟩
    rw [hB.1] at hi
    have hik : i = k := by simpa using hi
    subst hik
    simp only [wpListIn] at h
    unfold wpOpIn
    simp only [h0]
    have hrec : ∀ a w, wpListIn F m P ops Q' l a w → wpAnyIn F m P md ops Q' l.length (listed.setIfInBounds i true) a w := fun a w h => wpAnyIn_of_seq l (i + 1) _ a w (fun j => by
      have := hl (j + 1)
      rw [List.getElem?_cons_succ] at this
      rw [this, show i + (j + 1) = i + 1 + j by omega]) hB.2 h
    split
    · rename_i hw
      rw [if_pos hw] at h
      exact Oper.wpIn_mono hrec h
    · rename_i hw
      rw [if_neg hw] at h
      exact ⟨h.1, hrec _ _ h.2⟩
def monoAllIn (F : Fence) (m : Nat) (P : Program) (md : Region.Mode) (ops : Array Oper) (R : Nat → Value → World → Prop) (ds : List (Option Tmp)) (a0 : Act) (B : Nat) (w0 : World) : List Oper → Nat → Prop
  | [], _ => True
  | o :: rest, i => (∀ (x : Nat → Value) (w : World), Below B w0 w → (∀ j ∈ needs md o, R j (x j) w) → ∀ Qg : Exit → Act → World → Prop,
      (∀ v w', R i v w' → Below w.heap.size w w' → Qg .normal ((fill x ds 0 a0).put o.dst v) w') → wpListIn F m P ops Qg [o] (fill x ds 0 a0) w) ∧ monoAllIn F m P md ops R ds a0 B w0 rest (i + 1)
theorem monoAllInIn_at {R : Nat → Value → World → Prop} {ds : List (Option Tmp)} {a0 : Act} {B : Nat} {w0 : World} : ∀ (l : List Oper) (i j : Nat) (o : Oper), monoAllIn F m P md ops R ds a0 B w0 l i → l[j]? = some o →
    ∀ (x : Nat → Value) (w : World), Below B w0 w → (∀ k ∈ needs md o, R k (x k) w) → ∀ Qg : Exit → Act → World → Prop,
      (∀ v w', R (i + j) v w' → Below w.heap.size w w' → Qg .normal ((fill x ds 0 a0).put o.dst v) w') → wpListIn F m P ops Qg [o] (fill x ds 0 a0) w
  | [], _, _, _, _, h => by simp at h
  | o' :: l, i, j, o, h, ho => by
    cases j with
    | zero =>
      have e : o' = o := by simpa using ho
      subst e
      exact h.1
    | succ j =>
      have := monoAllInIn_at l (i + 1) j o h.2 (by simpa using ho)
      rw [show i + 1 + j = i + (j + 1) by omega] at this
      exact this

theorem wpAnyIn_mono {Q : Exit → Act → World → Prop} {R : Nat → Value → World → Prop} {n B : Nat} {a0 : Act} {w0 : World} {l : List Oper} (hl : l.toArray = ops) (hK : ∀ j, Kept (R j)) (hBw : B ≤ w0.heap.size)
    (hback : backB md ops = true) (hn : n ≤ ops.size) (hap : apartB ((l.take n).map (·.dst)) = true) (htw : tailWaitsB md ops n = true) (hseq : Region.seqB md ops (ops.size - n) n (listedH ops.size n) = true)
    (hops : monoAllIn F m P md ops R ((l.take n).map (·.dst)) a0 B w0 (l.take n) 0)
    (hfin : ∀ (x : Nat → Value) (w : World), Below B w0 w → (∀ j, j < n → R j (x j) w) → wpListIn F m P ops Q (l.drop n) (fill x ((l.take n).map (·.dst)) 0 a0) w) :
    ∀ (g : Nat) (listed : Array Bool) (x : Nat → Value) (w : World), listed.size = ops.size → (∀ t, n ≤ t → t < ops.size → listed.getD t true = false) → unl listed n = g → Below B w0 w →
      (∀ j, j < n → listed.getD j true = true → R j (x j) w) → wpAnyIn F m P md ops Q (g + (ops.size - n)) listed (fill x ((l.take n).map (·.dst)) 0 a0) w := by
  have hsz : ops.size = l.length := by rw [← hl]; simp
  intro g
  induction g with
  | zero =>
    intro listed x w hs ht hu hb hR
    have hall := unl_zero listed n hu
    have e : listed = listedH ops.size n := by
      apply Array.ext
      · simp [listedH, hs]
      · intro i h1 h2
        simp only [listedH, List.getElem_toArray, List.getElem_map, List.getElem_range]
        by_cases hi : i < n
        · have := hall i hi
          simp [h1] at this
          simp [hi, this]
        · have := ht i (by omega) (by omega)
          simp [h1] at this
          simp [hi, this]
    rw [Nat.zero_add]
    have h := hfin x w hb (fun j hj => hR j hj (hall j hj))
    have hd : (l.drop n).length = ops.size - n := by rw [List.length_drop, hsz]
    rw [← hd]
    refine wpAnyIn_of_seq (l.drop n) n listed _ w (fun j => ?_) ?_ h
    · rw [← hl]; simp
    · rw [e, hd]; exact hseq
  | succ g ih =>
    intro listed x w hs ht hu hb hR
    rw [show g + 1 + (ops.size - n) = (g + (ops.size - n)) + 1 by omega]
    obtain ⟨i0, hi0, hun0, hmin⟩ := unl_pos listed n (by omega)
    refine ⟨fun h0 => ?_, fun i hi => ?_⟩
    · exfalso
      have hmem : i0 ∈ Region.ready md ops listed := by
        have h1 := List.all_eq_true.1 hback i0 (List.mem_range.2 (by omega))
        have ho : ops[i0]? = some ops[i0] := Array.getElem?_eq_getElem (by omega)
        rw [ho] at h1
        simp only [Option.map_some, Option.getD_some] at h1
        refine mem_ready.2 ⟨hun0, _, ho, fun e he hb => ?_⟩
        have h2 := Array.all_eq_true_iff_forall_mem.1 h1 e he
        rw [hb] at h2
        have h3 : e.on < i0 := by simpa using h2
        have h4 := hmin e.on h3
        have h5 : e.on < listed.size := by omega
        simp [h5] at h4 ⊢
        exact h4
      rw [h0] at hmem
      cases hmem
    · obtain ⟨hun, o, ho, hall⟩ := mem_ready.1 hi
      have his : i < ops.size := (Array.getElem?_eq_some_iff.1 ho).1
      have hin : i < n := by
        rcases Nat.lt_or_ge i n with h | h
        · exact h
        · exfalso
          have h1 := List.all_eq_true.1 htw i (List.mem_range.2 his)
          simp only [Bool.or_eq_true, Bool.and_eq_true, decide_eq_true_eq] at h1
          rcases h1 with (h1 | h1) | h1
          · omega
          · obtain ⟨oj, hoj, e, he, hb', hon⟩ := Region.waitsFor_spec h1.2
            have e2 : oj = o := Option.some.inj (hoj.symm.trans ho)
            subst e2
            have h2 := hall e he hb'
            rw [hon, getD_both (ht (i - 1) (by omega) (by omega))] at h2
            cases h2
          · have h2 := List.all_eq_true.1 h1 i0 (List.mem_range.2 hi0)
            obtain ⟨oj, hoj, e, he, hb', hon⟩ := Region.waitsFor_spec h2
            have e2 : oj = o := Option.some.inj (hoj.symm.trans ho)
            subst e2
            have h3 := hall e he hb'
            rw [hon, getD_both hun0] at h3
            cases h3
      have hol : l[i]? = some o := by rw [← ho, ← hl]; simp
      have hot : (l.take n)[i]? = some o := by rw [List.getElem?_take, if_pos hin]; exact hol
      have hod : ((l.take n).map (·.dst))[i]? = some o.dst := by rw [List.getElem?_map, hot]; rfl
      have hstep := monoAllInIn_at (l.take n) 0 i o hops hot x w hb (fun k hk => by
        obtain ⟨e, he, hb', rfl⟩ := needs_mem hk
        have h1 := hall e he hb'
        have h2 := List.all_eq_true.1 hback i (List.mem_range.2 his)
        rw [ho] at h2
        simp only [Option.map_some, Option.getD_some] at h2
        have h3 := Array.all_eq_true_iff_forall_mem.1 h2 e he
        rw [hb'] at h3
        have h4 : e.on < i := by simpa using h3
        have h5 : e.on < listed.size := by omega
        refine hR e.on (by omega) ?_
        simp [h5] at h1 ⊢
        exact h1)
        (over Q (wpAnyIn F m P md ops Q (g + (ops.size - n)) (listed.setIfInBounds i true))) (fun v w' hRv hbw => ?_)
      · simp only [wpListIn] at hstep
        unfold wpOpIn
        simp only [ho]
        split
        · rename_i hw
          rw [if_pos hw] at hstep
          exact wpIn_over hstep
        · rename_i hw
          rw [if_neg hw] at hstep
          exact hstep
      · show wpAnyIn F m P md ops Q (g + (ops.size - n)) (listed.setIfInBounds i true) _ w'
        rw [fill_upd x v _ 0 i a0 o.dst hap hod, Nat.zero_add]
        have hBw' : B ≤ w.heap.size := Nat.le_trans hBw hb.size
        refine ih _ _ _ (by simpa using hs) (fun t h1 h2 => ?_) ?_ (hb.trans (hbw.mono hBw')) (fun j hj hlj => ?_)
        · rw [getD_set_ne true (by omega)]
          exact ht t h1 h2
        · have := unl_set listed i hun n hin
          omega
        · by_cases e : j = i
          · subst e
            simpa [upd] using (by simpa using hRv : R j v w')
          · rw [getD_set_ne true (Ne.symm e)] at hlj
            simp only [upd, if_neg e]
            exact hK j _ _ _ hbw (hR j hj hlj)

theorem wpIn_region_mono {id : Nat} {Q : Exit → Act → World → Prop} {a0 : Act} {w0 : World} {l : List Oper} (n B : Nat) (Rs : List (Value → World → Prop)) (hm : P.follows .mixedOrders = true) (hB : monoB l.toArray n = true)
    (hBw : B ≤ w0.heap.size) (hK : ∀ R ∈ Rs, Kept R) (ds : List (Option Tmp)) (hds : (l.take n).map (·.dst) = ds)
    (hops : monoAllIn F m P .any l.toArray (fun j => Rs.getD j fun _ _ => True) ds a0 B w0 (l.take n) 0)
    (hfin : ∀ (x : Nat → Value) (w : World), Below B w0 w → (∀ j, j < n → (Rs.getD j fun _ _ => True) (x j) w) → wpListIn F m P l.toArray Q (l.drop n) (fill x ds 0 a0) w) : (Code.region id l.toArray true).wpIn F m P Q a0 w0 := by
  subst hds
  simp only [monoB, Bool.and_eq_true, decide_eq_true_eq] at hB
  obtain ⟨⟨⟨⟨hn, hback⟩, hap⟩, htw⟩, hseq⟩ := hB
  refine wpIn_region_any hm ?_
  have hK' : ∀ j, Kept (Rs.getD j fun _ _ => True) := fun j => by
    rw [List.getD_eq_getElem?_getD]
    cases h : Rs[j]? with
    | none => exact fun _ _ _ _ _ => trivial
    | some R => exact hK R (List.mem_of_getElem? h)
  have hu2 : ∀ k, k ≤ l.toArray.size → unl (Array.replicate l.toArray.size false) k = k := fun k => by
    induction k with
    | zero => exact fun _ => rfl
    | succ k ih =>
      intro hk
      simp only [unl]
      rw [ih (by omega), if_neg]
      rw [getD_in (by rw [Array.size_replicate]; omega) (getD_replicate_false _ _)]
      exact Bool.false_ne_true
  obtain ⟨x0, e0⟩ : ∃ x0 : Nat → Value, fill x0 ((l.take n).map (·.dst)) 0 a0 = a0 := ⟨fun k => match ((l.take n).map (·.dst))[k]? with
      | some (some d) => a0.tmps.getD d undef
      | _ => undef, fill_self _ 0 _ a0 (fun k d hk => by rw [Nat.zero_add, hk])⟩
  have hlast := wpAnyIn_mono (F := F) (m := m) (P := P) (md := .any) (Q := Q) (R := fun j => Rs.getD j fun _ _ => True) (n := n) (B := B) (a0 := a0) (w0 := w0) (l := l) rfl hK' hBw hback hn (by simpa using hap) htw hseq hops hfin
    n (Array.replicate l.toArray.size false) x0 ({ w0 with drawn := w0.drawn + 1 } : World) (by simp) (fun t _ ht => getD_in (by simpa using ht) (getD_replicate_false _ _)) (hu2 n hn) (show Below B w0 w0.drew from Below.drew (Below.refl _ _))
    (fun j hj hlj => by rw [getD_in (by rw [Array.size_replicate]; omega) (getD_replicate_false _ _)] at hlj; cases hlj)
  rw [e0, show n + (l.toArray.size - n) = l.toArray.size by omega] at hlast
  exact hlast
end
end Go.Proofs.YtldokkbfahobgaaDoor

/-! WitK: The walks of asked and of its iterator, whatever the loop's body keeps. Conditions: the witnesses' pointers can be read. -/
namespace Go.Proofs.YtldokkbfahobgaaDoor
open Go.RowKit Go.Shelf
attribute [local go_sem] Oper.semAt_some

set_option maxHeartbeats 400000 in
theorem asked_any (v : Value) (mask : Int) (w : World) (hv : ∃ a k c, v = .slice a k c) :
    Calls Tryd.prog 28 #[v, .int .i64 mask] w fun e w' => e = .returned (.func (.func 47) #[] #[.pointer (some ⟨w.heap.size, 0, none⟩), .pointer (some ⟨w.heap.size + 1, 0, none⟩)]) ∧ w' = (w.alloc (.cells #[v] 49)).alloc (.cells #[.int .i64 mask] 3) := by
  obtain ⟨a, k, c, rfl⟩ := hv
  go_enter Tryd.func28, Tryd.ntmps28
  go_wp2
  go_ret
  exact ⟨rfl, rfl⟩

/-- Whether the witness i is asked. -/
def bitB (mask : Int) (i : Nat) : Bool := decide (0 ≤ mask) && decide (i < 62) && decide (bits .and .i64 (mask / 2 ^ i) 1 = 1)
set_option maxRecDepth 100000 in
set_option maxHeartbeats 1000000 in
theorem asked_iter (m l Bl Bm : Nat) (a : Option Addr) (cap N : Nat) (mask : Int) (gs : List Nat) (hN : gs.length = N) (hmax : N ≤ 1099511627776) (J : Nat → World → Prop)
    (hS : ∀ i W, i < N → bitB mask i = false → J i W → J (i + 1) W)
    (hY : ∀ i x W, i < N → gs[i]? = some x → bitB mask i = true → J i W → YieldAt Fence.wide (m - 1) Tryd.prog l #[.pointer (some ⟨x, 0, none⟩)] W fun e W' => e = .returned (.bool true) ∧ J (i + 1) W')
    (hC : ∀ i W, J i W → W.cell? ⟨Bl, 0, none⟩ = some (.slice a N cap) ∧ W.cell? ⟨Bm, 0, none⟩ = some (.int .i64 mask))
    (hE : ∀ i j x W, J i W → gs[j]? = some x → ∃ g off, a = some ⟨g, off, none⟩ ∧ W.cell? ⟨g, off + j, none⟩ = some (.pointer (some ⟨x, 0, none⟩)))
    (W : World) (h0 : J 0 W) :
    CallsIn Fence.wide m Tryd.prog 47 #[.func (.yield l) #[] #[], .pointer (some ⟨Bl, 0, none⟩), .pointer (some ⟨Bm, 0, none⟩)] W fun e W' => (∃ v, e = .returned v) ∧ J N W' := by
  have HY := Lib.hid hY
  have HS := Lib.hid hS
  have HC := Lib.hid hC
  have HE := Lib.hid hE
  have HN := Lib.hid hN
  obtain ⟨c1, c2⟩ := hC 0 W h0
  clear hY hC hN hE hS
  refine callsIn_of_wp Tryd.func47 rfl trivial ?_ rfl
  simp only [Tryd.ntmps47, List.size_toArray, List.length_cons, List.length_nil, Nat.reduceAdd, Nat.reduceSub, Array.replicate_succ, Array.replicate_zero, List.push_toArray, List.append_toArray, List.nil_append, List.cons_append]
  gi_wp2
  gi_loopw [8] (fun nv wr => ∃ i : Nat, i ≤ N ∧ nv = .int .i64 i ∧ J i wr) (fun nv _ => N - (intOf nv).toNat)
  case atStart => exact ⟨0, by omega, rfl, h0⟩
  case round =>
    clear c1 c2
    obtain ⟨i, hi, rfl, hj⟩ := hrel
    by_cases hiN : i < N
    · obtain ⟨x, hx⟩ : ∃ x, gs[i]? = some x := ⟨_, List.getElem?_eq_getElem (by rw [HN.out]; omega)⟩
      obtain ⟨c1, c2⟩ := HC.out i wr hj
      obtain ⟨g, off, rfl, c3⟩ := HE.out i i x wr hj hx
      by_cases hb : bitB mask i = true
      · obtain ⟨fn, tmps, assign, body, hy, hR⟩ := HY.out i x wr hiN hx hb hj
        have hHR := Lib.hid hR
        clear hR hx hj
        unfold bitB at hb
        simp only [Bool.and_eq_true, decide_eq_true_iff] at hb
        obtain ⟨⟨hb0, hb1⟩, hb2⟩ := hb
        gi_wp2_with fail
        refine ⟨fun h => by simp [Fence.wide] at h, ?_⟩
        refine hHR.out.mono ?_
        rintro e W3 ⟨rfl, hj3⟩
        have HJ3 := Lib.hid hj3
        clear hj3 hy hHR c1 c2 c3
        gi_wp2
        exact ⟨⟨i + 1, by omega, by go_num, HJ3.out⟩, by first | (simp [intOf]; done) | (simp [intOf]; omega)⟩
      · have hb : bitB mask i = false := by simpa using hb
        have HJ3 := Lib.hid (HS.out i wr hiN hb hj)
        unfold bitB at hb
        clear hj hx
        by_cases h1 : 0 ≤ mask
        · by_cases h2 : i < 62
          · have h3 : ¬ bits .and .i64 (mask / 2 ^ i) 1 = 1 := by simpa [h1, h2] using hb
            gi_wp2_with fail
            repeat (refine ⟨(fun f h => nomatch h), ?_⟩; gi_wp2_with fail)
            exact ⟨⟨i + 1, by omega, by go_num, HJ3.out⟩, by first | (simp [intOf]; done) | (simp [intOf]; omega)⟩
          · gi_wp2_with fail
            repeat (refine ⟨(fun f h => nomatch h), ?_⟩; gi_wp2_with fail)
            exact ⟨⟨i + 1, by omega, by go_num, HJ3.out⟩, by first | (simp [intOf]; done) | (simp [intOf]; omega)⟩
        · gi_wp2_with fail
          repeat (refine ⟨(fun f h => nomatch h), ?_⟩; gi_wp2_with fail)
          exact ⟨⟨i + 1, by omega, by go_num, HJ3.out⟩, by first | (simp [intOf]; done) | (simp [intOf]; omega)⟩
    · obtain rfl : i = N := by omega
      obtain ⟨c1, c2⟩ := HC.out i wr hj
      have HJ := Lib.hid hj
      clear hj
      gi_wp2
      go_end0
      exact ⟨⟨_, rfl⟩, HJ.out⟩
end Go.Proofs.YtldokkbfahobgaaDoor

/-! WitL: Many witnesses: what stays so where only their blocks turn; what a Collect makes of them. No program. -/
namespace Go.Proofs.YtldokkbfahobgaaDoor
open Go.RowKit

/-- Nothing that was there has turned but the blocks gs. -/
structure ButS (gs : List Nat) (w w' : World) : Prop where
  os : w'.os = w.os
  tape : w'.tape = w.tape
  output : w'.output = w.output
  size : w.heap.size ≤ w'.heap.size
  block : ∀ k, k < w.heap.size → k ∉ gs → w'.heap[k]? = w.heap[k]?
section
variable {gs : List Nat} {u w w' : World}
theorem ButS.refl (gs : List Nat) (w : World) : ButS gs w w := ⟨rfl, rfl, rfl, Nat.le_refl _, fun _ _ _ => rfl⟩
theorem ButS.then {B : Nat} (h : ButS gs u w) (h' : Below B w w') (hB : u.heap.size ≤ B) : ButS gs u w' :=
  ⟨h'.os.trans h.os, h'.tape.trans h.tape, h'.output.trans h.output, Nat.le_trans h.size h'.size, fun k hk hg => (h'.block k (Nat.lt_of_lt_of_le hk hB)).trans (h.block k hk hg)⟩
theorem ButS.of (h : Below w.heap.size w w') : ButS gs w w' := (ButS.refl gs w).then h (Nat.le_refl _)
theorem ButS.but {g : Nat} (h : ButS gs u w) (h' : But g w w') (hg : g ∈ gs) : ButS gs u w' :=
  ⟨h'.os.trans h.os, h'.tape.trans h.tape, h'.output.trans h.output, Nat.le_trans h.size h'.size, fun k hk hn => (h'.block k (Nat.lt_of_lt_of_le hk h.size) (fun e => hn (e ▸ hg))).trans (h.block k hk hn)⟩
theorem ButS.trans (h : ButS gs u w) (h' : ButS gs w w') : ButS gs u w' :=
  ⟨h'.os.trans h.os, h'.tape.trans h.tape, h'.output.trans h.output, Nat.le_trans h.size h'.size, fun k hk hn => (h'.block k (Nat.lt_of_lt_of_le hk h.size) hn).trans (h.block k hk hn)⟩
theorem ButS.sub {gs' : List Nat} (h : ButS gs w w') (hs : ∀ g ∈ gs, g ∈ gs') : ButS gs' w w' := ⟨h.os, h.tape, h.output, h.size, fun k hk hn => h.block k hk (fun e => hn (hs k e))⟩
theorem ButS.cell (h : ButS gs w w') {p : Addr} {v : Value} (hc : w.cell? p = some v) (hg : p.block ∉ gs) : w'.cell? p = some v := by
  rw [World.cell?_of_block (h.block p.block (World.block_lt_of_cell? _ _ hc) hg)]
  exact hc
theorem ButS.blk {r : Nat} {l : List Value} {e : TypeId} (h : ButS gs w w') (hr : Blk w r l e) (hg : r ∉ gs) : Blk w' r l e := (h.block r hr.lt hg).trans hr
/-- A slice that does not lie in one of the blocks. -/
def ApartS (gs : List Nat) (v : Value) : Prop := ∀ a k c, v = .slice (some a) k c → a.block ∉ gs
theorem ApartS.one {v : Value} (h : ApartS gs v) {g : Nat} (hg : g ∈ gs) : ApartV g v := fun a k c e e' => h a k c e (e' ▸ hg)
theorem ButS.isSl {v : Value} {size n : Nat} {cs : List Value} (h : ButS gs w w') (hs : IsSl w v size n cs) (ha : 0 < n → ApartS gs v) : IsSl w' v size n cs := by
  by_cases hn : n = 0
  · subst hn
    exact hs.any0
  · exact hs.of_cells fun p _ hc ⟨a, k, c, e, hp⟩ => h.cell hc (hp ▸ ha (by omega) a k c e)
end
theorem isSl_lt {w : World} {v : Value} {size n : Nat} {cs : List Value} (h : IsSl w v size n cs) (hn : 0 < n) (hz : 0 < size) (a : Addr) (k c : Nat) (e : v = .slice (some a) k c) : a.block < w.heap.size := by
  obtain ⟨b, off, cap, hv, _, hr, _⟩ := h.pos hn hz
  rw [hv] at e
  cases e
  have hl := h.1
  have h0 : 0 < cs.length := by rw [hl]; exact Nat.mul_pos hn hz
  exact World.block_lt_of_cell? _ _ (hr 0 _ (List.getElem?_eq_getElem h0))
theorem apartS_pos {gs : List Nat} {w : World} {v : Value} {size n : Nat} {cs : List Value} (h : IsSl w v size n cs) (hn : 0 < n) (hz : 0 < size) (hg : ∀ g ∈ gs, w.heap.size ≤ g) : ApartS gs v := fun a k c e hm => by
  have := isSl_lt h hn hz a k c e
  have := hg _ hm
  omega
/-- A witness's pointer as a value. -/
def ptrV (g : Nat) : Value := .pointer (some ⟨g, 0, none⟩)
/-- The keys, the witnesses and the list of hashes that a Collect is given. -/
structure WEnv (w : World) (pv wv hsv lv : Value) (ps ws hs : List H) (need : Int) (gs : List Nat) (num : Nat → Int) (st : Nat → Int × H) (e : TypeId) : Prop where
  pk : Hs w pv ps
  wk : Hs w wv ws
  hk : Hs w hsv hs
  sl : IsSl w lv 1 gs.length (gs.map ptrV)
  wit : ∀ g ∈ gs, Blk w g (witC pv wv need (num g) (st g).1 (st g).2) e
  glob : Glob w
  pa : ApartS gs pv
  wa : ApartS gs wv
  ha : 0 < hs.length → ApartS gs hsv
  la : ApartS gs lv
theorem WEnv.lt {w : World} {pv wv hsv lv : Value} {ps ws hs : List H} {need : Int} {gs : List Nat} {num : Nat → Int} {st : Nat → Int × H} {e : TypeId} (h : WEnv w pv wv hsv lv ps ws hs need gs num st e) {g : Nat} (hg : g ∈ gs) : g < w.heap.size := (h.wit g hg).lt
theorem WEnv.turn {w w' : World} {pv wv hsv lv : Value} {ps ws hs : List H} {need : Int} {gs : List Nat} {num : Nat → Int} {st st' : Nat → Int × H} {e : TypeId} (h : WEnv w pv wv hsv lv ps ws hs need gs num st e) (hb : ButS gs w w') (hw : ∀ g ∈ gs, Blk w' g (witC pv wv need (num g) (st' g).1 (st' g).2) e) : WEnv w' pv wv hsv lv ps ws hs need gs num st' e where
  pk := hb.isSl h.pk (fun _ => h.pa)
  wk := hb.isSl h.wk (fun _ => h.wa)
  hk := hb.isSl h.hk h.ha
  sl := hb.isSl h.sl (fun _ => h.la)
  wit := hw
  glob := by
    have ne : ∀ (G : Nat) (cs : List Value) (x : Int), w.rangeAt G 0 cs → cs[0]? = some (.int .u32 x) → G ∉ gs := by
      intro G cs x hr h0 hg
      obtain ⟨a, c, e1, _⟩ := h.pk.form
      have hc := (h.wit G hg).cell (i := 0) (v := pv) rfl
      have := hr 0 _ h0
      rw [show (0 : Nat) + 0 = 0 from rfl, hc, e1] at this
      cases this
    have hG := h.glob
    have hk := ne _ kvals _ hG.k rfl
    have hf := ne _ fvals _ hG.f rfl
    exact ⟨fun j u hj => hb.cell (hG.k j u hj) hk, fun j u hj => hb.cell (hG.f j u hj) hf, trivial⟩
  pa := h.pa
  wa := h.wa
  ha := h.ha
  la := h.la
theorem WEnv.below {w w' : World} {pv wv hsv lv : Value} {ps ws hs : List H} {need : Int} {gs : List Nat} {num : Nat → Int} {st : Nat → Int × H} {e : TypeId} (h : WEnv w pv wv hsv lv ps ws hs need gs num st e) (hb : Below w.heap.size w w') : WEnv w' pv wv hsv lv ps ws hs need gs num st e :=
  h.turn (ButS.of hb) fun g hg => (h.wit g hg).below hb (h.lt hg)

/-- What a witness makes of being asked to sign a list. -/
def askedB (hs : List H) (st : Int × H) : Bool := askB st.1 hs.length st.2 (rootN ndH e0H hs) (subR hs st.1)
def updS (st : Nat → Int × H) (g : Nat) (x : Int × H) : Nat → Int × H := fun k => if k = g then x else st k
/-- The witnesses behind the first i of gs, and what these have signed. -/
def collI (hs : List H) (mask : Int) (np : Nat) (nw : List H) (need : Int) (num : Nat → Int) (gs : List Nat) (st : Nat → Int × H) : Nat → (Nat → Int × H) × List (Int × H)
  | 0 => (st, [])
  | i + 1 =>
    let c := collI hs mask np nw need num gs st i
    if bitB mask i && askedB hs (c.1 (gs.getD i 0)) then (updS c.1 (gs.getD i 0) ((hs.length : Int), rootN ndH e0H hs), c.2 ++ [(num (gs.getD i 0), signH np nw need (num (gs.getD i 0)) hs.length (rootN ndH e0H hs))]) else c
def sigsL (l : List (Int × H)) : List Value := (l.map fun x => sigC x.1 x.2).flatten
theorem sigsL_len (l : List (Int × H)) : (sigsL l).length = l.length * 33 := by
  induction l with
  | nil => rfl
  | cons x l ih =>
    unfold sigsL at ih ⊢
    rw [List.map_cons, List.flatten_cons, List.length_append, ih, sigC_len, List.length_cons]
    omega
theorem sigsL_app (l m : List (Int × H)) : sigsL (l ++ m) = sigsL l ++ sigsL m := by simp [sigsL]
theorem sigsL_one (l : List (Int × H)) : ∀ u ∈ sigsL l, u.oneCell' = true := by
  intro u hu
  unfold sigsL at hu
  rw [List.mem_flatten] at hu
  obtain ⟨m, hm, hu⟩ := hu
  rw [List.mem_map] at hm
  obtain ⟨x, _, rfl⟩ := hm
  unfold sigC at hu
  rw [List.mem_cons] at hu
  rcases hu with rfl | hu
  · rfl
  · exact bytesV_one _ u hu
theorem collI_len (hs : List H) (mask : Int) (np : Nat) (nw : List H) (need : Int) (num : Nat → Int) (gs : List Nat) (st : Nat → Int × H) : ∀ i, (collI hs mask np nw need num gs st i).2.length ≤ i
  | 0 => Nat.le_refl _
  | i + 1 => by
    have := collI_len hs mask np nw need num gs st i
    simp only [collI]
    split
    · simp; omega
    · omega
end Go.Proofs.YtldokkbfahobgaaDoor

/-! WitO: What a witness makes of lists that begin one another, in plain Lean. No condition. -/
namespace Go.Proofs.YtldokkbfahobgaaDoor
open Go.RowKit

/-- A witness that has signed the first m of a list. -/
def upto (h : List H) (m : Nat) : Int × H := ((m : Int), rootN ndH e0H (h.take m))
theorem upto_zero (h : List H) : upto h 0 = (0, e0H) := by
  unfold upto
  rw [List.take_zero, root_nil]
  rfl
theorem asked_up (hs : List H) (m : Nat) (hl : hs.length ≤ 400) (hm : m ≤ hs.length) : askedB hs (upto hs m) = true := by
  have h1 : decide (((hs.length : Nat) : Int) ≤ 400) = true := decide_eq_true (by omega)
  unfold askedB askB upto
  rw [h1, Bool.true_and]
  show begR (m : Int) hs.length (rootN ndH e0H (hs.take m)) (rootN ndH e0H hs) (subR hs m) = true
  unfold subR
  rcases Nat.eq_zero_or_pos m with rfl | h0
  · rw [if_neg (by omega), List.take_zero, root_nil]
    have := beg_none (rootN ndH e0H hs) hs.length [] (by omega)
    simpa using this
  · rw [if_pos (by omega), Int.toNat_natCast]
    exact beg_sub hs m h0 hm (by omega)
theorem begR_less (m n : Nat) (x y : H) (P : List H) (h : n < m) : begR m n x y P = false := by
  unfold begR bothR
  rw [if_neg (by omega), if_neg (by omega)]
  rfl
theorem asked_down (hs : List H) (m : Nat) (r : H) (hm : hs.length < m) : askedB hs ((m : Int), r) = false := by
  unfold askedB askB
  show (decide _ && begR (m : Int) hs.length r (rootN ndH e0H hs) (subR hs m)) = false
  rw [begR_less m hs.length _ _ _ hm, Bool.and_false]
/-- The list's beginning: what has been signed of the list was signed of its beginning. -/
theorem upto_take (h : List H) (m k : Nat) (hm : m ≤ k) : upto (h.take k) m = upto h m := by
  unfold upto
  rw [List.take_take, Nat.min_eq_left hm]
theorem upto_all (h : List H) (k : Nat) (hk : k ≤ h.length) : (((h.take k).length : Int), rootN ndH e0H (h.take k)) = upto h k := by
  unfold upto
  rw [List.length_take, Nat.min_eq_left hk]
theorem asked_take (h : List H) (m k : Nat) (hl : h.length ≤ 400) (hk : k ≤ h.length) : askedB (h.take k) (upto h m) = decide (m ≤ k) := by
  have hlen : (h.take k).length = k := by rw [List.length_take, Nat.min_eq_left hk]
  by_cases hm : m ≤ k
  · rw [decide_eq_true hm, ← upto_take h m k hm]
    exact asked_up _ _ (by omega) (by omega)
  · rw [decide_eq_false hm]
    exact asked_down _ _ _ (by omega)
end Go.Proofs.YtldokkbfahobgaaDoor

/-! WitP: The walk of Few, the keys of the document's example. No condition. -/
namespace Go.Proofs.YtldokkbfahobgaaDoor
open Go.RowKit

def oneH (b : UInt8) : H := ⟨b :: List.replicate 31 0, rfl⟩
def fewP : List H := [oneH 1, oneH 2]
def fewW : List H := [oneH 3, oneH 4, oneH 5]
theorem bodyPost_world {P : Program} {fn : Func} {R : Ending → World → Prop} {e : Exit} {a : Act} {w w' : World} (h : w' = w) (h2 : bodyPost P fn R e a w') : bodyPost P fn R e a w := h ▸ h2
set_option maxRecDepth 100000 in
set_option maxHeartbeats 2000000 in
theorem few_any (w : World) :
    Calls Tryd.prog 22 #[] w fun e w' => ∃ pv wv, e = .returned (keysV pv wv 2) ∧ Hs w' pv fewP ∧ Hs w' wv fewW ∧ Below w.heap.size w w' := by
  obtain ⟨W, hW⟩ : ∃ W, W = ((w.alloc (.cells [.slice (some ⟨w.heap.size + 1, 0, none⟩) 2 2, .slice (some ⟨w.heap.size + 1 + 1, 0, none⟩) 3 3, .int .i64 2].toArray 24)).alloc (.cells (bytesV (hflat fewP)).toArray 31)).alloc (.cells (bytesV (hflat fewW)).toArray 31) := ⟨_, rfl⟩
  have h1 : Hs W (.slice (some ⟨w.heap.size + 1, 0, none⟩) 2 2) fewP := by rw [hW]; exact (hs_new _ fewP _ (by simp) rfl).below ((Below.refl _ _).alloc (Nat.le_refl _) _)
  have h2 : Hs W (.slice (some ⟨w.heap.size + 1 + 1, 0, none⟩) 3 3) fewW := by rw [hW]; exact hs_new _ fewW _ (by simp) rfl
  have hb : Below w.heap.size w W := by rw [hW]; (repeat (first | with_reducible assumption | with_reducible exact Below.refl _ _ | ((with_reducible refine Below.setCell ?_ ?_ _); rotate_left; focus (first | omega | (simp; done) | (simp; omega))) | ((with_reducible refine Below.alloc ?_ ?_ _); rotate_left; focus (first | omega | (simp; done) | (simp; omega))) | ((with_reducible refine below_setRow ?_ ?_ _); rotate_left; focus (first | omega | (simp; done) | (simp; omega))) | (with_reducible refine below_drewN ?_ _) | (with_reducible refine Below.drew ?_)))
  have hB : Blk W w.heap.size [.slice (some ⟨w.heap.size + 1, 0, none⟩) 2 2, .slice (some ⟨w.heap.size + 1 + 1, 0, none⟩) 3 3, .int .i64 2] 24 := by rw [hW]; exact ((Blk.newL w _ _).alloc _).alloc _
  go_enter Tryd.func22, Tryd.ntmps22
  go_wp2_with fail
  refine bodyPost_world hW ?_
  exact bodyPost_ret (v := keysV (.slice (some ⟨w.heap.size + 1, 0, none⟩) 2 2) (.slice (some ⟨w.heap.size + 1 + 1, 0, none⟩) 3 3) 2) (results_cell_row rfl _ _ w.heap.size 24 _ (0, 0) _ rfl hB Tryd.underlying24 rfl (keys_row _ _ _)) rfl ⟨_, _, rfl, h1, h2, hb⟩
end Go.Proofs.YtldokkbfahobgaaDoor

/-! WitT: A list of fresh witnesses, made one by one; what a Collect makes of them. No program. -/
namespace Go.Proofs.YtldokkbfahobgaaDoor
open Go.RowKit

theorem own_ne {W : World} {base : Nat} {e e' : TypeId} {size : Nat} {v : Value} {n : Nat} {xs l : List Value} {g : Nat} (h : W.ownsRow base e size v n xs) (hB : Blk W g l e') (hne : e ≠ e') : some g ≠ v.ownBlock := by
  rcases h.2 with ⟨rfl, _⟩ | ⟨k, cap, cur, rfl, _, hk, _⟩
  · simp [Value.ownBlock]
  · intro hg
    obtain rfl : g = k := by simpa [Value.ownBlock] using hg
    unfold Blk at hB
    rw [hk] at hB
    injection hB with hB
    injection hB with _ hB _
    exact hne hB
theorem own_two {W : World} {base base' : Nat} {e e' : TypeId} {size size' : Nat} {v v' : Value} {n n' : Nat} {xs xs' : List Value} (h : W.ownsRow base e size v n xs) (h' : W.ownsRow base' e' size' v' n' xs') (hne : e ≠ e') : ∀ k, v'.ownBlock = some k → some k ≠ v.ownBlock := by
  intro k hk
  rcases h'.2 with ⟨rfl, _⟩ | ⟨k', cap', cur', rfl, _, hk', _⟩
  · simp [Value.ownBlock] at hk
  · obtain rfl : k' = k := by simpa [Value.ownBlock] using hk
    rcases h.2 with ⟨rfl, _⟩ | ⟨j, cap, cur, rfl, _, hj, _⟩
    · simp [Value.ownBlock]
    · intro hg
      obtain rfl : k' = j := by simpa [Value.ownBlock] using hg
      rw [hk'] at hj
      injection hj with hj
      injection hj with _ hj _
      exact hne hj.symm
theorem own_grown {W W' : World} {base : Nat} {e : TypeId} {size : Nat} {v : Value} {n : Nat} {xs : List Value} {row : Option Nat} (h : W.ownsRow base e size v n xs) (hg : W.grownBy W' row) (hne : ∀ k, v.ownBlock = some k → some k ≠ row) : W'.ownsRow base e size v n xs := by
  refine ⟨h.1, ?_⟩
  rcases h.2 with hn | ⟨k, cap, cur, rfl, hk, hk', rest⟩
  · exact .inl hn
  · exact .inr ⟨k, cap, cur, rfl, hk, (hg.block k (Array.getElem?_eq_some_iff.1 hk').1 (hne k rfl)).trans hk', rest⟩
/-- A list lv of witnesses gs, numbered from 0, that have signed nothing yet. -/
structure Made (w0 W : World) (pv wv : Value) (need : Int) (eP eW : TypeId) (lv : Value) (gs : List Nat) : Prop where
  own : W.ownsRow w0.heap.size eP 1 lv gs.length (gs.map ptrV)
  wit : ∀ (j g : Nat), gs[j]? = some g → w0.heap.size ≤ g ∧ Blk W g (witC pv wv need j 0 e0H) eW
  nd : gs.Nodup
  old : Below w0.heap.size w0 W
section
variable {w0 W W' : World} {pv wv : Value} {need : Int} {eP eW : TypeId} {lv : Value} {gs : List Nat}
theorem Made.nil (hb : Below w0.heap.size w0 W) : Made w0 W pv wv need eP eW (.slice none 0 0) [] :=
  ⟨World.ownsRow_nil _ _ _ _, fun _ _ h => by simp at h, List.nodup_nil, hb⟩
theorem Made.lt (h : Made w0 W pv wv need eP eW lv gs) {g : Nat} (hg : g ∈ gs) : w0.heap.size ≤ g ∧ g < W.heap.size := by
  obtain ⟨j, hj⟩ := List.mem_iff_getElem?.1 hg
  obtain ⟨h1, h2⟩ := h.wit j g hj
  exact ⟨h1, h2.lt⟩
theorem Made.below (h : Made w0 W pv wv need eP eW lv gs) (hb : Below W.heap.size W W') : Made w0 W' pv wv need eP eW lv gs :=
  ⟨ownsRow_below h.own hb (ownsRow_block h.own), fun j g hj => ⟨(h.wit j g hj).1, (h.wit j g hj).2.below hb (h.wit j g hj).2.lt⟩, h.nd, h.old.trans (hb.mono h.old.size)⟩
theorem Made.grown {row : Option Nat} (h : Made w0 W pv wv need eP eW lv gs) (hg : W.grownBy W' row) (hb : ∀ k, row = some k → w0.heap.size ≤ k) (h1 : ∀ k, lv.ownBlock = some k → some k ≠ row) (h2 : ∀ g ∈ gs, some g ≠ row) : Made w0 W' pv wv need eP eW lv gs :=
  ⟨own_grown h.own hg h1, fun j g hj => ⟨(h.wit j g hj).1, (h.wit j g hj).2.grown hg (h2 g (List.mem_of_getElem? hj))⟩, h.nd, h.old.grown hg h.old.size hb⟩
theorem Made.base (h : Made w0 W pv wv need eP eW lv gs) : ∀ k, lv.ownBlock = some k → w0.heap.size ≤ k := fun k hk => (h.own.lt k hk).1
/-- One more. -/
theorem Made.more {W1 W3 : World} {g cap : Nat} {a : Option Addr} (h : Made w0 W pv wv need eP eW lv gs) (hne : eP ≠ eW) (hb : Below W.heap.size W W1) (hg : W.heap.size ≤ g) (hB : Blk W1 g (witC pv wv need gs.length 0 e0H) eW)
    (ho : W3.ownsRow w0.heap.size eP 1 (.slice a (gs.length + 1) cap) (gs.length + 1) (gs.map ptrV ++ [ptrV g])) (hgr : (W1.alloc (.cells [ptrV g].toArray eP)).grownBy W3 lv.ownBlock) :
    Made w0 W3 pv wv need eP eW (.slice a (gs.length + 1) cap) (gs ++ [g]) := by
  have h1 := h.below hb
  have h2 := h1.below (W' := W1.alloc (.cells [ptrV g].toArray eP)) ((Below.refl _ _).alloc (Nat.le_refl _) _)
  refine ⟨?_, fun j k hj => ?_, ?_, h2.old.grown hgr h2.old.size h.base⟩
  · rw [List.length_append, List.map_append]
    exact ho
  · by_cases hlt : j < gs.length
    · rw [List.getElem?_append_left hlt] at hj
      obtain ⟨f1, f2⟩ := h2.wit j k hj
      exact ⟨f1, f2.grown hgr (own_ne h2.own f2 hne)⟩
    · rw [List.getElem?_append_right (by omega)] at hj
      have hj0 : j - gs.length = 0 := by
        have := (List.getElem?_eq_some_iff.1 hj).1
        simp at this
        omega
      rw [hj0] at hj
      obtain rfl : g = k := by simpa using hj
      obtain rfl : j = gs.length := by omega
      have hBa := hB.alloc (.cells [ptrV g].toArray eP)
      exact ⟨Nat.le_trans h.old.size hg, hBa.grown hgr (own_ne h2.own hBa hne)⟩
  · refine List.nodup_append.2 ⟨h.nd, by simp, fun x hx y hy => ?_⟩
    obtain rfl : y = g := by simpa using hy
    have := (h.lt hx).2
    omega
/-- A block of another type stays so. -/
theorem Made.keeps {W1 W3 : World} {g k : Nat} {l : List Value} {e : TypeId} (h : Made w0 W pv wv need eP eW lv gs) (hne : eP ≠ e) (hb : Below W.heap.size W W1) (hgr : (W1.alloc (.cells [ptrV g].toArray eP)).grownBy W3 lv.ownBlock) (hB : Blk W k l e) : Blk W3 k l e := by
  have h2 := (h.below hb).below (W' := W1.alloc (.cells [ptrV g].toArray eP)) ((Below.refl _ _).alloc (Nat.le_refl _) _)
  have hB2 := (hB.below hb hB.lt).alloc (.cells [ptrV g].toArray eP)
  exact hB2.grown hgr (own_ne h2.own hB2 hne)
/-- The list as it reads; that it does not lie in a witness. -/
theorem Made.sl (h : Made w0 W pv wv need eP eW lv gs) : IsSl W lv 1 gs.length (gs.map ptrV) := ownsRow_isSl h.own (fun u hu => by obtain ⟨g, _, rfl⟩ := List.mem_map.1 hu; rfl)
theorem Made.apart (h : Made w0 W pv wv need eP eW lv gs) (hne : eP ≠ eW) : ApartS gs lv := fun a k c e hm => by
  obtain ⟨j, hj⟩ := List.mem_iff_getElem?.1 hm
  refine own_ne h.own (h.wit j _ hj).2 hne ?_
  rw [e]
  rfl
/-- A witness's number. -/
def numOf (gs : List Nat) (g : Nat) : Int := (gs.idxOf g : Nat)
theorem numOf_at (hnd : gs.Nodup) {j g : Nat} (hj : gs[j]? = some g) : numOf gs g = j := by
  obtain ⟨h1, h2⟩ := List.getElem?_eq_some_iff.1 hj
  unfold numOf
  rw [← h2, hnd.idxOf_getElem]
theorem Made.env {ps ws hs : List H} {hsv : Value} (h : Made w0 W pv wv need eP eW lv gs) (hne : eP ≠ eW) (hp : Hs w0 pv ps) (hw : Hs w0 wv ws) (hh : Hs w0 hsv hs) (hg : Glob w0) (hps : 0 < ps.length) (hws : 0 < ws.length) : WEnv W pv wv hsv lv ps ws hs need gs (numOf gs) (fun _ => (0, e0H)) eW :=
  { pk := hp.below h.old, wk := hw.below h.old, hk := hh.below h.old, sl := h.sl
    wit := fun g hm => by
      obtain ⟨j, hj⟩ := List.mem_iff_getElem?.1 hm
      rw [numOf_at h.nd hj]
      exact (h.wit j g hj).2
    glob := hg.below h.old
    pa := apartS_pos hp hps (by decide) (fun g hm => (h.lt hm).1)
    wa := apartS_pos hw hws (by decide) (fun g hm => (h.lt hm).1)
    ha := fun h0 => apartS_pos hh h0 (by decide) (fun g hm => (h.lt hm).1)
    la := h.apart hne }
end
section
variable (hs : List H) (mask : Int) (np : Nat) (nw : List H) (need : Int) (num : Nat → Int) (gs : List Nat)
/-- What fresh witnesses have signed behind a Collect's first i. -/
theorem coll_fresh (hl : hs.length ≤ 400) (hnd : gs.Nodup) : ∀ (i : Nat), i ≤ gs.length → ∀ j g, gs[j]? = some g → (collI hs mask np nw need num gs (fun _ => (0, e0H)) i).1 g = if j < i ∧ bitB mask j = true then ((hs.length : Int), rootN ndH e0H hs) else (0, e0H)
  | 0, _, j, g, _ => by
    rw [if_neg (by omega)]
    rfl
  | i + 1, hi, j, g, hj => by
    have ih := coll_fresh hl hnd i (by omega)
    obtain ⟨x, hx⟩ : ∃ x, gs[i]? = some x := ⟨_, List.getElem?_eq_getElem (by omega)⟩
    have hxd : gs.getD i 0 = x := by rw [List.getD_eq_getElem?_getD, hx]; rfl
    have hself := ih i x hx
    rw [if_neg (by omega)] at hself
    have hask : askedB hs (0, e0H) = true := by
      have := asked_up hs 0 hl (by omega)
      rw [upto_zero] at this
      exact this
    have hne : g = x ↔ j = i := by
      constructor
      · rintro rfl
        obtain ⟨h1, h2⟩ := List.getElem?_eq_some_iff.1 hj
        obtain ⟨h3, h4⟩ := List.getElem?_eq_some_iff.1 hx
        exact (List.getElem_inj hnd).1 (h2.trans h4.symm)
      · rintro rfl
        rw [hj] at hx
        exact Option.some.inj hx
    simp only [collI, hxd, hself, hask, Bool.and_true]
    cases hb : bitB mask i with
    | true =>
      rw [if_pos rfl]
      show updS _ x _ g = _
      unfold updS
      by_cases e : g = x
      · rw [if_pos e, if_pos ⟨by have := hne.1 e; omega, by rw [hne.1 e]; exact hb⟩]
      · rw [if_neg e, ih j g hj]
        by_cases h1 : j < i ∧ bitB mask j = true
        · rw [if_pos h1, if_pos ⟨by omega, h1.2⟩]
        · rw [if_neg h1, if_neg (fun h2 => h1 ⟨by have : j ≠ i := fun e' => e (hne.2 e'); omega, h2.2⟩)]
    | false =>
      rw [if_neg Bool.false_ne_true, ih j g hj]
      by_cases h1 : j < i ∧ bitB mask j = true
      · rw [if_pos h1, if_pos ⟨by omega, h1.2⟩]
      · rw [if_neg h1, if_neg (fun h2 => h1 ⟨by
          have : j ≠ i := fun e' => by rw [e', hb] at h2; cases h2.2
          omega, h2.2⟩)]
/-- What they sign. -/
theorem coll_sigs (hl : hs.length ≤ 400) (hnd : gs.Nodup) (i x : Nat) (hx : gs[i]? = some x) : (collI hs mask np nw need num gs (fun _ => (0, e0H)) (i + 1)).2 = if bitB mask i = true then (collI hs mask np nw need num gs (fun _ => (0, e0H)) i).2 ++ [(num x, signH np nw need (num x) hs.length (rootN ndH e0H hs))] else (collI hs mask np nw need num gs (fun _ => (0, e0H)) i).2 := by
  have hi := (List.getElem?_eq_some_iff.1 hx).1
  have hxd : gs.getD i 0 = x := by rw [List.getD_eq_getElem?_getD, hx]; rfl
  have hself := coll_fresh hs mask np nw need num gs hl hnd i (by omega) i x hx
  rw [if_neg (by omega)] at hself
  have hask : askedB hs (0, e0H) = true := by
    have := asked_up hs 0 hl (by omega)
    rw [upto_zero] at this
    exact this
  simp only [collI, hxd, hself, hask, Bool.and_true]
  cases hb : bitB mask i with
  | true => rw [if_pos rfl, if_pos rfl]
  | false => rw [if_neg Bool.false_ne_true, if_neg Bool.false_ne_true]
/-- What has been signed ahead stays so. -/
theorem coll_prefix (st : Nat → Int × H) (i : Nat) : ∀ k, ∃ t, (collI hs mask np nw need num gs st (i + k)).2 = (collI hs mask np nw need num gs st i).2 ++ t
  | 0 => ⟨[], by simp⟩
  | k + 1 => by
    obtain ⟨t, ht⟩ := coll_prefix st i k
    rw [← Nat.add_assoc]
    simp only [collI]
    split
    · exact ⟨t ++ [_], by rw [ht, List.append_assoc]⟩
    · exact ⟨t, ht⟩
end
end Go.Proofs.YtldokkbfahobgaaDoor
