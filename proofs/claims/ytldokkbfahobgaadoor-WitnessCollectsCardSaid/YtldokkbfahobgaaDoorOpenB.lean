/- Arguments opened: the keys, out of the row's reading of them. No condition. Arguments opened: a list of what a witness is asked (a checkpoint and a proof each). No condition. Conditions: what each part says. -/
import Derived.Test.YtldokkbfahobgaaDoorOpenA
import Derived.Test.YtldokkbfahobgaaDoorWitU
import Derived.Deep.Strs
/-! OpenK: Arguments opened: the keys, out of the row's reading of them. No condition. -/
namespace Go.Proofs.YtldokkbfahobgaaDoor
open Go.ChangeShapes Go.WideShapes Go.Deep Go.RowKit
section
variable {T : Type} {enc : TypeId × Value → T} {w : World} {base : Nat} {held : Bool}
set_option maxRecDepth 100000 in
theorem trod_keys {fuel : Nat} {cs : List Value} {x : DataW T × List MemPlace} (h : DataW.trod enc Tryd.prog w base (fun _ => true) held fuel 24 cs = some x) : ∃ (pv wv : Value) (need : Int) (ps ws : List H), cs = [pv, wv, .int .i64 need] ∧ (Lit.int .i64 need).wf = true ∧ Hs w pv ps ∧ Hs w wv ws ∧ ps.length ≤ maxLen ∧ ws.length ≤ maxLen := by
  obtain ⟨y0, y1, y2, n, rfl, hl, h0, h1, h2⟩ := trod_struct3 Tryd.underlying24 h
  have hc : Tryd.prog.cellsOf 24 = 3 := by kernel_rfl
  have hs : Tryd.prog.cellsOf 22 = 1 := by kernel_rfl
  rw [hc] at hl
  match cs, hl with
  | [a, b, c], _ =>
    have h0' : DataW.trod enc Tryd.prog w base (fun _ => true) held n 22 [a] = some y0 := by simpa [hs] using h0
    have h1' : DataW.trod enc Tryd.prog w base (fun _ => true) held n 22 [b] = some y1 := by simpa [hs] using h1
    obtain ⟨ps, hp, lp⟩ := trod_hashes Tryd.underlying22 Tryd.underlying31 Tryd.underlying5 (by kernel_rfl) (by kernel_rfl) h0'
    obtain ⟨ws, hw, lw⟩ := trod_hashes Tryd.underlying22 Tryd.underlying31 Tryd.underlying5 (by kernel_rfl) (by kernel_rfl) h1'
    have hi : Tryd.prog.cellsOf 3 = 1 := by kernel_rfl
    have h2' : DataW.trod enc Tryd.prog w base (fun _ => true) held n 3 [c] = some y2 := by simpa [hi] using h2
    obtain ⟨z, hz, _, hwf⟩ := DataW.trod_int Tryd.underlying3 h2'
    obtain rfl : c = .int .i64 z := by simpa using hz
    exact ⟨a, b, z, ps, ws, rfl, hwf, hp, hw, lp, lw⟩
set_option maxRecDepth 100000 in
theorem open_keys {r : Reach} {b0 : Nat} {v : Value} {d : DataW T} {ps : List MemPlace} (hval : Value.okWide Tryd.prog w r b0 24 v) (hd : DataW.Trod enc Tryd.prog w base (fun _ => true) held 24 v d ps) :
    ∃ (pv wv : Value) (need : Int) (ps ws : List H), v = keysV pv wv need ∧ (Lit.int .i64 need).wf = true ∧ Hs w pv ps ∧ Hs w wv ws ∧ ps.length ≤ maxLen ∧ ws.length ≤ maxLen := by
  have hu := Tryd.underlying24
  simp only [Value.okWide, hu] at hval
  obtain ⟨cs, rfl, _⟩ := hval
  obtain ⟨fuel, hf⟩ := hd
  obtain ⟨pv, wv, need, ps, ws, e, h1, h2, h3, h4, h5⟩ := trod_keys hf
  refine ⟨pv, wv, need, ps, ws, ?_, h1, h2, h3, h4, h5⟩
  unfold keysV
  rw [show cs = [pv, wv, .int .i64 need].toArray by apply Array.ext'; simpa [Value.cells] using e]
end
end Go.Proofs.YtldokkbfahobgaaDoor

/-! OpenQ: Arguments opened: a list of what a witness is asked (a checkpoint and a proof each). No condition. -/
namespace Go.Proofs.YtldokkbfahobgaaDoor
open Go.ChangeShapes Go.WideShapes Go.Deep Go.RowKit
section
variable {T : Type} {enc : TypeId × Value → T} {w : World} {base : Nat} {held : Bool}
theorem cut3 (cs : List Value) (h : cs.length = 34) : cs = (cs.drop 0).take 1 ++ ((cs.drop 1).take 32 ++ (cs.drop 33).take 1) := by
  rw [List.drop_zero, show (cs.drop 33).take 1 = (cs.drop 1).drop 32 by rw [List.drop_drop, List.take_of_length_le (by rw [List.length_drop]; omega)], List.take_append_drop, List.take_append_drop]
theorem cut2 (cs : List Value) (h : cs.length = 35) : cs = (cs.drop 0).take 34 ++ (cs.drop 34).take 1 := by
  rw [List.drop_zero, show (cs.drop 34).take 1 = cs.drop 34 by rw [List.take_of_length_le (by rw [List.length_drop]; omega)], List.take_append_drop]
set_option maxRecDepth 100000 in
theorem trod_point {fuel : Nat} {cs : List Value} {x : DataW T × List MemPlace} (h : DataW.trod enc Tryd.prog w base (fun _ => true) held fuel 40 cs = some x) : ∃ (s : Int) (r : H) (sv : Value), cs = pointC s r sv ∧ (Lit.int .i64 s).wf = true ∧ ∃ a k c, sv = .slice a k c := by
  obtain ⟨y0, y1, y2, n, rfl, hl, h0, h1, h2⟩ := trod_struct3 Tryd.underlying40 h
  have hc : Tryd.prog.cellsOf 40 = 34 := by kernel_rfl
  have hs : Tryd.prog.cellsOf 38 = 1 := by kernel_rfl
  have hh : Tryd.prog.cellsOf 31 = 32 := by kernel_rfl
  have hi : Tryd.prog.cellsOf 3 = 1 := by kernel_rfl
  rw [hc] at hl
  have h0' : DataW.trod enc Tryd.prog w base (fun _ => true) held n 3 ((cs.drop 0).take 1) = some y0 := by rw [← hi]; exact h0
  have h1' : DataW.trod enc Tryd.prog w base (fun _ => true) held n 31 ((cs.drop 1).take 32) = some y1 := by rw [← hh]; exact h1
  have h2' : DataW.trod enc Tryd.prog w base (fun _ => true) held n 38 ((cs.drop 33).take 1) = some y2 := by rw [← hs]; exact h2
  obtain ⟨z, hz, _, hwf⟩ := DataW.trod_int Tryd.underlying3 h0'
  obtain ⟨zs, hzl, hzs, hw⟩ := trod_array_ints Tryd.underlying31 Tryd.underlying5 (by kernel_rfl) (by kernel_rfl) h1'
  have hsl : ∃ a k c, (cs.drop 33).take 1 = [.slice a k c] := by
    rcases open_slice Tryd.underlying38 h2' with ⟨hcs, _⟩ | ⟨a, len, cap, m, n', D, Pl, hcs, _⟩
    · exact ⟨_, _, _, hcs⟩
    · exact ⟨_, _, _, hcs⟩
  obtain ⟨a, k, c, hsl⟩ := hsl
  refine ⟨z, ⟨zs.map fun z => UInt8.ofNat z.toNat, by rw [List.length_map, hzl]⟩, .slice a k c, ?_, hwf, a, k, c, rfl⟩
  rw [cut3 cs hl, hz, hzs, hsl, bytes_of_ints hw]
  rfl
/-- What a witness is asked. -/
structure AskA where
  s : Int
  r : H
  sv : Value
  lv : Value
  P : List H
def askC (a : AskA) : List Value := pointC a.s a.r a.sv ++ [a.lv]
set_option maxRecDepth 100000 in
theorem trod_ask {fuel : Nat} {cs : List Value} {x : DataW T × List MemPlace} (h : DataW.trod enc Tryd.prog w base (fun _ => true) held fuel 44 cs = some x) : ∃ a : AskA, cs = askC a ∧ (Lit.int .i64 a.s).wf = true ∧ Hs w a.lv a.P ∧ a.P.length ≤ maxLen ∧ ∃ p k c, a.sv = .slice p k c := by
  obtain ⟨y0, y1, n, rfl, hl, h0, h1⟩ := trod_struct2 Tryd.underlying44 h
  have hc : Tryd.prog.cellsOf 44 = 35 := by kernel_rfl
  have hp : Tryd.prog.cellsOf 40 = 34 := by kernel_rfl
  have hs : Tryd.prog.cellsOf 22 = 1 := by kernel_rfl
  rw [hc] at hl
  have h0' : DataW.trod enc Tryd.prog w base (fun _ => true) held n 40 ((cs.drop 0).take 34) = some y0 := by rw [← hp]; exact h0
  have h1' : DataW.trod enc Tryd.prog w base (fun _ => true) held n 22 ((cs.drop 34).take 1) = some y1 := by rw [← hs]; exact h1
  obtain ⟨s, r, sv, e0, hwf, p, k, c, esv⟩ := trod_point h0'
  have hl1 : ((cs.drop 34).take 1).length = 1 := by rw [List.length_take, List.length_drop]; omega
  obtain ⟨lv, elv⟩ := List.length_eq_one_iff.1 hl1
  rw [elv] at h1'
  obtain ⟨P, hP, lP⟩ := trod_hashes Tryd.underlying22 Tryd.underlying31 Tryd.underlying5 (by kernel_rfl) (by kernel_rfl) h1'
  refine ⟨⟨s, r, sv, lv, P⟩, ?_, hwf, hP, lP, p, k, c, esv⟩
  rw [cut2 cs hl, e0, elv]
  rfl
theorem flat_at {α : Type} (f : α → List Value) (n : Nat) (hn : 0 < n) (hf : ∀ x, (f x).length = n) : ∀ (l : List α) (k : Nat), ((l.map f).flatten)[k]? = (l[k / n]?).bind fun x => (f x)[k % n]?
  | [], k => by simp
  | x :: l, k => by
    rw [List.map_cons, List.flatten_cons]
    by_cases hk : k < n
    · rw [List.getElem?_append_left (by rw [hf]; exact hk), Nat.div_eq_of_lt hk, Nat.mod_eq_of_lt hk]
      rfl
    · rw [List.getElem?_append_right (by rw [hf]; omega), hf, flat_at f n hn hf l (k - n)]
      have e : k = (k - n) + n := by omega
      rw [show k / n = (k - n) / n + 1 by conv => lhs; rw [e, Nat.add_div_right _ hn], show k % n = (k - n) % n by conv => lhs; rw [e, Nat.add_mod_right], List.getElem?_cons_succ]
theorem askC_len (a : AskA) : (askC a).length = 35 := by simp [askC, pointC_len]
def asksL (l : List AskA) : List Value := (l.map askC).flatten
theorem asksL_at (l : List AskA) (k : Nat) : (asksL l)[k]? = (l[k / 35]?).bind fun x => (askC x)[k % 35]? := flat_at askC 35 (by decide) askC_len l k
theorem asksL_len : ∀ l : List AskA, (asksL l).length = l.length * 35
  | [] => rfl
  | a :: l => by
    have := asksL_len l
    unfold asksL at this ⊢
    rw [List.map_cons, List.flatten_cons, List.length_append, askC_len, this, List.length_cons]
    omega
/-- What a list of asks reads as. -/
structure Asks (w : World) (v : Value) (l : List AskA) : Prop where
  sl : IsSl w v 35 l.length (asksL l)
  each : ∀ a ∈ l, (Lit.int .i64 a.s).wf = true ∧ Hs w a.lv a.P ∧ a.P.length ≤ maxLen ∧ ∃ p k c, a.sv = .slice p k c
instance : Inhabited AskA := ⟨⟨0, ⟨List.replicate 32 0, by simp⟩, .bool false, .bool false, []⟩⟩
set_option maxRecDepth 100000 in
theorem trod_asks {fuel : Nat} {v : Value} {x : DataW T × List MemPlace} (h : DataW.trod enc Tryd.prog w base (fun _ => true) held fuel 25 [v] = some x) : ∃ l : List AskA, Asks w v l ∧ l.length ≤ maxLen := by
  have ce : Tryd.prog.cellsOf 44 = 35 := by kernel_rfl
  rcases open_slice Tryd.underlying25 h with ⟨hcs, _⟩ | ⟨a, len, cap, m, n, D, Pl, hcs, _, hle, hm, hmm, _, hx⟩
  · cases hcs
    have h0 : IsSl w (.slice none 0 0) 35 0 [] := ⟨rfl, (fun u hu => by cases hu), Or.inl ⟨rfl, rfl⟩⟩
    exact ⟨[], ⟨h0, fun a ha => by cases ha⟩, by simp⟩
  · cases hcs
    simp only [if_true] at hmm
    subst hmm
    rw [ce] at hx
    obtain ⟨L, hL⟩ := choose_lt (n := len) (α := AskA) (p := fun i x => w.cells? base (a.add (i * 35)) 35 = some (askC x) ∧ (Lit.int .i64 x.s).wf = true ∧ Hs w x.lv x.P ∧ x.P.length ≤ maxLen ∧ ∃ p k c, x.sv = .slice p k c) (fun i hi => by
      obtain ⟨cs', h1, h2⟩ := hx i (by omega)
      obtain ⟨y, rfl, h3⟩ := trod_ask h2
      exact ⟨y, h1, h3⟩)
    have hall : ∀ y ∈ (List.range len).map L, (Lit.int .i64 y.s).wf = true ∧ Hs w y.lv y.P ∧ y.P.length ≤ maxLen ∧ ∃ p k c, y.sv = .slice p k c := fun y hy => by
      obtain ⟨i, hi, rfl⟩ := List.mem_map.1 hy
      exact (hL i (List.mem_range.1 hi)).2
    refine ⟨(List.range len).map L, ⟨⟨by rw [asksL_len], fun u hu => ?_, .inr ⟨a, m, by simp, by simpa using hle, fun j u hu => ?_⟩⟩, hall⟩, by simp; omega⟩
    · obtain ⟨cs, hcs, hu⟩ := List.mem_flatten.1 hu
      obtain ⟨y, hy, rfl⟩ := List.mem_map.1 hcs
      obtain ⟨_, h2, _, p, k, c, e⟩ := hall y hy
      obtain ⟨q, d, e2, _⟩ := h2.form
      unfold askC pointC at hu
      rw [e, e2] at hu
      simp only [List.mem_append, List.mem_cons, List.not_mem_nil, or_false] at hu
      rcases hu with (rfl | hu | rfl) | rfl
      · rfl
      · exact bytesV_one _ u hu
      · rfl
      · rfl
    · rw [asksL_at, List.getElem?_map] at hu
      obtain ⟨y, hy, hb⟩ := Option.bind_eq_some_iff.1 hu
      obtain ⟨i, hi, rfl⟩ := Option.map_eq_some_iff.1 hy
      obtain ⟨hj, rfl⟩ := List.getElem?_eq_some_iff.1 hi
      rw [List.length_range] at hj
      rw [List.getElem_range] at hb
      obtain ⟨_, _, h3⟩ := World.cells?_some (hL (j / 35) hj).1
      have := h3 (j % 35) (by omega)
      rw [add_add, show j / 35 * 35 + j % 35 = j by omega] at this
      rw [this]
      exact hb
end
end Go.Proofs.YtldokkbfahobgaaDoor
