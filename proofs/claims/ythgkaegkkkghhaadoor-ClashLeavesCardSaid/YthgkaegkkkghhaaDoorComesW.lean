/- The walks of Comes' outer closure and of Comes. The walk of Comes. The walks of Comes, whatever the numbers, and of In. Conditions: what each part says. -/
import Derived.Test.YthgkaegkkkghhaaDoorComesA
import Derived.Test.YthgkaegkkkghhaaDoorPathW
import Derived.Test.YthgkaegkkkghhaaDoorHashP
import Derived.Laws.ResultCell
/-! ComesB: The walks of Comes' outer closure and of Comes. Conditions: the path can be read, at most 4096 hashes; the package's tables read as they are laid. -/
namespace Go.Proofs.YthgkaegkkkghhaaDoor
open Go.RowKit

/-- What the outer closure comes to. -/
def OutPost (Z : Option (H × Nat)) (g q r : Nat) (pv : Value) (P : List H) (w1 : World) (e : Ending) (w' : World) : Prop :=
  match Z with
  | some (y, a') => e = .returned (.tuple #[]) ∧ Tk w' g q pv P a' ∧ But2 g r w1 w' ∧ Blk w' r (bytesV y.b) 30
  | none => e = .panicked [{ v := shortP, recovered := false }] ∧ But2 g r w1 w'
theorem But.row {w : World} (r : Nat) (cs : Array Value) : But r w (w.setRow r cs) := by
  have h := below_setRow (Below.refl r w) (Nat.le_refl _) cs
  exact ⟨h.os, h.tape, h.output, h.size, fun k _ hk => Go.setRow_other _ _ _ _ (by omega)⟩
theorem Tk.but {w w' : World} {r g q : Nat} {pv : Value} {P : List H} {a : Nat} (h : Tk w g q pv P a) (hb : But r w w') (h1 : g ≠ r) (h2 : q ≠ r) (h3 : 0 < P.length → ∀ ad k c, pv = .slice (some ad) k c → ad.block ≠ r) : Tk w' g q pv P a :=
  ⟨hb.blk h.at_ h1, hb.cell h.box h2, h.ne, hb.isSl h.hs h3, h.apart, h.le, h.len⟩
theorem calls_eq {P : Program} {f : FuncId} {args : Array Value} {w w' : World} {R : Ending → World → Prop} (h : w' = w) (hc : Calls P f args w' R) : Calls P f args w R := h ▸ hc
theorem run_makeFunc (fn : Fn) (first cap : Array Value) (w : World) : (Instr.makeFunc fn first cap).run Tryd.prog w = .ok (.func fn first cap) w := rfl
set_option maxRecDepth 100000 in
set_option maxHeartbeats 1000000 in
theorem outer_any (w0 w1 : World) (x : H) (i n : Nat) (pv : Value) (P : List H) (g q hb ib mb r : Nat) (hg : Glob w0) (h0 : Below w0.heap.size w0 w1) (hgn : w0.heap.size ≤ g) (h1 : 1 ≤ n) (hn : n ≤ 1048576) (hi : i < n)
    (hT : Tk w1 g q pv P P.length) (hH : Blk w1 hb (bytesV x.b) 30) (hI : Blk w1 ib [.int .i64 i] 3) (hM : Blk w1 mb [.int .i64 n] 3) (hR : Blk w1 r z32 30) (hhg : hb ≠ g) (hrg : r ≠ g) (hqr : q ≠ r) (hpr : 0 < P.length → ∀ ad k c, pv = .slice (some ad) k c → ad.block ≠ r) :
    Calls Tryd.prog 44 #[nextV g q, .pointer (some ⟨hb, 0, none⟩), .pointer (some ⟨ib, 0, none⟩), .pointer (some ⟨mb, 0, none⟩), .pointer (some ⟨r, 0, none⟩)] w1 fun e w' => OutPost (upA x P n i P.length) g q r pv P w1 e w' := by
  have hmf := run_makeFunc
  have hsf := fun (a : Addr) (c : Array Value) (w : World) => run_store Tryd.prog w a (.func (.func 45) #[] c) .plain rfl
  obtain ⟨Z, hZ⟩ : ∃ Z, Z = upA x P n i P.length := ⟨_, rfl⟩
  rw [← hZ]
  obtain ⟨W, hW⟩ : ∃ W, W = (w1.alloc (.cells #[nextV g q] 62)).alloc (.cells #[upV hb w1.heap.size (w1.heap.size + 1)] 63) := ⟨_, rfl⟩
  have hb1 : Below w1.heap.size w1 W := by rw [hW]; (repeat (first | with_reducible assumption | with_reducible exact Below.refl _ _ | ((with_reducible refine Below.setCell ?_ ?_ _); rotate_left; focus (first | omega | (simp; done) | (simp; omega))) | ((with_reducible refine Below.alloc ?_ ?_ _); rotate_left; focus (first | omega | (simp; done) | (simp; omega))) | ((with_reducible refine below_setRow ?_ ?_ _); rotate_left; focus (first | omega | (simp; done) | (simp; omega))) | (with_reducible refine below_drewN ?_ _) | (with_reducible refine Below.drew ?_)))
  have hgl := hT.at_.lt
  have c1 : W.cell? ⟨ib, 0, none⟩ = some (.int .i64 i) := (hI.below hb1 hI.lt).cell rfl
  have c2 : W.cell? ⟨mb, 0, none⟩ = some (.int .i64 n) := (hM.below hb1 hM.lt).cell rfl
  have hU : Up w0 W hb w1.heap.size (w1.heap.size + 1) g q x := ⟨hg, h0.trans (hb1.mono h0.size), hgn, hH.below hb1 hH.lt, by rw [hW]; exact ((Blk.newL w1 [nextV g q] _).alloc _).cell (i := 0) rfl, by rw [hW]; exact (Blk.newL1 w1 _ [upV hb w1.heap.size (w1.heap.size + 1)] _).cell (i := 0) rfl, hhg, by omega, by omega⟩
  have hT1 := hT.below hb1
  have hR1 := hR.below hb1 hR.lt
  have HU := Lib.hid hU
  have HT := Lib.hid hT1
  have HR := Lib.hid hR1
  have HZ := Lib.hid hZ
  have HW := Lib.hid hW
  rw [hW] at c1 c2
  unfold nextV upV at c1 c2
  clear hT hH hI hM hR hU hT1 hR1 hZ hW
  unfold nextV
  cases Z with
  | none =>
    go_enter Tryd.func44, Tryd.ntmps44
    go_wp2_with (first
      | (go_at_call 45; refine calls_eq HW.out ((up_any w0 hb w1.heap.size (w1.heap.size + 1) g q x pv P n i P.length W h1 hn hi HU.out HT.out).mono ?_); rintro e w3 ⟨h5, hb3⟩; rw [← HZ.out] at h5; have h6 : e = .panicked [{ v := shortP, recovered := false }] := h5; subst h6; clear h5)
      | fail)
    exact ⟨rfl, rfl, (But2.of (But.of hb1)).trans (But2.of hb3)⟩
  | some p =>
    obtain ⟨y, a'⟩ := p
    go_enter Tryd.func44, Tryd.ntmps44
    go_wp2_with (first
      | (go_at_call 45; refine calls_eq HW.out ((up_any w0 hb w1.heap.size (w1.heap.size + 1) g q x pv P n i P.length W h1 hn hi HU.out HT.out).mono ?_); rintro e w3 ⟨h5, hb3⟩; rw [← HZ.out] at h5; obtain ⟨rfl, hT3⟩ := h5; have HT3 := Lib.hid hT3; have HR3 := Lib.hid (hb3.blk HR.out hrg); clear hT3)
      | (refine wpList_store_row rfl 30 (.tmp 4) (.tmp 11) rfl r (bytesV y.b).toArray rfl rfl 30 z32.toArray (by exact HR3.out) (by exact hv_row _) (by exact z32_old _) (by exact hv_one _) ?_)
      | fail)
    first
    | go_end0
    | refine bodyPost_ret (results_none rfl _ _ _) rfl ?_
    exact ⟨rfl, HT3.out.but (But.row r _) (fun e => hrg e.symm) hqr hpr, ((But2.of (But.of hb1)).trans (But2.of hb3)).trans (But2.of' (But.row r _)), HR3.out.setRow _⟩
end Go.Proofs.YthgkaegkkkghhaaDoor

/-! ComesC: The walk of Comes. Conditions: the path can be read, at most 4096 hashes; the package's tables read as they are laid. -/
namespace Go.Proofs.YthgkaegkkkghhaaDoor
open Go.RowKit

def z0H : H := ⟨List.replicate 32 0, by simp⟩
theorem z0_hv : hv z0H = .agg z32.toArray := rfl
/-- What a path comes to, whatever the numbers. -/
def comesR (x : H) (i n : Int) (P : List H) : Option H := if 0 ≤ i ∧ i < n ∧ n ≤ 1048576 then comesN ndH x n.toNat i.toNat P else none
def comesV : Option H → Value
  | some h => hv h
  | none => .agg z32.toArray
theorem results_row_tmp {P : Program} {fn : Func} {p u : Tmp} {ty : TypeId} (h : fn.results = #[.cell p ty, .tmp u]) (tmps : Array Value) (w : World) (g : Nat) (t : TypeId) (cs : Array Value) (fr : Nat × Nat) (d : TypeDesc)
    (hp : tmps.getD p undef = .pointer (some ⟨g, 0, none⟩)) (hg : w.heap[g]? = some (.cells cs t fr))
    (hu : P.underlying ty = some d) (hd : (match d with | .struct _ | .array _ _ => true | _ => false) = true) (hi : (P.info? ty).map (·.size) = some cs.size) :
    (results fn tmps).run P w = .ok (.tuple #[.agg cs, tmps.getD u undef]) w := by
  rw [results_cell_tmp h, hp]
  simp [asAddr, run_loadVar_row w g t ty cs fr d hg hu hd hi]
/-- The world behind the walk's own variables. -/
def comesW (w : World) (x : H) (i n : Int) : World := (((w.alloc (.cells (bytesV x.b).toArray 30)).alloc (.cells #[.int .i64 i] 3)).alloc (.cells #[.int .i64 n] 3)).alloc (.cells z32.toArray 30)
theorem comesW_parts (w : World) (x : H) (i n : Int) : Below w.heap.size w (comesW w x i n) ∧ (comesW w x i n).heap.size = w.heap.size + 1 + 1 + 1 + 1 ∧ Blk (comesW w x i n) w.heap.size (bytesV x.b) 30 ∧ Blk (comesW w x i n) (w.heap.size + 1) [.int .i64 i] 3 ∧
    Blk (comesW w x i n) (w.heap.size + 1 + 1) [.int .i64 n] 3 ∧ Blk (comesW w x i n) (w.heap.size + 1 + 1 + 1) z32 30 := by
  unfold comesW
  refine ⟨by (repeat (first | with_reducible assumption | with_reducible exact Below.refl _ _ | ((with_reducible refine Below.setCell ?_ ?_ _); rotate_left; focus (first | omega | (simp; done) | (simp; omega))) | ((with_reducible refine Below.alloc ?_ ?_ _); rotate_left; focus (first | omega | (simp; done) | (simp; omega))) | ((with_reducible refine below_setRow ?_ ?_ _); rotate_left; focus (first | omega | (simp; done) | (simp; omega))) | (with_reducible refine below_drewN ?_ _) | (with_reducible refine Below.drew ?_))), by simp, ?_, ?_, ?_, ?_⟩
  · exact (((Blk.newL w _ _).alloc _).alloc _).alloc _
  · exact ((Blk.newL1 w _ [.int .i64 i] _).alloc _).alloc _
  · exact (Blk.newL2 w _ _ [.int .i64 n] _).alloc _
  · have := Blk.newL (((w.alloc (.cells (bytesV x.b).toArray 30)).alloc (.cells #[.int .i64 i] 3)).alloc (.cells #[.int .i64 n] 3)) z32 30
    simpa using this
theorem z32_row : (Tryd.prog.info? 30).map (·.size) = some z32.toArray.size := hv_row z0H
theorem comesW_lit (w : World) (x : H) (i n : Int) : comesW w x i n = (((w.alloc (.cells (bytesV x.b).toArray 30)).alloc (.cells #[.int .i64 i] 3)).alloc (.cells #[.int .i64 n] 3)).alloc (.cells #[.int .u8 0, .int .u8 0, .int .u8 0, .int .u8 0, .int .u8 0, .int .u8 0, .int .u8 0, .int .u8 0, .int .u8 0, .int .u8 0, .int .u8 0, .int .u8 0, .int .u8 0, .int .u8 0, .int .u8 0, .int .u8 0, .int .u8 0, .int .u8 0, .int .u8 0, .int .u8 0, .int .u8 0, .int .u8 0, .int .u8 0, .int .u8 0, .int .u8 0, .int .u8 0, .int .u8 0, .int .u8 0, .int .u8 0, .int .u8 0, .int .u8 0, .int .u8 0] 30) := by
  unfold comesW
  rw [z32_arr]
set_option maxRecDepth 100000 in
set_option maxHeartbeats 1000000 in
theorem comes_badA (w : World) (x : H) (i n : Int) (pv : Value) (h : i < 0) :
    Calls Tryd.prog 23 #[hv x, .int .i64 i, .int .i64 n, pv] w fun e w' => e = .returned (.tuple #[.agg z32.toArray, .bool false]) ∧ Below w.heap.size w w' := by
  obtain ⟨hb, hsz, h0, h1, h2, h3⟩ := comesW_parts w x i n
  have c1 := h1.cell (i := 0) rfl
  have c2 := h2.cell (i := 0) rfl
  rw [comesW_lit] at hb c1 c2 h3
  have H3 := Lib.hid h3
  clear h0 h1 h2 h3 hsz
  unfold hv
  go_enter Tryd.func23, Tryd.ntmps23
  go_wp2_with (first
    | (refine wpList_store_row rfl 30 (.tmp 8) (.tmp 23) rfl (w.heap.size + 1 + 1 + 1) z32.toArray rfl (by rw [z32_arr]; rfl) 30 z32.toArray (by exact H3.out) (by exact z32_row) (by exact z32_old z0H) (by exact hv_one z0H) ?_)
    | fail)
  refine bodyPost_ret (results_row_tmp (p := 8) (u := 9) rfl _ _ (w.heap.size + 1 + 1 + 1) 30 z32.toArray (0, 0) _ rfl (H3.out.setRow z32) Tryd.underlying30 rfl z32_row) rfl ⟨rfl, below_setRow hb (by omega) _⟩
set_option maxRecDepth 100000 in
set_option maxHeartbeats 1000000 in
theorem comes_badB (w : World) (x : H) (i n : Int) (pv : Value) (h : 0 ≤ i) (h' : n ≤ i) :
    Calls Tryd.prog 23 #[hv x, .int .i64 i, .int .i64 n, pv] w fun e w' => e = .returned (.tuple #[.agg z32.toArray, .bool false]) ∧ Below w.heap.size w w' := by
  obtain ⟨hb, hsz, h0, h1, h2, h3⟩ := comesW_parts w x i n
  have c1 := h1.cell (i := 0) rfl
  have c2 := h2.cell (i := 0) rfl
  rw [comesW_lit] at hb c1 c2 h3
  have H3 := Lib.hid h3
  clear h0 h1 h2 h3 hsz
  unfold hv
  go_enter Tryd.func23, Tryd.ntmps23
  go_wp2_with (first
    | (refine wpList_store_row rfl 30 (.tmp 8) (.tmp 23) rfl (w.heap.size + 1 + 1 + 1) z32.toArray rfl (by rw [z32_arr]; rfl) 30 z32.toArray (by exact H3.out) (by exact z32_row) (by exact z32_old z0H) (by exact hv_one z0H) ?_)
    | fail)
  refine bodyPost_ret (results_row_tmp (p := 8) (u := 9) rfl _ _ (w.heap.size + 1 + 1 + 1) 30 z32.toArray (0, 0) _ rfl (H3.out.setRow z32) Tryd.underlying30 rfl z32_row) rfl ⟨rfl, below_setRow hb (by omega) _⟩
set_option maxRecDepth 100000 in
set_option maxHeartbeats 1000000 in
theorem comes_badC (w : World) (x : H) (i n : Int) (pv : Value) (h : 0 ≤ i) (h' : i < n) (h'' : 1048576 < n) :
    Calls Tryd.prog 23 #[hv x, .int .i64 i, .int .i64 n, pv] w fun e w' => e = .returned (.tuple #[.agg z32.toArray, .bool false]) ∧ Below w.heap.size w w' := by
  obtain ⟨hb, hsz, h0, h1, h2, h3⟩ := comesW_parts w x i n
  have c1 := h1.cell (i := 0) rfl
  have c2 := h2.cell (i := 0) rfl
  rw [comesW_lit] at hb c1 c2 h3
  have H3 := Lib.hid h3
  clear h0 h1 h2 h3 hsz
  unfold hv
  go_enter Tryd.func23, Tryd.ntmps23
  go_wp2_with (first
    | (refine wpList_store_row rfl 30 (.tmp 8) (.tmp 23) rfl (w.heap.size + 1 + 1 + 1) z32.toArray rfl (by rw [z32_arr]; rfl) 30 z32.toArray (by exact H3.out) (by exact z32_row) (by exact z32_old z0H) (by exact hv_one z0H) ?_)
    | fail)
  refine bodyPost_ret (results_row_tmp (p := 8) (u := 9) rfl _ _ (w.heap.size + 1 + 1 + 1) 30 z32.toArray (0, 0) _ rfl (H3.out.setRow z32) Tryd.underlying30 rfl z32_row) rfl ⟨rfl, below_setRow hb (by omega) _⟩
/-- What the walk finds when it calls taken. -/
theorem comes_call (w : World) (x : H) (i n : Nat) (pv : Value) (P : List H) (hs : Hs w pv P) (hg : Glob w) (h1 : 1 ≤ n) (hn : n ≤ 1048576) (hi : i < n) (W1 : World) (hW : W1 = (comesW w x i n).alloc (.cells z32.toArray 30)) :
    Below w.heap.size w W1 ∧ W1.heap.size = w.heap.size + 1 + 1 + 1 + 1 + 1 ∧ Hs W1 pv P ∧ Blk W1 (w.heap.size + 1 + 1 + 1) z32 30 ∧
    ∀ w1, Below W1.heap.size W1 w1 → w1.heap.size = W1.heap.size + 1 + 1 + 1 → Tk w1 (W1.heap.size + 1 + 1) W1.heap.size pv P P.length →
      Calls Tryd.prog 44 (#[nextV (W1.heap.size + 1 + 1) W1.heap.size] ++ #[.pointer (some ⟨w.heap.size, 0, none⟩), .pointer (some ⟨w.heap.size + 1, 0, none⟩), .pointer (some ⟨w.heap.size + 1 + 1, 0, none⟩), .pointer (some ⟨w.heap.size + 1 + 1 + 1 + 1, 0, none⟩)]) w1
        fun e w2 => OutPost (upA x P n i P.length) (W1.heap.size + 1 + 1) W1.heap.size (w.heap.size + 1 + 1 + 1 + 1) pv P w1 e w2 := by
  obtain ⟨hb, hsz, b0, b1, b2, b3⟩ := comesW_parts w x i n
  have hbW : Below w.heap.size w W1 := by rw [hW]; exact hb.alloc hb.size _
  have hsW : W1.heap.size = w.heap.size + 1 + 1 + 1 + 1 + 1 := by rw [hW, World.size_alloc, hsz]
  have hRW : Blk W1 (w.heap.size + 1 + 1 + 1 + 1) z32 30 := by
    have := Blk.newL (comesW w x i n) z32 30
    rw [hsz] at this
    rw [hW]
    exact this
  have hal : Below (comesW w x i n).heap.size (comesW w x i n) W1 := by rw [hW]; exact (Below.refl _ _).alloc (Nat.le_refl _) _
  refine ⟨hbW, hsW, hs.below hbW, b3.below hal b3.lt, fun w1 hb1 hs1 hT => ?_⟩
  have hlt : ∀ r, r < w.heap.size + 1 + 1 + 1 + 1 + 1 → r < W1.heap.size := fun r h => by omega
  exact outer_any w w1 x i n pv P (W1.heap.size + 1 + 1) W1.heap.size w.heap.size (w.heap.size + 1) (w.heap.size + 1 + 1) (w.heap.size + 1 + 1 + 1 + 1) hg (hbW.trans (hb1.mono hbW.size)) (by omega) h1 hn hi hT
    ((b0.below hal b0.lt).below hb1 (hlt _ (by omega))) ((b1.below hal b1.lt).below hb1 (hlt _ (by omega))) ((b2.below hal b2.lt).below hb1 (hlt _ (by omega))) (hRW.below hb1 (hlt _ (by omega))) (by omega) (by omega) (by omega)
    (fun hp ad k c e => by have := IsSl.block_lt hs hp (by decide) ad k c e; omega)
set_option maxRecDepth 100000 in
set_option maxHeartbeats 1000000 in
theorem comes_ok (w : World) (x : H) (i n : Nat) (pv : Value) (P : List H) (hs : Hs w pv P) (hl : P.length ≤ 4096) (hg : Glob w) (h1 : 1 ≤ n) (hn : n ≤ 1048576) (hi : i < n) :
    Calls Tryd.prog 23 #[hv x, .int .i64 i, .int .i64 n, pv] w fun e w' => e = .returned (.tuple #[comesV (comesN ndH x n i P), .bool (comesN ndH x n i P).isSome]) ∧ Below w.heap.size w w' := by
  have hmf := run_makeFunc
  obtain ⟨W1, hW1⟩ : ∃ W1, W1 = (comesW w x i n).alloc (.cells z32.toArray 30) := ⟨_, rfl⟩
  obtain ⟨hbW, hsW, hsl, hB3, hcall⟩ := comes_call w x i n pv P hs hg h1 hn hi W1 hW1
  obtain ⟨_, _, _, b1, b2, _⟩ := comesW_parts w x i n
  have c1 := b1.cell (i := 0) rfl
  have c2 := b2.cell (i := 0) rfl
  have k0 : (0 : Int) ≤ i := by omega
  have k1 : ¬ (i : Int) < 0 := by omega
  have k2 : ¬ (n : Int) ≤ i := by omega
  have k3 : ¬ (1048576 : Int) < n := by omega
  rw [comes_upA]
  obtain ⟨Z, hZ⟩ : ∃ Z, Z = upA x P n i P.length := ⟨_, rfl⟩
  rw [← hZ]
  rw [← hZ] at hcall
  rw [comesW_lit] at c1 c2
  rw [comesW_lit, z32_arr] at hW1
  have HW := Lib.hid hW1
  have HB := Lib.hid hB3
  have HS := Lib.hid hsl
  have HC := Lib.hid hcall
  clear hs hg hW1 hB3 hsl hcall hZ b1 b2
  unfold hv
  cases Z with
  | none =>
    show Calls _ _ _ _ fun e w' => e = .returned (.tuple #[.agg z32.toArray, .bool false]) ∧ Below w.heap.size w w'
    go_enter Tryd.func23, Tryd.ntmps23
    go_wp2_with (first
      | (go_at_call 43; refine calls_eq HW.out ((taken_panic_comes W1 pv P _ (w.heap.size + 1 + 1 + 1 + 1) HS.out hl (by omega) HC.out).mono ?_); rintro e w2 ⟨rfl, hb2⟩; have hB2 := hb2.blk HB.out (by omega); have HB2 := Lib.hid hB2; have hw2 := hbW.trans (hb2.below (B := w.heap.size) (by omega) (by omega)); clear hb2 hB2)
      | (refine wpList_store_row rfl 30 (.tmp 8) (.tmp 29) rfl (w.heap.size + 1 + 1 + 1) z32.toArray rfl (by rw [z32_arr]; rfl) 30 z32.toArray (by exact HB2.out) (by exact z32_row) (by exact z32_old z0H) (by exact hv_one z0H) ?_)
      | fail)
    exact bodyPost_ret (results_row_tmp (p := 8) (u := 9) rfl _ _ (w.heap.size + 1 + 1 + 1) 30 z32.toArray (0, 0) _ rfl (HB2.out.setRow z32) Tryd.underlying30 rfl z32_row) rfl ⟨rfl, below_setRow hw2 (by omega) _⟩
  | some p =>
    obtain ⟨y, a'⟩ := p
    cases a' with
    | zero =>
      show Calls _ _ _ _ fun e w' => e = .returned (.tuple #[hv y, .bool true]) ∧ Below w.heap.size w w'
      go_enter Tryd.func23, Tryd.ntmps23
      go_wp2_with (first
        | (go_at_call 43; refine calls_eq HW.out ((taken_ret_comes W1 pv P _ (w.heap.size + 1 + 1 + 1 + 1) 0 true (bytesV y.b) 30 HS.out hl (by omega) rfl HC.out).mono ?_); rintro e w2 ⟨rfl, hb2, hR2⟩; have hB2 := hb2.blk HB.out (by omega); have HB2 := Lib.hid hB2; have HR2 := Lib.hid hR2; have hw2 := hbW.trans (hb2.below (B := w.heap.size) (by omega) (by omega)); clear hb2 hB2 hR2)
        | (refine wpList_load_row rfl 30 (.tmp 10) rfl (w.heap.size + 1 + 1 + 1 + 1) rfl 30 (bytesV y.b).toArray (0, 0) _ (by exact HR2.out) Tryd.underlying30 rfl (by exact hv_row _) ?_)
        | (refine wpList_store_row rfl 30 (.tmp 8) (.tmp 30) rfl (w.heap.size + 1 + 1 + 1) (bytesV y.b).toArray rfl rfl 30 z32.toArray (by exact HB2.out) (by exact hv_row _) (by exact z32_old _) (by exact hv_one _) ?_)
        | fail)
      exact bodyPost_ret (results_row_tmp (p := 8) (u := 9) rfl _ _ (w.heap.size + 1 + 1 + 1) 30 (bytesV y.b).toArray (0, 0) _ rfl (HB2.out.setRow _) Tryd.underlying30 rfl (hv_row y)) rfl ⟨rfl, below_setRow hw2 (by omega) _⟩
    | succ a' =>
      have hd : (((a' + 1 : Nat) : Int) == 0) = false := by rw [beq_eq_false_iff_ne]; omega
      show Calls _ _ _ _ fun e w' => e = .returned (.tuple #[.agg z32.toArray, .bool false]) ∧ Below w.heap.size w w'
      go_enter Tryd.func23, Tryd.ntmps23
      go_wp2_with (first
        | (go_at_call 43; refine calls_eq HW.out ((taken_ret_comes W1 pv P _ (w.heap.size + 1 + 1 + 1 + 1) (a' + 1) false (bytesV y.b) 30 HS.out hl (by omega) hd HC.out).mono ?_); rintro e w2 ⟨rfl, hb2, _⟩; have hB2 := hb2.blk HB.out (by omega); have HB2 := Lib.hid hB2; have hw2 := hbW.trans (hb2.below (B := w.heap.size) (by omega) (by omega)); clear hb2 hB2)
        | (refine wpList_store_row rfl 30 (.tmp 8) (.tmp 29) rfl (w.heap.size + 1 + 1 + 1) z32.toArray rfl (by rw [z32_arr]; rfl) 30 z32.toArray (by exact HB2.out) (by exact z32_row) (by exact z32_old z0H) (by exact hv_one z0H) ?_)
        | fail)
      exact bodyPost_ret (results_row_tmp (p := 8) (u := 9) rfl _ _ (w.heap.size + 1 + 1 + 1) 30 z32.toArray (0, 0) _ rfl (HB2.out.setRow z32) Tryd.underlying30 rfl z32_row) rfl ⟨rfl, below_setRow hw2 (by omega) _⟩
end Go.Proofs.YthgkaegkkkghhaaDoor

/-! ProofIn: The walks of Comes, whatever the numbers, and of In. Conditions: the path can be read, at most 4096 hashes; the package's tables read as they are laid. -/
namespace Go.Proofs.YthgkaegkkkghhaaDoor
open Go.RowKit

theorem comesV_eq (R : Option H) : comesV R = hv (R.getD z0H) := by cases R <;> rfl
theorem comes_any (w : World) (x : H) (i n : Int) (pv : Value) (P : List H) (hs : Hs w pv P) (hl : P.length ≤ 4096) (hg : Glob w) :
    Calls Tryd.prog 23 #[hv x, .int .i64 i, .int .i64 n, pv] w fun e w' => e = .returned (.tuple #[hv ((comesR x i n P).getD z0H), .bool (comesR x i n P).isSome]) ∧ Below w.heap.size w w' := by
  rw [← comesV_eq]
  by_cases h1 : i < 0
  · rw [show comesR x i n P = none from if_neg (by omega)]
    exact comes_badA w x i n pv h1
  by_cases h2 : n ≤ i
  · rw [show comesR x i n P = none from if_neg (by omega)]
    exact comes_badB w x i n pv (by omega) h2
  by_cases h3 : 1048576 < n
  · rw [show comesR x i n P = none from if_neg (by omega)]
    exact comes_badC w x i n pv (by omega) (by omega) h3
  obtain ⟨a, rfl⟩ : ∃ a : Nat, i = a := ⟨i.toNat, by omega⟩
  obtain ⟨b, rfl⟩ : ∃ b : Nat, n = b := ⟨n.toNat, by omega⟩
  rw [show comesR x (a : Int) (b : Int) P = comesN ndH x b a P from if_pos ⟨by omega, by omega, by omega⟩]
  exact comes_ok w x a b pv P hs hl hg (by omega) (by omega) (by omega)
def inR (x root : H) (i n : Int) (P : List H) : Bool := match comesR x i n P with
  | some h => h.b == root.b
  | none => false
end Go.Proofs.YthgkaegkkkghhaaDoor
