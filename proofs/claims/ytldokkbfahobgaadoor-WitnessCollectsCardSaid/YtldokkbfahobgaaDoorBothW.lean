/- The walk of Both's outer closure. The walk of Both. The walk of Both where its numbers are in order. The walks of Both, whatever the numbers, and of Begins where the first is not 0. Conditions: what each part says. -/
import Derived.Test.YtldokkbfahobgaaDoorBothV
import Derived.Test.YtldokkbfahobgaaDoorPathW
import Derived.Test.YtldokkbfahobgaaDoorComesW
/-! BothC: The walk of Both's outer closure. Conditions: the path can be read; the package's tables read as they are laid. -/
namespace Go.Proofs.YtldokkbfahobgaaDoor
open Go.RowKit

/-- What the outer closure comes to. -/
def BOutPost (Z : Option ((H × H) × Nat)) (g q r : Nat) (pv : Value) (P : List H) (w1 : World) (e : Ending) (w' : World) : Prop :=
  match Z with
  | some (y, a') => e = .returned (.tuple #[]) ∧ Tk w' g q pv P a' ∧ But2 g r w1 w' ∧ Blk w' r (bytesV (y.1.b ++ y.2.b)) 104
  | none => e = .panicked [{ v := shortP, recovered := false }] ∧ But2 g r w1 w'
set_option maxRecDepth 100000 in
set_option maxHeartbeats 1000000 in
theorem bouter_any (w0 w1 : World) (x : H) (i n : Nat) (pv : Value) (P : List H) (g q hb ib mb r : Nat) (hg : Glob w0) (h0 : Below w0.heap.size w0 w1) (hgn : w0.heap.size ≤ g) (h1 : 1 ≤ i) (hn : n ≤ 1048576) (hi : i ≤ n)
    (hT : Tk w1 g q pv P P.length) (hH : Blk w1 hb (bytesV x.b) 31) (hI : Blk w1 ib [.int .i64 i] 3) (hM : Blk w1 mb [.int .i64 n] 3) (hR : Blk w1 r zp64 104) (hhg : hb ≠ g) (hrg : r ≠ g) (hqr : q ≠ r) (hpr : 0 < P.length → ∀ ad k c, pv = .slice (some ad) k c → ad.block ≠ r) :
    Calls Tryd.prog 57 #[nextV g q, .pointer (some ⟨hb, 0, none⟩), .pointer (some ⟨ib, 0, none⟩), .pointer (some ⟨mb, 0, none⟩), .pointer (some ⟨r, 0, none⟩)] w1 fun e w' => BOutPost (up2A x P n i true P.length) g q r pv P w1 e w' := by
  have hmf := run_makeFunc
  have hsf := fun (a : Addr) (c : Array Value) (w : World) => run_store Tryd.prog w a (.func (.func 58) #[] c) .plain rfl
  obtain ⟨Z, hZ⟩ : ∃ Z, Z = up2A x P n i true P.length := ⟨_, rfl⟩
  rw [← hZ]
  obtain ⟨W, hW⟩ : ∃ W, W = (w1.alloc (.cells #[nextV g q] 106)).alloc (.cells #[upbV hb w1.heap.size (w1.heap.size + 1)] 107) := ⟨_, rfl⟩
  have hb1 : Below w1.heap.size w1 W := by rw [hW]; (repeat (first | with_reducible assumption | with_reducible exact Below.refl _ _ | ((with_reducible refine Below.setCell ?_ ?_ _); rotate_left; focus (first | omega | (simp; done) | (simp; omega))) | ((with_reducible refine Below.alloc ?_ ?_ _); rotate_left; focus (first | omega | (simp; done) | (simp; omega))) | ((with_reducible refine below_setRow ?_ ?_ _); rotate_left; focus (first | omega | (simp; done) | (simp; omega))) | (with_reducible refine below_drewN ?_ _) | (with_reducible refine Below.drew ?_)))
  have hgl := hT.at_.lt
  have c1 : W.cell? ⟨ib, 0, none⟩ = some (.int .i64 i) := (hI.below hb1 hI.lt).cell rfl
  have c2 : W.cell? ⟨mb, 0, none⟩ = some (.int .i64 n) := (hM.below hb1 hM.lt).cell rfl
  have hU : UpB w0 W hb w1.heap.size (w1.heap.size + 1) g q x := ⟨hg, h0.trans (hb1.mono h0.size), hgn, hH.below hb1 hH.lt, by rw [hW]; exact ((Blk.newL w1 [nextV g q] _).alloc _).cell (i := 0) rfl, by rw [hW]; exact (Blk.newL1 w1 _ [upbV hb w1.heap.size (w1.heap.size + 1)] _).cell (i := 0) rfl, hhg, by omega, by omega⟩
  have hT1 := hT.below hb1
  have hR1 := hR.below hb1 hR.lt
  have HU := Lib.hid hU
  have HT := Lib.hid hT1
  have HR := Lib.hid hR1
  have HZ := Lib.hid hZ
  have HW := Lib.hid hW
  rw [hW] at c1 c2
  unfold nextV upbV at c1 c2
  clear hT hH hI hM hR hU hT1 hR1 hZ hW
  unfold nextV
  cases Z with
  | none =>
    go_enter Tryd.func57, Tryd.ntmps57
    go_wp2_with (first
      | (go_at_call 58; refine calls_eq HW.out ((upb_any w0 hb w1.heap.size (w1.heap.size + 1) g q x pv P n i true P.length W h1 hi hn HU.out HT.out).mono ?_); rintro e w3 ⟨h5, hb3⟩; rw [← HZ.out] at h5; have h6 : e = .panicked [{ v := shortP, recovered := false }] := h5; subst h6; clear h5)
      | fail)
    exact ⟨rfl, rfl, (But2.of (But.of hb1)).trans (But2.of hb3)⟩
  | some p =>
    obtain ⟨⟨y, y2⟩, a'⟩ := p
    go_enter Tryd.func57, Tryd.ntmps57
    go_wp2_with (first
      | (go_at_call 58; refine calls_eq HW.out ((upb_any w0 hb w1.heap.size (w1.heap.size + 1) g q x pv P n i true P.length W h1 hi hn HU.out HT.out).mono ?_); rintro e w3 ⟨h5, hb3⟩; rw [← HZ.out] at h5; obtain ⟨rfl, hT3⟩ := h5; unfold pairV; have HT3 := Lib.hid hT3; have HR3 := Lib.hid (hb3.blk HR.out hrg); clear hT3)
      | (refine wpList_store_row rfl 104 (.tmp 4) (.tmp 11) rfl r (bytesV (y.b ++ y2.b)).toArray rfl rfl 104 zp64.toArray (by exact HR3.out) (by exact pair_row _ _) (by exact zp64_old _ _) (by exact pair_one _ _) ?_)
      | fail)
    first
    | go_end0
    | refine bodyPost_ret (results_none rfl _ _ _) rfl ?_
    exact ⟨rfl, HT3.out.but (But.row r _) (fun e => hrg e.symm) hqr hpr, ((But2.of (But.of hb1)).trans (But2.of hb3)).trans (But2.of' (But.row r _)), HR3.out.setRow _⟩
end Go.Proofs.YtldokkbfahobgaaDoor

/-! BothD: The walk of Both. Conditions: the proof can be read, at most 4096 hashes; the package's tables read as they are laid. -/
namespace Go.Proofs.YtldokkbfahobgaaDoor
open Go.RowKit

theorem results_row2_tmp {P : Program} {fn : Func} {p p2 u : Tmp} {ty : TypeId} (h : fn.results = #[.cell p ty, .cell p2 ty, .tmp u]) (tmps : Array Value) (w : World) (g g2 : Nat) (t t2 : TypeId) (cs cs2 : Array Value) (fr fr2 : Nat × Nat) (d : TypeDesc)
    (hp : tmps.getD p undef = .pointer (some ⟨g, 0, none⟩)) (hp2 : tmps.getD p2 undef = .pointer (some ⟨g2, 0, none⟩)) (hg : w.heap[g]? = some (.cells cs t fr)) (hg2 : w.heap[g2]? = some (.cells cs2 t2 fr2))
    (hu : P.underlying ty = some d) (hd : (match d with | .struct _ | .array _ _ => true | _ => false) = true) (hi : (P.info? ty).map (·.size) = some cs.size) (hi2 : (P.info? ty).map (·.size) = some cs2.size) :
    (results fn tmps).run P w = .ok (.tuple #[.agg cs, .agg cs2, tmps.getD u undef]) w := by
  have hp' : tmps[p]?.getD undef = .pointer (some ⟨g, 0, none⟩) := by simpa using hp
  have hp2' : tmps[p2]?.getD undef = .pointer (some ⟨g2, 0, none⟩) := by simpa using hp2
  simp [results, h, hp', hp2', asAddr, run_loadVar_row w g t ty cs fr d hg hu hd hi, run_loadVar_row w g2 t2 ty cs2 fr2 d hg2 hu hd hi2]
def bothW (w : World) (x : H) (m n : Int) : World := ((((w.alloc (.cells #[.int .i64 m] 3)).alloc (.cells #[.int .i64 n] 3)).alloc (.cells (bytesV x.b).toArray 31)).alloc (.cells z32.toArray 31)).alloc (.cells z32.toArray 31)
theorem bothW_lit (w : World) (x : H) (m n : Int) : bothW w x m n = ((((w.alloc (.cells #[.int .i64 m] 3)).alloc (.cells #[.int .i64 n] 3)).alloc (.cells (bytesV x.b).toArray 31)).alloc (.cells #[.int .u8 0, .int .u8 0, .int .u8 0, .int .u8 0, .int .u8 0, .int .u8 0, .int .u8 0, .int .u8 0, .int .u8 0, .int .u8 0, .int .u8 0, .int .u8 0, .int .u8 0, .int .u8 0, .int .u8 0, .int .u8 0, .int .u8 0, .int .u8 0, .int .u8 0, .int .u8 0, .int .u8 0, .int .u8 0, .int .u8 0, .int .u8 0, .int .u8 0, .int .u8 0, .int .u8 0, .int .u8 0, .int .u8 0, .int .u8 0, .int .u8 0, .int .u8 0] 31)).alloc (.cells #[.int .u8 0, .int .u8 0, .int .u8 0, .int .u8 0, .int .u8 0, .int .u8 0, .int .u8 0, .int .u8 0, .int .u8 0, .int .u8 0, .int .u8 0, .int .u8 0, .int .u8 0, .int .u8 0, .int .u8 0, .int .u8 0, .int .u8 0, .int .u8 0, .int .u8 0, .int .u8 0, .int .u8 0, .int .u8 0, .int .u8 0, .int .u8 0, .int .u8 0, .int .u8 0, .int .u8 0, .int .u8 0, .int .u8 0, .int .u8 0, .int .u8 0, .int .u8 0] 31) := by
  unfold bothW
  rw [z32_arr]
theorem bothW_parts (w : World) (x : H) (m n : Int) : Below w.heap.size w (bothW w x m n) ∧ (bothW w x m n).heap.size = w.heap.size + 1 + 1 + 1 + 1 + 1 ∧ Blk (bothW w x m n) w.heap.size [.int .i64 m] 3 ∧ Blk (bothW w x m n) (w.heap.size + 1) [.int .i64 n] 3 ∧
    Blk (bothW w x m n) (w.heap.size + 1 + 1) (bytesV x.b) 31 ∧ Blk (bothW w x m n) (w.heap.size + 1 + 1 + 1) z32 31 ∧ Blk (bothW w x m n) (w.heap.size + 1 + 1 + 1 + 1) z32 31 := by
  unfold bothW
  refine ⟨by (repeat (first | with_reducible assumption | with_reducible exact Below.refl _ _ | ((with_reducible refine Below.setCell ?_ ?_ _); rotate_left; focus (first | omega | (simp; done) | (simp; omega))) | ((with_reducible refine Below.alloc ?_ ?_ _); rotate_left; focus (first | omega | (simp; done) | (simp; omega))) | ((with_reducible refine below_setRow ?_ ?_ _); rotate_left; focus (first | omega | (simp; done) | (simp; omega))) | (with_reducible refine below_drewN ?_ _) | (with_reducible refine Below.drew ?_))), by simp, ?_, ?_, ?_, ?_, ?_⟩
  · exact ((((Blk.newL w [.int .i64 m] _).alloc _).alloc _).alloc _).alloc _
  · exact (((Blk.newL1 w _ [.int .i64 n] _).alloc _).alloc _).alloc _
  · exact ((Blk.newL2 w _ _ _ _).alloc _).alloc _
  · have := Blk.newL (((w.alloc (.cells #[.int .i64 m] 3)).alloc (.cells #[.int .i64 n] 3)).alloc (.cells (bytesV x.b).toArray 31)) z32 31
    exact Blk.alloc (by simpa using this) _
  · have := Blk.newL ((((w.alloc (.cells #[.int .i64 m] 3)).alloc (.cells #[.int .i64 n] 3)).alloc (.cells (bytesV x.b).toArray 31)).alloc (.cells z32.toArray 31)) z32 31
    simpa using this
set_option maxRecDepth 100000 in
set_option maxHeartbeats 1000000 in
theorem both_badA (w : World) (x : H) (m n : Int) (pv : Value) (h : m < 1) :
    Calls Tryd.prog 39 #[.int .i64 m, .int .i64 n, hv x, pv] w fun e w' => e = .returned (.tuple #[.agg z32.toArray, .agg z32.toArray, .bool false]) ∧ Below w.heap.size w w' := by
  obtain ⟨hb, hsz, h0, h1, h2, h3, h4⟩ := bothW_parts w x m n
  have c1 := h0.cell (i := 0) rfl
  have c2 := h1.cell (i := 0) rfl
  have k1 : ¬ (m : Int) < 1 ∨ m < 1 := by omega
  rw [bothW_lit] at hb c1 c2 h3 h4
  have H3 := Lib.hid h3
  have H4 := Lib.hid h4
  clear h0 h1 h2 h3 h4 hsz k1
  unfold hv
  go_enter Tryd.func39, Tryd.ntmps39
  go_wp2_with (first
    | (refine wpList_store_row rfl 31 (.tmp 8) (.tmp 24) rfl (w.heap.size + 1 + 1 + 1) z32.toArray rfl (by rw [z32_arr]; rfl) 31 z32.toArray (by exact H3.out) (by exact z32_row) (by exact z32_old z0H) (by exact hv_one z0H) ?_)
    | (refine wpList_store_row rfl 31 (.tmp 9) (.tmp 25) rfl (w.heap.size + 1 + 1 + 1 + 1) z32.toArray rfl (by rw [z32_arr]; rfl) 31 z32.toArray (by exact H4.out.setRow_other (by omega) _) (by exact z32_row) (by exact z32_old z0H) (by exact hv_one z0H) ?_)
    | fail)
  exact bodyPost_ret (results_row2_tmp (p := 8) (p2 := 9) (u := 10) rfl _ _ (w.heap.size + 1 + 1 + 1) (w.heap.size + 1 + 1 + 1 + 1) 31 31 z32.toArray z32.toArray (0, 0) (0, 0) _ rfl rfl ((H3.out.setRow z32).setRow_other (by omega) _) ((H4.out.setRow_other (by omega) _).setRow z32) Tryd.underlying31 rfl z32_row z32_row) rfl ⟨rfl, below_setRow (below_setRow hb (by omega) _) (by omega) _⟩
set_option maxRecDepth 100000 in
set_option maxHeartbeats 1000000 in
theorem both_badB (w : World) (x : H) (m n : Int) (pv : Value) (h : 1 ≤ m) (h' : n < m) :
    Calls Tryd.prog 39 #[.int .i64 m, .int .i64 n, hv x, pv] w fun e w' => e = .returned (.tuple #[.agg z32.toArray, .agg z32.toArray, .bool false]) ∧ Below w.heap.size w w' := by
  obtain ⟨hb, hsz, h0, h1, h2, h3, h4⟩ := bothW_parts w x m n
  have c1 := h0.cell (i := 0) rfl
  have c2 := h1.cell (i := 0) rfl
  have k1 : ¬ (m : Int) < 1 ∨ m < 1 := by omega
  rw [bothW_lit] at hb c1 c2 h3 h4
  have H3 := Lib.hid h3
  have H4 := Lib.hid h4
  clear h0 h1 h2 h3 h4 hsz k1
  unfold hv
  go_enter Tryd.func39, Tryd.ntmps39
  go_wp2_with (first
    | (refine wpList_store_row rfl 31 (.tmp 8) (.tmp 24) rfl (w.heap.size + 1 + 1 + 1) z32.toArray rfl (by rw [z32_arr]; rfl) 31 z32.toArray (by exact H3.out) (by exact z32_row) (by exact z32_old z0H) (by exact hv_one z0H) ?_)
    | (refine wpList_store_row rfl 31 (.tmp 9) (.tmp 25) rfl (w.heap.size + 1 + 1 + 1 + 1) z32.toArray rfl (by rw [z32_arr]; rfl) 31 z32.toArray (by exact H4.out.setRow_other (by omega) _) (by exact z32_row) (by exact z32_old z0H) (by exact hv_one z0H) ?_)
    | fail)
  exact bodyPost_ret (results_row2_tmp (p := 8) (p2 := 9) (u := 10) rfl _ _ (w.heap.size + 1 + 1 + 1) (w.heap.size + 1 + 1 + 1 + 1) 31 31 z32.toArray z32.toArray (0, 0) (0, 0) _ rfl rfl ((H3.out.setRow z32).setRow_other (by omega) _) ((H4.out.setRow_other (by omega) _).setRow z32) Tryd.underlying31 rfl z32_row z32_row) rfl ⟨rfl, below_setRow (below_setRow hb (by omega) _) (by omega) _⟩
set_option maxRecDepth 100000 in
set_option maxHeartbeats 1000000 in
theorem both_badC (w : World) (x : H) (m n : Int) (pv : Value) (h : 1 ≤ m) (h' : m ≤ n) (h'' : 1048576 < n) :
    Calls Tryd.prog 39 #[.int .i64 m, .int .i64 n, hv x, pv] w fun e w' => e = .returned (.tuple #[.agg z32.toArray, .agg z32.toArray, .bool false]) ∧ Below w.heap.size w w' := by
  obtain ⟨hb, hsz, h0, h1, h2, h3, h4⟩ := bothW_parts w x m n
  have c1 := h0.cell (i := 0) rfl
  have c2 := h1.cell (i := 0) rfl
  have k1 : ¬ (m : Int) < 1 ∨ m < 1 := by omega
  rw [bothW_lit] at hb c1 c2 h3 h4
  have H3 := Lib.hid h3
  have H4 := Lib.hid h4
  clear h0 h1 h2 h3 h4 hsz k1
  unfold hv
  go_enter Tryd.func39, Tryd.ntmps39
  go_wp2_with (first
    | (refine wpList_store_row rfl 31 (.tmp 8) (.tmp 24) rfl (w.heap.size + 1 + 1 + 1) z32.toArray rfl (by rw [z32_arr]; rfl) 31 z32.toArray (by exact H3.out) (by exact z32_row) (by exact z32_old z0H) (by exact hv_one z0H) ?_)
    | (refine wpList_store_row rfl 31 (.tmp 9) (.tmp 25) rfl (w.heap.size + 1 + 1 + 1 + 1) z32.toArray rfl (by rw [z32_arr]; rfl) 31 z32.toArray (by exact H4.out.setRow_other (by omega) _) (by exact z32_row) (by exact z32_old z0H) (by exact hv_one z0H) ?_)
    | fail)
  exact bodyPost_ret (results_row2_tmp (p := 8) (p2 := 9) (u := 10) rfl _ _ (w.heap.size + 1 + 1 + 1) (w.heap.size + 1 + 1 + 1 + 1) 31 31 z32.toArray z32.toArray (0, 0) (0, 0) _ rfl rfl ((H3.out.setRow z32).setRow_other (by omega) _) ((H4.out.setRow_other (by omega) _).setRow z32) Tryd.underlying31 rfl z32_row z32_row) rfl ⟨rfl, below_setRow (below_setRow hb (by omega) _) (by omega) _⟩
end Go.Proofs.YtldokkbfahobgaaDoor

/-! BothE: The walk of Both where its numbers are in order. Conditions: the proof can be read, at most 4096 hashes; the package's tables read as they are laid. -/
namespace Go.Proofs.YtldokkbfahobgaaDoor
open Go.RowKit

theorem But.range {g b off : Nat} {w w' : World} {cs : List Value} (h : But g w w') (hr : w.rangeAt b off cs) (hb : b ≠ g) : w'.rangeAt b off cs := fun j u hu => h.cell (hr j u hu) hb
def bothV1 : Option (H × H) → Value
  | some p => hv p.1
  | none => .agg z32.toArray
def bothV2 : Option (H × H) → Value
  | some p => hv p.2
  | none => .agg z32.toArray
theorem both_call (w : World) (x : H) (m n : Nat) (pv : Value) (P : List H) (hs : Hs w pv P) (hg : Glob w) (h1 : 1 ≤ m) (hn : n ≤ 1048576) (hi : m ≤ n) (W1 : World) (hW : W1 = (bothW w x m n).alloc (.cells zp64.toArray 104)) :
    Below w.heap.size w W1 ∧ W1.heap.size = w.heap.size + 1 + 1 + 1 + 1 + 1 + 1 ∧ Hs W1 pv P ∧ Blk W1 (w.heap.size + 1 + 1 + 1) z32 31 ∧ Blk W1 (w.heap.size + 1 + 1 + 1 + 1) z32 31 ∧
    ∀ w1, Below W1.heap.size W1 w1 → w1.heap.size = W1.heap.size + 1 + 1 + 1 → Tk w1 (W1.heap.size + 1 + 1) W1.heap.size pv P P.length →
      Calls Tryd.prog 57 (#[nextV (W1.heap.size + 1 + 1) W1.heap.size] ++ #[.pointer (some ⟨w.heap.size + 1 + 1, 0, none⟩), .pointer (some ⟨w.heap.size, 0, none⟩), .pointer (some ⟨w.heap.size + 1, 0, none⟩), .pointer (some ⟨w.heap.size + 1 + 1 + 1 + 1 + 1, 0, none⟩)]) w1
        fun e w2 => BOutPost (up2A x P n m true P.length) (W1.heap.size + 1 + 1) W1.heap.size (w.heap.size + 1 + 1 + 1 + 1 + 1) pv P w1 e w2 := by
  obtain ⟨hb, hsz, b0, b1, b2, b3, b4⟩ := bothW_parts w x m n
  have hbW : Below w.heap.size w W1 := by rw [hW]; exact hb.alloc hb.size _
  have hsW : W1.heap.size = w.heap.size + 1 + 1 + 1 + 1 + 1 + 1 := by rw [hW, World.size_alloc, hsz]
  have hRW : Blk W1 (w.heap.size + 1 + 1 + 1 + 1 + 1) zp64 104 := by
    have := Blk.newL (bothW w x m n) zp64 104
    rw [hsz] at this
    rw [hW]
    exact this
  have hal : Below (bothW w x m n).heap.size (bothW w x m n) W1 := by rw [hW]; exact (Below.refl _ _).alloc (Nat.le_refl _) _
  refine ⟨hbW, hsW, hs.below hbW, b3.below hal b3.lt, b4.below hal b4.lt, fun w1 hb1 hs1 hT => ?_⟩
  have hlt : ∀ r, r < w.heap.size + 1 + 1 + 1 + 1 + 1 + 1 → r < W1.heap.size := fun r h => by omega
  exact bouter_any w w1 x m n pv P (W1.heap.size + 1 + 1) W1.heap.size (w.heap.size + 1 + 1) w.heap.size (w.heap.size + 1) (w.heap.size + 1 + 1 + 1 + 1 + 1) hg (hbW.trans (hb1.mono hbW.size)) (by omega) h1 hn hi hT
    ((b2.below hal b2.lt).below hb1 (hlt _ (by omega))) ((b0.below hal b0.lt).below hb1 (hlt _ (by omega))) ((b1.below hal b1.lt).below hb1 (hlt _ (by omega))) (hRW.below hb1 (hlt _ (by omega))) (by omega) (by omega) (by omega)
    (fun hp ad k c e => by have := IsSl.block_lt hs hp (by decide) ad k c e; omega)
set_option maxRecDepth 100000 in
set_option maxHeartbeats 1000000 in
theorem both_ok (w : World) (x : H) (m n : Nat) (pv : Value) (P : List H) (hs : Hs w pv P) (hl : P.length ≤ 4096) (hg : Glob w) (h1 : 1 ≤ m) (hn : n ≤ 1048576) (hi : m ≤ n) :
    Calls Tryd.prog 39 #[.int .i64 m, .int .i64 n, hv x, pv] w fun e w' => e = .returned (.tuple #[bothV1 (bothN ndH x n m P), bothV2 (bothN ndH x n m P), .bool (bothN ndH x n m P).isSome]) ∧ Below w.heap.size w w' := by
  have hmf := run_makeFunc
  obtain ⟨W1, hW1⟩ : ∃ W1, W1 = (bothW w x m n).alloc (.cells zp64.toArray 104) := ⟨_, rfl⟩
  obtain ⟨hbW, hsW, hsl, hB3, hB4, hcall⟩ := both_call w x m n pv P hs hg h1 hn hi W1 hW1
  obtain ⟨_, _, b0, b1, _, _, _⟩ := bothW_parts w x m n
  have c1 := b0.cell (i := 0) rfl
  have c2 := b1.cell (i := 0) rfl
  have k1 : ¬ (m : Int) < 1 := by omega
  have k2 : ¬ (n : Int) < m := by omega
  have k3 : ¬ (1048576 : Int) < n := by omega
  rw [both_upA]
  obtain ⟨Z, hZ⟩ : ∃ Z, Z = up2A x P n m true P.length := ⟨_, rfl⟩
  rw [← hZ]
  rw [← hZ] at hcall
  rw [bothW_lit] at c1 c2
  rw [bothW_lit, zp64_arr] at hW1
  have HW := Lib.hid hW1
  have HB := Lib.hid hB3
  have HB' := Lib.hid hB4
  have HS := Lib.hid hsl
  have HC := Lib.hid hcall
  clear hs hg hW1 hB3 hB4 hsl hcall hZ b0 b1
  unfold hv
  cases Z with
  | none =>
    show Calls _ _ _ _ fun e w' => e = .returned (.tuple #[.agg z32.toArray, .agg z32.toArray, .bool false]) ∧ Below w.heap.size w w'
    go_enter Tryd.func39, Tryd.ntmps39
    go_wp2_with (first
      | (go_at_call 56; refine calls_eq HW.out ((taken_panic_both W1 pv P _ (w.heap.size + 1 + 1 + 1 + 1 + 1) HS.out hl (by omega) HC.out).mono ?_); rintro e w2 ⟨rfl, hb2⟩; have HB2 := Lib.hid (hb2.blk HB.out (by omega)); have HB2' := Lib.hid (hb2.blk HB'.out (by omega)); have hw2 := hbW.trans (hb2.below (B := w.heap.size) (by omega) (by omega)); clear hb2)
      | (refine wpList_store_row rfl 31 (.tmp 8) (.tmp 31) rfl (w.heap.size + 1 + 1 + 1) z32.toArray rfl (by rw [z32_arr]; rfl) 31 z32.toArray (by exact HB2.out) (by exact z32_row) (by exact z32_old z0H) (by exact hv_one z0H) ?_)
      | (refine wpList_store_row rfl 31 (.tmp 9) (.tmp 32) rfl (w.heap.size + 1 + 1 + 1 + 1) z32.toArray rfl (by rw [z32_arr]; rfl) 31 z32.toArray (by exact HB2'.out.setRow_other (by omega) _) (by exact z32_row) (by exact z32_old z0H) (by exact hv_one z0H) ?_)
      | fail)
    exact bodyPost_ret (results_row2_tmp (p := 8) (p2 := 9) (u := 10) rfl _ _ (w.heap.size + 1 + 1 + 1) (w.heap.size + 1 + 1 + 1 + 1) 31 31 z32.toArray z32.toArray (0, 0) (0, 0) _ rfl rfl ((HB2.out.setRow z32).setRow_other (by omega) _) ((HB2'.out.setRow_other (by omega) _).setRow z32) Tryd.underlying31 rfl z32_row z32_row) rfl ⟨rfl, below_setRow (below_setRow hw2 (by omega) _) (by omega) _⟩
  | some p =>
    obtain ⟨⟨y, y2⟩, a'⟩ := p
    cases a' with
    | succ a' =>
      have hd : (((a' + 1 : Nat) : Int) == 0) = false := by rw [beq_eq_false_iff_ne]; omega
      show Calls _ _ _ _ fun e w' => e = .returned (.tuple #[.agg z32.toArray, .agg z32.toArray, .bool false]) ∧ Below w.heap.size w w'
      go_enter Tryd.func39, Tryd.ntmps39
      go_wp2_with (first
        | (go_at_call 56; refine calls_eq HW.out ((taken_ret_both W1 pv P _ (w.heap.size + 1 + 1 + 1 + 1 + 1) (a' + 1) false (bytesV (y.b ++ y2.b)) 104 HS.out hl (by omega) hd HC.out).mono ?_); rintro e w2 ⟨rfl, hb2, _⟩; have HB2 := Lib.hid (hb2.blk HB.out (by omega)); have HB2' := Lib.hid (hb2.blk HB'.out (by omega)); have hw2 := hbW.trans (hb2.below (B := w.heap.size) (by omega) (by omega)); clear hb2)
        | (refine wpList_store_row rfl 31 (.tmp 8) (.tmp 31) rfl (w.heap.size + 1 + 1 + 1) z32.toArray rfl (by rw [z32_arr]; rfl) 31 z32.toArray (by exact HB2.out) (by exact z32_row) (by exact z32_old z0H) (by exact hv_one z0H) ?_)
        | (refine wpList_store_row rfl 31 (.tmp 9) (.tmp 32) rfl (w.heap.size + 1 + 1 + 1 + 1) z32.toArray rfl (by rw [z32_arr]; rfl) 31 z32.toArray (by exact HB2'.out.setRow_other (by omega) _) (by exact z32_row) (by exact z32_old z0H) (by exact hv_one z0H) ?_)
        | fail)
      exact bodyPost_ret (results_row2_tmp (p := 8) (p2 := 9) (u := 10) rfl _ _ (w.heap.size + 1 + 1 + 1) (w.heap.size + 1 + 1 + 1 + 1) 31 31 z32.toArray z32.toArray (0, 0) (0, 0) _ rfl rfl ((HB2.out.setRow z32).setRow_other (by omega) _) ((HB2'.out.setRow_other (by omega) _).setRow z32) Tryd.underlying31 rfl z32_row z32_row) rfl ⟨rfl, below_setRow (below_setRow hw2 (by omega) _) (by omega) _⟩
    | zero =>
      show Calls _ _ _ _ fun e w' => e = .returned (.tuple #[hv y, hv y2, .bool true]) ∧ Below w.heap.size w w'
      go_enter Tryd.func39, Tryd.ntmps39
      go_wp2_with (first
        | (go_at_call 56; refine calls_eq HW.out ((taken_ret_both W1 pv P _ (w.heap.size + 1 + 1 + 1 + 1 + 1) 0 true (bytesV (y.b ++ y2.b)) 104 HS.out hl (by omega) rfl HC.out).mono ?_); rintro e w2 ⟨rfl, hb2, hR2⟩; have HB2 := Lib.hid (hb2.blk HB.out (by omega)); have HB2' := Lib.hid (hb2.blk HB'.out (by omega)); have HL2 := Lib.hid (pair_left hR2); have HR2 := Lib.hid (pair_right hR2); have hw2 := hbW.trans (hb2.below (B := w.heap.size) (by omega) (by omega)); clear hb2 hR2)
        | fail)
      refine wp_region_but 5 4 (w.heap.size + 1 + 1 + 1) (fun b u => Blk u (w.heap.size + 1 + 1 + 1) (if b then bytesV y.b else z32) 31) [(fun v _ => v = .pointer (some ⟨w.heap.size + 1 + 1 + 1 + 1 + 1, 0, none⟩)), (fun v _ => v = .agg (bytesV y.b).toArray), (fun v _ => v = .pointer (some ⟨w.heap.size + 1 + 1 + 1 + 1 + 1, 32, none⟩)), (fun v _ => v = .agg (bytesV y2.b).toArray), (fun _ _ => True)] (fun _ _ => False) (by kernel_rfl) (by kernel_rfl) (by decide) rfl _ rfl ?hk ?hs (by exact HB2.out) ?hp ?hops ?hfin
      case hk =>
        repeat (refine List.forall_mem_cons.2 ⟨by exact fun _ _ _ _ h => h, ?_⟩)
        exact fun _ h => by cases h
      case hs => exact fun b u u' hb h => Blk.below h hb h.lt
      case hp => exact fun c a u _ h => h.elim
      case hops =>
        simp only [List.take_succ_cons, List.take_zero, butAll, List.getD_cons_zero, List.getD_cons_succ]
        iterate 5
          
         (refine ⟨fun xs wr hb hd hst Qg hK hP => ?_, ?_⟩
          · as_aux_lemma =>
            simp only [fill, Act.put, List.setIfInBounds_toArray, List.set_cons_succ, List.set_cons_zero, needs, Region.binds, List.filter_cons, List.filter_nil, List.map_cons, List.map_nil, if_true, List.mem_cons, List.not_mem_nil, or_false, forall_eq_or_imp, forall_eq, List.getD_cons_zero, List.getD_cons_succ, false_implies, implies_true] at hd hK ⊢
            (try simp only [hd] at hK ⊢)
            first
            | ((refine wpList_load_midIf rfl 31 (.tmp 33) rfl (w.heap.size + 1 + 1 + 1 + 1 + 1) 0 rfl (bytesV y.b) _ (But.range hb HL2.out (by omega)) Tryd.underlying31 rfl (hv_info y) ?_; exact hK _ _ rfl (fun h => absurd h (by decide)) (fun _ => Below.refl _ _)))
            | ((refine wpList_load_midIf rfl 31 (.tmp 35) rfl (w.heap.size + 1 + 1 + 1 + 1 + 1) 32 rfl (bytesV y2.b) _ (But.range hb HR2.out (by omega)) Tryd.underlying31 rfl (hv_info y2) ?_; exact hK _ _ rfl (fun h => absurd h (by decide)) (fun _ => Below.refl _ _)))
            | (have h9 : Blk wr (w.heap.size + 1 + 1 + 1) z32 31 := (by first | exact hst rfl | exact hst trivial); refine wpList_store_row rfl 31 (.tmp 8) (.tmp 34) rfl (w.heap.size + 1 + 1 + 1) (bytesV y.b).toArray rfl rfl 31 z32.toArray (by exact h9) (by exact hv_row _) (by exact z32_old _) (by exact hv_one _) ?_; exact hK undef _ trivial (fun _ => ⟨But.row _ _, h9.setRow _⟩) (fun h => absurd rfl h))
            | (go_wp2_with fail; exact hK _ _ rfl (fun h => absurd h (by decide)) (fun _ => Below.refl _ _)))
        trivial
      case hfin =>
        intro z u9 hb9 hR9 hS9
        have z1 := hR9 1 (by decide)
        have z3 := hR9 3 (by decide)
        simp only [List.getD_cons_zero, List.getD_cons_succ] at z1 z3
        have H39 := Lib.hid (show Blk u9 (w.heap.size + 1 + 1 + 1) (bytesV y.b) 31 from hS9)
        have H49 := Lib.hid (hb9.blk HB2'.out (by omega))
        have hw9 := hw2.trans (hb9.below (B := w.heap.size) (by omega) hw2.size)
        clear hR9 hb9 hS9
        simp only [List.drop_succ_cons, List.drop_zero]
        generalize List.toArray _ = L0
        simp only [List.take_succ_cons, List.take_zero, List.map_cons, List.map_nil, fill, Act.put, List.setIfInBounds_toArray, List.set_cons_succ, List.set_cons_zero, z1, z3]
        clear z1 z3
        go_wp2_with (first
          | (refine wpList_store_row rfl 31 (.tmp 9) (.tmp 36) rfl (w.heap.size + 1 + 1 + 1 + 1) (bytesV y2.b).toArray rfl rfl 31 z32.toArray (by exact H49.out) (by exact hv_row _) (by exact z32_old _) (by exact hv_one _) ?_)
          | fail)
        exact bodyPost_ret (results_row2_tmp (p := 8) (p2 := 9) (u := 10) rfl _ _ (w.heap.size + 1 + 1 + 1) (w.heap.size + 1 + 1 + 1 + 1) 31 31 (bytesV y.b).toArray (bytesV y2.b).toArray (0, 0) (0, 0) _ rfl rfl (H39.out.setRow_other (by omega) _) (H49.out.setRow _) Tryd.underlying31 rfl (hv_row y) (hv_row y2)) rfl ⟨rfl, below_setRow hw9 (by omega) _⟩
end Go.Proofs.YtldokkbfahobgaaDoor

/-! ProofBe: The walks of Both, whatever the numbers, and of Begins where the first is not 0. Conditions: the proof can be read, at most 4096 hashes; the package's tables read as they are laid. -/
namespace Go.Proofs.YtldokkbfahobgaaDoor
open Go.RowKit

def bothR (x : H) (m n : Int) (P : List H) : Option (H × H) := if 1 ≤ m ∧ m ≤ n ∧ n ≤ 1048576 then bothN ndH x n.toNat m.toNat P else none
theorem bothV1_eq (R : Option (H × H)) : bothV1 R = hv (R.getD (z0H, z0H)).1 := by cases R <;> rfl
theorem bothV2_eq (R : Option (H × H)) : bothV2 R = hv (R.getD (z0H, z0H)).2 := by cases R <;> rfl
theorem both_any (w : World) (x : H) (m n : Int) (pv : Value) (P : List H) (hs : Hs w pv P) (hl : P.length ≤ 4096) (hg : Glob w) :
    Calls Tryd.prog 39 #[.int .i64 m, .int .i64 n, hv x, pv] w fun e w' => e = .returned (.tuple #[hv ((bothR x m n P).getD (z0H, z0H)).1, hv ((bothR x m n P).getD (z0H, z0H)).2, .bool (bothR x m n P).isSome]) ∧ Below w.heap.size w w' := by
  rw [← bothV1_eq, ← bothV2_eq]
  by_cases h1 : m < 1
  · rw [show bothR x m n P = none from if_neg (by omega)]
    exact both_badA w x m n pv h1
  by_cases h2 : n < m
  · rw [show bothR x m n P = none from if_neg (by omega)]
    exact both_badB w x m n pv (by omega) h2
  by_cases h3 : 1048576 < n
  · rw [show bothR x m n P = none from if_neg (by omega)]
    exact both_badC w x m n pv (by omega) (by omega) h3
  obtain ⟨a, rfl⟩ : ∃ a : Nat, m = a := ⟨m.toNat, by omega⟩
  obtain ⟨b, rfl⟩ : ∃ b : Nat, n = b := ⟨n.toNat, by omega⟩
  rw [show bothR x (a : Int) (b : Int) P = bothN ndH x b a P from if_pos ⟨by omega, by omega, by omega⟩]
  exact both_ok w x a b pv P hs hl hg (by omega) (by omega) (by omega)
end Go.Proofs.YtldokkbfahobgaaDoor
