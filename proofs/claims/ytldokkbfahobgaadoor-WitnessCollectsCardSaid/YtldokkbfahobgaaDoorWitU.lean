/- The walks of keys.within, keys.May and the reference's May. The walks of slices.Reverse, at byte slices. The walks of wire.Num and the reference's Num. Checkpoints, signatures and witnesses as values and as blocks. The walk of keys.text. Conditions: what each part says. -/
import Derived.Test.YtldokkbfahobgaaDoorHashP
import Derived.Test.YtldokkbfahobgaaDoorTreeW
import Derived.Test.YtldokkbfahobgaaDoorGround
import Derived.Test.YtldokkbfahobgaaDoorPathW
import Derived.Test.YtldokkbfahobgaaDoorMacW
/-! WitA: The walks of keys.within, keys.May and the reference's May. Conditions: the lists of keys can be read. -/
namespace Go.Proofs.YtldokkbfahobgaaDoor
open Go.RowKit

/-- Keys as a value. -/
def keysV (pv wv : Value) (need : Int) : Value := .agg #[pv, wv, .int .i64 need]
/-- Whether keys may be. -/
def mayB (np nw : Nat) (need : Int) : Bool := decide (1 ≤ np ∧ np ≤ 4) && (decide (1 ≤ nw ∧ nw ≤ 4) && decide (1 ≤ need ∧ need ≤ nw))
theorem may_true {np nw : Nat} {need : Int} (h : mayB np nw need = true) : 1 ≤ np ∧ np ≤ 4 ∧ 1 ≤ nw ∧ nw ≤ 4 ∧ 1 ≤ need ∧ need ≤ nw := by
  unfold mayB at h
  simp only [Bool.and_eq_true, decide_eq_true_iff] at h
  omega
set_option maxRecDepth 100000 in
set_option maxHeartbeats 400000 in
theorem within_any (n lo hi : Int) (w : World) :
    Calls Tryd.prog 30 #[.int .i64 n, .int .i64 lo, .int .i64 hi] w fun e w' => e = .returned (.bool (decide (lo ≤ n ∧ n ≤ hi))) ∧ w' = w := by
  by_cases h1 : lo ≤ n
  · have h1b : decide (lo ≤ n) = true := decide_eq_true h1
    by_cases h2 : n ≤ hi
    · have h2b : decide (n ≤ hi) = true := decide_eq_true h2
      rw [decide_eq_true (show lo ≤ n ∧ n ≤ hi from ⟨h1, h2⟩)]
      go_enter Tryd.func30, Tryd.ntmps30
      go_wp2_with fail
      go_ret
      exact ⟨rfl, rfl⟩
    · have h2b : decide (n ≤ hi) = false := decide_eq_false h2
      rw [decide_eq_false (show ¬ (lo ≤ n ∧ n ≤ hi) from fun h => h2 h.2)]
      go_enter Tryd.func30, Tryd.ntmps30
      go_wp2_with fail
      go_ret
      exact ⟨rfl, rfl⟩
  · have h1b : decide (lo ≤ n) = false := decide_eq_false h1
    rw [decide_eq_false (show ¬ (lo ≤ n ∧ n ≤ hi) from fun h => h1 h.1)]
    go_enter Tryd.func30, Tryd.ntmps30
    go_wp2_with fail
    go_ret
    exact ⟨rfl, rfl⟩
set_option maxRecDepth 100000 in
set_option maxHeartbeats 4000000 in
theorem may_any (pv wv : Value) (ps ws : List H) (need : Int) (w : World) (hp : Hs w pv ps) (hw : Hs w wv ws) :
    Calls Tryd.prog 18 #[keysV pv wv need] w fun e w' => e = .returned (.bool (mayB ps.length ws.length need)) ∧ Below w.heap.size w w' := by
  obtain ⟨xp, cp, rfl, _⟩ := hp.form
  obtain ⟨xw, cw, rfl, _⟩ := hw.form
  obtain ⟨n, hn⟩ : ∃ n, n = ps.length := ⟨_, rfl⟩
  obtain ⟨m, hm⟩ : ∃ n, n = ws.length := ⟨_, rfl⟩
  rw [← hn, ← hm]
  clear hp hw hn hm
  unfold keysV
  have hb : Below w.heap.size w (w.alloc (.cells #[.slice xp n cp, .slice xw m cw, .int .i64 need] 24)) := (Below.refl _ _).alloc (Nat.le_refl _) _
  obtain ⟨A, hA⟩ : ∃ A, A = decide (1 ≤ n ∧ n ≤ 4) := ⟨_, rfl⟩
  obtain ⟨B, hB⟩ : ∃ B, B = decide (1 ≤ m ∧ m ≤ 4) := ⟨_, rfl⟩
  obtain ⟨C, hC⟩ : ∃ C, C = decide (1 ≤ need ∧ need ≤ m) := ⟨_, rfl⟩
  have hR : mayB n m need = (A && (B && C)) := by unfold mayB; rw [hA, hB, hC]
  have HA := Lib.hid (show decide ((1 : Int) ≤ (n : Int) ∧ (n : Int) ≤ 4) = A by rw [hA]; exact decide_eq_decide.2 (by omega))
  have HB := Lib.hid (show decide ((1 : Int) ≤ (m : Int) ∧ (m : Int) ≤ 4) = B by rw [hB]; exact decide_eq_decide.2 (by omega))
  have HC := Lib.hid (show decide ((1 : Int) ≤ need ∧ need ≤ (m : Int)) = C by rw [hC])
  rw [hR]
  clear hA hB hC hR
  cases A <;> cases B <;> cases C
  all_goals
    go_enter Tryd.func18, Tryd.ntmps18
    go_wp2_with (first
      | (go_at_call 30; have HQ := HA; clear HA; refine (within_any n 1 4 _).mono ?_; rintro e w1 ⟨rfl, h1⟩; rw [h1, HQ.out]; clear h1 w1)
      | (go_at_call 30; have HQ := HB; clear HB; refine (within_any m 1 4 _).mono ?_; rintro e w1 ⟨rfl, h1⟩; rw [h1, HQ.out]; clear h1 w1)
      | (go_at_call 30; have HQ := HC; clear HC; refine (within_any need 1 m _).mono ?_; rintro e w1 ⟨rfl, h1⟩; rw [h1, HQ.out]; clear h1 w1)
      | fail)
    go_ret
    exact ⟨rfl, hb⟩
set_option maxRecDepth 100000 in
set_option maxHeartbeats 2000000 in
theorem refmay_any (pv wv : Value) (ps ws : List H) (need : Int) (w : World) (hp : Hs w pv ps) (hw : Hs w wv ws) :
    Calls Tryd.prog 10 #[keysV pv wv need] w fun e w' => e = .returned (.bool (mayB ps.length ws.length need)) ∧ Below w.heap.size w w' := by
  obtain ⟨xp, cp, rfl, _⟩ := hp.form
  obtain ⟨xw, cw, rfl, _⟩ := hw.form
  obtain ⟨n, hn⟩ : ∃ n, n = ps.length := ⟨_, rfl⟩
  obtain ⟨m, hm⟩ : ∃ n, n = ws.length := ⟨_, rfl⟩
  rw [← hn, ← hm]
  clear hp hw hn hm
  unfold keysV
  have hb : Below w.heap.size w (w.alloc (.cells #[.slice xp n cp, .slice xw m cw, .int .i64 need] 24)) := (Below.refl _ _).alloc (Nat.le_refl _) _
  have hR : mayB n m need = (decide ((1 : Int) ≤ n) && (decide ((n : Int) ≤ 4) && (decide ((1 : Int) ≤ m) && (decide ((m : Int) ≤ 4) && (decide ((1 : Int) ≤ need) && decide (need ≤ (m : Int))))))) := by
    unfold mayB
    rw [Bool.eq_iff_iff]
    simp only [Bool.and_eq_true, decide_eq_true_iff]
    omega
  rw [hR]
  have go : ∀ c1 c2 c3 c4 c5 c6 : Bool, decide ((1 : Int) ≤ n) = c1 → decide ((n : Int) ≤ 4) = c2 → decide ((1 : Int) ≤ m) = c3 → decide ((m : Int) ≤ 4) = c4 → decide ((1 : Int) ≤ need) = c5 → decide (need ≤ (m : Int)) = c6 →
      Calls Tryd.prog 10 #[.agg #[.slice xp n cp, .slice xw m cw, .int .i64 need]] w fun e w' => e = .returned (.bool (c1 && (c2 && (c3 && (c4 && (c5 && c6)))))) ∧ Below w.heap.size w w' := by
    intro c1 c2 c3 c4 c5 c6 h1 h2 h3 h4 h5 h6
    cases c1 <;> cases c2 <;> cases c3 <;> cases c4 <;> cases c5
    all_goals
      go_enter Tryd.func10, Tryd.ntmps10
      go_wp2_with fail
      go_ret
      exact ⟨by simp, hb⟩
  exact go _ _ _ _ _ _ rfl rfl rfl rfl rfl rfl
end Go.Proofs.YtldokkbfahobgaaDoor

/-! RevN: The walks of slices.Reverse, at byte slices. Condition: the list is the call's own, at most 4096 elements. -/
namespace Go.Proofs.YtldokkbfahobgaaDoor
open Go.RowKit

theorem revAt_low {α : Type} {xs ys : List α} {k : Nat} (h : RevAt xs ys k) (hk : 2 * k + 1 < xs.length) : ys[k]? = xs[k]? := by
  rw [h.2 k (by omega), if_neg (by omega)]
theorem revAt_high {α : Type} {xs ys : List α} {k : Nat} (h : RevAt xs ys k) (hk : 2 * k + 1 < xs.length) : ys[xs.length - 1 - k]? = xs[xs.length - 1 - k]? := by
  rw [h.2 _ (by omega), if_neg (by omega)]
theorem grown_refl (w : World) (row : Option Nat) : w.grownBy w row := ⟨rfl, rfl, rfl, Nat.le_refl _, fun _ _ _ => rfl⟩
theorem grown_drewN {u w : World} {row : Option Nat} (h : u.grownBy w row) (n : Nat) : u.grownBy (w.drewN n) row := ⟨h.os, h.tape, h.output, h.size, h.block⟩
theorem grownBut {u w w' : World} {g : Nat} (h : u.grownBy w (some g)) (hb : But g w w') : u.grownBy w' (some g) :=
  ⟨hb.os.trans h.os, hb.tape.trans h.tape, hb.output.trans h.output, Nat.le_trans h.size hb.size, fun k hk hn => (hb.block k (by have := h.size; omega) (fun e => hn (by rw [e]))).trans (h.block k hk hn)⟩
theorem grown_set {u w : World} {g : Nat} (h : u.grownBy w (some g)) (i : Nat) (v : Value) : u.grownBy (w.setCell ⟨g, i, none⟩ v) (some g) :=
  ⟨h.os, h.tape, h.output, by simpa using h.size, fun k hk hn => (Below.heap_setCell w ⟨g, i, none⟩ v k (fun e => hn (by rw [e]))).trans (h.block k hk hn)⟩
/-- A row of the call's own, as a block. -/
theorem own_blk {w : World} {base : Nat} {e : TypeId} {v : Value} {n : Nat} {xs : List Value} (h : w.ownsRow base e 1 v n xs) (hn : 0 < n) : ∃ g cap sp, v = .slice (some ⟨g, 0, none⟩) n cap ∧ base ≤ g ∧ Blk w g (xs ++ sp) e ∧ n ≤ cap ∧ cap ≤ maxLen ∧ (xs ++ sp).length = cap := by
  obtain ⟨hl, h⟩ := h
  rcases h with ⟨_, h0⟩ | ⟨g, cap, cur, rfl, hb, hg, h1, h2, h3, h4⟩
  · omega
  · have e1 : xs ++ cur.toList.drop n = cur.toList := by
      rw [← h4, Nat.mul_one, List.take_append_drop]
    refine ⟨g, cap, cur.toList.drop n, rfl, hb, ?_, h1, h2, ?_⟩
    · unfold Blk
      rw [e1]
      exact hg
    · rw [e1]
      simpa using h3
theorem blk_own {w : World} {base g cap n : Nat} {e : TypeId} {xs sp : List Value} (hb : base ≤ g) (h : Blk w g (xs ++ sp) e) (hx : xs.length = n) (h1 : n ≤ cap) (h2 : cap ≤ maxLen) (h3 : (xs ++ sp).length = cap) : w.ownsRow base e 1 (.slice (some ⟨g, 0, none⟩) n cap) n xs :=
  ⟨by omega, .inr ⟨g, cap, (xs ++ sp).toArray, rfl, hb, h, h1, h2, by simpa using h3, by rw [Nat.mul_one, ← hx]; simp⟩⟩
set_option maxRecDepth 100000 in
set_option maxHeartbeats 2000000 in
theorem revn_any (base : Nat) (v : Value) (n : Nat) (xs : List Value) (w : World) (h : w.ownsRow base 5 1 v n xs) (hf : ∀ u ∈ xs, ∃ p, u = .int .u8 p) (hn : n ≤ 4096) :
    Calls Tryd.prog 71 #[v] w fun e w' => e = .returned (.tuple #[]) ∧ w'.ownsRow base 5 1 v n xs.reverse ∧ w.grownBy w' v.ownBlock := by
  by_cases h0 : n = 0
  · subst h0
    have hx : xs = [] := List.eq_nil_of_length_eq_zero (by simpa using h.1)
    subst hx
    obtain ⟨a, c, rfl⟩ := ownsRow_form h
    have HO := Lib.hid h
    clear h hf
    go_enter Tryd.func71, Tryd.ntmps71
    go_wp2_with fail
    go_loopw [2, 3] (fun i j wr => i = .int .i64 0 ∧ j = .int .i64 (-1) ∧ wr = w) (fun _ _ _ => 0)
    case atStart => exact ⟨rfl, rfl, rfl⟩
    case round =>
      obtain ⟨rfl, rfl, rfl⟩ := hrel
      go_wp2_with fail
      go_end0
      exact ⟨rfl, HO.out, grown_refl _ _⟩
  · obtain ⟨g, cap, sp, rfl, hbg, hB, h1, h2, h3⟩ := own_blk h (by omega)
    have hxl : xs.length = n := by have := h.1; omega
    have HB := Lib.hid hB
    have HF := Lib.hid hf
    have HX := Lib.hid hxl
    have H3 := Lib.hid h3
    clear h hf hB hxl h3
    go_enter Tryd.func71, Tryd.ntmps71
    go_wp2_with fail
    go_loopw [2, 3] (fun i j wr => ∃ (k : Nat) (ys : List Value), i = .int .i64 k ∧ j = .int .i64 ((n : Int) - 1 - k) ∧ k ≤ n ∧ RevAt xs ys k ∧ Blk wr g (ys ++ sp) 5 ∧ w.grownBy wr (some g)) (fun i _ _ => n - (intOf i).toNat)
    case atStart => exact ⟨0, xs, rfl, by go_num, Nat.zero_le _, revAt_0 _, HB.out, grown_refl _ _⟩
    case round =>
      clear HB
      obtain ⟨k, ys, rfl, rfl, hk, hR, hB, hg⟩ := hrel
      have HR := Lib.hid hR
      have HB := Lib.hid hB
      have HGr := Lib.hid hg
      clear hR hB hg
      have hxl := HX.out
      by_cases hlt : (k : Int) < (n : Int) - 1 - k
      · have h2k : 2 * k + 1 < xs.length := by omega
        have hyl := HR.out.1
        obtain ⟨a, ha⟩ : ∃ a, xs[k]? = some a := ⟨_, List.getElem?_eq_getElem (by omega)⟩
        obtain ⟨b, hb⟩ : ∃ b, xs[n - 1 - k]? = some b := ⟨_, List.getElem?_eq_getElem (by omega)⟩
        have hya := (revAt_low HR.out h2k).trans ha
        have hyb := (revAt_high HR.out h2k).trans (hxl.symm ▸ hb)
        obtain ⟨pa, rfl⟩ := HF.out a (List.mem_of_getElem? ha)
        obtain ⟨pb, rfl⟩ := HF.out b (List.mem_of_getElem? hb)
        rw [hxl] at hyb
        have hj : (n : Int) - 1 - k = ((n - 1 - k : Nat) : Int) := by omega
        have i1 : (0 : Int) ≤ k ∧ (k : Int) < n := ⟨by omega, by omega⟩
        have i2 : (0 : Int) ≤ ((n - 1 - k : Nat) : Int) ∧ ((n - 1 - k : Nat) : Int) < n := ⟨by omega, by omega⟩
        have hB1 := HB.out.set k (.int .u8 pb)
        have HS := Lib.hid (hxl ▸ revAt_step HR.out h2k hya (hxl.symm ▸ hyb))
        rw [set_left _ _ _ _ (by omega)] at hB1
        have hB2 := hB1.set (n - 1 - k) (.int .u8 pa)
        rw [set_left _ _ _ _ (by rw [List.length_set]; omega)] at hB2
        have c1 : wr.cell? ⟨g, k, none⟩ = some (.int .u8 pa) := HB.out.cell (by rw [List.getElem?_append_left (by omega)]; exact hya)
        have c2 : wr.cell? ⟨g, n - 1 - k, none⟩ = some (.int .u8 pb) := HB.out.cell (by rw [List.getElem?_append_left (by omega)]; exact hyb)
        have c3 : (wr.setCell ⟨g, k, none⟩ (.int .u8 pb)).cell? ⟨g, n - 1 - k, none⟩ = some (.int .u8 pb) := hB1.cell (by rw [List.getElem?_append_left (by rw [List.length_set]; omega), List.getElem?_set_ne (by omega)]; exact hyb)
        have f1 : wr.frozen? ⟨g, k, none⟩ = false := HB.out.frozen _
        have f2 : (wr.setCell ⟨g, k, none⟩ (.int .u8 pb)).frozen? ⟨g, n - 1 - k, none⟩ = false := hB1.frozen _
        have HB2 := Lib.hid hB2
        have HYA := Lib.hid (show (ys ++ sp)[k]? = some (.int .u8 pa) by rw [List.getElem?_append_left (by omega)]; exact hya)
        have HYB := Lib.hid (show (ys ++ sp)[n - 1 - k]? = some (.int .u8 pb) by rw [List.getElem?_append_left (by omega)]; exact hyb)
        have HYC := Lib.hid (show (ys.set k (.int .u8 pb) ++ sp)[n - 1 - k]? = some (.int .u8 pb) by rw [List.getElem?_append_left (by rw [List.length_set]; omega), List.getElem?_set_ne (by omega)]; exact hyb)
        have HYL := Lib.hid (show k < ys.length by omega)
        have HYM := Lib.hid (show n - 1 - k < (ys.set k (.int .u8 pb)).length by rw [List.length_set]; omega)
        clear ha hb hya hyb hB1 hB2
        rw [hj]
        rw [hj] at hlt
        clear hj c1 c2 c3 f1 f2
        go_wp2_with fail
        refine wp_region_spun 14 13 g [12, 7, 0, 1, 4, 5, 6, 7, 11] (fun b u => Blk u g (if b then ys.set k (.int .u8 pb) ++ sp else ys ++ sp) 5) [(fun v _ => v = .slice (some ⟨g, 0, none⟩) n cap), (fun v _ => v = .int .i64 k), (fun v _ => v = .slice (some ⟨g, 0, none⟩) n cap), (fun v _ => v = .int .i64 (n - 1 - k : Nat)), (fun v _ => v = .slice (some ⟨g, 0, none⟩) n cap), (fun v _ => v = .int .i64 (n - 1 - k : Nat)), (fun v _ => v = .pointer (some ⟨g, n - 1 - k, none⟩)), (fun v _ => v = .int .u8 pb), (fun v _ => v = .slice (some ⟨g, 0, none⟩) n cap), (fun v _ => v = .int .i64 k), (fun v _ => v = .pointer (some ⟨g, k, none⟩)), (fun v _ => v = .int .u8 pa), (fun v _ => v = .pointer (some ⟨g, k, none⟩)), (fun _ _ => True)] (fun _ _ => False) (by kernel_rfl) (by kernel_rfl) (by decide) rfl rfl (by decide) _ rfl ?hk ?hs (by exact HB.out) ?hp ?hops ?hfin
        case hk =>
          repeat (refine List.forall_mem_cons.2 ⟨by exact fun _ _ _ _ h => h, ?_⟩)
          exact fun _ h => by cases h
        case hs => exact fun b u u' hb h => h.below hb h.lt
        case hp => exact fun c a u _ h => h.elim
        case hops =>
          simp only [List.take_succ_cons, List.take_zero, spunAll, List.getD_cons_zero, List.getD_cons_succ]
          iterate 14
            
           (refine ⟨fun xs wr hb hd hst Qg hK hP => ?_, ?_⟩
            · simp only [fill, Act.put, List.setIfInBounds_toArray, List.set_cons_succ, List.set_cons_zero, needs, Region.binds, List.filter_cons, List.filter_nil, List.map_cons, List.map_nil, if_true, List.mem_cons, List.not_mem_nil, or_false, forall_eq_or_imp, forall_eq, List.getD_cons_zero, List.getD_cons_succ, false_implies, implies_true] at hd hK ⊢
              (try simp only [hd] at hK ⊢)
              first
              | (show wpList _ _ _ [⟨some 21, .load _ _, _, _, _, _⟩] _ _; have h9 : Blk wr g (ys ++ sp) 5 := hst (by decide); have c0 : wr.cell? ⟨g, n - 1 - k, none⟩ = some (.int .u8 pb) := h9.cell (HYB.out); go_wp2_with fail; exact hK _ _ rfl (fun h => absurd h (by decide)) (fun _ => Below.refl _ _))
              | (show wpList _ _ _ [⟨some 25, .load _ _, _, _, _, _⟩] _ _; have h9 : Blk wr g (ys ++ sp) 5 := hst (by decide); have c0 : wr.cell? ⟨g, k, none⟩ = some (.int .u8 pa) := h9.cell (HYA.out); go_wp2_with fail; exact hK _ _ rfl (fun h => absurd h (by decide)) (fun _ => Below.refl _ _))
              | (show wpList _ _ _ [⟨none, .store _ _ _, _, _, _, _⟩] _ _; have h9 : Blk wr g (ys ++ sp) 5 := hst (by decide); have c0 : wr.cell? ⟨g, k, none⟩ = some (.int .u8 pa) := h9.cell (HYA.out); have f0 := h9.frozen k; have h8 := h9.set k (.int .u8 pb); rw [set_left _ _ _ _ HYL.out] at h8; go_wp2_with fail; exact hK undef _ trivial (fun _ => ⟨But.set (Below.refl _ _) h9.lt k _, h8⟩) (fun h => absurd rfl h))
              | (go_wp2_with fail; exact hK _ _ rfl (fun h => absurd h (by decide)) (fun _ => Below.refl _ _)))
          trivial
        case hfin =>
          intro x u hbu hR hSt
          have y2 := hR 2 (by decide)
          have y3 := hR 3 (by decide)
          have y11 := hR 11 (by decide)
          simp only [List.getD_cons_zero, List.getD_cons_succ] at y2 y3 y11
          have hB8 : Blk u g (ys.set k (.int .u8 pb) ++ sp) 5 := hSt
          have c3 : u.cell? ⟨g, n - 1 - k, none⟩ = some (.int .u8 pb) := hB8.cell (HYC.out)
          have f3 := hB8.frozen (n - 1 - k)
          have hB9 := hB8.set (n - 1 - k) (.int .u8 pa)
          rw [set_left _ _ _ _ HYM.out] at hB9
          have HB9 := Lib.hid hB9
          have HGu := Lib.hid (grownBut HGr.out hbu)
          clear hR hSt hB8 hB9 hbu
          simp only [List.drop_succ_cons, List.drop_zero]
          generalize List.toArray _ = L0
          simp only [List.take_succ_cons, List.take_zero, List.map_cons, List.map_nil, fill, Act.put, List.setIfInBounds_toArray, List.set_cons_succ, List.set_cons_zero, y2, y3, y11]
          clear y2 y3 y11
          go_wp2_with fail
          exact ⟨⟨k + 1, _, by go_num, by go_num, by omega, HS.out, HB9.out, grown_set HGu.out _ _⟩, by simp [intOf]; omega⟩
      · go_wp2_with fail
        go_end0
        have hy := revAt_end HR.out (by omega)
        have hB := HB.out
        rw [hy] at hB
        exact ⟨rfl, blk_own hbg hB (by rw [List.length_reverse]; exact hxl) h1 h2 (by have := H3.out; simp only [List.length_append, List.length_reverse] at this ⊢; exact this), HGr.out⟩
end Go.Proofs.YtldokkbfahobgaaDoor

/-! WitB: The walks of wire.Num and the reference's Num. Condition: a number from 0 to 400. -/
namespace Go.Proofs.YtldokkbfahobgaaDoor
open Go.RowKit

/-- A number's bytes. -/
def numB (n : Nat) : List UInt8 := if n < 128 then [UInt8.ofNat n] else [UInt8.ofNat (n / 128 + 128), UInt8.ofNat (n % 128)]
def outN (x r k : Nat) : List UInt8 := if k = 0 then [UInt8.ofNat r] else [UInt8.ofNat r, UInt8.ofNat (x + 128)]
set_option maxRecDepth 100000 in
set_option maxHeartbeats 2000000 in
theorem num_any (n : Nat) (w : World) (hn : n ≤ 400) :
    Calls Tryd.prog 53 #[.int .i64 n] w fun e w' => (∃ v, e = .returned v ∧ Bytes w' v (numB n)) ∧ Below w.heap.size w w' := by
  obtain ⟨i0, hi, hz0, hz1, hz2⟩ := info_parts info_u8
  obtain ⟨x, hx⟩ : ∃ x, x = n / 128 := ⟨_, rfl⟩
  obtain ⟨r, hr⟩ : ∃ r, r = n % 128 := ⟨_, rfl⟩
  have hq1 : Int.tmod (n : Int) 128 = (r : Int) := by rw [hr]; rfl
  have hq2 : (n : Int) / 128 = (x : Int) := by rw [hx]; rfl
  have hrl : r < 128 := by omega
  have hxl : x ≤ 3 := by omega
  have hnum : numB n = (outN x r (if x = 0 then 0 else 1)).reverse := by
    unfold numB outN
    by_cases h : n < 128
    · have hx0 : x = 0 := by omega
      have hr0 : r = n := by omega
      rw [if_pos h, hx0, hr0]
      rfl
    · have hx0 : x ≠ 0 := by omega
      rw [if_neg h, if_neg hx0, if_neg (by decide), ← hx, ← hr]
      rfl
  have hq3 : (x : Int) / 128 = 0 := by omega
  have hn0 : ¬ (n : Int) < 0 := by omega
  have hn1 : ¬ (2147483647 : Int) < (n : Int) := by omega
  have hur : ((UInt8.ofNat r).toNat : Int) = (r : Int) := by rw [UInt8.toNat_ofNat']; omega
  have HN := Lib.hid hnum
  have HUR := Lib.hid hur
  clear hx hr hnum hur
  go_enter Tryd.func53, Tryd.ntmps53
  go_wp2_with fail
  have hal : Below w.heap.size w (w.alloc (.cells #[.int .u8 r] 5)) := (Below.refl _ _).alloc (Nat.le_refl _) _
  go_loopw [0, 3] (fun nv ov wr => ∃ k : Nat, k ≤ 1 ∧ (k = 1 → x ≠ 0) ∧ nv = .int .i64 (if k = 0 then (x : Int) else 0) ∧ wr.ownsRow w.heap.size 5 1 ov (outN x r k).length (bytesV (outN x r k)) ∧ Below w.heap.size w wr) (fun nv _ _ => (intOf nv).toNat)
  case atStart =>
    refine ⟨0, by decide, by simp, by simp, ?_, hal⟩
    have h1 : bytesV (outN x r 0) = [.int .u8 (r : Int)] := by simp [outN, bytesV]; omega
    rw [h1]
    exact World.ownsRow_lit w #[.int .u8 r] (e := 5) (size := 1) (base := w.heap.size) 1 (Nat.le_refl _) (by decide) rfl
  case round =>
    obtain ⟨k, hk, hkx, rfl, hO, hb⟩ := hrel
    have hsz := hb.size
    have HO := Lib.hid hO
    clear hO hal
    by_cases hgo : k = 0 ∧ x ≠ 0
    · obtain ⟨rfl, hx0⟩ := hgo
      obtain ⟨s0, c0, e0⟩ := ownsRow_form HO.out
      subst e0
      have hxp : (0 : Int) < (x : Int) := by omega
      have hq4 : Int.tmod (x : Int) 128 = (x : Int) := by
        rw [Int.tmod_eq_of_lt (by omega) (by omega)]
      have hor : bits .or .u8 (x : Int) 128 = ((x + 128 : Nat) : Int) := by
        obtain rfl | rfl | rfl : x = 1 ∨ x = 2 ∨ x = 3 := by omega
        all_goals decide
      have hux : ((UInt8.ofNat (x + 128)).toNat : Int) = ((x + 128 : Nat) : Int) := by rw [UInt8.toNat_ofNat']; omega
      have HUX := Lib.hid hux
      clear hux
      simp only [if_true]
      go_wp2_with (first
        | (at_builtin; refine wpList_app rfl (.tmp 20) (.tmp 25) 48 rfl w.heap.size 5 i0 (.int .u8 0) 1 1 Tryd.underlying48 hi hz0 hz1 hz2 rfl (by decide) _ _ _ rfl (by exact ownsRow_below HO.out ((Below.refl _ _).alloc (Nat.le_refl _) _) (ownsRow_block HO.out)) _ 1 [.int .u8 ((x + 128 : Nat) : Int)] rfl (by exact isSl_new wr [.int .u8 ((x + 128 : Nat) : Int)] _ 1 1 rfl (by simp [Value.oneCell'])) (by simp [outN, maxLen]) (by simp [outN]) (by simp; omega) ?_; intro a4 c4 w4 ho4 hg4 _; have hw4 : Below w.heap.size w w4 := (hb.alloc hsz (.cells #[.int .u8 ((x + 128 : Nat) : Int)] 5)).grown hg4 (by simp; omega) (fun k hk => (HO.out.lt k hk).1); have HO4 := Lib.hid ho4; clear ho4 hg4)
        | fail)
      refine ⟨⟨1, Nat.le_refl _, fun _ => hx0, by simp, ?_, hw4⟩, by simp [intOf]; omega⟩
      have e1 : bytesV (outN x r 1) = bytesV (outN x r 0) ++ [.int .u8 ((x + 128 : Nat) : Int)] := by
        unfold outN bytesV
        rw [if_neg (by decide), if_pos rfl]
        simp only [List.map_cons, List.map_nil, List.cons_append, List.nil_append, HUX.out]
      rw [e1]
      exact HO4.out
    · have hz : ¬ (0 : Int) < (if k = 0 then (x : Int) else 0) := by split <;> omega
      have hfin : outN x r k = outN x r (if x = 0 then 0 else 1) := by
        by_cases hk0 : k = 0
        · have : x = 0 := by
            by_cases h : x = 0
            · exact h
            · exact absurd ⟨hk0, h⟩ hgo
          rw [hk0, if_pos this]
        · have hk1 : k = 1 := by omega
          rw [hk1, if_neg (hkx hk1)]
      obtain ⟨s0, c0, e0⟩ := ownsRow_form HO.out
      subst e0
      have hlen : (outN x r k).length ≤ 2 := by unfold outN; split <;> simp
      obtain ⟨N, hN⟩ : ∃ N, N = (outN x r k).length := ⟨_, rfl⟩
      obtain ⟨Y, hY⟩ : ∃ Y, Y = (if k = 0 then (x : Int) else 0) := ⟨_, rfl⟩
      rw [← hY] at hz ⊢
      have HL := Lib.hid hN
      have hO2 := HO.out
      rw [← hN] at hO2 hlen ⊢
      have HO2 := Lib.hid hO2
      have HF := Lib.hid hfin
      clear hO2 HO hfin hN hY
      go_wp2_with (first
        | (go_at_call 71; refine (revn_any w.heap.size _ N (bytesV (outN x r k)) wr HO2.out (fun u hu => by obtain ⟨c, _, rfl⟩ := List.mem_map.1 hu; exact ⟨_, rfl⟩) (by omega)).mono ?_; rintro e w5 ⟨rfl, ho5, hg5⟩; have hw5 : Below w.heap.size w w5 := hb.grown hg5 hsz (fun k hk => (HO2.out.lt k hk).1); have HO5 := Lib.hid ho5; clear ho5 hg5)
        | fail)
      go_ret
      refine ⟨⟨_, rfl, ?_⟩, hw5⟩
      rw [HN.out, ← HF.out]
      have hO5 := ownsRow_isSl HO5.out (fun u hu => bytesV_one _ u (List.mem_reverse.1 hu))
      unfold Bytes
      rw [List.length_reverse, ← HL.out]
      have e1 : bytesV (outN x r k).reverse = (bytesV (outN x r k)).reverse := by unfold bytesV; rw [List.map_reverse]
      rw [e1]
      exact hO5
theorem isSl_newB' (w : World) (l : List Value) (e : TypeId) (size n : Nat) {B : Nat} (hB : w.heap.size = B) (hl : l.length = n * size) (h1 : ∀ u ∈ l, u.oneCell' = true) : IsSl (w.alloc (.cells l.toArray e)) (.slice (some ⟨B, 0, none⟩) n n) size n l := by
  subst hB
  exact isSl_new w l e size n hl h1
set_option maxRecDepth 100000 in
set_option maxHeartbeats 400000 in
theorem refnum_small (n : Nat) (w : World) (hn : n < 128) :
    Calls Tryd.prog 45 #[.int .i64 n] w fun e w' => e = .returned (.slice (some ⟨w.heap.size, 0, none⟩) 1 1) ∧ w' = w.alloc (.cells #[.int .u8 n] 5) := by
  have hn0 : ¬ (n : Int) < 0 := by omega
  have hn1 : ¬ (2147483647 : Int) < (n : Int) := by omega
  have hn2 : (n : Int) < 128 := by omega
  go_enter Tryd.func45, Tryd.ntmps45
  go_wp2_with fail
  go_ret
  exact ⟨rfl, rfl⟩
set_option maxRecDepth 100000 in
set_option maxHeartbeats 1000000 in
theorem refnum_any (n : Nat) (w : World) (hn : n ≤ 400) :
    Calls Tryd.prog 45 #[.int .i64 n] w fun e w' => (∃ v, e = .returned v ∧ Bytes w' v (numB n)) ∧ Below w.heap.size w w' := by
  by_cases hs : n < 128
  · refine (refnum_small n w hs).mono ?_
    rintro e w1 ⟨rfl, rfl⟩
    refine ⟨⟨_, rfl, ?_⟩, (Below.refl _ _).alloc (Nat.le_refl _) _⟩
    have h := bytes_alloc w [UInt8.ofNat n] 5 (0, 0) rfl
    have e1 : bytesV [UInt8.ofNat n] = [.int .u8 (n : Int)] := by simp [bytesV]; omega
    rw [e1] at h
    unfold numB
    rw [if_pos hs]
    exact h
  · obtain ⟨i0, hi, hz0, hz1, hz2⟩ := info_parts info_u8
    obtain ⟨x, hx⟩ : ∃ x, x = n / 128 := ⟨_, rfl⟩
    obtain ⟨r, hr⟩ : ∃ r, r = n % 128 := ⟨_, rfl⟩
    have hq1 : Int.tmod (n : Int) 128 = (r : Int) := by rw [hr]; rfl
    have hq2 : Int.tdiv (n : Int) 128 = (x : Int) := by rw [hx]; rfl
    have hq3 : (n : Int) / 128 = (x : Int) := by rw [hx]; rfl
    have hrl : r < 128 := by omega
    have hxl : x ≤ 3 := by omega
    have hn0 : ¬ (n : Int) < 0 := by omega
    have hn1 : ¬ (2147483647 : Int) < (n : Int) := by omega
    have hn2 : ¬ (n : Int) < 128 := by omega
    have hux : ((UInt8.ofNat (x + 128)).toNat : Int) = (x : Int) + 128 := by rw [UInt8.toNat_ofNat']; omega
    have hur : ((UInt8.ofNat r).toNat : Int) = (r : Int) := by rw [UInt8.toNat_ofNat']; omega
    have hnum : bytesV (numB n) = [.int .u8 ((x : Int) + 128)] ++ [.int .u8 (r : Int)] := by
      unfold numB
      rw [if_neg hs, ← hx, ← hr]
      simp only [bytesV, List.map_cons, List.map_nil, List.cons_append, List.nil_append, hux, hur]
    have hnl : (numB n).length = 2 := by unfold numB; rw [if_neg hs]; rfl
    have hB : Blk (w.alloc (.cells #[.int .u8 x] 5)) w.heap.size [.int .u8 (x : Int)] 5 := Blk.newL w [.int .u8 (x : Int)] _
    have c1 := hB.cell (i := 0) rfl
    have f1 := hB.frozen 0
    have hB2 : Blk (w.alloc (.cells #[.int .u8 ((x : Int) + 128)] 5)) w.heap.size [.int .u8 ((x : Int) + 128)] 5 := Blk.newL w [.int .u8 ((x : Int) + 128)] _
    have hb2 : Below w.heap.size w (w.alloc (.cells #[.int .u8 ((x : Int) + 128)] 5)) := (Below.refl _ _).alloc (Nat.le_refl _) _
    have HN := Lib.hid hnum
    have HL := Lib.hid hnl
    have HB2 := Lib.hid hB2
    have hb1 : Below w.heap.size w (w.alloc (.cells #[.int .u8 x] 5)) := (Below.refl _ _).alloc (Nat.le_refl _) _
    clear hx hr hnum hnl hux hur hB hB2 hs
    go_enter Tryd.func45, Tryd.ntmps45
    go_wp2_with (first
      | (go_at_call 45; refine (refnum_small x w (by omega)).mono ?_; rintro e w1 ⟨rfl, rfl⟩)
      | (at_builtin; refine wpList_app rfl (.tmp 30) (.tmp 34) 48 rfl w.heap.size 5 i0 (.int .u8 0) 1 1 Tryd.underlying48 hi hz0 hz1 hz2 rfl (by decide) _ 1 [.int .u8 ((x : Int) + 128)] rfl (by exact ownsRow_below (blk_own (sp := []) (Nat.le_refl _) (by rw [List.append_nil]; exact HB2.out) rfl (Nat.le_refl _) (by decide) rfl) ((Below.refl _ _).alloc (Nat.le_refl _) _) (fun g hg => by cases hg; simp)) _ 1 [.int .u8 (r : Int)] rfl (by exact isSl_newB' _ [.int .u8 (r : Int)] _ 1 1 (by simp) rfl (by simp [Value.oneCell'])) (by decide) (by decide) (by simp; omega) ?_; intro a4 c4 w4 ho4 hg4 _; have HO4 := Lib.hid ho4; have hw4 : Below w.heap.size w w4 := (hb2.alloc (by simp) (.cells #[.int .u8 (r : Int)] 5)).grown hg4 (by simp; omega) (fun g hg => by cases hg; exact Nat.le_refl _); clear ho4 hg4)
      | fail)
    go_ret
    refine ⟨⟨_, rfl, ?_⟩, hw4⟩
    have hO := HO4.out
    unfold Bytes
    rw [HL.out, HN.out]
    exact ownsRow_isSl hO (fun u hu => by
      simp only [List.cons_append, List.nil_append, List.mem_cons, List.not_mem_nil, or_false] at hu
      rcases hu with rfl | rfl <;> rfl)
end Go.Proofs.YtldokkbfahobgaaDoor

/-! WitC: Checkpoints, signatures and witnesses as values and as blocks. The walk of keys.text. Conditions: the sizes' bounds; the package's tables read as they are laid. -/
namespace Go.Proofs.YtldokkbfahobgaaDoor
open Go.RowKit

/-- A checkpoint's cells. -/
def pointC (s : Int) (r : H) (sv : Value) : List Value := .int .i64 s :: (bytesV r.b ++ [sv])
def pointV (s : Int) (r : H) (sv : Value) : Value := .agg (pointC s r sv).toArray
theorem pointC_len (s : Int) (r : H) (sv : Value) : (pointC s r sv).length = 34 := by simp [pointC, bytesV_len, r.len]
theorem range_sub {w : World} {b : Nat} {l m k : List Value} {e : TypeId} (h : Blk w b (l ++ m ++ k) e) : w.rangeAt b l.length m := fun j u hu => by
  refine h.cell ?_
  have hj : j < m.length := (List.getElem?_eq_some_iff.1 hu).1
  rw [List.getElem?_append_left (by rw [List.length_append]; omega), List.getElem?_append_right (by omega), show l.length + j - l.length = j by omega]
  exact hu
theorem point_root {w : World} {b : Nat} {s : Int} {r : H} {sv : Value} {e : TypeId} (h : Blk w b (pointC s r sv) e) : w.rangeAt b 1 (bytesV r.b) := range_sub (l := [.int .i64 s]) (k := [sv]) h
theorem point_size {w : World} {b : Nat} {s : Int} {r : H} {sv : Value} {e : TypeId} (h : Blk w b (pointC s r sv) e) : w.cell? ⟨b, 0, none⟩ = some (.int .i64 s) := h.cell rfl
theorem point_sigs {w : World} {b : Nat} {s : Int} {r : H} {sv : Value} {e : TypeId} (h : Blk w b (pointC s r sv) e) : w.cell? ⟨b, 33, none⟩ = some sv := h.cell (by
  unfold pointC
  rw [List.getElem?_cons_succ, List.getElem?_append_right (by rw [bytesV_len, r.len]; omega), bytesV_len, r.len]
  rfl)
theorem point_info : (Tryd.prog.info? 40).map (·.size) = some 34 := by kernel_rfl
theorem point_row (s : Int) (r : H) (sv : Value) : (Tryd.prog.info? 40).map (·.size) = some (pointC s r sv).toArray.size := by rw [point_info, List.size_toArray, pointC_len]
theorem point_one (s : Int) (r : H) (sv : Value) (h : sv.oneCell' = true) : (pointC s r sv).toArray.all (·.oneCell') = true := by
  simp [pointC, bytesV, Value.oneCell']
  exact h
/-- A hash in the midst of a block, as a slice of bytes. -/
theorem bytes_mid {w : World} {b o : Nat} {r : H} (h : w.rangeAt b o (bytesV r.b)) : Bytes w (.slice (some ⟨b, o, none⟩) 32 32) r.b := by
  have := IsSl.of_range (w := w) (b := b) (off := o) (n := 32) (cap := 32) (size := 1) (cs := bytesV r.b) (by rw [bytesV_len, r.len]) (bytesV_one _) (Nat.le_refl _) h
  unfold Bytes
  rw [r.len]
  exact this
/-- What a witness signs. -/
def textH (n : Nat) (r : H) : H := ⟨ofN 6 [numB n, r.b], sumN_len _⟩
theorem numB_len (n : Nat) : (numB n).length ≤ 2 := by unfold numB; split <;> simp
set_option maxRecDepth 100000 in
set_option maxHeartbeats 1000000 in
theorem text_any (n : Nat) (r : H) (sv : Value) (w : World) (hn : n ≤ 400) (hg : Glob w) :
    Calls Tryd.prog 36 #[pointV n r sv] w fun e w' => e = .returned (hv (textH n r)) ∧ Below w.heap.size w w' := by
  obtain ⟨w1, hw1⟩ : ∃ w1, w1 = (w.alloc (.cells (pointC n r sv).toArray 40)).alloc (.cells z32.toArray 31) := ⟨_, rfl⟩
  have hb1 : Below w.heap.size w w1 := by rw [hw1]; (repeat (first | with_reducible assumption | with_reducible exact Below.refl _ _ | ((with_reducible refine Below.setCell ?_ ?_ _); rotate_left; focus (first | omega | (simp; done) | (simp; omega))) | ((with_reducible refine Below.alloc ?_ ?_ _); rotate_left; focus (first | omega | (simp; done) | (simp; omega))) | ((with_reducible refine below_setRow ?_ ?_ _); rotate_left; focus (first | omega | (simp; done) | (simp; omega))) | (with_reducible refine below_drewN ?_ _) | (with_reducible refine Below.drew ?_)))
  have hB : Blk w1 w.heap.size (pointC n r sv) 40 := by rw [hw1]; exact (Blk.newL w _ _).alloc _
  have hX : Blk w1 (w.heap.size + 1) z32 31 := by rw [hw1]; exact Blk.newL1 w _ _ _
  have HB := Lib.hid hB
  have HX := Lib.hid hX
  have HG := Lib.hid (hg.below hb1)
  obtain ⟨T, hT⟩ : ∃ T, T = textH n r := ⟨_, rfl⟩
  have HT := Lib.hid (show ofN 6 [numB n, r.b] = T.b by rw [hT]; rfl)
  have hl := hB.lt
  rw [← hT]
  clear hB hX hg hT
  unfold pointV
  go_enter Tryd.func36, Tryd.ntmps36
  go_wp2_with fail
  refine wp_world hw1 ?_
  refine wp_region_mono 7 (w1.heap.size) [(fun v _ => v = .pointer (some ⟨w.heap.size, 0, none⟩)), (fun v _ => v = .int .i64 n), (fun v w => Bytes w v (numB n)), (fun v _ => v = .pointer (some ⟨w.heap.size, 1, none⟩)), (fun v _ => v = .slice (some ⟨w.heap.size, 1, none⟩) 32 32), (fun v w => ∃ vs, Parts w v [numB n, r.b] vs), (fun v _ => v = .agg (bytesV T.b).toArray)] (by kernel_rfl) (by kernel_rfl) (Nat.le_refl _) ?mkept _ rfl ?mops ?mfin
  case mkept =>
    repeat (refine List.forall_mem_cons.2 ⟨by first | exact fun _ _ _ _ h => h | exact fun _ _ _ hb ⟨vs, h⟩ => ⟨vs, Parts.below h hb⟩ | exact fun _ _ _ hb h => Parts.below h hb | exact fun _ _ _ hb h => IsSl.below h hb, ?_⟩)
    exact fun _ h => by cases h
  case mops =>
    simp only [List.take_succ_cons, List.take_zero, monoAll, List.getD_cons_zero, List.getD_cons_succ]
    iterate 7
    
     (refine ⟨fun x wr hb hd Qg hK => ?_, ?_⟩
      · as_aux_lemma =>
        simp only [fill, Act.put, List.setIfInBounds_toArray, List.set_cons_succ, List.set_cons_zero, needs, Region.binds, List.filter_cons, List.filter_nil, List.map_cons, List.map_nil, if_true, List.mem_cons, List.not_mem_nil, or_false, forall_eq_or_imp, forall_eq, List.getD_cons_zero, List.getD_cons_succ, false_implies, implies_true] at hd hK ⊢
        (try simp only [hd] at hK ⊢)
        first
        | (show wpList _ _ _ [⟨some 4, .load _ _, _, _, _, _⟩] _ _; have c0 := point_size (HB.out.below hb hl); go_wp2_with fail; exact hK _ _ rfl (Below.refl _ _))
        | (show wpList _ _ _ [⟨some 5, .call _, _, _, _, _⟩] _ _; go_wp2_with (go_at_call 53; refine (num_any n wr hn).mono ?_; rintro e w5 ⟨⟨v5, rfl, hv5⟩, hb5⟩); exact hK _ _ hv5 hb5)
        | (show wpList _ _ _ [⟨some 8, .buildSlice _ _ _, _, _, _, _⟩] _ _; have hd' : Bytes wr (x 2) (numB n) := (by first | exact hd.1 | exact hd.2); obtain ⟨y1, y2, e1, _⟩ := hd'.form; rw [e1] at hd'; simp only [e1] at hK ⊢; go_wp2_with fail; exact hK _ _ ⟨_, Texts.parts (.cons hd' (.cons (bytes_mid (point_root (HB.out.below hb hl))) .nil)) 48 (n := 2) rfl⟩ ((Below.refl _ _).alloc (Nat.le_refl _) _))
        | (show wpList _ _ _ [⟨some 9, .call _, _, _, _, _⟩] _ _; have hd' : ∃ vs, Parts wr (x 5) [numB n, r.b] vs := (by first | exact hd | exact hd.1); obtain ⟨vs, hp⟩ := hd'; go_wp2_with (go_at_call 52; refine (of_any 6 (x 5) [numB n, r.b] vs wr hp (by have := numB_len n; simp [cat, r.len]; omega) (by simp) (HG.out.below hb)).mono ?_; rintro e w5 ⟨rfl, hb5⟩; rw [HT.out]); exact hK _ _ rfl hb5)
        | (go_wp2_with fail; exact hK _ _ rfl (Below.refl _ _)))
    trivial
  case mfin =>
    intro z w3 hb3 hR3
    have x6 := hR3 6 (by decide)
    simp only [List.getD_cons_zero, List.getD_cons_succ] at x6
    have HX3 := Lib.hid (HX.out.below hb3 HX.out.lt)
    have hw3 := hb1.trans (hb3.mono hb1.size)
    clear hR3 hb3
    simp only [List.drop_succ_cons, List.drop_zero]
    generalize List.toArray _ = L0
    simp only [List.take_succ_cons, List.take_zero, List.map_cons, List.map_nil, fill, Act.put, List.setIfInBounds_toArray, List.set_cons_succ, List.set_cons_zero, x6]
    clear x6
    go_wp2_with (first
      | (refine wpList_store_row rfl 31 (.tmp 2) (.tmp 9) rfl (w.heap.size + 1) (bytesV T.b).toArray rfl rfl 31 z32.toArray (by exact HX3.out) (by exact hv_row _) (by exact z32_old _) (by exact hv_one _) ?_)
      | fail)
    exact bodyPost_ret (v := hv T) (results_cell_row rfl _ _ (w.heap.size + 1) 31 _ (0, 0) _ rfl (HX3.out.setRow _) Tryd.underlying31 rfl (hv_row _)) rfl ⟨rfl, below_setRow hw3 (by omega) _⟩
end Go.Proofs.YtldokkbfahobgaaDoor
