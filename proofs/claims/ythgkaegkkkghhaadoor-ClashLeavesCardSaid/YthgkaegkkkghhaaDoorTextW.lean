/- The walks of slices.Reverse, at lists of Booleans and of byte slices. A list of texts in memory of the call's own, no text in the list's own block, none in one block besides: told further, appended to, turned round. Plain law: the texts up a path, one by one. Conditions: what each part says. -/
import Derived.Test.YthgkaegkkkghhaaDoorGround
import Derived.Test.YthgkaegkkkghhaaDoorPathW
import Derived.Test.YthgkaegkkkghhaaDoorHashP
import Derived.Test.YthgkaegkkkghhaaDoorClashW
import Derived.Maps.AppendAt
/-! RevA: The walks of slices.Reverse, at lists of Booleans and of byte slices. Condition: the list is the call's own, at most 4096 elements. -/
namespace Go.Proofs.YthgkaegkkkghhaaDoor
open Go.RowKit

theorem revAt_low {α : Type} {xs ys : List α} {k : Nat} (h : RevAt xs ys k) (hk : 2 * k + 1 < xs.length) : ys[k]? = xs[k]? := by
  rw [h.2 k (by omega), if_neg (by omega)]
theorem revAt_high {α : Type} {xs ys : List α} {k : Nat} (h : RevAt xs ys k) (hk : 2 * k + 1 < xs.length) : ys[xs.length - 1 - k]? = xs[xs.length - 1 - k]? := by
  rw [h.2 _ (by omega), if_neg (by omega)]
theorem grown_refl (w : World) (row : Option Nat) : w.grownBy w row := ⟨rfl, rfl, rfl, Nat.le_refl _, fun _ _ _ => rfl⟩
theorem grown_drewN {u w : World} {row : Option Nat} (h : u.grownBy w row) (n : Nat) : u.grownBy (w.drewN n) row := ⟨h.os, h.tape, h.output, h.size, h.block⟩
theorem grownBut {u w w' : World} {g : Nat} (h : u.grownBy w (some g)) (hb : But g w w') : u.grownBy w' (some g) :=
  ⟨hb.os.trans h.os, hb.tape.trans h.tape, hb.output.trans h.output, Nat.le_trans h.size hb.size, fun k hk hn => (hb.block k (by have := h.size; omega) (fun e => hn (by rw [e]))).trans (h.block k hk hn)⟩
theorem grown_set {u w : World} {g : Nat} (h : u.grownBy w (some g)) (i : Nat) (v : Value) : u.grownBy (w.setCell ⟨g, i, none⟩ v) (some g) :=
  ⟨h.os, h.tape, h.output, by simpa using h.size, fun k hk hn => (Below.heap_setCell w ⟨g, i, none⟩ v k (fun e => hn (by rw [e]))).trans (h.block k hk hn)⟩
/-- A row of the call's own, as a block. -/
theorem own_blk {w : World} {base : Nat} {e : TypeId} {v : Value} {n : Nat} {xs : List Value} (h : w.ownsRow base e 1 v n xs) (hn : 0 < n) : ∃ g cap sp, v = .slice (some ⟨g, 0, none⟩) n cap ∧ base ≤ g ∧ Blk w g (xs ++ sp) e ∧ n ≤ cap ∧ cap ≤ maxLen ∧ (xs ++ sp).length = cap := by
  obtain ⟨hl, h⟩ := h
  rcases h with ⟨_, h0⟩ | ⟨g, cap, cur, rfl, hb, hg, h1, h2, h3, h4⟩
  · omega
  · have e1 : xs ++ cur.toList.drop n = cur.toList := by
      rw [← h4, Nat.mul_one, List.take_append_drop]
    refine ⟨g, cap, cur.toList.drop n, rfl, hb, ?_, h1, h2, ?_⟩
    · unfold Blk
      rw [e1]
      exact hg
    · rw [e1]
      simpa using h3
theorem blk_own {w : World} {base g cap n : Nat} {e : TypeId} {xs sp : List Value} (hb : base ≤ g) (h : Blk w g (xs ++ sp) e) (hx : xs.length = n) (h1 : n ≤ cap) (h2 : cap ≤ maxLen) (h3 : (xs ++ sp).length = cap) : w.ownsRow base e 1 (.slice (some ⟨g, 0, none⟩) n cap) n xs :=
  ⟨by omega, .inr ⟨g, cap, (xs ++ sp).toArray, rfl, hb, h, h1, h2, by simpa using h3, by rw [Nat.mul_one, ← hx]; simp⟩⟩
set_option maxRecDepth 100000 in
set_option maxHeartbeats 2000000 in
theorem revb_any (base : Nat) (v : Value) (n : Nat) (xs : List Value) (w : World) (h : w.ownsRow base 4 1 v n xs) (hf : ∀ u ∈ xs, ∃ p, u = .bool p) (hn : n ≤ 4096) :
    Calls Tryd.prog 53 #[v] w fun e w' => e = .returned (.tuple #[]) ∧ w'.ownsRow base 4 1 v n xs.reverse ∧ w.grownBy w' v.ownBlock := by
  by_cases h0 : n = 0
  · subst h0
    have hx : xs = [] := List.eq_nil_of_length_eq_zero (by simpa using h.1)
    subst hx
    obtain ⟨a, c, rfl⟩ := ownsRow_form h
    have HO := Lib.hid h
    clear h hf
    go_enter Tryd.func53, Tryd.ntmps53
    go_wp2_with fail
    go_loopw [2, 3] (fun i j wr => i = .int .i64 0 ∧ j = .int .i64 (-1) ∧ wr = w) (fun _ _ _ => 0)
    case atStart => exact ⟨rfl, rfl, rfl⟩
    case round =>
      obtain ⟨rfl, rfl, rfl⟩ := hrel
      go_wp2_with fail
      go_end0
      exact ⟨rfl, HO.out, grown_refl _ _⟩
  · obtain ⟨g, cap, sp, rfl, hbg, hB, h1, h2, h3⟩ := own_blk h (by omega)
    have hxl : xs.length = n := by have := h.1; omega
    have HB := Lib.hid hB
    have HF := Lib.hid hf
    have HX := Lib.hid hxl
    have H3 := Lib.hid h3
    clear h hf hB hxl h3
    go_enter Tryd.func53, Tryd.ntmps53
    go_wp2_with fail
    go_loopw [2, 3] (fun i j wr => ∃ (k : Nat) (ys : List Value), i = .int .i64 k ∧ j = .int .i64 ((n : Int) - 1 - k) ∧ k ≤ n ∧ RevAt xs ys k ∧ Blk wr g (ys ++ sp) 4 ∧ w.grownBy wr (some g)) (fun i _ _ => n - (intOf i).toNat)
    case atStart => exact ⟨0, xs, rfl, by go_num, Nat.zero_le _, revAt_0 _, HB.out, grown_refl _ _⟩
    case round =>
      clear HB
      obtain ⟨k, ys, rfl, rfl, hk, hR, hB, hg⟩ := hrel
      have HR := Lib.hid hR
      have HB := Lib.hid hB
      have HGr := Lib.hid hg
      clear hR hB hg
      have hxl := HX.out
      by_cases hlt : (k : Int) < (n : Int) - 1 - k
      · have h2k : 2 * k + 1 < xs.length := by omega
        have hyl := HR.out.1
        obtain ⟨a, ha⟩ : ∃ a, xs[k]? = some a := ⟨_, List.getElem?_eq_getElem (by omega)⟩
        obtain ⟨b, hb⟩ : ∃ b, xs[n - 1 - k]? = some b := ⟨_, List.getElem?_eq_getElem (by omega)⟩
        have hya := (revAt_low HR.out h2k).trans ha
        have hyb := (revAt_high HR.out h2k).trans (hxl.symm ▸ hb)
        obtain ⟨pa, rfl⟩ := HF.out a (List.mem_of_getElem? ha)
        obtain ⟨pb, rfl⟩ := HF.out b (List.mem_of_getElem? hb)
        rw [hxl] at hyb
        have hj : (n : Int) - 1 - k = ((n - 1 - k : Nat) : Int) := by omega
        have i1 : (0 : Int) ≤ k ∧ (k : Int) < n := ⟨by omega, by omega⟩
        have i2 : (0 : Int) ≤ ((n - 1 - k : Nat) : Int) ∧ ((n - 1 - k : Nat) : Int) < n := ⟨by omega, by omega⟩
        have hB1 := HB.out.set k (.bool pb)
        have HS := Lib.hid (hxl ▸ revAt_step HR.out h2k hya (hxl.symm ▸ hyb))
        rw [set_left _ _ _ _ (by omega)] at hB1
        have hB2 := hB1.set (n - 1 - k) (.bool pa)
        rw [set_left _ _ _ _ (by rw [List.length_set]; omega)] at hB2
        have c1 : wr.cell? ⟨g, k, none⟩ = some (.bool pa) := HB.out.cell (by rw [List.getElem?_append_left (by omega)]; exact hya)
        have c2 : wr.cell? ⟨g, n - 1 - k, none⟩ = some (.bool pb) := HB.out.cell (by rw [List.getElem?_append_left (by omega)]; exact hyb)
        have c3 : (wr.setCell ⟨g, k, none⟩ (.bool pb)).cell? ⟨g, n - 1 - k, none⟩ = some (.bool pb) := hB1.cell (by rw [List.getElem?_append_left (by rw [List.length_set]; omega), List.getElem?_set_ne (by omega)]; exact hyb)
        have f1 : wr.frozen? ⟨g, k, none⟩ = false := HB.out.frozen _
        have f2 : (wr.setCell ⟨g, k, none⟩ (.bool pb)).frozen? ⟨g, n - 1 - k, none⟩ = false := hB1.frozen _
        have HB2 := Lib.hid hB2
        have HYA := Lib.hid (show (ys ++ sp)[k]? = some (.bool pa) by rw [List.getElem?_append_left (by omega)]; exact hya)
        have HYB := Lib.hid (show (ys ++ sp)[n - 1 - k]? = some (.bool pb) by rw [List.getElem?_append_left (by omega)]; exact hyb)
        have HYC := Lib.hid (show (ys.set k (.bool pb) ++ sp)[n - 1 - k]? = some (.bool pb) by rw [List.getElem?_append_left (by rw [List.length_set]; omega), List.getElem?_set_ne (by omega)]; exact hyb)
        have HYL := Lib.hid (show k < ys.length by omega)
        have HYM := Lib.hid (show n - 1 - k < (ys.set k (.bool pb)).length by rw [List.length_set]; omega)
        clear ha hb hya hyb hB1 hB2
        rw [hj]
        rw [hj] at hlt
        clear hj c1 c2 c3 f1 f2
        go_wp2_with fail
        refine wp_region_spun 14 13 g [12, 7, 0, 1, 4, 5, 6, 7, 11] (fun b u => Blk u g (if b then ys.set k (.bool pb) ++ sp else ys ++ sp) 4) [(fun v _ => v = .slice (some ⟨g, 0, none⟩) n cap), (fun v _ => v = .int .i64 k), (fun v _ => v = .slice (some ⟨g, 0, none⟩) n cap), (fun v _ => v = .int .i64 (n - 1 - k : Nat)), (fun v _ => v = .slice (some ⟨g, 0, none⟩) n cap), (fun v _ => v = .int .i64 (n - 1 - k : Nat)), (fun v _ => v = .pointer (some ⟨g, n - 1 - k, none⟩)), (fun v _ => v = .bool pb), (fun v _ => v = .slice (some ⟨g, 0, none⟩) n cap), (fun v _ => v = .int .i64 k), (fun v _ => v = .pointer (some ⟨g, k, none⟩)), (fun v _ => v = .bool pa), (fun v _ => v = .pointer (some ⟨g, k, none⟩)), (fun _ _ => True)] (fun _ _ => False) (by kernel_rfl) (by kernel_rfl) (by decide) rfl rfl (by decide) _ rfl ?hk ?hs (by exact HB.out) ?hp ?hops ?hfin
        case hk =>
          repeat (refine List.forall_mem_cons.2 ⟨by exact fun _ _ _ _ h => h, ?_⟩)
          exact fun _ h => by cases h
        case hs => exact fun b u u' hb h => h.below hb h.lt
        case hp => exact fun c a u _ h => h.elim
        case hops =>
          simp only [List.take_succ_cons, List.take_zero, spunAll, List.getD_cons_zero, List.getD_cons_succ]
          iterate 14
            
           (refine ⟨fun xs wr hb hd hst Qg hK hP => ?_, ?_⟩
            · simp only [fill, Act.put, List.setIfInBounds_toArray, List.set_cons_succ, List.set_cons_zero, needs, Region.binds, List.filter_cons, List.filter_nil, List.map_cons, List.map_nil, if_true, List.mem_cons, List.not_mem_nil, or_false, forall_eq_or_imp, forall_eq, List.getD_cons_zero, List.getD_cons_succ, false_implies, implies_true] at hd hK ⊢
              (try simp only [hd] at hK ⊢)
              first
              | (show wpList _ _ _ [⟨some 21, .load _ _, _, _, _, _⟩] _ _; have h9 : Blk wr g (ys ++ sp) 4 := hst (by decide); have c0 : wr.cell? ⟨g, n - 1 - k, none⟩ = some (.bool pb) := h9.cell (HYB.out); go_wp2_with fail; exact hK _ _ rfl (fun h => absurd h (by decide)) (fun _ => Below.refl _ _))
              | (show wpList _ _ _ [⟨some 25, .load _ _, _, _, _, _⟩] _ _; have h9 : Blk wr g (ys ++ sp) 4 := hst (by decide); have c0 : wr.cell? ⟨g, k, none⟩ = some (.bool pa) := h9.cell (HYA.out); go_wp2_with fail; exact hK _ _ rfl (fun h => absurd h (by decide)) (fun _ => Below.refl _ _))
              | (show wpList _ _ _ [⟨none, .store _ _ _, _, _, _, _⟩] _ _; have h9 : Blk wr g (ys ++ sp) 4 := hst (by decide); have c0 : wr.cell? ⟨g, k, none⟩ = some (.bool pa) := h9.cell (HYA.out); have f0 := h9.frozen k; have h8 := h9.set k (.bool pb); rw [set_left _ _ _ _ HYL.out] at h8; go_wp2_with fail; exact hK undef _ trivial (fun _ => ⟨But.set (Below.refl _ _) h9.lt k _, h8⟩) (fun h => absurd rfl h))
              | (go_wp2_with fail; exact hK _ _ rfl (fun h => absurd h (by decide)) (fun _ => Below.refl _ _)))
          trivial
        case hfin =>
          intro x u hbu hR hSt
          have y2 := hR 2 (by decide)
          have y3 := hR 3 (by decide)
          have y11 := hR 11 (by decide)
          simp only [List.getD_cons_zero, List.getD_cons_succ] at y2 y3 y11
          have hB8 : Blk u g (ys.set k (.bool pb) ++ sp) 4 := hSt
          have c3 : u.cell? ⟨g, n - 1 - k, none⟩ = some (.bool pb) := hB8.cell (HYC.out)
          have f3 := hB8.frozen (n - 1 - k)
          have hB9 := hB8.set (n - 1 - k) (.bool pa)
          rw [set_left _ _ _ _ HYM.out] at hB9
          have HB9 := Lib.hid hB9
          have HGu := Lib.hid (grownBut HGr.out hbu)
          clear hR hSt hB8 hB9 hbu
          simp only [List.drop_succ_cons, List.drop_zero]
          generalize List.toArray _ = L0
          simp only [List.take_succ_cons, List.take_zero, List.map_cons, List.map_nil, fill, Act.put, List.setIfInBounds_toArray, List.set_cons_succ, List.set_cons_zero, y2, y3, y11]
          clear y2 y3 y11
          go_wp2_with fail
          exact ⟨⟨k + 1, _, by go_num, by go_num, by omega, HS.out, HB9.out, grown_set HGu.out _ _⟩, by simp [intOf]; omega⟩
      · go_wp2_with fail
        go_end0
        have hy := revAt_end HR.out (by omega)
        have hB := HB.out
        rw [hy] at hB
        exact ⟨rfl, blk_own hbg hB (by rw [List.length_reverse]; exact hxl) h1 h2 (by have := H3.out; simp only [List.length_append, List.length_reverse] at this ⊢; exact this), HGr.out⟩
set_option maxRecDepth 100000 in
set_option maxHeartbeats 2000000 in
theorem revt_any (base : Nat) (v : Value) (n : Nat) (xs : List Value) (w : World) (h : w.ownsRow base 23 1 v n xs) (hf : ∀ u ∈ xs, ∃ a n c, u = .slice a n c) (hn : n ≤ 4096) :
    Calls Tryd.prog 54 #[v] w fun e w' => e = .returned (.tuple #[]) ∧ w'.ownsRow base 23 1 v n xs.reverse ∧ w.grownBy w' v.ownBlock := by
  by_cases h0 : n = 0
  · subst h0
    have hx : xs = [] := List.eq_nil_of_length_eq_zero (by simpa using h.1)
    subst hx
    obtain ⟨a, c, rfl⟩ := ownsRow_form h
    have HO := Lib.hid h
    clear h hf
    go_enter Tryd.func54, Tryd.ntmps54
    go_wp2_with fail
    go_loopw [2, 3] (fun i j wr => i = .int .i64 0 ∧ j = .int .i64 (-1) ∧ wr = w) (fun _ _ _ => 0)
    case atStart => exact ⟨rfl, rfl, rfl⟩
    case round =>
      obtain ⟨rfl, rfl, rfl⟩ := hrel
      go_wp2_with fail
      go_end0
      exact ⟨rfl, HO.out, grown_refl _ _⟩
  · obtain ⟨g, cap, sp, rfl, hbg, hB, h1, h2, h3⟩ := own_blk h (by omega)
    have hxl : xs.length = n := by have := h.1; omega
    have HB := Lib.hid hB
    have HF := Lib.hid hf
    have HX := Lib.hid hxl
    have H3 := Lib.hid h3
    clear h hf hB hxl h3
    go_enter Tryd.func54, Tryd.ntmps54
    go_wp2_with fail
    go_loopw [2, 3] (fun i j wr => ∃ (k : Nat) (ys : List Value), i = .int .i64 k ∧ j = .int .i64 ((n : Int) - 1 - k) ∧ k ≤ n ∧ RevAt xs ys k ∧ Blk wr g (ys ++ sp) 23 ∧ w.grownBy wr (some g)) (fun i _ _ => n - (intOf i).toNat)
    case atStart => exact ⟨0, xs, rfl, by go_num, Nat.zero_le _, revAt_0 _, HB.out, grown_refl _ _⟩
    case round =>
      clear HB
      obtain ⟨k, ys, rfl, rfl, hk, hR, hB, hg⟩ := hrel
      have HR := Lib.hid hR
      have HB := Lib.hid hB
      have HGr := Lib.hid hg
      clear hR hB hg
      have hxl := HX.out
      by_cases hlt : (k : Int) < (n : Int) - 1 - k
      · have h2k : 2 * k + 1 < xs.length := by omega
        have hyl := HR.out.1
        obtain ⟨a, ha⟩ : ∃ a, xs[k]? = some a := ⟨_, List.getElem?_eq_getElem (by omega)⟩
        obtain ⟨b, hb⟩ : ∃ b, xs[n - 1 - k]? = some b := ⟨_, List.getElem?_eq_getElem (by omega)⟩
        have hya := (revAt_low HR.out h2k).trans ha
        have hyb := (revAt_high HR.out h2k).trans (hxl.symm ▸ hb)
        obtain ⟨a1, a2, a3, rfl⟩ := HF.out a (List.mem_of_getElem? ha)
        obtain ⟨b1, b2, b3, rfl⟩ := HF.out b (List.mem_of_getElem? hb)
        rw [hxl] at hyb
        have hj : (n : Int) - 1 - k = ((n - 1 - k : Nat) : Int) := by omega
        have i1 : (0 : Int) ≤ k ∧ (k : Int) < n := ⟨by omega, by omega⟩
        have i2 : (0 : Int) ≤ ((n - 1 - k : Nat) : Int) ∧ ((n - 1 - k : Nat) : Int) < n := ⟨by omega, by omega⟩
        have hB1 := HB.out.set k (.slice b1 b2 b3)
        have HS := Lib.hid (hxl ▸ revAt_step HR.out h2k hya (hxl.symm ▸ hyb))
        rw [set_left _ _ _ _ (by omega)] at hB1
        have hB2 := hB1.set (n - 1 - k) (.slice a1 a2 a3)
        rw [set_left _ _ _ _ (by rw [List.length_set]; omega)] at hB2
        have c1 : wr.cell? ⟨g, k, none⟩ = some (.slice a1 a2 a3) := HB.out.cell (by rw [List.getElem?_append_left (by omega)]; exact hya)
        have c2 : wr.cell? ⟨g, n - 1 - k, none⟩ = some (.slice b1 b2 b3) := HB.out.cell (by rw [List.getElem?_append_left (by omega)]; exact hyb)
        have c3 : (wr.setCell ⟨g, k, none⟩ (.slice b1 b2 b3)).cell? ⟨g, n - 1 - k, none⟩ = some (.slice b1 b2 b3) := hB1.cell (by rw [List.getElem?_append_left (by rw [List.length_set]; omega), List.getElem?_set_ne (by omega)]; exact hyb)
        have f1 : wr.frozen? ⟨g, k, none⟩ = false := HB.out.frozen _
        have f2 : (wr.setCell ⟨g, k, none⟩ (.slice b1 b2 b3)).frozen? ⟨g, n - 1 - k, none⟩ = false := hB1.frozen _
        have HB2 := Lib.hid hB2
        have HYA := Lib.hid (show (ys ++ sp)[k]? = some (.slice a1 a2 a3) by rw [List.getElem?_append_left (by omega)]; exact hya)
        have HYB := Lib.hid (show (ys ++ sp)[n - 1 - k]? = some (.slice b1 b2 b3) by rw [List.getElem?_append_left (by omega)]; exact hyb)
        have HYC := Lib.hid (show (ys.set k (.slice b1 b2 b3) ++ sp)[n - 1 - k]? = some (.slice b1 b2 b3) by rw [List.getElem?_append_left (by rw [List.length_set]; omega), List.getElem?_set_ne (by omega)]; exact hyb)
        have HYL := Lib.hid (show k < ys.length by omega)
        have HYM := Lib.hid (show n - 1 - k < (ys.set k (.slice b1 b2 b3)).length by rw [List.length_set]; omega)
        clear ha hb hya hyb hB1 hB2
        rw [hj]
        rw [hj] at hlt
        clear hj c1 c2 c3 f1 f2
        go_wp2_with fail
        refine wp_region_spun 14 13 g [12, 7, 0, 1, 4, 5, 6, 7, 11] (fun b u => Blk u g (if b then ys.set k (.slice b1 b2 b3) ++ sp else ys ++ sp) 23) [(fun v _ => v = .slice (some ⟨g, 0, none⟩) n cap), (fun v _ => v = .int .i64 k), (fun v _ => v = .slice (some ⟨g, 0, none⟩) n cap), (fun v _ => v = .int .i64 (n - 1 - k : Nat)), (fun v _ => v = .slice (some ⟨g, 0, none⟩) n cap), (fun v _ => v = .int .i64 (n - 1 - k : Nat)), (fun v _ => v = .pointer (some ⟨g, n - 1 - k, none⟩)), (fun v _ => v = .slice b1 b2 b3), (fun v _ => v = .slice (some ⟨g, 0, none⟩) n cap), (fun v _ => v = .int .i64 k), (fun v _ => v = .pointer (some ⟨g, k, none⟩)), (fun v _ => v = .slice a1 a2 a3), (fun v _ => v = .pointer (some ⟨g, k, none⟩)), (fun _ _ => True)] (fun _ _ => False) (by kernel_rfl) (by kernel_rfl) (by decide) rfl rfl (by decide) _ rfl ?hk ?hs (by exact HB.out) ?hp ?hops ?hfin
        case hk =>
          repeat (refine List.forall_mem_cons.2 ⟨by exact fun _ _ _ _ h => h, ?_⟩)
          exact fun _ h => by cases h
        case hs => exact fun b u u' hb h => h.below hb h.lt
        case hp => exact fun c a u _ h => h.elim
        case hops =>
          simp only [List.take_succ_cons, List.take_zero, spunAll, List.getD_cons_zero, List.getD_cons_succ]
          iterate 14
            
           (refine ⟨fun xs wr hb hd hst Qg hK hP => ?_, ?_⟩
            · simp only [fill, Act.put, List.setIfInBounds_toArray, List.set_cons_succ, List.set_cons_zero, needs, Region.binds, List.filter_cons, List.filter_nil, List.map_cons, List.map_nil, if_true, List.mem_cons, List.not_mem_nil, or_false, forall_eq_or_imp, forall_eq, List.getD_cons_zero, List.getD_cons_succ, false_implies, implies_true] at hd hK ⊢
              (try simp only [hd] at hK ⊢)
              first
              | (show wpList _ _ _ [⟨some 21, .load _ _, _, _, _, _⟩] _ _; have h9 : Blk wr g (ys ++ sp) 23 := hst (by decide); have c0 : wr.cell? ⟨g, n - 1 - k, none⟩ = some (.slice b1 b2 b3) := h9.cell (HYB.out); go_wp2_with fail; exact hK _ _ rfl (fun h => absurd h (by decide)) (fun _ => Below.refl _ _))
              | (show wpList _ _ _ [⟨some 25, .load _ _, _, _, _, _⟩] _ _; have h9 : Blk wr g (ys ++ sp) 23 := hst (by decide); have c0 : wr.cell? ⟨g, k, none⟩ = some (.slice a1 a2 a3) := h9.cell (HYA.out); go_wp2_with fail; exact hK _ _ rfl (fun h => absurd h (by decide)) (fun _ => Below.refl _ _))
              | (show wpList _ _ _ [⟨none, .store _ _ _, _, _, _, _⟩] _ _; have h9 : Blk wr g (ys ++ sp) 23 := hst (by decide); have c0 : wr.cell? ⟨g, k, none⟩ = some (.slice a1 a2 a3) := h9.cell (HYA.out); have f0 := h9.frozen k; have h8 := h9.set k (.slice b1 b2 b3); rw [set_left _ _ _ _ HYL.out] at h8; go_wp2_with fail; exact hK undef _ trivial (fun _ => ⟨But.set (Below.refl _ _) h9.lt k _, h8⟩) (fun h => absurd rfl h))
              | (go_wp2_with fail; exact hK _ _ rfl (fun h => absurd h (by decide)) (fun _ => Below.refl _ _)))
          trivial
        case hfin =>
          intro x u hbu hR hSt
          have y2 := hR 2 (by decide)
          have y3 := hR 3 (by decide)
          have y11 := hR 11 (by decide)
          simp only [List.getD_cons_zero, List.getD_cons_succ] at y2 y3 y11
          have hB8 : Blk u g (ys.set k (.slice b1 b2 b3) ++ sp) 23 := hSt
          have c3 : u.cell? ⟨g, n - 1 - k, none⟩ = some (.slice b1 b2 b3) := hB8.cell (HYC.out)
          have f3 := hB8.frozen (n - 1 - k)
          have hB9 := hB8.set (n - 1 - k) (.slice a1 a2 a3)
          rw [set_left _ _ _ _ HYM.out] at hB9
          have HB9 := Lib.hid hB9
          have HGu := Lib.hid (grownBut HGr.out hbu)
          clear hR hSt hB8 hB9 hbu
          simp only [List.drop_succ_cons, List.drop_zero]
          generalize List.toArray _ = L0
          simp only [List.take_succ_cons, List.take_zero, List.map_cons, List.map_nil, fill, Act.put, List.setIfInBounds_toArray, List.set_cons_succ, List.set_cons_zero, y2, y3, y11]
          clear y2 y3 y11
          go_wp2_with fail
          exact ⟨⟨k + 1, _, by go_num, by go_num, by omega, HS.out, HB9.out, grown_set HGu.out _ _⟩, by simp [intOf]; omega⟩
      · go_wp2_with fail
        go_end0
        have hy := revAt_end HR.out (by omega)
        have hB := HB.out
        rw [hy] at hB
        exact ⟨rfl, blk_own hbg hB (by rw [List.length_reverse]; exact hxl) h1 h2 (by have := H3.out; simp only [List.length_append, List.length_reverse] at this ⊢; exact this), HGr.out⟩
end Go.Proofs.YthgkaegkkkghhaaDoor

/-! TextsA: A list of texts in memory of the call's own, no text in the list's own block, none in one block besides: told further, appended to, turned round. Plain law: the texts up a path, one by one. Conditions: no text is empty; the sizes' bounds. -/
namespace Go.Proofs.YthgkaegkkkghhaaDoor
open Go.RowKit

theorem textsB_0 (t : List UInt8) (l : List (Bool × H)) : (textsB t l)[0]? = some t := by
  cases l with
  | nil => rfl
  | cons p l => obtain ⟨s, o⟩ := p; rfl
def upB (s : Bool) (t : List UInt8) (o : H) : List UInt8 := 1 :: (if s then sumN t ++ o.b else o.b ++ sumN t)
theorem textsB_cons (t : List UInt8) (s : Bool) (o : H) (l : List (Bool × H)) : textsB t ((s, o) :: l) = t :: textsB (upB s t o) l := rfl
theorem textsB_step (l : List (Bool × H)) : ∀ (t : List UInt8) (j : Nat) (u : List UInt8) (s : Bool) (o : H), (textsB t l)[j]? = some u → l[j]? = some (s, o) → (textsB t l)[j + 1]? = some (upB s u o) := by
  induction l with
  | nil => intro t j u s o _ h; cases h
  | cons p l ih =>
    intro t j u s o h1 h2
    obtain ⟨s', o'⟩ := p
    rw [textsB_cons] at h1 ⊢
    cases j with
    | zero =>
      cases h1
      cases h2
      rw [List.getElem?_cons_succ]
      exact textsB_0 _ l
    | succ j =>
      rw [List.getElem?_cons_succ] at h1 h2 ⊢
      exact ih _ j u s o h1 h2
theorem textsB_full (l : List (Bool × H)) : ∀ (t : List UInt8), 0 < t.length → ∀ u ∈ textsB t l, 0 < u.length := by
  induction l with
  | nil =>
    intro t ht u hu
    rw [textsB, List.mem_singleton] at hu
    rw [hu]; exact ht
  | cons p l ih =>
    intro t ht u hu
    obtain ⟨s', o'⟩ := p
    rw [textsB_cons] at hu
    rcases List.mem_cons.1 hu with rfl | hu
    · exact ht
    · exact ih _ (by simp [upB]) u hu
theorem textsB_le (l : List (Bool × H)) (m : Nat) (hm : 65 ≤ m) : ∀ (t : List UInt8), t.length ≤ m → ∀ u ∈ textsB t l, u.length ≤ m := by
  induction l with
  | nil =>
    intro t ht u hu
    rw [textsB, List.mem_singleton] at hu
    rw [hu]; exact ht
  | cons p l ih =>
    intro t ht u hu
    obtain ⟨s', o'⟩ := p
    rw [textsB_cons] at hu
    rcases List.mem_cons.1 hu with rfl | hu
    · exact ht
    · exact ih _ (by cases s' <;> simp [upB, sumN_len, o'.len] <;> omega) u hu
structure OwnA (A : Nat) (w : World) (base : Nat) (v : Value) (ls : List (List UInt8)) (vs : List Value) : Prop where
  own : w.ownsRow base 23 1 v ls.length vs
  each : ∀ (i : Nat) (x : Value) (l : List UInt8), vs[i]? = some x → ls[i]? = some l → Bytes w x l
  full : ∀ l ∈ ls, 0 < l.length
  apart : ∀ x ∈ vs, ∀ ad k c, x = .slice (some ad) k c → v.ownBlock ≠ some ad.block ∧ ad.block ≠ A
  away : v.ownBlock ≠ some A
section
variable {A base : Nat} {w w' : World} {v : Value} {ls : List (List UInt8)} {vs : List Value}
theorem OwnA.len (h : OwnA A w base v ls vs) : vs.length = ls.length := by have := h.own.1; omega
theorem OwnA.one (h : OwnA A w base v ls vs) : ∀ u ∈ vs, u.oneCell' = true := by
  intro u hu
  obtain ⟨i, hi, rfl⟩ := List.mem_iff_getElem.1 hu
  have hl : i < ls.length := by rw [← h.len]; exact hi
  exact (h.each i _ _ (List.getElem?_eq_getElem hi) (List.getElem?_eq_getElem hl)).one
theorem OwnA.lit (h : OwnA A w base v ls vs) : ∀ u ∈ vs, ∃ a n c, u = .slice a n c := by
  intro u hu
  obtain ⟨i, hi, rfl⟩ := List.mem_iff_getElem.1 hu
  have hl : i < ls.length := by rw [← h.len]; exact hi
  obtain ⟨a, c, e, _⟩ := (h.each i _ _ (List.getElem?_eq_getElem hi) (List.getElem?_eq_getElem hl)).form
  exact ⟨a, _, c, e⟩
theorem OwnA.parts (h : OwnA A w base v ls vs) : Parts w v ls vs := ⟨h.len, ownsRow_isSl h.own h.one, h.each⟩
/-- Each text's block. -/
theorem OwnA.text (h : OwnA A w base v ls vs) {i : Nat} {x : Value} {l : List UInt8} (hx : vs[i]? = some x) (hl : ls[i]? = some l) : ∃ b off cap, x = .slice (some ⟨b, off, none⟩) l.length cap ∧ b < w.heap.size ∧ v.ownBlock ≠ some b ∧ b ≠ A := by
  obtain ⟨b, off, cap, e, _, _, hb⟩ := IsSl.pos (h.each i x l hx hl) (h.full l (List.mem_of_getElem? hl)) (by decide)
  obtain ⟨h1, h2⟩ := h.apart x (List.mem_of_getElem? hx) _ _ _ e
  exact ⟨b, off, cap, e, hb, h1, h2⟩
theorem ownBlock_lt {e : TypeId} {n : Nat} {xs : List Value} (h : w.ownsRow base e 1 v n xs) {g : Nat} (hg : v.ownBlock = some g) : g < w.heap.size := (h.lt g hg).2
/-- Another block besides, that isn't laid yet. -/
theorem OwnA.avoid (h : OwnA A w base v ls vs) {B : Nat} (hB : w.heap.size ≤ B) : OwnA B w base v ls vs := by
  refine ⟨h.own, h.each, h.full, fun x hx ad k c e => ?_, fun e => ?_⟩
  · obtain ⟨i, hi, rfl⟩ := List.mem_iff_getElem.1 hx
    have hl : i < ls.length := by rw [← h.len]; exact hi
    obtain ⟨b, off, cap, e1, hb, h1, _⟩ := h.text (List.getElem?_eq_getElem hi) (List.getElem?_eq_getElem hl)
    rw [e1] at e
    cases e
    exact ⟨h1, by show b ≠ B; omega⟩
  · have := ownBlock_lt h.own e
    omega
theorem own_but {e : TypeId} {n : Nat} {xs : List Value} (h : w.ownsRow base e 1 v n xs) (hb : But A w w') (ha : v.ownBlock ≠ some A) : w'.ownsRow base e 1 v n xs := by
  refine ⟨h.1, ?_⟩
  rcases h.2 with hn | ⟨g, cap, cur, rfl, hbg, hg, rest⟩
  · exact .inl hn
  · exact .inr ⟨g, cap, cur, rfl, hbg, (hb.block g (ownBlock_lt h rfl) (fun e => ha (by rw [← e]; rfl))).trans hg, rest⟩
theorem OwnA.but (h : OwnA A w base v ls vs) (hb : But A w w') : OwnA A w' base v ls vs := by
  refine ⟨own_but h.own hb h.away, fun i x l hx hl => ?_, h.full, h.apart, h.away⟩
  obtain ⟨b, off, cap, rfl, _, _, hA⟩ := h.text hx hl
  exact hb.isSl (h.each i _ l hx hl) (fun _ a k c e => by cases e; exact hA)
theorem OwnA.below (h : OwnA A w base v ls vs) (hb : Below w.heap.size w w') : OwnA A w' base v ls vs := h.but (But.of hb)
/-- Turned round. -/
theorem OwnA.turn (h : OwnA A w base v ls vs) (ho : w'.ownsRow base 23 1 v ls.length vs.reverse) (hg : w.grownBy w' v.ownBlock) : OwnA A w' base v ls.reverse vs.reverse := by
  refine ⟨by rw [List.length_reverse]; exact ho, fun i x l hx hl => ?_, fun l hl => h.full l (List.mem_reverse.1 hl), fun x hx => h.apart x (List.mem_reverse.1 hx), h.away⟩
  have hi : i < vs.length := by
    have := (List.getElem?_eq_some_iff.1 hx).1
    rwa [List.length_reverse] at this
  rw [List.getElem?_reverse hi] at hx
  rw [List.getElem?_reverse (by rw [← h.len]; exact hi), ← h.len] at hl
  obtain ⟨b, off, cap, rfl, hb, hn, _⟩ := h.text hx hl
  refine (h.each _ _ l hx hl).of_cells fun p u hu ⟨a, k, c, e, he⟩ => ?_
  cases e
  exact (World.cell?_of_block (hg.block p.block (by rw [← he]; exact hb) (by rw [← he]; exact fun e => hn e.symm))).trans hu
end
theorem own_kept {w w' : World} {base : Nat} {e : TypeId} {v : Value} {n : Nat} {xs : List Value} (h : w.ownsRow base e 1 v n xs) (hk : ∀ r, v.ownBlock = some r → w'.heap[r]? = w.heap[r]?) : w'.ownsRow base e 1 v n xs := by
  refine ⟨h.1, ?_⟩
  rcases h.2 with hn | ⟨g, cap, cur, rfl, hbg, hg, rest⟩
  · exact .inl hn
  · exact .inr ⟨g, cap, cur, rfl, hbg, (hk g rfl).trans hg, rest⟩
theorem info_sl : (Tryd.prog.info? 23).map (fun i => (i.zero, i.size, i.bytes)) = some (some (.slice none 0 0), 1, 24) := info_bytes
/-- A first text. -/
theorem ownA_one {w : World} {x : Value} {t : List UInt8} {base A : Nat} (hx : Bytes w x t) (ht : 0 < t.length) (hb : base ≤ w.heap.size) (hA : w.heap.size < A) : OwnA A (w.alloc (.cells #[x] 23)) base (.slice (some ⟨w.heap.size, 0, none⟩) 1 1) [t] [x] := by
  have hal : Below w.heap.size w (w.alloc (.cells #[x] 23)) := (Below.refl _ _).alloc (Nat.le_refl _) _
  obtain ⟨b, off, cap, e, _, _, hbl⟩ := IsSl.pos hx ht (by decide)
  refine ⟨own_base (World.ownsRow_lit w #[x] (e := 23) (size := 1) (base := w.heap.size) 1 (Nat.le_refl _) (by decide) rfl) hb, fun i x' l h1 h2 => ?_, fun l hl => ?_, fun x' hx' ad k c e' => ?_, fun e' => ?_⟩
  · cases i with
    | zero =>
      cases h1
      cases h2
      exact hx.below hal
    | succ i => cases h1
  · rw [List.mem_singleton] at hl
    rw [hl]; exact ht
  · rw [List.mem_singleton] at hx'
    subst hx'
    rw [e] at e'
    cases e'
    refine ⟨fun e => ?_, by show b ≠ A; omega⟩
    have : w.heap.size = b := by
      injection e
    omega
  · have : w.heap.size = A := by injection e'
    omega
/-- append of a text that has just been laid in a list of its own. -/
theorem wpList_texts {w w0 : World} {ops : Array Oper} {rest : List Oper} {o : Oper} {a : Act} {Q : Exit → Act → World → Prop} (hgd : o.guard = none) (s y : Operand)
    (ho : o.op = .call { callee := .builtin .append, args := #[s, y], argTypes := #[22, 22] }) (A base : Nat) (v x : Value) (ls : List (List UInt8)) (vs : List Value) (t : List UInt8) (hs : a.eval s = v) (hO : OwnA A w base v ls vs)
    (hy : a.eval y = .slice (some ⟨w.heap.size, 0, none⟩) 1 1) (hX : Bytes w x t) (ht : 0 < t.length) (hfr : ∀ ad k c, x = .slice (some ad) k c → v.ownBlock ≠ some ad.block ∧ ad.block ≠ A) (hA : A < w.heap.size) (hlen : ls.length ≤ 4096) (hb : base ≤ w.heap.size) (hW : Below base w0 w)
    (h : ∀ v' w', OwnA A w' base v' (ls ++ [t]) (vs ++ [x]) → Below base w0 w' → (∀ r, r < w.heap.size → some r ≠ v.ownBlock → w'.heap[r]? = w.heap[r]?) → w.heap.size ≤ w'.heap.size → (∀ b, b < w.heap.size → v.ownBlock ≠ some b → v'.ownBlock ≠ some b) → wpList Tryd.prog ops Q rest (a.put o.dst v') w') :
    wpList Tryd.prog ops Q (o :: rest) a (w.alloc (.cells #[x] 23)) := by
  obtain ⟨i0, hi, hz0, hz1, hz2⟩ := info_parts info_sl
  have hal : Below w.heap.size w (w.alloc (.cells #[x] 23)) := (Below.refl _ _).alloc (Nat.le_refl _) _
  have hO1 := hO.below hal
  obtain ⟨bx, ox, cx, ex, _, _, hbx⟩ := IsSl.pos hX ht (by decide)
  have hfx := hfr _ _ _ ex
  refine wpList_append_own_at _ hgd s y 22 ho base 23 i0 (.slice none 0 0) 1 24 Tryd.underlying22 hi hz0 hz1 hz2 rfl (by decide) v ls.length vs hs hO1.own ⟨w.heap.size, 0, none⟩ 1 1 [x] hy rfl (cell_one_new w x _) (fun u hu => by rw [List.mem_singleton] at hu; rw [hu]; exact hX.one) (by unfold maxLen; omega) (by omega) (by simp; omega) ?_
  intro v' w' hown hgrow _ hat
  have hkeep : ∀ r, r < w.heap.size → some r ≠ v.ownBlock → w'.heap[r]? = w.heap[r]? := fun r hr hn => (hgrow.block r (by simp; omega) hn).trans (Below.heap_alloc w _ r hr)
  have hnb : ∀ b, b < w.heap.size → v.ownBlock ≠ some b → v'.ownBlock ≠ some b := fun b hb' hn e => by
    rcases hat with hat | hat
    · exact hn (hat.symm.trans e)
    · rw [hat, World.size_alloc] at e
      injection e
      omega
  refine h v' w' ⟨?_, fun i x' l h1 h2 => ?_, fun l hl => ?_, fun x' hx' ad k c e => ?_, hnb A hA hO.away⟩ ?_ hkeep (Nat.le_trans hal.size hgrow.size) hnb
  · rw [List.length_append, List.length_singleton]
    exact hown
  · have hmv : ∀ (y : Value) (m : List UInt8), Bytes w y m → (∀ ad k c, y = .slice (some ad) k c → ad.block < w.heap.size ∧ v.ownBlock ≠ some ad.block) → Bytes w' y m := fun y m hy' hb' => by
      refine hy'.of_cells fun p u hu ⟨ad, k, c, e, he⟩ => ?_
      obtain ⟨q1, q2⟩ := hb' _ _ _ e
      exact (World.cell?_of_block (hkeep p.block (by rw [← he]; exact q1) (by rw [← he]; exact fun e => q2 e.symm))).trans hu
    by_cases hi' : i < ls.length
    · rw [List.getElem?_append_left (by rw [hO.len]; exact hi')] at h1
      rw [List.getElem?_append_left hi'] at h2
      obtain ⟨b, off, cap, e, q1, q2, _⟩ := hO.text h1 h2
      exact hmv _ _ (hO.each i x' l h1 h2) (fun ad k c e' => by rw [e] at e'; cases e'; exact ⟨q1, q2⟩)
    · rw [List.getElem?_append_right (by rw [hO.len]; omega), hO.len] at h1
      rw [List.getElem?_append_right (by omega)] at h2
      have h0 : i - ls.length = 0 := by
        have := (List.getElem?_eq_some_iff.1 h2).1
        rw [List.length_singleton] at this
        omega
      rw [h0] at h1 h2
      cases h1
      cases h2
      exact hmv _ _ hX (fun ad k c e' => by rw [ex] at e'; cases e'; exact ⟨hbx, hfx.1⟩)
  · rcases List.mem_append.1 hl with hl | hl
    · exact hO.full l hl
    · rw [List.mem_singleton] at hl
      rw [hl]; exact ht
  · rcases List.mem_append.1 hx' with hx' | hx'
    · obtain ⟨i, hi', rfl⟩ := List.mem_iff_getElem.1 hx'
      have hl : i < ls.length := by rw [← hO.len]; exact hi'
      obtain ⟨b, off, cap, e1, q1, q2, q3⟩ := hO.text (List.getElem?_eq_getElem hi') (List.getElem?_eq_getElem hl)
      rw [e1] at e
      cases e
      exact ⟨hnb b q1 q2, q3⟩
    · rw [List.mem_singleton] at hx'
      subst hx'
      rw [ex] at e
      cases e
      exact ⟨hnb bx hbx hfx.1, hfx.2⟩
  · have h1 := hW.trans (hal.mono hb)
    exact h1.grown hgrow (by simp; omega) (fun k hk => (hO1.own.lt k hk).1)
end Go.Proofs.YthgkaegkkkghhaaDoor
