/- The walk of a frontier's Add. Conditions: the frontier lies as told, with at most 2^40 leaves; the package's tables read as they are laid. -/
import Derived.Test.YtkfplliipogagaaDoorFrontA
import Derived.Test.YtkfplliipogagaaDoorFork
namespace Go.Proofs.YtkfplliipogagaaDoor
open Go.RowKit

/-- A frontier that has taken these leaves. -/
def Fr (w : World) (b V : Nat) (l : List H) : Prop := St w b V (.int .i64 (l.length : Int)) (stackN ndH l).reverse
theorem St.blk {w : World} {b V : Nat} {x : Value} {st : List H} (h : St w b V x st) : ∃ sv, Blk w b [sv, x] 35 := by
  obtain ⟨_, _, sv, h1, _⟩ := h
  exact ⟨sv, h1⟩
theorem St.num {w : World} {b V : Nat} {x y : Value} {st : List H} (h : St w b V x st) : St (w.setCell ⟨b, 1, none⟩ y) b V y st := by
  obtain ⟨h0, hV, sv, h1, h2⟩ := h
  exact ⟨h0, by simpa using hV, sv, h1.set 1 y, ownsRow_setCell_below h2 h0 _⟩
theorem StU.row {w : World} {b V r U : Nat} {x : Value} {st : List H} (h : StU w b V U x st) (cs : Array Value) (h1 : b < r) (h2 : U ≤ r) : StU (w.setRow r cs) b V U x st := by
  obtain ⟨h0, hV, sv, h3, h4, h5⟩ := h
  exact ⟨h0, by simpa using hV, sv, h3.setRow_other (by omega) _, ownsRow_set_row h4 _ (fun k hk => by have := h5 k hk; omega), h5⟩
/-- The loop's state: the carry so far, and what will come of it. -/
structure AddJ (w : World) (b V : Nat) (x : Value) (F : List H) (q : List H) (c : H) (wr : World) : Prop where
  st : StU wr b V w.heap.size x (stackN ndH q).reverse
  box : Blk wr w.heap.size (bytesV c.b) 24
  sum : addN1 ndH q.length (stackN ndH q) c = F
  old : Bes b V w wr
set_option maxRecDepth 100000 in
set_option maxHeartbeats 1000000 in
theorem add_any (w0 w : World) (b V : Nat) (l : List H) (h : H) (hg : Glob w0) (hb0 : Below w0.heap.size w0 w) (hbb : w0.heap.size ≤ b) (hF : Fr w b V l) (hl : l.length ≤ 1099511627776) :
    Calls Tryd.prog 24 #[.pointer (some ⟨b, 0, none⟩), hv h] w fun e w' => e = .returned (.tuple #[]) ∧ Fr w' b V (l ++ [h]) ∧ Bes b V w w' := by
  have hlt := St.lt hF
  obtain ⟨sv0, hB0⟩ := St.blk hF
  have hb1 : Below w.heap.size w (w.alloc (.cells (bytesV h.b).toArray 24)) := by (repeat (first | with_reducible assumption | with_reducible exact Below.refl _ _ | ((with_reducible refine Below.setCell ?_ ?_ _); rotate_left; focus (first | omega | (simp; done) | (simp; omega))) | ((with_reducible refine Below.alloc ?_ ?_ _); rotate_left; focus (first | omega | (simp; done) | (simp; omega))) | ((with_reducible refine below_setRow ?_ ?_ _); rotate_left; focus (first | omega | (simp; done) | (simp; omega))) | (with_reducible refine below_drewN ?_ _) | (with_reducible refine Below.drew ?_)))
  have hU := (St.u hF).keep hb1
  have c1 : (w.alloc (.cells (bytesV h.b).toArray 24)).cell? ⟨b, 1, none⟩ = some (.int .i64 (l.length : Int)) := (hB0.below hb1 hlt).cell rfl
  have HU := Lib.hid hU
  have HBX := Lib.hid (Blk.newL w (bytesV h.b) 24)
  have HG := Lib.hid hg
  have HB0 := Lib.hid hb0
  clear hF hB0 hU hg hb0
  have hold : Bes b V w (w.alloc (.cells (bytesV h.b).toArray 24)) := Bes.of hb1 (by omega)
  have hnil : ∀ (w : World), (binOp .eql 36 (.pointer (some ⟨b, 0, none⟩)) (.pointer none)).run Tryd.prog w = .ok (.bool false) w := fun _ => rfl
  go_enter Tryd.func24, Tryd.ntmps24
  unfold hv
  go_wp2_with fail
  go_loopw [4] (fun nv wr => ∃ (m : Nat) (q : List H) (c : H), nv = .int .i64 m ∧ m = q.length ∧ q.length ≤ 1099511627776 ∧ AddJ w b V (.int .i64 (l.length : Int)) (addN1 ndH l.length (stackN ndH l) h) q c wr) (fun nv _ => (intOf nv).toNat)
  case atStart => exact ⟨l.length, l, h, rfl, rfl, hl, HU.out, HBX.out, rfl, hold⟩
  case round =>
    obtain ⟨m, q, c, rfl, hm, hql, hj⟩ := hrel
    have HJ := Lib.hid hj
    have HM := Lib.hid hm
    clear hj hm
    have hm2 : m ≤ 1099511627776 := by rw [HM.out]; exact hql
    by_cases ho : m % 2 = 1
    · have hpar : ((m : Int) % 2 == 1) = true := by
        rw [beq_iff_eq]
        omega
      obtain ⟨q', y, hqe, hq⟩ := odd_snoc q (by rw [← HM.out]; exact ho)
      have hsk : (stackN ndH q).reverse = (stackN ndH (pairsN ndH q')).reverse ++ [y] := by rw [hqe, stackN_odd ndH q' y hq, List.reverse_cons]
      have hlen : (pairsN ndH q').length = m / 2 := by rw [pairsN_len]; have := HM.out; rw [hqe, List.length_append, List.length_singleton] at this; omega
      have hadd : addN1 ndH (pairsN ndH q').length (stackN ndH (pairsN ndH q')) (ndH y c) = addN1 ndH q.length (stackN ndH q) c := by
        rw [hlen, ← HM.out, hqe, stackN_odd ndH q' y hq, addN1_odd ndH _ ho]
      have hst : StU wr b V w.heap.size (.int .i64 (l.length : Int)) ((stackN ndH (pairsN ndH q')).reverse ++ [y]) := by
        rw [← hsk]
        exact HJ.out.st
      have hstl : (stackN ndH (pairsN ndH q')).reverse.length ≤ 1099511627776 := by
        rw [List.length_reverse]
        have := stackN_few ndH _ (pairsN ndH q') rfl
        rw [hlen] at this
        omega
      have HST := Lib.hid hst
      have HSL := Lib.hid hstl
      have HAD := Lib.hid hadd
      have HLN := Lib.hid hlen
      clear hsk hst hstl hadd hlen hqe hq
      go_wp2_with fail
      refine wp_region_fork [0, 1, 2] 3 4 [5, 6] (by kernel_rfl) (by kernel_rfl) (fun _ _ _ d _ h => by cases d <;> exact h) _ _ _ rfl rfl rfl ?_
      simp only [List.map_cons, List.map_nil, List.getD_cons_succ, List.getD_cons_zero]
      refine wpPure_move _ rfl rfl ?_
      refine wpPure_run (.pointer (some ⟨b, 0, none⟩)) rfl (fun w' => ?_) ?_
      · simp [go_sem, execOp]
      refine wpPure_run (.pointer (some ⟨b, 0, none⟩)) rfl (fun w' => ?_) ?_
      · simp [go_sem, execOp]
      refine wpPure_nil (fun nq => ?_)
      have HST2 := Lib.hid (show StU (wr.drewN nq) b V w.heap.size (.int .i64 (l.length : Int)) ((stackN ndH (pairsN ndH q')).reverse ++ [y]) from HST.out)
      have HBX2 := Lib.hid (HJ.out.box.drewN nq)
      have HOL2 := Lib.hid (HJ.out.old.drewN nq)
      have hsz : b < (wr.drewN nq).heap.size := HST2.out.lt
      refine ⟨?_, ?_⟩
      · go_wp2_with (first
          | (refine wpList_load_row rfl 24 (.tmp 3) rfl w.heap.size rfl 24 (bytesV c.b).toArray (0, 0) _ (by exact HX5.out) Tryd.underlying24 rfl (by exact hv_row _) ?_)
          | (go_at_call 49; refine (pop_any _ b V (.int .i64 (l.length : Int)) (stackN ndH (pairsN ndH q')).reverse y w.heap.size (by exact HST2.out) HSL.out).mono ?_; rintro e w5 ⟨rfl, hst5, hg5⟩; have hbox5 := HBX2.out.grown hg5 (by simp <;> omega); have hold5 := HOL2.out.grown hg5 (by omega) (fun k hk => by cases hk; exact .inl rfl); have HS5 := Lib.hid hst5; have HX5 := Lib.hid hbox5; have HL5 := Lib.hid hold5; clear hst5 hbox5 hold5 hg5)
          | (go_at_call 19; refine (node_any y c _ (HG.out.below (HB0.out.trans (HL5.out.old.mono hbb)))).mono ?_; rintro e w6 ⟨rfl, hb6⟩; have hX6 := HX5.out.below hb6 HX5.out.lt; have HX6 := Lib.hid hX6; have HS6 := Lib.hid (HS5.out.keep hb6); have HL6 := Lib.hid (HL5.out.trans (Bes.of hb6 (Nat.le_of_lt HS5.out.lt))); clear hX6 hb6)
          | (refine wpList_store_row rfl 24 (.tmp 3) (.tmp 21) rfl w.heap.size (bytesV (ndH y c).b).toArray rfl rfl 24 (bytesV c.b).toArray (by exact HX6.out) (by exact hv_row _) (by simp [bytesV_len, H.len]) (by exact hv_one _) ?_)
          | fail)
        refine ⟨⟨m / 2, pairsN ndH q', ndH y c, by go_num, HLN.out.symm, by rw [HLN.out]; omega, ⟨HS6.out.row _ hlt (Nat.le_refl _), HX6.out.setRow _, HAD.out.trans HJ.out.sum, HL6.out.row _ (Nat.le_refl _) (by omega)⟩⟩, by simp [intOf]; omega⟩
      · go_wp2_with (first
          | (refine wpList_load_row rfl 24 (.tmp 3) rfl w.heap.size rfl 24 (bytesV c.b).toArray (0, 0) _ (by exact HBX2.out) Tryd.underlying24 rfl (by exact hv_row _) ?_)
          | (go_at_call 49; refine (pop_any _ b V (.int .i64 (l.length : Int)) (stackN ndH (pairsN ndH q')).reverse y w.heap.size (by exact HST2.out) HSL.out).mono ?_; rintro e w5 ⟨rfl, hst5, hg5⟩; have hbox5 := HBX2.out.grown hg5 (by simp <;> omega); have hold5 := HOL2.out.grown hg5 (by omega) (fun k hk => by cases hk; exact .inl rfl); have HS5 := Lib.hid hst5; have HX5 := Lib.hid hbox5; have HL5 := Lib.hid hold5; clear hst5 hbox5 hold5 hg5)
          | (go_at_call 19; refine (node_any y c _ (HG.out.below (HB0.out.trans (HL5.out.old.mono hbb)))).mono ?_; rintro e w6 ⟨rfl, hb6⟩; have hX6 := HX5.out.below hb6 HX5.out.lt; have HX6 := Lib.hid hX6; have HS6 := Lib.hid (HS5.out.keep hb6); have HL6 := Lib.hid (HL5.out.trans (Bes.of hb6 (Nat.le_of_lt HS5.out.lt))); clear hX6 hb6)
          | (refine wpList_store_row rfl 24 (.tmp 3) (.tmp 21) rfl w.heap.size (bytesV (ndH y c).b).toArray rfl rfl 24 (bytesV c.b).toArray (by exact HX6.out) (by exact hv_row _) (by simp [bytesV_len, H.len]) (by exact hv_one _) ?_)
          | fail)
        refine ⟨⟨m / 2, pairsN ndH q', ndH y c, by go_num, HLN.out.symm, by rw [HLN.out]; omega, ⟨HS6.out.row _ hlt (Nat.le_refl _), HX6.out.setRow _, HAD.out.trans HJ.out.sum, HL6.out.row _ (Nat.le_refl _) (by omega)⟩⟩, by simp [intOf]; omega⟩
    · have hpar : ((m : Int) % 2 == 1) = false := by
        rw [beq_eq_false_iff_ne]
        omega
      have hF : (stackN ndH q).reverse ++ [c] = (stackN ndH (l ++ [h])).reverse := by
        rw [stackN_add ndH _ l h rfl, ← HJ.out.sum, addN1_even ndH _ (by rw [← HM.out]; exact ho), List.reverse_cons]
      have HF := Lib.hid hF
      have HSL := Lib.hid (show (stackN ndH q).reverse.length ≤ 1099511627776 by rw [List.length_reverse]; have := stackN_few ndH _ q rfl; omega)
      clear hF
      go_wp2_with fail
      refine wp_region_forced [0, 1, 2] [3, 4] (by kernel_rfl) (by kernel_rfl) (fun _ _ _ d _ h => by cases d <;> exact h) _ _ rfl rfl ?_
      simp only [List.map_cons, List.map_nil, List.getD_cons_succ, List.getD_cons_zero]
      refine wpPure_move _ rfl rfl ?_
      refine wpPure_run (.pointer (some ⟨b, 0, none⟩)) rfl (fun w' => ?_) ?_
      · simp [go_sem, execOp]
      refine wpPure_run (.pointer (some ⟨b, 0, none⟩)) rfl (fun w' => ?_) ?_
      · simp [go_sem, execOp]
      refine wpPure_nil (fun nq => ?_)
      have HST2 := Lib.hid (show St (wr.drewN nq) b V (.int .i64 (l.length : Int)) (stackN ndH q).reverse from HJ.out.st.st)
      have HBX2 := Lib.hid (HJ.out.box.drewN nq)
      have HOL2 := Lib.hid (HJ.out.old.drewN nq)
      go_wp2_with (first
        | (refine wpList_load_row rfl 24 (.tmp 3) rfl w.heap.size rfl 24 (bytesV c.b).toArray (0, 0) _ (by exact HBX2.out) Tryd.underlying24 rfl (by exact hv_row _) ?_)
        | (go_at_call 50; refine (push_any _ b V (.int .i64 (l.length : Int)) (stackN ndH q).reverse c (by exact HST2.out) HSL.out).mono ?_; rintro e w5 ⟨rfl, hst5, hb5⟩; obtain ⟨sv5, hB5⟩ := hst5.blk; have c5 : w5.cell? ⟨b, 1, none⟩ = some (.int .i64 (l.length : Int)) := hB5.cell rfl; have f5 : w5.frozen? ⟨b, 1, none⟩ = false := hB5.frozen 1; have HS5 := Lib.hid hst5; have HL5 := Lib.hid (HOL2.out.trans hb5); clear hst5 hb5 hB5)
        | fail)
      go_end0
      refine ⟨rfl, ?_, HL5.out.set 1 _⟩
      have := HS5.out.num (y := .int .i64 ((l.length : Int) + 1))
      rw [HF.out] at this
      unfold Fr
      rw [List.length_append, List.length_singleton]
      exact this
end Go.Proofs.YtkfplliipogagaaDoor
