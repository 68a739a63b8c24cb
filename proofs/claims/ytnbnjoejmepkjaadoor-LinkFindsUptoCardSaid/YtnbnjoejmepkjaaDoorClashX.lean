/- The walk of Extract's closure: from two lists down to their halves, as long as their texts are the same. The walk of Extract's closure where it goes down. Conditions: what each part says. -/
import Derived.Test.YtnbnjoejmepkjaaDoorClashW
import Derived.Test.YtnbnjoejmepkjaaDoorTreeW
import Derived.Test.YtnbnjoejmepkjaaDoorComesW
/-! ClashF: The walk of Extract's closure: from two lists down to their halves, as long as their texts are the same. Conditions: both lists can be read, as many texts, 1 to 4000, each at most 2^40 bytes; the package's tables read as they are laid. -/
namespace Go.Proofs.YtnbnjoejmepkjaaDoor
open Go.RowKit

def z2V : List Value := [.slice none 0 0, .slice none 0 0]
theorem two_row (x y : Value) : (Tryd.prog.info? 60).map (·.size) = some #[x, y].size := by
  rw [show #[x, y].size = 2 from rfl]
  kernel_rfl
theorem sl_one (a : Option Addr) (n c : Nat) (a' : Option Addr) (n' c' : Nat) : #[Value.slice a n c, Value.slice a' n' c'].all (·.oneCell') = true := by simp [Value.oneCell']
/-- The closure's own world. -/
def extW (w : World) (va vb : Value) : World := (w.alloc (.cells #[va, vb] 60)).alloc (.cells #[.slice none 0 0, .slice none 0 0] 60)
theorem extW_parts (w : World) (va vb : Value) : Below w.heap.size w (extW w va vb) ∧ (extW w va vb).heap.size = w.heap.size + 1 + 1 ∧ Blk (extW w va vb) w.heap.size [va, vb] 60 ∧ Blk (extW w va vb) (w.heap.size + 1) z2V 60 := by
  unfold extW
  refine ⟨by (repeat (first | with_reducible assumption | with_reducible exact Below.refl _ _ | ((with_reducible refine Below.setCell ?_ ?_ _); rotate_left; focus (first | omega | (simp; done) | (simp; omega))) | ((with_reducible refine Below.alloc ?_ ?_ _); rotate_left; focus (first | omega | (simp; done) | (simp; omega))) | ((with_reducible refine below_setRow ?_ ?_ _); rotate_left; focus (first | omega | (simp; done) | (simp; omega))) | (with_reducible refine below_drewN ?_ _) | (with_reducible refine Below.drew ?_))), by simp, ?_, ?_⟩
  · exact (Blk.newL w [va, vb] _).alloc _
  · exact Blk.newL1 w _ z2V _
set_option maxRecDepth 100000 in
set_option maxHeartbeats 2000000 in
theorem ext1_low (va vb : Value) (a b : List (List UInt8)) (xs ys : List Value) (w : World) (ha : Parts w va a xs) (hb : Parts w vb b ys) (h1 : a.length = 1) :
    Calls Tryd.prog 43 #[.agg #[va, vb]] w fun e w' => e = .returned (.tuple #[.agg #[va, vb], .bool false]) ∧ Below w.heap.size w w' := by
  obtain ⟨xa, ca, rfl, _⟩ := ha.sl.form
  obtain ⟨xb, cb, rfl, _⟩ := hb.sl.form
  obtain ⟨hbw, hsz, hB0, hB1⟩ := extW_parts w (.slice xa a.length ca) (.slice xb b.length cb)
  rw [h1] at hbw hB0 hB1 hsz ⊢
  have HB0 := Lib.hid hB0
  have HB1 := Lib.hid hB1
  clear ha hb hB0 hB1
  go_enter Tryd.func43, Tryd.ntmps43
  go_wp2_with fail
  refine wp_region_mono 14 ((extW w (.slice xa 1 ca) (.slice xb b.length cb)).heap.size) [(fun v _ => v = .pointer (some ⟨w.heap.size, 0, none⟩)), (fun v _ => v = .slice xa 1 ca), (fun v _ => v = .int .i64 1), (fun v _ => v = .bool true), (fun v _ => v = .bool true), (fun v _ => v = undef), (fun v _ => v = undef), (fun v _ => v = undef), (fun v _ => v = undef), (fun v _ => v = undef), (fun v _ => v = undef), (fun v _ => v = undef), (fun v _ => v = undef), (fun v _ => v = .bool true)] (by kernel_rfl) (by kernel_rfl) (Nat.le_refl _) ?mkept _ rfl ?mops ?mfin
  case mkept =>
    repeat (refine List.forall_mem_cons.2 ⟨by first | exact fun _ _ _ _ h => h | exact fun _ _ _ hb h => Parts.below h hb | exact fun _ _ _ hb h => IsSl.below h hb, ?_⟩)
    exact fun _ h => by cases h
  case mops =>
    simp only [List.take_succ_cons, List.take_zero, monoAll, List.getD_cons_zero, List.getD_cons_succ]
    iterate 14
    
     (refine ⟨fun x wr hb hd Qg hK => ?_, ?_⟩
      · as_aux_lemma =>
        simp only [fill, Act.put, List.setIfInBounds_toArray, List.set_cons_succ, List.set_cons_zero, needs, Region.binds, List.filter_cons, List.filter_nil, List.map_cons, List.map_nil, if_true, List.mem_cons, List.not_mem_nil, or_false, forall_eq_or_imp, forall_eq, List.getD_cons_zero, List.getD_cons_succ, false_implies, implies_true] at hd hK ⊢
        (try simp only [hd] at hK ⊢)
        first
        | (show wpList _ _ _ [⟨some 6, .load _ _, _, _, _, _⟩] _ _; have c0 := (HB0.out.below hb (by rw [hsz]; omega)).cell (i := 0) rfl; go_wp2_with fail; exact hK _ _ rfl (Below.refl _ _))
        | (go_wp2_with fail; exact hK _ _ rfl (Below.refl _ _)))
    trivial
  case mfin =>
    intro z w9 hb9 hR9
    have x13 := hR9 13 (by decide)
    simp only [List.getD_cons_zero, List.getD_cons_succ] at x13
    have HC0 := Lib.hid (HB0.out.below hb9 (by rw [hsz]; omega))
    have HC1 := Lib.hid (HB1.out.below hb9 (by rw [hsz]; omega))
    have hw9 := hbw.trans (hb9.mono hbw.size)
    clear hR9 hb9
    simp only [List.drop_succ_cons, List.drop_zero]
    generalize List.toArray _ = L0
    simp only [List.take_succ_cons, List.take_zero, List.map_cons, List.map_nil, fill, Act.put, List.setIfInBounds_toArray, List.set_cons_succ, List.set_cons_zero, x13]
    clear x13
    go_wp2_with (first
      | (refine wpList_load_row rfl 60 (.tmp 1) rfl w.heap.size rfl 60 #[.slice xa 1 ca, .slice xb b.length cb] (0, 0) _ (by exact HC0.out) Tryd.underlying60 rfl (by exact two_row _ _) ?_)
      | (refine wpList_store_row rfl 60 (.tmp 2) (.tmp 19) rfl (w.heap.size + 1) #[.slice xa 1 ca, .slice xb b.length cb] rfl rfl 60 z2V.toArray (by exact HC1.out) (by exact two_row _ _) (by rfl) (by exact sl_one _ _ _ _ _ _) ?_)
      | fail)
    exact bodyPost_ret (results_row_tmp (p := 2) (u := 3) rfl _ _ (w.heap.size + 1) 60 #[.slice xa 1 ca, .slice xb b.length cb] (0, 0) _ rfl (HC1.out.setRow [.slice xa 1 ca, .slice xb b.length cb]) Tryd.underlying60 rfl (two_row _ _)) rfl ⟨rfl, below_setRow hw9 (by omega) _⟩
set_option maxRecDepth 100000 in
set_option maxHeartbeats 4000000 in
theorem ext1_diff (va vb : Value) (a b : List (List UInt8)) (xs ys : List Value) (w : World) (ha : Parts w va a xs) (hb : Parts w vb b ys) (h2 : 2 ≤ a.length) (hl : a.length = b.length) (hn : a.length ≤ 4000) (hwa : ∀ t ∈ a, t.length ≤ 35184372088832) (hwb : ∀ t ∈ b, t.length ≤ 35184372088832) (hg : Glob w)
    (hd : textB a ≠ textB b) :
    Calls Tryd.prog 43 #[.agg #[va, vb]] w fun e w' => e = .returned (.tuple #[.agg #[va, vb], .bool false]) ∧ Below w.heap.size w w' := by
  obtain ⟨xa, ca, rfl, _⟩ := ha.sl.form
  obtain ⟨xb, cb, rfl, _⟩ := hb.sl.form
  obtain ⟨n, hn0⟩ : ∃ n, n = a.length := ⟨_, rfl⟩
  obtain ⟨hbw, hsz, hB0, hB1⟩ := extW_parts w (.slice xa n ca) (.slice xb n cb)
  rw [← hl, ← hn0]
  rw [← hl, ← hn0] at hb
  rw [← hn0] at ha
  have HB0 := Lib.hid hB0
  have HB1 := Lib.hid hB1
  have HA := Lib.hid (ha.below hbw)
  have HB := Lib.hid (hb.below hbw)
  have HG := Lib.hid (hg.below hbw)
  have HWA := Lib.hid hwa
  have HWB := Lib.hid hwb
  have HL := Lib.hid hl
  have HN := Lib.hid hn0
  have hne : ((n : Int) == 1) = false := by rw [beq_eq_false_iff_ne]; omega
  have hn2 : 2 ≤ n := by omega
  have hn4 : n ≤ 4000 := by omega
  obtain ⟨T1, hT1⟩ : ∃ T, T = textB a := ⟨_, rfl⟩
  obtain ⟨T2, hT2⟩ : ∃ T, T = textB b := ⟨_, rfl⟩
  have HR := Lib.hid (show (T1 == T2) = false by rw [beq_eq_false_iff_ne, hT1, hT2]; exact hd)
  have HT1 := Lib.hid hT1
  have HT2 := Lib.hid hT2
  clear ha hb hB0 hB1 hg hwa hwb hl hn0 h2 hn hT1 hT2 hd
  go_enter Tryd.func43, Tryd.ntmps43
  go_wp2_with fail
  refine wp_region_mono 14 ((extW w (.slice xa n ca) (.slice xb n cb)).heap.size) [(fun v _ => v = .pointer (some ⟨w.heap.size, 0, none⟩)), (fun v _ => v = .slice xa n ca), (fun v _ => v = .int .i64 n), (fun v _ => v = .bool false), (fun v _ => v = .bool false), (fun v _ => v = .pointer (some ⟨w.heap.size, 0, none⟩)), (fun v _ => v = .slice xa n ca), (fun v w => Bytes w v T1), (fun v _ => v = .pointer (some ⟨w.heap.size, 1, none⟩)), (fun v _ => v = .slice xb n cb), (fun v w => Bytes w v T2), (fun v _ => v = .bool false), (fun v _ => v = .bool true), (fun v _ => v = .bool true)] (by kernel_rfl) (by kernel_rfl) (Nat.le_refl _) ?mkept _ rfl ?mops ?mfin
  case mkept =>
    repeat (refine List.forall_mem_cons.2 ⟨by first | exact fun _ _ _ _ h => h | exact fun _ _ _ hb h => Parts.below h hb | exact fun _ _ _ hb h => IsSl.below h hb, ?_⟩)
    exact fun _ h => by cases h
  case mops =>
    simp only [List.take_succ_cons, List.take_zero, monoAll, List.getD_cons_zero, List.getD_cons_succ]
    iterate 14
    
     (refine ⟨fun x wr hb hd Qg hK => ?_, ?_⟩
      · as_aux_lemma =>
        simp only [fill, Act.put, List.setIfInBounds_toArray, List.set_cons_succ, List.set_cons_zero, needs, Region.binds, List.filter_cons, List.filter_nil, List.map_cons, List.map_nil, if_true, List.mem_cons, List.not_mem_nil, or_false, forall_eq_or_imp, forall_eq, List.getD_cons_zero, List.getD_cons_succ, false_implies, implies_true] at hd hK ⊢
        (try simp only [hd] at hK ⊢)
        first
        | (show wpList _ _ _ [⟨some 6, .load _ _, _, _, _, _⟩] _ _; have c0 := (HB0.out.below hb (by rw [hsz]; omega)).cell (i := 0) rfl; go_wp2_with fail; exact hK _ _ rfl (Below.refl _ _))
        | (show wpList _ _ _ [⟨some 11, .load _ _, _, _, _, _⟩] _ _; have c0 := (HB0.out.below hb (by rw [hsz]; omega)).cell (i := 0) rfl; go_wp2_with fail; exact hK _ _ rfl (Below.refl _ _))
        | (show wpList _ _ _ [⟨some 14, .load _ _, _, _, _, _⟩] _ _; have c0 := (HB0.out.below hb (by rw [hsz]; omega)).cell (i := 1) rfl; go_wp2_with fail; exact hK _ _ rfl (Below.refl _ _))
        | (show wpList _ _ _ [⟨some 12, .call _, _, _, _, _⟩] _ _; go_wp2_with (go_at_call 44; refine (ctext_any _ a xs wr (HA.out.below hb) (by rw [← HN.out]; omega) (by rw [← HN.out]; omega) HWA.out (HG.out.below hb)).mono ?_; rintro e w5 ⟨⟨v5, rfl, hv5⟩, hb5⟩); exact hK _ _ (by rw [HT1.out]; exact hv5) hb5)
        | (show wpList _ _ _ [⟨some 15, .call _, _, _, _, _⟩] _ _; go_wp2_with (go_at_call 44; refine (ctext_any _ b ys wr (HB.out.below hb) (by rw [← HL.out, ← HN.out]; omega) (by rw [← HL.out, ← HN.out]; omega) HWB.out (HG.out.below hb)).mono ?_; rintro e w5 ⟨⟨v5, rfl, hv5⟩, hb5⟩); exact hK _ _ (by rw [HT2.out]; exact hv5) hb5)
        | (show wpList _ _ _ [⟨some 16, .call _, _, _, _, _⟩] _ _; go_wp2_with (go_at_call 32; refine (calls_same (bequal_any (x 7) (x 10) T1 T2 wr (by simp only [hd]) (by simp only [hd]))).mono ?_; rintro e w5 ⟨rfl, hb5⟩); exact hK _ _ (by rw [HR.out]) hb5)
        | (go_wp2_with fail; exact hK _ _ rfl (Below.refl _ _)))
    trivial
  case mfin =>
    intro z w9 hb9 hR9
    have x13 := hR9 13 (by decide)
    simp only [List.getD_cons_zero, List.getD_cons_succ] at x13
    have HC0 := Lib.hid (HB0.out.below hb9 (by rw [hsz]; omega))
    have HC1 := Lib.hid (HB1.out.below hb9 (by rw [hsz]; omega))
    have hw9 := hbw.trans (hb9.mono hbw.size)
    have hs9 := hw9.size
    have hb9' := Lib.hid hb9
    clear hR9 hb9
    simp only [List.drop_succ_cons, List.drop_zero]
    generalize List.toArray _ = L0
    simp only [List.take_succ_cons, List.take_zero, List.map_cons, List.map_nil, fill, Act.put, List.setIfInBounds_toArray, List.set_cons_succ, List.set_cons_zero, x13]
    clear x13
    go_wp2_with (first
      | (refine wpList_load_row rfl 60 (.tmp 1) rfl w.heap.size rfl 60 #[.slice xa n ca, .slice xb n cb] (0, 0) _ (by exact HC0.out) Tryd.underlying60 rfl (by exact two_row _ _) ?_)
      | (refine wpList_store_row rfl 60 (.tmp 2) (.tmp 19) rfl (w.heap.size + 1) #[.slice xa n ca, .slice xb n cb] rfl rfl 60 z2V.toArray (by exact HC1.out) (by exact two_row _ _) (by rfl) (by exact sl_one _ _ _ _ _ _) ?_)
      | fail)
    exact bodyPost_ret (results_row_tmp (p := 2) (u := 3) rfl _ _ (w.heap.size + 1) 60 #[.slice xa n ca, .slice xb n cb] (0, 0) _ rfl (HC1.out.setRow [.slice xa n ca, .slice xb n cb]) Tryd.underlying60 rfl (two_row _ _)) rfl ⟨rfl, below_setRow hw9 (by omega) _⟩
end Go.Proofs.YtnbnjoejmepkjaaDoor

/-! ClashG: The walk of Extract's closure where it goes down. Conditions: both lists can be read, as many texts, 2 to 4000, each at most 2^40 bytes; the package's tables read as they are laid. -/
namespace Go.Proofs.YtnbnjoejmepkjaaDoor
open Go.RowKit

set_option maxRecDepth 100000 in
set_option maxHeartbeats 4000000 in
theorem ext1_left (va vb : Value) (a b : List (List UInt8)) (xs ys : List Value) (w0 w : World) (h0 : Below w0.heap.size w0 w) (ha0 : Parts w0 va a xs) (hb0 : Parts w0 vb b ys) (h2 : 2 ≤ a.length) (hl : a.length = b.length) (hn : a.length ≤ 4000) (hwa : ∀ t ∈ a, t.length ≤ 35184372088832) (hwb : ∀ t ∈ b, t.length ≤ 35184372088832) (hg : Glob w)
    (ht : textB a = textB b) (hs : a.take (splitN a.length) ≠ b.take (splitN a.length)) :
    Calls Tryd.prog 43 #[.agg #[va, vb]] w fun e w' => (∃ v1 v2 xs' ys', e = .returned (.tuple #[.agg #[v1, v2], .bool true]) ∧ Parts w0 v1 (a.take (splitN a.length)) xs' ∧ Parts w0 v2 (b.take (splitN a.length)) ys') ∧ Below w.heap.size w w' := by
  have ha := ha0.below h0
  have hb := hb0.below h0
  obtain ⟨xa, ca, rfl, _⟩ := ha.sl.form
  obtain ⟨xb, cb, rfl, _⟩ := hb.sl.form
  obtain ⟨n, hn0⟩ : ∃ n, n = a.length := ⟨_, rfl⟩
  obtain ⟨hbw, hsz, hB0, hB1⟩ := extW_parts w (.slice xa n ca) (.slice xb n cb)
  rw [← hl, ← hn0]
  rw [← hl, ← hn0] at hb hb0
  rw [← hn0] at ha ha0
  have HB0 := Lib.hid hB0
  have HB1 := Lib.hid hB1
  have HA := Lib.hid (ha.below hbw)
  have HB := Lib.hid (hb.below hbw)
  have HG := Lib.hid (hg.below hbw)
  have HWA := Lib.hid hwa
  have HWB := Lib.hid hwb
  have HL := Lib.hid hl
  have HN := Lib.hid hn0
  have hne : ((n : Int) == 1) = false := by rw [beq_eq_false_iff_ne]; omega
  have hn2 : 2 ≤ n := by omega
  have hn4 : n ≤ 4000 := by omega
  obtain ⟨T1, hT1⟩ : ∃ T, T = textB a := ⟨_, rfl⟩
  obtain ⟨T2, hT2⟩ : ∃ T, T = textB b := ⟨_, rfl⟩
  have HR := Lib.hid (show (T1 == T2) = true by rw [hT1, hT2, ht]; simp)
  obtain ⟨k, hk⟩ : ∃ k, k = splitN n := ⟨_, rfl⟩
  have hlt := splitN_lt n hn2
  have hpos := splitN_pos n hn2
  rw [← hk] at hlt hpos
  rw [← hn0, ← hk] at hs
  rw [← hk]
  have HK := Lib.hid hk
  obtain ⟨a1, d1, hs1, hp1⟩ := parts_head ha0 k (by omega)
  obtain ⟨a2, d2, hs2, hp2⟩ := parts_head hb0 k (by omega)
  obtain ⟨a3, d3, hs3, hp3⟩ := parts_tail ha0 k (by omega)
  obtain ⟨a4, d4, hs4, hp4⟩ := parts_tail hb0 k (by omega)
  rw [← hn0] at hs3 hp3
  rw [← hl, ← hn0] at hs4 hp4
  have HE := Lib.hid (show (a.take k == b.take k) = false by rw [beq_eq_false_iff_ne]; exact hs)
  have HP1 := Lib.hid ((hp1.below h0).below hbw)
  have HV1 := Lib.hid hp1
  have HP2 := Lib.hid ((hp2.below h0).below hbw)
  have HV2 := Lib.hid hp2
  have HP3 := Lib.hid ((hp3.below h0).below hbw)
  have HV3 := Lib.hid hp3
  have HP4 := Lib.hid ((hp4.below h0).below hbw)
  have HV4 := Lib.hid hp4
  have HT1 := Lib.hid hT1
  have HT2 := Lib.hid hT2
  clear ha hb ha0 hb0 hB0 hB1 hg hwa hwb hl hn0 h2 hn hT1 hT2 ht hs hk hp1 hp2 hp3 hp4
  go_enter Tryd.func43, Tryd.ntmps43
  go_wp2_with fail
  refine wp_region_mono 14 ((extW w (.slice xa n ca) (.slice xb n cb)).heap.size) [(fun v _ => v = .pointer (some ⟨w.heap.size, 0, none⟩)), (fun v _ => v = .slice xa n ca), (fun v _ => v = .int .i64 n), (fun v _ => v = .bool false), (fun v _ => v = .bool false), (fun v _ => v = .pointer (some ⟨w.heap.size, 0, none⟩)), (fun v _ => v = .slice xa n ca), (fun v w => Bytes w v T1), (fun v _ => v = .pointer (some ⟨w.heap.size, 1, none⟩)), (fun v _ => v = .slice xb n cb), (fun v w => Bytes w v T2), (fun v _ => v = .bool true), (fun v _ => v = .bool false), (fun v _ => v = .bool false)] (by kernel_rfl) (by kernel_rfl) (Nat.le_refl _) ?mkept _ rfl ?mops ?mfin
  case mkept =>
    repeat (refine List.forall_mem_cons.2 ⟨by first | exact fun _ _ _ _ h => h | exact fun _ _ _ hb h => Parts.below h hb | exact fun _ _ _ hb h => IsSl.below h hb, ?_⟩)
    exact fun _ h => by cases h
  case mops =>
    simp only [List.take_succ_cons, List.take_zero, monoAll, List.getD_cons_zero, List.getD_cons_succ]
    iterate 14
    
     (refine ⟨fun x wr hb hd Qg hK => ?_, ?_⟩
      · as_aux_lemma =>
        simp only [fill, Act.put, List.setIfInBounds_toArray, List.set_cons_succ, List.set_cons_zero, needs, Region.binds, List.filter_cons, List.filter_nil, List.map_cons, List.map_nil, if_true, List.mem_cons, List.not_mem_nil, or_false, forall_eq_or_imp, forall_eq, List.getD_cons_zero, List.getD_cons_succ, false_implies, implies_true] at hd hK ⊢
        (try simp only [hd] at hK ⊢)
        first
        | (show wpList _ _ _ [⟨some 6, .load _ _, _, _, _, _⟩] _ _; have c0 := (HB0.out.below hb (by rw [hsz]; omega)).cell (i := 0) rfl; go_wp2_with fail; exact hK _ _ rfl (Below.refl _ _))
        | (show wpList _ _ _ [⟨some 11, .load _ _, _, _, _, _⟩] _ _; have c0 := (HB0.out.below hb (by rw [hsz]; omega)).cell (i := 0) rfl; go_wp2_with fail; exact hK _ _ rfl (Below.refl _ _))
        | (show wpList _ _ _ [⟨some 14, .load _ _, _, _, _, _⟩] _ _; have c0 := (HB0.out.below hb (by rw [hsz]; omega)).cell (i := 1) rfl; go_wp2_with fail; exact hK _ _ rfl (Below.refl _ _))
        | (show wpList _ _ _ [⟨some 12, .call _, _, _, _, _⟩] _ _; go_wp2_with (go_at_call 44; refine (ctext_any _ a xs wr (HA.out.below hb) (by rw [← HN.out]; omega) (by rw [← HN.out]; omega) HWA.out (HG.out.below hb)).mono ?_; rintro e w5 ⟨⟨v5, rfl, hv5⟩, hb5⟩); exact hK _ _ (by rw [HT1.out]; exact hv5) hb5)
        | (show wpList _ _ _ [⟨some 15, .call _, _, _, _, _⟩] _ _; go_wp2_with (go_at_call 44; refine (ctext_any _ b ys wr (HB.out.below hb) (by rw [← HL.out, ← HN.out]; omega) (by rw [← HL.out, ← HN.out]; omega) HWB.out (HG.out.below hb)).mono ?_; rintro e w5 ⟨⟨v5, rfl, hv5⟩, hb5⟩); exact hK _ _ (by rw [HT2.out]; exact hv5) hb5)
        | (show wpList _ _ _ [⟨some 16, .call _, _, _, _, _⟩] _ _; go_wp2_with (go_at_call 32; refine (calls_same (bequal_any (x 7) (x 10) T1 T2 wr (by simp only [hd]) (by simp only [hd]))).mono ?_; rintro e w5 ⟨rfl, hb5⟩); exact hK _ _ (by rw [HR.out]) hb5)
        | (go_wp2_with fail; exact hK _ _ rfl (Below.refl _ _)))
    trivial
  case mfin =>
    intro z w9 hb9 hR9
    have x13 := hR9 13 (by decide)
    simp only [List.getD_cons_zero, List.getD_cons_succ] at x13
    have HC0 := Lib.hid (HB0.out.below hb9 (by rw [hsz]; omega))
    have HC1 := Lib.hid (HB1.out.below hb9 (by rw [hsz]; omega))
    have hw9 := hbw.trans (hb9.mono hbw.size)
    have hs9 := hw9.size
    have hb9' := Lib.hid hb9
    clear hR9 hb9
    simp only [List.drop_succ_cons, List.drop_zero]
    generalize List.toArray _ = L0
    simp only [List.take_succ_cons, List.take_zero, List.map_cons, List.map_nil, fill, Act.put, List.setIfInBounds_toArray, List.set_cons_succ, List.set_cons_zero, x13]
    clear x13
    have hlt9 := HC1.out.lt
    have c0 := HC0.out.cell (i := 0) rfl
    go_wp2_with (first
      | (go_at_call 37; refine (split_any n _ (by omega)).mono ?_; rintro e w2 ⟨rfl, h2⟩; rw [h2, ← HK.out]; clear h2 w2)
      | fail)
    clear c0
    refine wp_region_mono 10 (w9.heap.size) [(fun v _ => v = .pointer (some ⟨w.heap.size, 0, none⟩)), (fun v _ => v = .slice xa n ca), (fun v _ => v = .int .i64 k), (fun v _ => v = .slice a1 k d1), (fun v _ => v = .pointer (some ⟨w.heap.size, 1, none⟩)), (fun v _ => v = .slice xb n cb), (fun v _ => v = .int .i64 k), (fun v _ => v = .slice a2 k d2), (fun v _ => v = .bool false), (fun v _ => v = .bool true)] (by kernel_rfl) (by kernel_rfl) (Nat.le_refl _) ?mkept _ rfl ?mops ?mfin
    case mkept =>
      repeat (refine List.forall_mem_cons.2 ⟨by first | exact fun _ _ _ _ h => h | exact fun _ _ _ hb h => Parts.below h hb | exact fun _ _ _ hb h => IsSl.below h hb, ?_⟩)
      exact fun _ h => by cases h
    case mops =>
      simp only [List.take_succ_cons, List.take_zero, monoAll, List.getD_cons_zero, List.getD_cons_succ]
      iterate 10
      
       (refine ⟨fun x wr hb hd Qg hK => ?_, ?_⟩
        · as_aux_lemma =>
          simp only [fill, Act.put, List.setIfInBounds_toArray, List.set_cons_succ, List.set_cons_zero, needs, Region.binds, List.filter_cons, List.filter_nil, List.map_cons, List.map_nil, if_true, List.mem_cons, List.not_mem_nil, or_false, forall_eq_or_imp, forall_eq, List.getD_cons_zero, List.getD_cons_succ, false_implies, implies_true] at hd hK ⊢
          (try simp only [hd] at hK ⊢)
          first
          | (show wpList _ _ _ [⟨some 25, .load _ _, _, _, _, _⟩] _ _; have c0 := (HC0.out.below hb (by omega)).cell (i := 0) rfl; go_wp2_with fail; exact hK _ _ rfl (Below.refl _ _))
          | (show wpList _ _ _ [⟨some 29, .load _ _, _, _, _, _⟩] _ _; have c0 := (HC0.out.below hb (by omega)).cell (i := 1) rfl; go_wp2_with fail; exact hK _ _ rfl (Below.refl _ _))
          | (show wpList _ _ _ [⟨some 32, .call _, _, _, _, _⟩] _ _; go_wp2_with (go_at_call 31; refine (calls_same (eqfunc_any _ _ (a.take k) (b.take k) _ _ wr ((HP1.out.below hb9'.out).below hb) ((HP2.out.below hb9'.out).below hb) (by rw [List.length_take, ← HN.out]; omega))).mono ?_; rintro e w5 ⟨rfl, hb5⟩); exact hK _ _ (by rw [HE.out]) hb5)
          | (go_wp2_with fail; exact hK _ _ rfl (Below.refl _ _)))
      trivial
    case mfin =>
      intro z w8 hb8 hR8
      have x9 := hR8 9 (by decide)
      simp only [List.getD_cons_zero, List.getD_cons_succ] at x9
      have HD0 := Lib.hid (HC0.out.below hb8 (by omega))
      have HD1 := Lib.hid (HC1.out.below hb8 (by omega))
      have hw8 := hw9.trans (hb8.mono hw9.size)
      have hs8 := hw8.size
      have hlt8 := HD1.out.lt
      clear hR8 hb8 hw9
      simp only [List.drop_succ_cons, List.drop_zero]
      generalize List.toArray _ = L0
      simp only [List.take_succ_cons, List.take_zero, List.map_cons, List.map_nil, fill, Act.put, List.setIfInBounds_toArray, List.set_cons_succ, List.set_cons_zero, x9]
      clear x9
      go_wp2_with fail
      refine wp_region_mono 9 (w8.heap.size) [(fun v _ => v = .pointer (some ⟨w.heap.size, 0, none⟩)), (fun v _ => v = .slice xa n ca), (fun v _ => v = .int .i64 k), (fun v _ => v = .slice a1 k d1), (fun v _ => v = .pointer (some ⟨w.heap.size, 1, none⟩)), (fun v _ => v = .slice xb n cb), (fun v _ => v = .int .i64 k), (fun v _ => v = .slice a2 k d2), (fun v _ => v = .agg #[.slice a1 k d1, .slice a2 k d2])] (by kernel_rfl) (by kernel_rfl) (Nat.le_refl _) ?mkept _ rfl ?mops ?mfin
      case mkept =>
        repeat (refine List.forall_mem_cons.2 ⟨by first | exact fun _ _ _ _ h => h | exact fun _ _ _ hb h => Parts.below h hb | exact fun _ _ _ hb h => IsSl.below h hb, ?_⟩)
        exact fun _ h => by cases h
      case mops =>
        simp only [List.take_succ_cons, List.take_zero, monoAll, List.getD_cons_zero, List.getD_cons_succ]
        iterate 9
        
         (refine ⟨fun x wr hb hd Qg hK => ?_, ?_⟩
          · as_aux_lemma =>
            simp only [fill, Act.put, List.setIfInBounds_toArray, List.set_cons_succ, List.set_cons_zero, needs, Region.binds, List.filter_cons, List.filter_nil, List.map_cons, List.map_nil, if_true, List.mem_cons, List.not_mem_nil, or_false, forall_eq_or_imp, forall_eq, List.getD_cons_zero, List.getD_cons_succ, false_implies, implies_true] at hd hK ⊢
            (try simp only [hd] at hK ⊢)
            first
            | (show wpList _ _ _ [⟨some 35, .load _ _, _, _, _, _⟩] _ _; have c0 := (HD0.out.below hb (by omega)).cell (i := 0) rfl; go_wp2_with fail; exact hK _ _ rfl (Below.refl _ _))
            | (show wpList _ _ _ [⟨some 39, .load _ _, _, _, _, _⟩] _ _; have c0 := (HD0.out.below hb (by omega)).cell (i := 1) rfl; go_wp2_with fail; exact hK _ _ rfl (Below.refl _ _))
            | (go_wp2_with fail; exact hK _ _ rfl (Below.refl _ _)))
        trivial
      case mfin =>
        intro z w7 hb7 hR7
        have x8 := hR7 8 (by decide)
        simp only [List.getD_cons_zero, List.getD_cons_succ] at x8
        have HE1 := Lib.hid (HD1.out.below hb7 (by omega))
        have hw7 := hw8.trans (hb7.mono hw8.size)
        clear hR7 hb7
        simp only [List.drop_succ_cons, List.drop_zero]
        generalize List.toArray _ = L0
        simp only [List.take_succ_cons, List.take_zero, List.map_cons, List.map_nil, fill, Act.put, List.setIfInBounds_toArray, List.set_cons_succ, List.set_cons_zero, x8]
        clear x8
        go_wp2_with (first
          | (refine wpList_store_row rfl 60 (.tmp 2) (.tmp 42) rfl (w.heap.size + 1) #[.slice a1 k d1, .slice a2 k d2] rfl rfl 60 z2V.toArray (by exact HE1.out) (by exact two_row _ _) (by rfl) (by exact sl_one _ _ _ _ _ _) ?_)
          | fail)
        exact bodyPost_ret (results_row_tmp (p := 2) (u := 3) rfl _ _ (w.heap.size + 1) 60 #[.slice a1 k d1, .slice a2 k d2] (0, 0) _ rfl (HE1.out.setRow [.slice a1 k d1, .slice a2 k d2]) Tryd.underlying60 rfl (two_row _ _)) rfl ⟨⟨_, _, _, _, rfl, HV1.out, HV2.out⟩, below_setRow hw7 (by omega) _⟩
set_option maxRecDepth 100000 in
set_option maxHeartbeats 4000000 in
theorem ext1_right (va vb : Value) (a b : List (List UInt8)) (xs ys : List Value) (w0 w : World) (h0 : Below w0.heap.size w0 w) (ha0 : Parts w0 va a xs) (hb0 : Parts w0 vb b ys) (h2 : 2 ≤ a.length) (hl : a.length = b.length) (hn : a.length ≤ 4000) (hwa : ∀ t ∈ a, t.length ≤ 35184372088832) (hwb : ∀ t ∈ b, t.length ≤ 35184372088832) (hg : Glob w)
    (ht : textB a = textB b) (hs : a.take (splitN a.length) = b.take (splitN a.length)) :
    Calls Tryd.prog 43 #[.agg #[va, vb]] w fun e w' => (∃ v1 v2 xs' ys', e = .returned (.tuple #[.agg #[v1, v2], .bool true]) ∧ Parts w0 v1 (a.drop (splitN a.length)) xs' ∧ Parts w0 v2 (b.drop (splitN a.length)) ys') ∧ Below w.heap.size w w' := by
  have ha := ha0.below h0
  have hb := hb0.below h0
  obtain ⟨xa, ca, rfl, _⟩ := ha.sl.form
  obtain ⟨xb, cb, rfl, _⟩ := hb.sl.form
  obtain ⟨n, hn0⟩ : ∃ n, n = a.length := ⟨_, rfl⟩
  obtain ⟨hbw, hsz, hB0, hB1⟩ := extW_parts w (.slice xa n ca) (.slice xb n cb)
  rw [← hl, ← hn0]
  rw [← hl, ← hn0] at hb hb0
  rw [← hn0] at ha ha0
  have HB0 := Lib.hid hB0
  have HB1 := Lib.hid hB1
  have HA := Lib.hid (ha.below hbw)
  have HB := Lib.hid (hb.below hbw)
  have HG := Lib.hid (hg.below hbw)
  have HWA := Lib.hid hwa
  have HWB := Lib.hid hwb
  have HL := Lib.hid hl
  have HN := Lib.hid hn0
  have hne : ((n : Int) == 1) = false := by rw [beq_eq_false_iff_ne]; omega
  have hn2 : 2 ≤ n := by omega
  have hn4 : n ≤ 4000 := by omega
  obtain ⟨T1, hT1⟩ : ∃ T, T = textB a := ⟨_, rfl⟩
  obtain ⟨T2, hT2⟩ : ∃ T, T = textB b := ⟨_, rfl⟩
  have HR := Lib.hid (show (T1 == T2) = true by rw [hT1, hT2, ht]; simp)
  obtain ⟨k, hk⟩ : ∃ k, k = splitN n := ⟨_, rfl⟩
  have hlt := splitN_lt n hn2
  have hpos := splitN_pos n hn2
  rw [← hk] at hlt hpos
  rw [← hn0, ← hk] at hs
  rw [← hk]
  have HK := Lib.hid hk
  obtain ⟨a1, d1, hs1, hp1⟩ := parts_head ha0 k (by omega)
  obtain ⟨a2, d2, hs2, hp2⟩ := parts_head hb0 k (by omega)
  obtain ⟨a3, d3, hs3, hp3⟩ := parts_tail ha0 k (by omega)
  obtain ⟨a4, d4, hs4, hp4⟩ := parts_tail hb0 k (by omega)
  rw [← hn0] at hs3 hp3
  rw [← hl, ← hn0] at hs4 hp4
  have HE := Lib.hid (show (a.take k == b.take k) = true by rw [hs]; simp)
  have HP1 := Lib.hid ((hp1.below h0).below hbw)
  have HV1 := Lib.hid hp1
  have HP2 := Lib.hid ((hp2.below h0).below hbw)
  have HV2 := Lib.hid hp2
  have HP3 := Lib.hid ((hp3.below h0).below hbw)
  have HV3 := Lib.hid hp3
  have HP4 := Lib.hid ((hp4.below h0).below hbw)
  have HV4 := Lib.hid hp4
  have HT1 := Lib.hid hT1
  have HT2 := Lib.hid hT2
  clear ha hb ha0 hb0 hB0 hB1 hg hwa hwb hl hn0 h2 hn hT1 hT2 ht hs hk hp1 hp2 hp3 hp4
  go_enter Tryd.func43, Tryd.ntmps43
  go_wp2_with fail
  refine wp_region_mono 14 ((extW w (.slice xa n ca) (.slice xb n cb)).heap.size) [(fun v _ => v = .pointer (some ⟨w.heap.size, 0, none⟩)), (fun v _ => v = .slice xa n ca), (fun v _ => v = .int .i64 n), (fun v _ => v = .bool false), (fun v _ => v = .bool false), (fun v _ => v = .pointer (some ⟨w.heap.size, 0, none⟩)), (fun v _ => v = .slice xa n ca), (fun v w => Bytes w v T1), (fun v _ => v = .pointer (some ⟨w.heap.size, 1, none⟩)), (fun v _ => v = .slice xb n cb), (fun v w => Bytes w v T2), (fun v _ => v = .bool true), (fun v _ => v = .bool false), (fun v _ => v = .bool false)] (by kernel_rfl) (by kernel_rfl) (Nat.le_refl _) ?mkept _ rfl ?mops ?mfin
  case mkept =>
    repeat (refine List.forall_mem_cons.2 ⟨by first | exact fun _ _ _ _ h => h | exact fun _ _ _ hb h => Parts.below h hb | exact fun _ _ _ hb h => IsSl.below h hb, ?_⟩)
    exact fun _ h => by cases h
  case mops =>
    simp only [List.take_succ_cons, List.take_zero, monoAll, List.getD_cons_zero, List.getD_cons_succ]
    iterate 14
    
     (refine ⟨fun x wr hb hd Qg hK => ?_, ?_⟩
      · as_aux_lemma =>
        simp only [fill, Act.put, List.setIfInBounds_toArray, List.set_cons_succ, List.set_cons_zero, needs, Region.binds, List.filter_cons, List.filter_nil, List.map_cons, List.map_nil, if_true, List.mem_cons, List.not_mem_nil, or_false, forall_eq_or_imp, forall_eq, List.getD_cons_zero, List.getD_cons_succ, false_implies, implies_true] at hd hK ⊢
        (try simp only [hd] at hK ⊢)
        first
        | (show wpList _ _ _ [⟨some 6, .load _ _, _, _, _, _⟩] _ _; have c0 := (HB0.out.below hb (by rw [hsz]; omega)).cell (i := 0) rfl; go_wp2_with fail; exact hK _ _ rfl (Below.refl _ _))
        | (show wpList _ _ _ [⟨some 11, .load _ _, _, _, _, _⟩] _ _; have c0 := (HB0.out.below hb (by rw [hsz]; omega)).cell (i := 0) rfl; go_wp2_with fail; exact hK _ _ rfl (Below.refl _ _))
        | (show wpList _ _ _ [⟨some 14, .load _ _, _, _, _, _⟩] _ _; have c0 := (HB0.out.below hb (by rw [hsz]; omega)).cell (i := 1) rfl; go_wp2_with fail; exact hK _ _ rfl (Below.refl _ _))
        | (show wpList _ _ _ [⟨some 12, .call _, _, _, _, _⟩] _ _; go_wp2_with (go_at_call 44; refine (ctext_any _ a xs wr (HA.out.below hb) (by rw [← HN.out]; omega) (by rw [← HN.out]; omega) HWA.out (HG.out.below hb)).mono ?_; rintro e w5 ⟨⟨v5, rfl, hv5⟩, hb5⟩); exact hK _ _ (by rw [HT1.out]; exact hv5) hb5)
        | (show wpList _ _ _ [⟨some 15, .call _, _, _, _, _⟩] _ _; go_wp2_with (go_at_call 44; refine (ctext_any _ b ys wr (HB.out.below hb) (by rw [← HL.out, ← HN.out]; omega) (by rw [← HL.out, ← HN.out]; omega) HWB.out (HG.out.below hb)).mono ?_; rintro e w5 ⟨⟨v5, rfl, hv5⟩, hb5⟩); exact hK _ _ (by rw [HT2.out]; exact hv5) hb5)
        | (show wpList _ _ _ [⟨some 16, .call _, _, _, _, _⟩] _ _; go_wp2_with (go_at_call 32; refine (calls_same (bequal_any (x 7) (x 10) T1 T2 wr (by simp only [hd]) (by simp only [hd]))).mono ?_; rintro e w5 ⟨rfl, hb5⟩); exact hK _ _ (by rw [HR.out]) hb5)
        | (go_wp2_with fail; exact hK _ _ rfl (Below.refl _ _)))
    trivial
  case mfin =>
    intro z w9 hb9 hR9
    have x13 := hR9 13 (by decide)
    simp only [List.getD_cons_zero, List.getD_cons_succ] at x13
    have HC0 := Lib.hid (HB0.out.below hb9 (by rw [hsz]; omega))
    have HC1 := Lib.hid (HB1.out.below hb9 (by rw [hsz]; omega))
    have hw9 := hbw.trans (hb9.mono hbw.size)
    have hs9 := hw9.size
    have hb9' := Lib.hid hb9
    clear hR9 hb9
    simp only [List.drop_succ_cons, List.drop_zero]
    generalize List.toArray _ = L0
    simp only [List.take_succ_cons, List.take_zero, List.map_cons, List.map_nil, fill, Act.put, List.setIfInBounds_toArray, List.set_cons_succ, List.set_cons_zero, x13]
    clear x13
    have hlt9 := HC1.out.lt
    have c0 := HC0.out.cell (i := 0) rfl
    go_wp2_with (first
      | (go_at_call 37; refine (split_any n _ (by omega)).mono ?_; rintro e w2 ⟨rfl, h2⟩; rw [h2, ← HK.out]; clear h2 w2)
      | fail)
    clear c0
    refine wp_region_mono 10 (w9.heap.size) [(fun v _ => v = .pointer (some ⟨w.heap.size, 0, none⟩)), (fun v _ => v = .slice xa n ca), (fun v _ => v = .int .i64 k), (fun v _ => v = .slice a1 k d1), (fun v _ => v = .pointer (some ⟨w.heap.size, 1, none⟩)), (fun v _ => v = .slice xb n cb), (fun v _ => v = .int .i64 k), (fun v _ => v = .slice a2 k d2), (fun v _ => v = .bool true), (fun v _ => v = .bool false)] (by kernel_rfl) (by kernel_rfl) (Nat.le_refl _) ?mkept _ rfl ?mops ?mfin
    case mkept =>
      repeat (refine List.forall_mem_cons.2 ⟨by first | exact fun _ _ _ _ h => h | exact fun _ _ _ hb h => Parts.below h hb | exact fun _ _ _ hb h => IsSl.below h hb, ?_⟩)
      exact fun _ h => by cases h
    case mops =>
      simp only [List.take_succ_cons, List.take_zero, monoAll, List.getD_cons_zero, List.getD_cons_succ]
      iterate 10
      
       (refine ⟨fun x wr hb hd Qg hK => ?_, ?_⟩
        · as_aux_lemma =>
          simp only [fill, Act.put, List.setIfInBounds_toArray, List.set_cons_succ, List.set_cons_zero, needs, Region.binds, List.filter_cons, List.filter_nil, List.map_cons, List.map_nil, if_true, List.mem_cons, List.not_mem_nil, or_false, forall_eq_or_imp, forall_eq, List.getD_cons_zero, List.getD_cons_succ, false_implies, implies_true] at hd hK ⊢
          (try simp only [hd] at hK ⊢)
          first
          | (show wpList _ _ _ [⟨some 25, .load _ _, _, _, _, _⟩] _ _; have c0 := (HC0.out.below hb (by omega)).cell (i := 0) rfl; go_wp2_with fail; exact hK _ _ rfl (Below.refl _ _))
          | (show wpList _ _ _ [⟨some 29, .load _ _, _, _, _, _⟩] _ _; have c0 := (HC0.out.below hb (by omega)).cell (i := 1) rfl; go_wp2_with fail; exact hK _ _ rfl (Below.refl _ _))
          | (show wpList _ _ _ [⟨some 32, .call _, _, _, _, _⟩] _ _; go_wp2_with (go_at_call 31; refine (calls_same (eqfunc_any _ _ (a.take k) (b.take k) _ _ wr ((HP1.out.below hb9'.out).below hb) ((HP2.out.below hb9'.out).below hb) (by rw [List.length_take, ← HN.out]; omega))).mono ?_; rintro e w5 ⟨rfl, hb5⟩); exact hK _ _ (by rw [HE.out]) hb5)
          | (go_wp2_with fail; exact hK _ _ rfl (Below.refl _ _)))
      trivial
    case mfin =>
      intro z w8 hb8 hR8
      have x9 := hR8 9 (by decide)
      simp only [List.getD_cons_zero, List.getD_cons_succ] at x9
      have HD0 := Lib.hid (HC0.out.below hb8 (by omega))
      have HD1 := Lib.hid (HC1.out.below hb8 (by omega))
      have hw8 := hw9.trans (hb8.mono hw9.size)
      have hs8 := hw8.size
      have hlt8 := HD1.out.lt
      clear hR8 hb8 hw9
      simp only [List.drop_succ_cons, List.drop_zero]
      generalize List.toArray _ = L0
      simp only [List.take_succ_cons, List.take_zero, List.map_cons, List.map_nil, fill, Act.put, List.setIfInBounds_toArray, List.set_cons_succ, List.set_cons_zero, x9]
      clear x9
      go_wp2_with fail
      refine wp_region_mono 9 (w8.heap.size) [(fun v _ => v = .pointer (some ⟨w.heap.size, 0, none⟩)), (fun v _ => v = .slice xa n ca), (fun v _ => v = .int .i64 k), (fun v _ => v = .slice a3 (n - k) d3), (fun v _ => v = .pointer (some ⟨w.heap.size, 1, none⟩)), (fun v _ => v = .slice xb n cb), (fun v _ => v = .int .i64 k), (fun v _ => v = .slice a4 (n - k) d4), (fun v _ => v = .agg #[.slice a3 (n - k) d3, .slice a4 (n - k) d4])] (by kernel_rfl) (by kernel_rfl) (Nat.le_refl _) ?mkept _ rfl ?mops ?mfin
      case mkept =>
        repeat (refine List.forall_mem_cons.2 ⟨by first | exact fun _ _ _ _ h => h | exact fun _ _ _ hb h => Parts.below h hb | exact fun _ _ _ hb h => IsSl.below h hb, ?_⟩)
        exact fun _ h => by cases h
      case mops =>
        simp only [List.take_succ_cons, List.take_zero, monoAll, List.getD_cons_zero, List.getD_cons_succ]
        iterate 9
        
         (refine ⟨fun x wr hb hd Qg hK => ?_, ?_⟩
          · as_aux_lemma =>
            simp only [fill, Act.put, List.setIfInBounds_toArray, List.set_cons_succ, List.set_cons_zero, needs, Region.binds, List.filter_cons, List.filter_nil, List.map_cons, List.map_nil, if_true, List.mem_cons, List.not_mem_nil, or_false, forall_eq_or_imp, forall_eq, List.getD_cons_zero, List.getD_cons_succ, false_implies, implies_true] at hd hK ⊢
            (try simp only [hd] at hK ⊢)
            first
            | (show wpList _ _ _ [⟨some 44, .load _ _, _, _, _, _⟩] _ _; have c0 := (HD0.out.below hb (by omega)).cell (i := 0) rfl; go_wp2_with fail; exact hK _ _ rfl (Below.refl _ _))
            | (show wpList _ _ _ [⟨some 48, .load _ _, _, _, _, _⟩] _ _; have c0 := (HD0.out.below hb (by omega)).cell (i := 1) rfl; go_wp2_with fail; exact hK _ _ rfl (Below.refl _ _))
            | (go_wp2_with fail; exact hK _ _ rfl (Below.refl _ _)))
        trivial
      case mfin =>
        intro z w7 hb7 hR7
        have x8 := hR7 8 (by decide)
        simp only [List.getD_cons_zero, List.getD_cons_succ] at x8
        have HE1 := Lib.hid (HD1.out.below hb7 (by omega))
        have hw7 := hw8.trans (hb7.mono hw8.size)
        clear hR7 hb7
        simp only [List.drop_succ_cons, List.drop_zero]
        generalize List.toArray _ = L0
        simp only [List.take_succ_cons, List.take_zero, List.map_cons, List.map_nil, fill, Act.put, List.setIfInBounds_toArray, List.set_cons_succ, List.set_cons_zero, x8]
        clear x8
        go_wp2_with (first
          | (refine wpList_store_row rfl 60 (.tmp 2) (.tmp 51) rfl (w.heap.size + 1) #[.slice a3 (n - k) d3, .slice a4 (n - k) d4] rfl rfl 60 z2V.toArray (by exact HE1.out) (by exact two_row _ _) (by rfl) (by exact sl_one _ _ _ _ _ _) ?_)
          | fail)
        exact bodyPost_ret (results_row_tmp (p := 2) (u := 3) rfl _ _ (w.heap.size + 1) 60 #[.slice a3 (n - k) d3, .slice a4 (n - k) d4] (0, 0) _ rfl (HE1.out.setRow [.slice a3 (n - k) d3, .slice a4 (n - k) d4]) Tryd.underlying60 rfl (two_row _ _)) rfl ⟨⟨_, _, _, _, rfl, HV3.out, HV4.out⟩, below_setRow hw7 (by omega) _⟩
end Go.Proofs.YtnbnjoejmepkjaaDoor
