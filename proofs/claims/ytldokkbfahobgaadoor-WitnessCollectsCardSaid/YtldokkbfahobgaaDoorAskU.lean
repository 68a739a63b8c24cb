/- The walk of a witness's Ask, of a witness that is there. Conditions: what each part says. -/
import Derived.Test.YtldokkbfahobgaaDoorWitW
/-! WitI: The walk of a witness's Ask, of a witness that is there. Conditions: the keys and the proof can be read; the package's tables read as they are laid. -/
namespace Go.Proofs.YtldokkbfahobgaaDoor
open Go.RowKit

set_option maxRecDepth 100000 in
set_option maxHeartbeats 2000000 in
theorem ask_great (g : Nat) (pv wv : Value) (ps ws : List H) (need n size s : Int) (root r : H) (sv lv : Value) (P : List H) (w : World) (hw : Blk w g (witC pv wv need n size root) 67) (hps : Hs w pv ps) (hws : Hs w wv ws) (_hwl : ws.length ≤ 1000) (hs : Hs w lv P) (_hlp : P.length ≤ 4096) (hg : Glob w) (_hpg : ApartV g pv) (_hwg : ApartV g wv) (hno : 400 < s) :
    Calls Tryd.prog 12 #[.pointer (some ⟨g, 0, none⟩), pointV s r sv, lv] w fun e w' => e = .returned (.tuple #[sigV 0 z0H, .bool false]) ∧ Below w.heap.size w w' := by
  obtain ⟨hb, hB, hX⟩ := askW_parts w s r sv
  obtain ⟨W, hW⟩ : ∃ W, W = askW w s r sv := ⟨_, rfl⟩
  rw [← hW] at hb hB hX
  have hW0 := hw.below hb hw.lt
  have HX := Lib.hid hX
  have HB := Lib.hid hB
  have HW0 := Lib.hid hW0
  have HS := Lib.hid (hs.below hb)
  have HPS := Lib.hid (hps.below hb)
  have HWS := Lib.hid (hws.below hb)
  have HG := Lib.hid (hg.below hb)
  have hlb := hB.lt
  have hlg := hW0.lt
  have d1 : decide (400 < s) = true := decide_eq_true hno
  clear hw hps hws hs hg hB hX hW0
  unfold pointV
  go_enter Tryd.func12, Tryd.ntmps12
  go_wp2_with fail
  refine wp_world hW ?_
  clear hW
  refine wp_region_mono 24 (W.heap.size) [(fun v _ => v = .pointer (some ⟨g, 0, none⟩)), (fun v _ => v = .bool false), (fun v _ => v = .bool false), (fun v _ => v = .pointer (some ⟨w.heap.size, 0, none⟩)), (fun v _ => v = .int .i64 s), (fun v _ => v = .bool true), (fun v _ => v = .bool true), (fun v _ => v = .bool true), (fun _ _ => True), (fun _ _ => True), (fun _ _ => True), (fun _ _ => True), (fun _ _ => True), (fun _ _ => True), (fun _ _ => True), (fun _ _ => True), (fun _ _ => True), (fun _ _ => True), (fun _ _ => True), (fun _ _ => True), (fun _ _ => True), (fun _ _ => True), (fun _ _ => True), (fun v _ => v = .bool true)] (by kernel_rfl) (by kernel_rfl) (Nat.le_refl _) ?mkept _ rfl ?mops ?mfin
  case mkept =>
    repeat (refine List.forall_mem_cons.2 ⟨by first | exact fun _ _ _ _ h => h | exact fun _ _ _ hb h => Parts.below h hb | exact fun _ _ _ hb h => IsSl.below h hb, ?_⟩)
    exact fun _ h => by cases h
  case mops =>
    simp only [List.take_succ_cons, List.take_zero, monoAll, List.getD_cons_zero, List.getD_cons_succ]
    iterate 24
    
     (refine ⟨fun x wr hb hd Qg hK => ?_, ?_⟩
      · as_aux_lemma =>
        simp only [fill, Act.put, List.setIfInBounds_toArray, List.set_cons_succ, List.set_cons_zero, needs, Region.binds, List.filter_cons, List.filter_nil, List.map_cons, List.map_nil, if_true, List.mem_cons, List.not_mem_nil, or_false, forall_eq_or_imp, forall_eq, List.getD_cons_zero, List.getD_cons_succ, false_implies, implies_true] at hd hK ⊢
        (try simp only [hd] at hK ⊢)
        first
        | (show wpList _ _ _ [⟨some 12, .load _ _, _, _, _, _⟩] _ _; have c0 := point_size (HB.out.below hb hlb); go_wp2_with fail; exact hK _ _ rfl (Below.refl _ _))
        | (go_wp2_with fail; exact hK _ _ trivial (Below.refl _ _))
        | (go_wp2_with fail; exact hK _ _ rfl (Below.refl _ _)))
    trivial
  case mfin =>
    intro z w3 hb3 hR3
    have x23 := hR3 23 (by decide)
    simp only [List.getD_cons_zero, List.getD_cons_succ] at x23
    have HX3 := Lib.hid (HX.out.below hb3 HX.out.lt)
    have hw3 := hb.trans (hb3.mono hb.size)
    clear hR3 hb3
    simp only [List.drop_succ_cons, List.drop_zero]
    generalize List.toArray _ = L0
    simp only [List.take_succ_cons, List.take_zero, List.map_cons, List.map_nil, fill, Act.put, List.setIfInBounds_toArray, List.set_cons_succ, List.set_cons_zero, x23]
    clear x23
    go_wp2_with (first
      | (refine wpList_store_row rfl 35 (.tmp 6) (.tmp 32) rfl (w.heap.size + 1) zsigC.toArray rfl (by rw [zsig_arr]; rfl) 35 zsigC.toArray (by exact HX3.out) (by exact sig_row 0 z0H) rfl (by exact sig_one 0 z0H) ?_)
      | fail)
    exact bodyPost_ret (v := .tuple #[sigV 0 z0H, .bool false]) (results_row_tmp (p := 6) (u := 7) rfl _ _ (w.heap.size + 1) 35 zsigC.toArray (0, 0) _ rfl (HX3.out.setRow _) Tryd.underlying35 rfl (sig_row 0 z0H)) rfl ⟨rfl, below_setRow hw3 (by omega) _⟩
set_option maxRecDepth 100000 in
set_option maxHeartbeats 2000000 in
theorem ask_not (g : Nat) (pv wv : Value) (ps ws : List H) (need n size s : Int) (root r : H) (sv lv : Value) (P : List H) (w : World) (hw : Blk w g (witC pv wv need n size root) 67) (hps : Hs w pv ps) (hws : Hs w wv ws) (_hwl : ws.length ≤ 1000) (hs : Hs w lv P) (hlp : P.length ≤ 4096) (hg : Glob w) (_hpg : ApartV g pv) (_hwg : ApartV g wv) (hle : ¬ 400 < s) (hno : begR size s root r P = false) :
    Calls Tryd.prog 12 #[.pointer (some ⟨g, 0, none⟩), pointV s r sv, lv] w fun e w' => e = .returned (.tuple #[sigV 0 z0H, .bool false]) ∧ Below w.heap.size w w' := by
  obtain ⟨hb, hB, hX⟩ := askW_parts w s r sv
  obtain ⟨W, hW⟩ : ∃ W, W = askW w s r sv := ⟨_, rfl⟩
  rw [← hW] at hb hB hX
  have hW0 := hw.below hb hw.lt
  have HX := Lib.hid hX
  have HB := Lib.hid hB
  have HW0 := Lib.hid hW0
  have HS := Lib.hid (hs.below hb)
  have HPS := Lib.hid (hps.below hb)
  have HWS := Lib.hid (hws.below hb)
  have HG := Lib.hid (hg.below hb)
  have hlb := hB.lt
  have hlg := hW0.lt
  have d1 : decide (400 < s) = false := decide_eq_false hle
  have HBG := Lib.hid hno
  clear hw hps hws hs hg hB hX hW0 hno
  unfold pointV
  go_enter Tryd.func12, Tryd.ntmps12
  go_wp2_with fail
  refine wp_world hW ?_
  clear hW
  refine wp_region_mono 24 (W.heap.size) [(fun v _ => v = .pointer (some ⟨g, 0, none⟩)), (fun v _ => v = .bool false), (fun v _ => v = .bool false), (fun v _ => v = .pointer (some ⟨w.heap.size, 0, none⟩)), (fun v _ => v = .int .i64 s), (fun v _ => v = .bool false), (fun v _ => v = .bool false), (fun v _ => v = .bool false), (fun v _ => v = .pointer (some ⟨g, 0, none⟩)), (fun v _ => v = .pointer (some ⟨g, 0, none⟩)), (fun v _ => v = .pointer (some ⟨g, 4, none⟩)), (fun v _ => v = .int .i64 size), (fun v _ => v = .pointer (some ⟨w.heap.size, 0, none⟩)), (fun v _ => v = .int .i64 s), (fun v _ => v = .pointer (some ⟨g, 0, none⟩)), (fun v _ => v = .pointer (some ⟨g, 0, none⟩)), (fun v _ => v = .pointer (some ⟨g, 5, none⟩)), (fun v _ => v = .agg (bytesV root.b).toArray), (fun v _ => v = .pointer (some ⟨w.heap.size, 1, none⟩)), (fun v _ => v = .agg (bytesV r.b).toArray), (fun v _ => v = lv), (fun v _ => v = .bool false), (fun v _ => v = .bool true), (fun v _ => v = .bool true)] (by kernel_rfl) (by kernel_rfl) (Nat.le_refl _) ?mkept _ rfl ?mops ?mfin
  case mkept =>
    repeat (refine List.forall_mem_cons.2 ⟨by first | exact fun _ _ _ _ h => h | exact fun _ _ _ hb h => Parts.below h hb | exact fun _ _ _ hb h => IsSl.below h hb, ?_⟩)
    exact fun _ h => by cases h
  case mops =>
    simp only [List.take_succ_cons, List.take_zero, monoAll, List.getD_cons_zero, List.getD_cons_succ]
    iterate 24
    
     (refine ⟨fun x wr hb hd Qg hK => ?_, ?_⟩
      · as_aux_lemma =>
        simp only [fill, Act.put, List.setIfInBounds_toArray, List.set_cons_succ, List.set_cons_zero, needs, Region.binds, List.filter_cons, List.filter_nil, List.map_cons, List.map_nil, if_true, List.mem_cons, List.not_mem_nil, or_false, forall_eq_or_imp, forall_eq, List.getD_cons_zero, List.getD_cons_succ, false_implies, implies_true] at hd hK ⊢
        (try simp only [hd] at hK ⊢)
        first
        | (show wpList _ _ _ [⟨some 12, .load _ _, _, _, _, _⟩] _ _; have c0 := point_size (HB.out.below hb hlb); go_wp2_with fail; exact hK _ _ rfl (Below.refl _ _))
        | (show wpList _ _ _ [⟨some 21, .load _ _, _, _, _, _⟩] _ _; have c0 := point_size (HB.out.below hb hlb); go_wp2_with fail; exact hK _ _ rfl (Below.refl _ _))
        | (show wpList _ _ _ [⟨some 19, .load _ _, _, _, _, _⟩] _ _; have c0 := wit_size (HW0.out.below hb hlg); go_wp2_with fail; exact hK _ _ rfl (Below.refl _ _))
        | (show wpList _ _ _ [⟨some 25, .load _ _, _, _, _, _⟩] _ _; refine wpList_load_midIf rfl 31 (.tmp 24) rfl g 5 rfl (bytesV root.b) _ (wit_root (HW0.out.below hb hlg)) Tryd.underlying31 rfl (hv_info root) ?_; exact hK _ _ rfl (Below.refl _ _))
        | (show wpList _ _ _ [⟨some 27, .load _ _, _, _, _, _⟩] _ _; refine wpList_load_midIf rfl 31 (.tmp 26) rfl w.heap.size 1 rfl (bytesV r.b) _ (point_root (HB.out.below hb hlb)) Tryd.underlying31 rfl (hv_info r) ?_; exact hK _ _ rfl (Below.refl _ _))
        | (show wpList _ _ _ [⟨some 29, .call _, _, _, _, _⟩] _ _; go_wp2_with (go_at_call 24; refine (begins_any wr root r size s lv P (HS.out.below hb) hlp (HG.out.below hb)).mono ?_; rintro e w5 ⟨rfl, hb5⟩; rw [HBG.out]); exact hK _ _ rfl hb5)
        | (go_wp2_with fail; exact hK _ _ rfl (Below.refl _ _)))
    trivial
  case mfin =>
    intro z w3 hb3 hR3
    have x23 := hR3 23 (by decide)
    simp only [List.getD_cons_zero, List.getD_cons_succ] at x23
    have HX3 := Lib.hid (HX.out.below hb3 HX.out.lt)
    have hw3 := hb.trans (hb3.mono hb.size)
    clear hR3 hb3
    simp only [List.drop_succ_cons, List.drop_zero]
    generalize List.toArray _ = L0
    simp only [List.take_succ_cons, List.take_zero, List.map_cons, List.map_nil, fill, Act.put, List.setIfInBounds_toArray, List.set_cons_succ, List.set_cons_zero, x23]
    clear x23
    go_wp2_with (first
      | (refine wpList_store_row rfl 35 (.tmp 6) (.tmp 32) rfl (w.heap.size + 1) zsigC.toArray rfl (by rw [zsig_arr]; rfl) 35 zsigC.toArray (by exact HX3.out) (by exact sig_row 0 z0H) rfl (by exact sig_one 0 z0H) ?_)
      | fail)
    exact bodyPost_ret (v := .tuple #[sigV 0 z0H, .bool false]) (results_row_tmp (p := 6) (u := 7) rfl _ _ (w.heap.size + 1) 35 zsigC.toArray (0, 0) _ rfl (HX3.out.setRow _) Tryd.underlying35 rfl (sig_row 0 z0H)) rfl ⟨rfl, below_setRow hw3 (by omega) _⟩
set_option maxRecDepth 100000 in
set_option maxHeartbeats 4000000 in
theorem ask_yes (g : Nat) (pv wv : Value) (ps ws : List H) (need n size s : Int) (root r : H) (sv lv : Value) (P : List H) (w : World) (hw : Blk w g (witC pv wv need n size root) 67) (hps : Hs w pv ps) (hws : Hs w wv ws) (hwl : ws.length ≤ 1000) (hs : Hs w lv P) (hlp : P.length ≤ 4096) (hg : Glob w) (hpg : ApartV g pv) (hwg : ApartV g wv) (hle : ¬ 400 < s) (hyes : begR size s root r P = true) :
    Calls Tryd.prog 12 #[.pointer (some ⟨g, 0, none⟩), pointV s r sv, lv] w fun e w' => e = .returned (.tuple #[sigV n (signH ps.length ws need n s r), .bool true]) ∧ Blk w' g (witC pv wv need n s r) 67 ∧ But g w w' := by
  obtain ⟨hb, hB, hX⟩ := askW_parts w s r sv
  obtain ⟨W, hW⟩ : ∃ W, W = askW w s r sv := ⟨_, rfl⟩
  rw [← hW] at hb hB hX
  have hW0 := hw.below hb hw.lt
  have HX := Lib.hid hX
  have HB := Lib.hid hB
  have HW0 := Lib.hid hW0
  have HS := Lib.hid (hs.below hb)
  have HPS := Lib.hid (hps.below hb)
  have HWS := Lib.hid (hws.below hb)
  have HG := Lib.hid (hg.below hb)
  have hlb := hB.lt
  have hlg := hW0.lt
  have d1 : decide (400 < s) = false := decide_eq_false hle
  have HBG := Lib.hid hyes
  have hgw := hw.lt
  have hpe : ∃ a k c, pv = .slice a k c := by obtain ⟨a, c, e, _⟩ := hps.form; exact ⟨a, _, c, e⟩
  obtain ⟨S, hS⟩ : ∃ S, S = signH ps.length ws need n s r := ⟨_, rfl⟩
  have HSE := Lib.hid hS
  rw [← hS]
  clear hw hps hws hs hg hB hX hW0 hyes hS
  unfold pointV
  go_enter Tryd.func12, Tryd.ntmps12
  go_wp2_with fail
  refine wp_world hW ?_
  clear hW
  refine wp_region_mono 24 (W.heap.size) [(fun v _ => v = .pointer (some ⟨g, 0, none⟩)), (fun v _ => v = .bool false), (fun v _ => v = .bool false), (fun v _ => v = .pointer (some ⟨w.heap.size, 0, none⟩)), (fun v _ => v = .int .i64 s), (fun v _ => v = .bool false), (fun v _ => v = .bool false), (fun v _ => v = .bool false), (fun v _ => v = .pointer (some ⟨g, 0, none⟩)), (fun v _ => v = .pointer (some ⟨g, 0, none⟩)), (fun v _ => v = .pointer (some ⟨g, 4, none⟩)), (fun v _ => v = .int .i64 size), (fun v _ => v = .pointer (some ⟨w.heap.size, 0, none⟩)), (fun v _ => v = .int .i64 s), (fun v _ => v = .pointer (some ⟨g, 0, none⟩)), (fun v _ => v = .pointer (some ⟨g, 0, none⟩)), (fun v _ => v = .pointer (some ⟨g, 5, none⟩)), (fun v _ => v = .agg (bytesV root.b).toArray), (fun v _ => v = .pointer (some ⟨w.heap.size, 1, none⟩)), (fun v _ => v = .agg (bytesV r.b).toArray), (fun v _ => v = lv), (fun v _ => v = .bool true), (fun v _ => v = .bool false), (fun v _ => v = .bool false)] (by kernel_rfl) (by kernel_rfl) (Nat.le_refl _) ?mkept _ rfl ?mops ?mfin
  case mkept =>
    repeat (refine List.forall_mem_cons.2 ⟨by first | exact fun _ _ _ _ h => h | exact fun _ _ _ hb h => Parts.below h hb | exact fun _ _ _ hb h => IsSl.below h hb, ?_⟩)
    exact fun _ h => by cases h
  case mops =>
    simp only [List.take_succ_cons, List.take_zero, monoAll, List.getD_cons_zero, List.getD_cons_succ]
    iterate 24
    
     (refine ⟨fun x wr hb hd Qg hK => ?_, ?_⟩
      · as_aux_lemma =>
        simp only [fill, Act.put, List.setIfInBounds_toArray, List.set_cons_succ, List.set_cons_zero, needs, Region.binds, List.filter_cons, List.filter_nil, List.map_cons, List.map_nil, if_true, List.mem_cons, List.not_mem_nil, or_false, forall_eq_or_imp, forall_eq, List.getD_cons_zero, List.getD_cons_succ, false_implies, implies_true] at hd hK ⊢
        (try simp only [hd] at hK ⊢)
        first
        | (show wpList _ _ _ [⟨some 12, .load _ _, _, _, _, _⟩] _ _; have c0 := point_size (HB.out.below hb hlb); go_wp2_with fail; exact hK _ _ rfl (Below.refl _ _))
        | (show wpList _ _ _ [⟨some 21, .load _ _, _, _, _, _⟩] _ _; have c0 := point_size (HB.out.below hb hlb); go_wp2_with fail; exact hK _ _ rfl (Below.refl _ _))
        | (show wpList _ _ _ [⟨some 19, .load _ _, _, _, _, _⟩] _ _; have c0 := wit_size (HW0.out.below hb hlg); go_wp2_with fail; exact hK _ _ rfl (Below.refl _ _))
        | (show wpList _ _ _ [⟨some 25, .load _ _, _, _, _, _⟩] _ _; refine wpList_load_midIf rfl 31 (.tmp 24) rfl g 5 rfl (bytesV root.b) _ (wit_root (HW0.out.below hb hlg)) Tryd.underlying31 rfl (hv_info root) ?_; exact hK _ _ rfl (Below.refl _ _))
        | (show wpList _ _ _ [⟨some 27, .load _ _, _, _, _, _⟩] _ _; refine wpList_load_midIf rfl 31 (.tmp 26) rfl w.heap.size 1 rfl (bytesV r.b) _ (point_root (HB.out.below hb hlb)) Tryd.underlying31 rfl (hv_info r) ?_; exact hK _ _ rfl (Below.refl _ _))
        | (show wpList _ _ _ [⟨some 29, .call _, _, _, _, _⟩] _ _; go_wp2_with (go_at_call 24; refine (begins_any wr root r size s lv P (HS.out.below hb) hlp (HG.out.below hb)).mono ?_; rintro e w5 ⟨rfl, hb5⟩; rw [HBG.out]); exact hK _ _ rfl hb5)
        | (go_wp2_with fail; exact hK _ _ rfl (Below.refl _ _)))
    trivial
  case mfin =>
    intro z w3 hb3 hR3
    have x23 := hR3 23 (by decide)
    simp only [List.getD_cons_zero, List.getD_cons_succ] at x23
    have HX3 := Lib.hid (HX.out.below hb3 HX.out.lt)
    have hw3 := hb.trans (hb3.mono hb.size)
    have HB3 := Lib.hid (HB.out.below hb3 hlb)
    have HW3 := Lib.hid (HW0.out.below hb3 hlg)
    have HPS3 := Lib.hid (HPS.out.below hb3)
    have HWS3 := Lib.hid (HWS.out.below hb3)
    have HG3 := Lib.hid (HG.out.below hb3)
    have hlb3 := HB3.out.lt
    have hlg3 := HW3.out.lt
    clear hR3 hb3 HX HB HW0 HS HPS HWS HG
    simp only [List.drop_succ_cons, List.drop_zero]
    generalize List.toArray _ = L0
    simp only [List.take_succ_cons, List.take_zero, List.map_cons, List.map_nil, fill, Act.put, List.setIfInBounds_toArray, List.set_cons_succ, List.set_cons_zero, x23]
    clear x23
    go_wp2_with fail
    refine wp_region_but 9 8 g (fun b u => Blk u g (witC pv wv need n (if b then s else size) root) 67) [(fun v _ => v = .pointer (some ⟨g, 0, none⟩)), (fun v _ => v = .pointer (some ⟨g, 0, none⟩)), (fun v _ => v = .pointer (some ⟨w.heap.size, 0, none⟩)), (fun v _ => v = .int .i64 s), (fun v _ => v = .pointer (some ⟨w.heap.size, 1, none⟩)), (fun v _ => v = .agg (bytesV r.b).toArray), (fun v _ => v = .pointer (some ⟨g, 0, none⟩)), (fun v _ => v = .pointer (some ⟨g, 4, none⟩)), (fun _ _ => True)] (fun _ _ => False) (by kernel_rfl) (by kernel_rfl) (by decide) rfl _ rfl ?hk ?hs (by exact HW3.out) ?hp ?hops ?hfin
    case hk =>
      repeat (refine List.forall_mem_cons.2 ⟨by exact fun _ _ _ _ h => h, ?_⟩)
      exact fun _ h => by cases h
    case hs => exact fun b u u' hb h => h.below hb h.lt
    case hp => exact fun c a u _ h => h.elim
    case hops =>
      simp only [List.take_succ_cons, List.take_zero, butAll, List.getD_cons_zero, List.getD_cons_succ]
      iterate 9
        
       (refine ⟨fun xs wr hb hd hst Qg hK hP => ?_, ?_⟩
        · as_aux_lemma =>
          simp only [fill, Act.put, List.setIfInBounds_toArray, List.set_cons_succ, List.set_cons_zero, needs, Region.binds, List.filter_cons, List.filter_nil, List.map_cons, List.map_nil, if_true, List.mem_cons, List.not_mem_nil, or_false, forall_eq_or_imp, forall_eq, List.getD_cons_zero, List.getD_cons_succ, false_implies, implies_true] at hd hK ⊢
          (try simp only [hd] at hK ⊢)
          first
          | (show wpList _ _ _ [⟨some 36, .load _ _, _, _, _, _⟩] _ _; have c0 := point_size (hb.blk HB3.out (by omega)); go_wp2_with fail; exact hK _ _ rfl (fun h => absurd h (by decide)) (fun _ => Below.refl _ _))
          | (show wpList _ _ _ [⟨some 38, .load _ _, _, _, _, _⟩] _ _; refine wpList_load_mid rfl 31 (.tmp 37) rfl w.heap.size 1 rfl (bytesV r.b) _ (point_root (hb.blk HB3.out (by omega))) Tryd.underlying31 rfl (by exact hv_info _) ?_; exact hK _ _ rfl (fun h => absurd h (by decide)) (fun _ => Below.refl _ _))
          | (show wpList _ _ _ [⟨none, .store _ _ _, _, _, _, _⟩] _ _; have h9 : Blk wr g (witC pv wv need n size root) 67 := hst (by decide); have c0 := wit_size h9; have f0 := h9.frozen 4; have h8 : Blk (wr.setCell ⟨g, 4, none⟩ (.int .i64 s)) g (witC pv wv need n s root) 67 := h9.set 4 (.int .i64 s); go_wp2_with fail; exact hK undef _ trivial (fun _ => ⟨But.set (Below.refl _ _) h9.lt 4 _, h8⟩) (fun h => absurd rfl h))
          | (go_wp2_with fail; exact hK _ _ rfl (fun h => absurd h (by decide)) (fun _ => Below.refl _ _)))
      trivial
    case hfin =>
      intro y u hbu hRu hSt
      have y1 := hRu 1 (by decide)
      have y5 := hRu 5 (by decide)
      simp only [List.getD_cons_zero, List.getD_cons_succ] at y1 y5
      have hW4 : Blk u g (witC pv wv need n s root) 67 := hSt
      have HW4 := Lib.hid hW4
      obtain ⟨w5, hw5⟩ : ∃ w5, w5 = u.setCells g 5 (bytesV r.b) := ⟨_, rfl⟩
      have hW5 : Blk w5 g (witC pv wv need n s r) 67 := by rw [hw5]; exact wit_turn hW4
      have hbu5 : But g w3 w5 := hbu.trans (by rw [hw5]; exact But.setCells g _ 5 u hW4.lt)
      have HB5 := Lib.hid (hbu5.blk HB3.out (by omega))
      have HW5 := Lib.hid hW5
      have HX5 := Lib.hid (hbu5.blk HX3.out (by omega))
      have hPS5 : Hs w5 pv ps := hs_but HPS3.out hbu5 hpg
      have hWS5 : Hs w5 wv ws := hs_but HWS3.out hbu5 hwg
      have HPS5 := Lib.hid hPS5
      have HWS5 := Lib.hid hWS5
      have HG5 := Lib.hid (glob_but HG3.out hbu5 HW3.out hpe)
      have hw0 : But g w w5 := (But.of hw3).trans hbu5
      have hlb5 := HB5.out.lt
      have hlg5 := hW5.lt
      have HWE := Lib.hid hw5
      clear hRu hSt hW4 hW5 hbu hbu5 hPS5 hWS5 hw5 HX3 HB3 HW3 HPS3 HWS3 HG3
      simp only [List.drop_succ_cons, List.drop_zero]
      generalize List.toArray _ = L0
      simp only [List.take_succ_cons, List.take_zero, List.map_cons, List.map_nil, fill, Act.put, List.setIfInBounds_toArray, List.set_cons_succ, List.set_cons_zero, y1, y5]
      clear y1 y5
      go_wp2_with (first
        | (refine wpList_store_mid rfl 31 (.tmp 42) (.tmp 38) rfl g 5 (bytesV r.b).toArray rfl rfl (by exact there_blk HW4.out (by rw [witC_len]; simp [bytesV_len, H.len])) (by exact hv_row r) (by exact hv_one r) ?_)
        | fail)
      refine wp_world (w' := w5) (by rw [HWE.out]) ?_
      clear HWE HW4
      refine wp_region_mono 15 (w5.heap.size) [(fun v _ => v = .pointer (some ⟨g, 0, none⟩)), (fun v _ => v = .pointer (some ⟨g, 0, none⟩)), (fun v _ => v = .pointer (some ⟨g, 3, none⟩)), (fun v _ => v = .int .i64 n), (fun v _ => v = .pointer (some ⟨g, 0, none⟩)), (fun v _ => v = .pointer (some ⟨g, 0, none⟩)), (fun v _ => v = .pointer (some ⟨g, 0, none⟩)), (fun v _ => v = .agg [pv, wv, .int .i64 need].toArray), (fun v _ => v = .pointer (some ⟨g, 0, none⟩)), (fun v _ => v = .pointer (some ⟨g, 0, none⟩)), (fun v _ => v = .pointer (some ⟨g, 3, none⟩)), (fun v _ => v = .int .i64 n), (fun v _ => v = .agg (pointC s r sv).toArray), (fun v _ => v = .agg (bytesV S.b).toArray), (fun v _ => v = .agg (sigC n S).toArray)] (by kernel_rfl) (by kernel_rfl) (Nat.le_refl _) ?mkept _ rfl ?mops ?mfin
      case mkept =>
        repeat (refine List.forall_mem_cons.2 ⟨by first | exact fun _ _ _ _ h => h | exact fun _ _ _ hb h => Parts.below h hb | exact fun _ _ _ hb h => IsSl.below h hb, ?_⟩)
        exact fun _ h => by cases h
      case mops =>
        simp only [List.take_succ_cons, List.take_zero, monoAll, List.getD_cons_zero, List.getD_cons_succ]
        iterate 15
        
         (refine ⟨fun x wr hb hd Qg hK => ?_, ?_⟩
          · as_aux_lemma =>
            simp only [fill, Act.put, List.setIfInBounds_toArray, List.set_cons_succ, List.set_cons_zero, needs, Region.binds, List.filter_cons, List.filter_nil, List.map_cons, List.map_nil, if_true, List.mem_cons, List.not_mem_nil, or_false, forall_eq_or_imp, forall_eq, List.getD_cons_zero, List.getD_cons_succ, false_implies, implies_true] at hd hK ⊢
            (try simp only [hd] at hK ⊢)
            first
            | (show wpList _ _ _ [⟨some 46, .load _ _, _, _, _, _⟩] _ _; have c0 := wit_n (HW5.out.below hb hlg5); go_wp2_with fail; exact hK _ _ rfl (Below.refl _ _))
            | (show wpList _ _ _ [⟨some 54, .load _ _, _, _, _, _⟩] _ _; have c0 := wit_n (HW5.out.below hb hlg5); go_wp2_with fail; exact hK _ _ rfl (Below.refl _ _))
            | (show wpList _ _ _ [⟨some 50, .load _ _, _, _, _, _⟩] _ _; refine wpList_load_mid rfl 24 (.tmp 49) rfl g 0 rfl [pv, wv, .int .i64 need] _ (wit_keys (HW5.out.below hb hlg5)) Tryd.underlying24 rfl (by exact keys_info _ _ _) ?_; exact hK _ _ rfl (Below.refl _ _))
            | (have hBr := HB5.out.below hb (hlb5); refine wpList_load_rowIf rfl 40 (.tmp 4) rfl _ rfl 40 (pointC s r sv).toArray (0, 0) _ (by exact hBr) Tryd.underlying40 rfl (point_row _ _ _) ?_; exact hK _ _ rfl (Below.refl _ _))
            | (show wpList _ _ _ [⟨some 56, .call _, _, _, _, _⟩] _ _; go_wp2_with (go_at_call 23; refine (sign_any pv wv ps ws need n s r sv wr (HPS5.out.below hb) (HWS5.out.below hb) hwl (HG5.out.below hb)).mono ?_; rintro e w6 ⟨rfl, hb6⟩; rw [← HSE.out]); exact hK _ _ rfl hb6)
            | (refine wpList_built2 rfl 35 0 1 (.tmp 46) (.tmp 56) (.int .i64 n) (hv S) _ rfl rfl rfl (built_sig n S) ?_; exact hK _ _ rfl (Below.refl _ _))
            | (go_wp2_with fail; exact hK _ _ rfl (Below.refl _ _)))
        trivial
      case mfin =>
        intro z5 w7 hb7 hR7
        have x14 := hR7 14 (by decide)
        simp only [List.getD_cons_zero, List.getD_cons_succ] at x14
        have HX7 := Lib.hid (HX5.out.below hb7 HX5.out.lt)
        have HW7 := Lib.hid (HW5.out.below hb7 hlg5)
        have hw7 : But g w w7 := hw0.trans (But.of hb7)
        clear hR7 hb7
        simp only [List.drop_succ_cons, List.drop_zero]
        generalize List.toArray _ = L0
        simp only [List.take_succ_cons, List.take_zero, List.map_cons, List.map_nil, fill, Act.put, List.setIfInBounds_toArray, List.set_cons_succ, List.set_cons_zero, x14]
        clear x14
        go_wp2_with (first
          | (refine wpList_store_row rfl 35 (.tmp 6) (.tmp 57) rfl (w.heap.size + 1) (sigC n S).toArray rfl rfl 35 zsigC.toArray (by exact HX7.out) (by exact sig_row n S) (by simp [zsigC, sigC_len]) (by exact sig_one n S) ?_)
          | fail)
        exact bodyPost_ret (v := .tuple #[sigV n S, .bool true]) (results_row_tmp (p := 6) (u := 7) rfl _ _ (w.heap.size + 1) 35 (sigC n S).toArray (0, 0) _ rfl (HX7.out.setRow _) Tryd.underlying35 rfl (sig_row n S)) rfl ⟨rfl, HW7.out.setRow_other (by omega) _, hw7.then (below_setRow (Below.refl w.heap.size _) (by omega) _)⟩
end Go.Proofs.YtldokkbfahobgaaDoor
