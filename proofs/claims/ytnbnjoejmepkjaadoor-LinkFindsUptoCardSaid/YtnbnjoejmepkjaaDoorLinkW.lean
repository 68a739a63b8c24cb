/- The walks of link.Begins and of the reference's Begins. The walks of link.Is and of the reference's Is. The walk of link.Find where nothing is looked for: no link, or the first list begins the other. Plain facts of links: what begins a list, with layer 6's proof, is a link; the document's example. No condition. Conditions: what each part says. -/
import Derived.Test.YtnbnjoejmepkjaaDoorClashW
import Derived.Test.YtnbnjoejmepkjaaDoorLinkR
import Derived.Test.YtnbnjoejmepkjaaDoorRef6V
import Derived.Test.YtnbnjoejmepkjaaDoorTreeW
import Derived.Test.YtnbnjoejmepkjaaDoorRef5
/-! LinkA: The walks of link.Begins and of the reference's Begins. Conditions: both lists can be read, the first of at most 2^40 texts (the reference: of at most 2^45 bytes each). -/
namespace Go.Proofs.YtnbnjoejmepkjaaDoor
open Go.RowKit

set_option maxRecDepth 100000 in
set_option maxHeartbeats 1000000 in
theorem lbegins_any (va vb : Value) (a b : List (List UInt8)) (xs ys : List Value) (w : World) (ha : Parts w va a xs) (hb : Parts w vb b ys) (hn : a.length ≤ 1099511627776) :
    Calls Tryd.prog 15 #[va, vb] w fun e w' => e = .returned (.bool (beginsB a b)) ∧ w' = w := by
  obtain ⟨xa, ca, rfl, _⟩ := ha.sl.form
  obtain ⟨xb, cb, rfl, _⟩ := hb.sl.form
  have HA := Lib.hid ha
  have HB := Lib.hid hb
  clear ha hb
  by_cases hl : a.length ≤ b.length
  · have hle : decide ((a.length : Int) ≤ (b.length : Int)) = true := by simp; omega
    have hmin : min (a.length : Int) (b.length : Int) = a.length := by omega
    obtain ⟨a1, d1, hs1, hp1⟩ := parts_head HB.out a.length hl
    have H1 := Lib.hid hp1
    obtain ⟨R, hR⟩ : ∃ R, R = (a == b.take a.length) := ⟨_, rfl⟩
    have HR := Lib.hid hR
    rw [show beginsB a b = R by unfold beginsB; rw [decide_eq_true hl, Bool.true_and, hR]]
    clear hp1 hR
    go_enter Tryd.func15, Tryd.ntmps15
    go_wp2_with (first
      | (go_at_call 31; refine (eqfunc_any _ _ a (b.take a.length) xs _ w HA.out H1.out hn).mono ?_; rintro e w2 ⟨rfl, h2⟩; rw [h2, ← HR.out]; clear h2 w2)
      | fail)
    go_ret
    exact ⟨rfl, rfl⟩
  · have hle : decide ((a.length : Int) ≤ (b.length : Int)) = false := by simp; omega
    rw [show beginsB a b = false by unfold beginsB; rw [decide_eq_false hl, Bool.false_and]]
    go_enter Tryd.func15, Tryd.ntmps15
    go_wp2_with fail
    go_ret
    exact ⟨rfl, rfl⟩
set_option maxRecDepth 100000 in
set_option maxHeartbeats 1000000 in
theorem reflbegins_any (va vb : Value) (a b : List (List UInt8)) (xs ys : List Value) (w : World) (ha : Parts w va a xs) (hb : Parts w vb b ys) (hn : a.length ≤ 1099511627776) (hw : ∀ l ∈ a, l.length ≤ 35184372088832) :
    Calls Tryd.prog 16 #[va, vb] w fun e w' => e = .returned (.bool (beginsB a b)) ∧ Below w.heap.size w w' := by
  obtain ⟨xa, ca, rfl, _⟩ := ha.sl.form
  obtain ⟨xb, cb, rfl, _⟩ := hb.sl.form
  have HA := Lib.hid ha
  have HB := Lib.hid hb
  clear ha hb
  by_cases hl : a.length ≤ b.length
  · have hle : decide ((a.length : Int) ≤ (b.length : Int)) = true := by simp; omega
    obtain ⟨a1, d1, hs1, hp1⟩ := parts_head HB.out a.length hl
    have H1 := Lib.hid hp1
    obtain ⟨R, hR⟩ : ∃ R, R = (a == b.take a.length) := ⟨_, rfl⟩
    have HR := Lib.hid hR
    rw [show beginsB a b = R by unfold beginsB; rw [decide_eq_true hl, Bool.true_and, hR]]
    clear hp1 hR
    go_enter Tryd.func16, Tryd.ntmps16
    go_wp2_with (first
      | (go_at_call 33; refine (refsames_any _ _ a (b.take a.length) xs _ w HA.out H1.out hn hw).mono ?_; rintro e w2 ⟨rfl, h2⟩; rw [← HR.out])
      | fail)
    go_ret
    exact ⟨rfl, h2⟩
  · have hle : decide ((a.length : Int) ≤ (b.length : Int)) = false := by simp; omega
    rw [show beginsB a b = false by unfold beginsB; rw [decide_eq_false hl, Bool.false_and]]
    go_enter Tryd.func16, Tryd.ntmps16
    go_wp2_with fail
    go_ret
    exact ⟨rfl, Below.refl _ _⟩
end Go.Proofs.YtnbnjoejmepkjaaDoor

/-! LinkB: The walks of link.Is and of the reference's Is. Conditions: both lists can be read, at most 4000 texts of at most 2^45 bytes; the proof can be read, at most 4096 hashes; the package's tables read as they are laid. -/
namespace Go.Proofs.YtnbnjoejmepkjaaDoor
open Go.RowKit

set_option maxRecDepth 100000 in
set_option maxHeartbeats 1000000 in
theorem lis_any (va vb vl : Value) (a b : List (List UInt8)) (xs ys : List Value) (P : List H) (w : World) (ha : Parts w va a xs) (hb : Parts w vb b ys) (hs : Hs w vl P) (hn : a.length ≤ 4000) (hm : b.length ≤ 4000) (hp : P.length ≤ 4096) (hwa : ∀ l ∈ a, l.length ≤ 35184372088832) (hwb : ∀ l ∈ b, l.length ≤ 35184372088832) (hg : Glob w) :
    Calls Tryd.prog 13 #[va, vb, vl] w fun e w' => e = .returned (.bool (linkB a b P)) ∧ Below w.heap.size w w' := by
  obtain ⟨xa, ca, rfl, _⟩ := ha.sl.form
  obtain ⟨xb, cb, rfl, _⟩ := hb.sl.form
  have HA := Lib.hid ha
  have HB := Lib.hid hb
  have HS := Lib.hid hs
  have HG := Lib.hid hg
  have HWA := Lib.hid hwa
  have HWB := Lib.hid hwb
  clear ha hb hs hg hwa hwb
  by_cases hl : a.length ≤ b.length
  · have hle : decide ((a.length : Int) ≤ (b.length : Int)) = true := by simp; omega
    obtain ⟨R, hR⟩ : ∃ R, R = linkB a b P := ⟨_, rfl⟩
    obtain ⟨A, hA⟩ : ∃ A, A = rootB a := ⟨_, rfl⟩
    obtain ⟨B, hB⟩ : ∃ B, B = rootB b := ⟨_, rfl⟩
    have HR := Lib.hid (show begR (a.length : Int) (b.length : Int) A B P = R by rw [begR_proves a.length b.length A B P hl (by omega), hR, hA, hB]; unfold linkB; rw [decide_eq_true hl, Bool.true_and])
    have HA1 := Lib.hid hA
    have HB1 := Lib.hid hB
    rw [← hR]
    clear hR hA hB
    go_enter Tryd.func13, Tryd.ntmps13
    go_wp2_with (first
      | (go_at_call 21; have HX := HWA; refine (roots_any _ a xs w HA.out hn HX.out HG.out).mono ?_; rintro e w3 ⟨rfl, hb3⟩; rw [← HA1.out]; have HW3 := Lib.hid hb3; have HG3 := Lib.hid (HG.out.below hb3); have HB3 := Lib.hid (HB.out.below hb3); have HS3 := Lib.hid (HS.out.below hb3); clear hb3 HWA)
      | (go_at_call 21; refine (roots_any _ b ys w3 HB3.out hm HWB.out HG3.out).mono ?_; rintro e w4 ⟨rfl, hb4⟩; rw [← HB1.out]; have HW4 := Lib.hid (HW3.out.trans (hb4.mono HW3.out.size)); have HG4 := Lib.hid (HG3.out.below hb4); have HS4 := Lib.hid (HS3.out.below hb4); clear hb4)
      | (go_at_call 29; refine (begins_any w4 A B _ _ vl P HS4.out hp HG4.out).mono ?_; rintro e w5 ⟨rfl, hb5⟩; rw [HR.out]; have HW5 := Lib.hid (HW4.out.trans (hb5.mono HW4.out.size)); clear hb5)
      | fail)
    go_ret
    exact ⟨rfl, HW5.out⟩
  · have hle : decide ((a.length : Int) ≤ (b.length : Int)) = false := by simp; omega
    rw [show linkB a b P = false by unfold linkB; rw [decide_eq_false hl, Bool.false_and]]
    go_enter Tryd.func13, Tryd.ntmps13
    go_wp2_with fail
    go_ret
    exact ⟨rfl, Below.refl _ _⟩
set_option maxRecDepth 100000 in
set_option maxHeartbeats 1000000 in
theorem reflis_any (va vb vl : Value) (a b : List (List UInt8)) (xs ys : List Value) (P : List H) (w : World) (ha : Parts w va a xs) (hb : Parts w vb b ys) (hs : Hs w vl P) (hn : a.length ≤ 4000) (hm : b.length ≤ 4000) (hp : P.length ≤ 4096) (hwa : ∀ l ∈ a, l.length ≤ 35184372088832) (hwb : ∀ l ∈ b, l.length ≤ 35184372088832) (hg : Glob w) :
    Calls Tryd.prog 14 #[va, vb, vl] w fun e w' => e = .returned (.bool (linkB a b P)) ∧ Below w.heap.size w w' := by
  obtain ⟨xa, ca, rfl, _⟩ := ha.sl.form
  obtain ⟨xb, cb, rfl, _⟩ := hb.sl.form
  have HA := Lib.hid ha
  have HB := Lib.hid hb
  have HS := Lib.hid hs
  have HG := Lib.hid hg
  have HWA := Lib.hid hwa
  have HWB := Lib.hid hwb
  clear ha hb hs hg hwa hwb
  by_cases hl : a.length ≤ b.length
  · have hle : decide ((a.length : Int) ≤ (b.length : Int)) = true := by simp; omega
    obtain ⟨R, hR⟩ : ∃ R, R = linkB a b P := ⟨_, rfl⟩
    obtain ⟨A, hA⟩ : ∃ A, A = rootB a := ⟨_, rfl⟩
    obtain ⟨B, hB⟩ : ∃ B, B = rootB b := ⟨_, rfl⟩
    have HR := Lib.hid (show begR (a.length : Int) (b.length : Int) A B P = R by rw [begR_proves a.length b.length A B P hl (by omega), hR, hA, hB]; unfold linkB; rw [decide_eq_true hl, Bool.true_and])
    have HA1 := Lib.hid hA
    have HB1 := Lib.hid hB
    rw [← hR]
    clear hR hA hB
    go_enter Tryd.func14, Tryd.ntmps14
    go_wp2_with (first
      | (go_at_call 25; have HX := HWA; refine (refroots_any _ a xs w HA.out hn HX.out HG.out).mono ?_; rintro e w3 ⟨rfl, hb3⟩; rw [← HA1.out]; have HW3 := Lib.hid hb3; have HG3 := Lib.hid (HG.out.below hb3); have HB3 := Lib.hid (HB.out.below hb3); have HS3 := Lib.hid (HS.out.below hb3); clear hb3 HWA)
      | (go_at_call 25; refine (refroots_any _ b ys w3 HB3.out hm HWB.out HG3.out).mono ?_; rintro e w4 ⟨rfl, hb4⟩; rw [← HB1.out]; have HW4 := Lib.hid (HW3.out.trans (hb4.mono HW3.out.size)); have HG4 := Lib.hid (HG3.out.below hb4); have HS4 := Lib.hid (HS3.out.below hb4); clear hb4)
      | (go_at_call 30; refine (refbegins_any w4 A B _ _ vl P HS4.out hp HG4.out).mono ?_; rintro e w5 ⟨rfl, hb5⟩; rw [HR.out]; have HW5 := Lib.hid (HW4.out.trans (hb5.mono HW4.out.size)); clear hb5)
      | fail)
    go_ret
    exact ⟨rfl, HW5.out⟩
  · have hle : decide ((a.length : Int) ≤ (b.length : Int)) = false := by simp; omega
    rw [show linkB a b P = false by unfold linkB; rw [decide_eq_false hl, Bool.false_and]]
    go_enter Tryd.func14, Tryd.ntmps14
    go_wp2_with fail
    go_ret
    exact ⟨rfl, Below.refl _ _⟩
end Go.Proofs.YtnbnjoejmepkjaaDoor

/-! LinkC: The walk of link.Find where nothing is looked for: no link, or the first list begins the other. Conditions: those of link.Is; either is so. -/
namespace Go.Proofs.YtnbnjoejmepkjaaDoor
open Go.RowKit

set_option maxRecDepth 100000 in
set_option maxHeartbeats 1000000 in
theorem lfind_none (va vb vl : Value) (a b : List (List UInt8)) (xs ys : List Value) (P : List H) (w : World) (ha : Parts w va a xs) (hb : Parts w vb b ys) (hs : Hs w vl P) (hn : a.length ≤ 4000) (hm : b.length ≤ 4000) (hp : P.length ≤ 4096) (hwa : ∀ l ∈ a, l.length ≤ 35184372088832) (hwb : ∀ l ∈ b, l.length ≤ 35184372088832) (hg : Glob w)
    (hf : linkB a b P = false ∨ beginsB a b = true) :
    Calls Tryd.prog 10 #[va, vb, vl] w fun e w' => e = .returned (.tuple #[.slice none 0 0, .slice none 0 0, .bool false]) ∧ Below w.heap.size w w' := by
  obtain ⟨xa, ca, rfl, _⟩ := ha.sl.form
  obtain ⟨xb, cb, rfl, _⟩ := hb.sl.form
  have HA := Lib.hid ha
  have HB := Lib.hid hb
  have HS := Lib.hid hs
  have HG := Lib.hid hg
  have HWA := Lib.hid hwa
  have HWB := Lib.hid hwb
  clear ha hb hs hg hwa hwb
  cases hl : linkB a b P with
  | false =>
    have HL := Lib.hid hl
    clear hl hf
    go_enter Tryd.func10, Tryd.ntmps10
    go_wp2_with (first
      | (go_at_call 13; refine (lis_any _ _ vl a b xs ys P w HA.out HB.out HS.out hn hm hp HWA.out HWB.out HG.out).mono ?_; rintro e w3 ⟨rfl, hb3⟩; rw [HL.out]; have HW3 := Lib.hid hb3; clear hb3)
      | fail)
    go_ret3
    exact ⟨rfl, HW3.out⟩
  | true =>
    have HL := Lib.hid hl
    have HF := Lib.hid (show beginsB a b = true from hf.resolve_left (by rw [hl]; decide))
    clear hl hf
    go_enter Tryd.func10, Tryd.ntmps10
    go_wp2_with (first
      | (go_at_call 13; refine (lis_any _ _ vl a b xs ys P w HA.out HB.out HS.out hn hm hp HWA.out HWB.out HG.out).mono ?_; rintro e w3 ⟨rfl, hb3⟩; rw [HL.out]; have HW3 := Lib.hid hb3; have HA3 := Lib.hid (HA.out.below hb3); have HB3 := Lib.hid (HB.out.below hb3); clear hb3)
      | (go_at_call 15; refine (lbegins_any _ _ a b xs ys w3 HA3.out HB3.out (by omega)).mono ?_; rintro e w4 ⟨rfl, h4⟩; rw [h4, HF.out]; clear h4 w4)
      | fail)
    go_ret3
    exact ⟨rfl, HW3.out⟩
end Go.Proofs.YtnbnjoejmepkjaaDoor

/-! LinkE: Plain facts of links: what begins a list, with layer 6's proof, is a link; the document's example. No condition. -/
namespace Go.Proofs.YtnbnjoejmepkjaaDoor
open Go.RowKit

theorem begins_take (b : List (List UInt8)) (m : Nat) : beginsB (b.take m) b = true := by
  unfold beginsB
  rw [List.length_take, Bool.and_eq_true, decide_eq_true_iff]
  refine ⟨by omega, ?_⟩
  by_cases h : m ≤ b.length
  · rw [Nat.min_eq_left h]; simp
  · rw [Nat.min_eq_right (by omega), List.take_of_length_le (by omega), List.take_of_length_le (Nat.le_refl _)]; simp
theorem link_own (b : List (List UInt8)) (m : Nat) (h1 : 1 ≤ m) (h2 : m ≤ b.length) : linkB (b.take m) b (subN ndH e0H (b.map lfH) m true) = true := by
  have h := both_sub ndH e0H (b.map lfH) m h1 (by rw [List.length_map]; exact h2)
  unfold linkB provesB rootB
  have hl : (b.take m).length = m := by rw [List.length_take]; omega
  rw [hl, if_neg (by omega), decide_eq_true h2, Bool.true_and, List.map_take]
  rw [List.length_map] at h
  rw [h]
  simp
theorem split3 : splitN 3 = 2 := splitN_unique 3 1 (by decide) (by decide)
theorem root_three (A B C : H) : rootN ndH e0H [A, B, C] = ndH (ndH A B) C := by
  rw [rootN_two _ _ _ (by simp), show splitN [A, B, C].length = 2 from split3]
  simp [rootN_one, root_pair]
theorem sub_three (A B C : H) : subN ndH e0H [A, B, C] 2 true = [C] := by
  rw [subN_left _ _ _ (by simp) (by simp) (by rw [show splitN [A, B, C].length = 2 from split3]; decide), show splitN [A, B, C].length = 2 from split3]
  rw [show [A, B, C].drop 2 = [C] from rfl, show [A, B, C].take 2 = [A, B] from rfl, rootN_one, subN_end [A, B] 2 true rfl]
  rfl
theorem ex_roots : (ndH (ndH (lfH [98]) (lfH [99])) (lfH [99]) == ndH (ndH (lfH [97]) (lfH [98])) (lfH [99])) = false := by rw [beq_H]; decide +kernel
theorem ex_link : linkB [[97], [98]] [[97], [98], [99]] [lfH [99]] = true := by
  have h := link_own [[97], [98], [99]] 2 (by decide) (by decide)
  rw [show ([[97], [98], [99]] : List (List UInt8)).map lfH = [lfH [97], lfH [98], lfH [99]] from rfl, sub_three] at h
  exact h
theorem ex_no : linkB [[98], [99]] [[97], [98], [99]] [lfH [99]] = false := by
  have h := both_sub ndH e0H [lfH [98], lfH [99], lfH [99]] 2 (by decide) (by simp)
  rw [sub_three, root_three, show [lfH [98], lfH [99], lfH [99]].take 2 = [lfH [98], lfH [99]] from rfl] at h
  unfold linkB provesB rootB
  rw [show ([[98], [99]] : List (List UInt8)).map lfH = [lfH [98], lfH [99]] from rfl, show ([[97], [98], [99]] : List (List UInt8)).map lfH = [lfH [97], lfH [98], lfH [99]] from rfl, root_three]
  show (decide ([[98], [99]].length ≤ [[97], [98], [99]].length) && if ([[98], [99]] : List (List UInt8)).length = 0 then _ else match bothN ndH (rootN ndH e0H [lfH [98], lfH [99]]) 3 2 [lfH [99]] with | some (x, y) => (x == rootN ndH e0H [lfH [98], lfH [99]]) && (y == ndH (ndH (lfH [97]) (lfH [98])) (lfH [99])) | none => false) = false
  rw [show bothN ndH (rootN ndH e0H [lfH [98], lfH [99]]) 3 2 [lfH [99]] = _ from h, if_neg (by simp)]
  simp only [ex_roots, Bool.and_false]
theorem ex_begins : beginsB [[97], [98]] [[97], [98], [99]] = true := rfl
theorem ex_begins1 : beginsB [[98], [99]] [[97], [98], [99]] = false := rfl
theorem ex_begins2 : beginsB [[97], [98], [99]] [[97], [98]] = false := rfl
end Go.Proofs.YtnbnjoejmepkjaaDoor
