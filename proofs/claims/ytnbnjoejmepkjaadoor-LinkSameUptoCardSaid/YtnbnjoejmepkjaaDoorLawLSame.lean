/- The law LinkSame, walked: true, and nothing that was there has turned. Conditions: the list can be read, at most 2^20 texts of at most 2^20 bytes; the package's tables read as they are laid. -/
import Derived.Test.YtnbnjoejmepkjaaDoorAliveW
import Derived.Test.YtnbnjoejmepkjaaDoorMoreW
namespace Go.Proofs.YtnbnjoejmepkjaaDoor
open Go.RowKit

def moreT : List UInt8 := [109, 111, 114, 101]
set_option maxRecDepth 100000 in
set_option maxHeartbeats 8000000 in
theorem lsame_any (va : Value) (a : List (List UInt8)) (xs : List Value) (w : World) (ha : Parts w va a xs) (hla : a.length ≤ 1048576) (hea : ∀ l ∈ a, l.length ≤ 1048576) (hg : Glob w) :
    Calls Tryd.prog 6 #[va] w fun e w' => e = .returned (.bool true) ∧ Below w.heap.size w w' := by
  obtain ⟨xl, cl, rfl, _⟩ := ha.sl.form
  obtain ⟨i0, hi, hz0, hz1, hz2⟩ := info_parts info_bytes
  have hsm : ([] : List H).length + gN a a.length + gN [] ([] : List (List UInt8)).length ≤ 1152921504606846976 := by
    have h1 := gN_bulk hea hla
    have h2 : gN [] ([] : List (List UInt8)).length = 0 := rfl
    rw [h2, List.length_nil]
    omega
  have HA := Lib.hid ha
  have HG := Lib.hid hg
  have HSM := Lib.hid hsm
  clear ha hg hsm hea
  cases hga : great20B a [] [] with
  | true =>
    have GA := Lib.hid hga
    clear hga
    go_enter Tryd.func6, Tryd.ntmps6
    go_wp2_with (first
      | (go_at_call 8; refine (alive20_any w HG.out).mono ?_; rintro e w1 ⟨rfl, hb1⟩; have hw1 := hb1; have HA1 := Lib.hid (HA.out.below hb1); clear hb1)
      | (go_at_call 9; refine (great20_any _ _ _ a [] xs [] [] w1 HA1.out (Parts.nil w1) (Hs.nil w1) HSM.out).mono ?_; rintro e w2 ⟨rfl, h2⟩; rw [h2, GA.out]; clear h2 w2)
      | fail)
    go_ret
    exact ⟨rfl, hw1⟩
  | false =>
    have GA := Lib.hid hga
    obtain ⟨_, sa, _, ta0, _⟩ := not_great20 hga
    have ta : ∀ l ∈ a, l.length ≤ 35184372088832 := fun l hl => by have := ta0 l hl; omega
    clear hga ta0 hla
    by_cases hl0 : a.length = 0
    · have hz : ((a.length : Int) == 0) = true := by rw [beq_iff_eq]; omega
      clear hl0
      go_enter Tryd.func6, Tryd.ntmps6
      go_wp2_with (first
        | (go_at_call 8; refine (alive20_any w HG.out).mono ?_; rintro e w1 ⟨rfl, hb1⟩; have hw1 := hb1; have HA1 := Lib.hid (HA.out.below hb1); clear hb1)
        | (go_at_call 9; refine (great20_any _ _ _ a [] xs [] [] w1 HA1.out (Parts.nil w1) (Hs.nil w1) HSM.out).mono ?_; rintro e w2 ⟨rfl, h2⟩; rw [h2, GA.out]; clear h2 w2)
        | fail)
      go_ret
      exact ⟨rfl, hw1⟩
    have hz : ((a.length : Int) == 0) = false := by rw [beq_eq_false_iff_ne]; omega
    obtain ⟨m, hm⟩ : ∃ m, a.length = m + 1 := ⟨a.length - 1, by omega⟩
    obtain ⟨a1, d1, hs0, hp1⟩ := parts_head HA.out m (by omega)
    have hmi : (a.length : Int) - 1 = (m : Int) := by omega
    have HL := Lib.hid (link_self a (by omega))
    have HB0 := Lib.hid (begins_self a)
    have HB1 := Lib.hid (begins_more a moreT m (by omega))
    have HB2 := Lib.hid (begins_all a moreT)
    have HB3 := Lib.hid (begins_less a moreT)
    have HTA := Lib.hid ta
    have HP1 := Lib.hid hp1
    have lm : (a.take m).length ≤ 1099511627776 := by rw [List.length_take]; omega
    have lx : (a ++ [moreT]).length ≤ 1099511627776 := by rw [List.length_append, List.length_singleton]; omega
    have kc := fun (w : World) (C : Array Value) (n c : Nat) => Lib.run_convert_bytes_const (P := Tryd.prog) w 26 5 C n c Tryd.underlying26 Tryd.underlying5
    have HM := Lib.hid hm
    clear ta hp1 hl0 hm
    go_enter Tryd.func6, Tryd.ntmps6
    go_wp2_with (first
      | (go_at_call 8; refine (alive20_any w HG.out).mono ?_; rintro e w1 ⟨rfl, hb1⟩; have hw1 := hb1; have HA1 := Lib.hid (HA.out.below hb1); have HG1 := Lib.hid (HG.out.below hb1); clear hb1)
      | (go_at_call 9; have HQ := HA1; refine (great20_any _ _ _ a [] xs [] [] w1 HQ.out (Parts.nil w1) (Hs.nil w1) HSM.out).mono ?_; rintro e w2 ⟨rfl, h2⟩; rw [h2, GA.out]; clear h2 w2 HQ)
      | (go_at_call 10; have HQ := HA1; clear HA1; refine (lfind_none _ _ _ a a xs xs [] w1 HQ.out HQ.out (Hs.nil w1) (by omega) (by omega) (by decide) HTA.out HTA.out HG1.out (.inr HB0.out)).mono ?_; rintro e w2 ⟨rfl, hb2⟩; have hw2 := hw1.trans (hb2.mono hw1.size); have HA2 := Lib.hid (HQ.out.below hb2); have HG2 := Lib.hid (HG1.out.below hb2); clear hb2)
      | (at_builtin; have HQ := HA2; clear HA2; refine wpList_app_lit rfl (.tmp 23) (.tmp 24) 22 rfl w2.heap.size 26 i0 (.slice none 0 0) 1 24 Tryd.underlying22 hi hz0 hz1 hz2 rfl (by decide) w2.heap.size rfl (by exact own_empty w2 _ rfl) _ a.length xs rfl (by exact (HQ.out.below ((Below.refl _ _).alloc (Nat.le_refl _) _)).sl) (by unfold maxLen; omega) (by omega) (by simp) ?_; intro v3 w3 ho3 hb3; have hb3 := (((Below.refl w2.heap.size w2).alloc (Nat.le_refl _) (.cells #[] 26)).trans (hb3.mono (by simp))); have hw3 := hw2.trans (hb3.mono hw2.size); have HO3 := Lib.hid ho3; have HA3 := Lib.hid (HQ.out.below hb3); have hs3 := hb3.size; have HG3 := Lib.hid (HG2.out.below hb3); clear hb3 ho3)
      | (at_builtin; refine wpList_app rfl (.tmp 25) (.tmp 28) 22 rfl w2.heap.size 26 i0 (.slice none 0 0) 1 24 Tryd.underlying22 hi hz0 hz1 hz2 rfl (by decide) _ a.length xs rfl (by exact ownsRow_below HO3.out (((Below.refl _ _).alloc (Nat.le_refl _) _).alloc (by simp) _) (ownsRow_block HO3.out)) _ 1 [.slice (some ⟨w3.heap.size, 0, none⟩) 4 4] rfl (by exact isSl_newB (B := w3.heap.size + 1) (w3.alloc (.cells (bytesV moreT).toArray 5 (4, 5))) [.slice (some ⟨w3.heap.size, 0, none⟩) 4 4] _ 1 1 (by simp) rfl (by simp [Value.oneCell'])) (by unfold maxLen; omega) (by omega) (by simp; omega) ?_; intro a4 c4 w4 ho4 hg4 _; have hw4 : Below w.heap.size w w4 := (((hw3.alloc hw3.size (.cells (bytesV moreT).toArray 5 (4, 5))).alloc (by simp; have := hw3.size; omega) (.cells #[.slice (some ⟨w3.heap.size, 0, none⟩) 4 4] 26)).grown hg4 (by simp; have := hw3.size; omega) (fun k hk => Nat.le_trans hw2.size (HO3.out.lt k hk).1)); have hx4 : Bytes w4 (.slice (some ⟨w3.heap.size, 0, none⟩) 4 4) moreT := bytes_grown ((bytes_alloc w3 moreT 5 (4, 5) rfl).below ((Below.refl _ _).alloc (Nat.le_refl _) _)) hg4 (fun ad k c e hk => by cases e; have := (HO3.out.lt _ hk.symm).2; simp at this); have hp4 := parts_more ho4 rfl (HA.out.below hw4) hx4; have HP4 := Lib.hid hp4; have HA4 := Lib.hid (HA.out.below hw4); have HG4 := Lib.hid (HG.out.below hw4); have HH4 := Lib.hid (HP1.out.below hw4); clear ho4 hg4 hp4 hx4)
      | (go_at_call 13; refine (lis_any _ _ _ a a xs xs [] w4 HA4.out HA4.out (Hs.nil w4) (by omega) (by omega) (by decide) HTA.out HTA.out HG4.out).mono ?_; rintro e w5 ⟨rfl, hb5⟩; rw [HL.out]; have hw5 := hw4.trans (hb5.mono hw4.size); have HA5 := Lib.hid (HA4.out.below hb5); have HH5 := Lib.hid (HH4.out.below hb5); have HP5 := Lib.hid (HP4.out.below hb5); have HU5 := HA5; have HV5 := HA5; clear hb5)
      | (go_at_call 15; have HQ := HU5; clear HU5; refine (lbegins_any _ _ a a xs xs w5 HQ.out HQ.out (by omega)).mono ?_; rintro e w6 ⟨rfl, h6⟩; rw [h6, HB0.out]; clear h6 w6)
      | (go_at_call 15; have HQ := HH5; clear HH5; refine (lbegins_any _ _ (a.take m) (a ++ [moreT]) _ _ w5 HQ.out HP5.out lm).mono ?_; rintro e w6 ⟨rfl, h6⟩; rw [h6, HB1.out]; clear h6 w6)
      | (go_at_call 15; have HQ := HV5; clear HV5; refine (lbegins_any _ _ a (a ++ [moreT]) _ _ w5 HQ.out HP5.out (by omega)).mono ?_; rintro e w6 ⟨rfl, h6⟩; rw [h6, HB2.out]; clear h6 w6)
      | (go_at_call 15; refine (lbegins_any _ _ (a ++ [moreT]) a _ _ w5 HP5.out HA5.out lx).mono ?_; rintro e w6 ⟨rfl, h6⟩; rw [h6, HB3.out]; clear h6 w6)
      | fail)
    go_ret
    exact ⟨rfl, hw5⟩
end Go.Proofs.YtnbnjoejmepkjaaDoor
