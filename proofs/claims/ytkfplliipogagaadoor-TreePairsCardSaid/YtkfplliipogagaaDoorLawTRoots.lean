/- The law TreeRoots, walked: true, and nothing that was there has turned. Conditions: the list can be read; the package's tables read as they are laid. -/
import Derived.Test.YtkfplliipogagaaDoorAlive5
namespace Go.Proofs.YtkfplliipogagaaDoor
open Go.RowKit

def zeroH : H := ⟨List.replicate 32 0, by simp⟩
theorem trees_len (l : List H) : (treesN ndH e0H l).length = onesN l.length := by
  rw [← stackN_trees ndH e0H _ l rfl, List.length_reverse, stackN_len ndH _ l rfl]
theorem take_snoc (l : List H) (n : Nat) (x : H) (h : l[n]? = some x) : l.take n ++ [x] = l.take (n + 1) := by
  rw [List.take_add_one, h]
  rfl
theorem size_is (w : World) (b V : Nat) (l : List H) (n : Nat) (hF : Fr w b V l) (h : l.length = n) : Calls Tryd.prog 25 #[.pointer (some ⟨b, 0, none⟩)] w fun e w' => e = .returned (.int .i64 (n : Int)) ∧ Below w.heap.size w w' := by
  subst h
  exact calls_same (size_any w b V l hF)
set_option maxRecDepth 100000 in
set_option maxHeartbeats 2000000 in
theorem troots_any (v : Value) (l : List H) (w : World) (hs : Hs w v l) (hg : Glob w) :
    Calls Tryd.prog 4 #[v] w fun e w' => e = .returned (.bool true) ∧ Below w.heap.size w w' := by
  obtain ⟨xa, ca, rfl, hca⟩ := hs.form
  have HG := Lib.hid hg
  have HS := Lib.hid hs
  clear hg hs
  by_cases h70 : l.length ≤ 70
  · have h1 : ¬ ((70 : Int) < l.length) := by omega
    have hnil : ∀ (w : World), (binOp .eql 36 (.pointer none) (.pointer none)).run Tryd.prog w = .ok (.bool true) w := fun _ => rfl
    have heq0 := fun w => eq_hash_same w (sumN []) (sumN_len _)
    go_enter Tryd.func4, Tryd.ntmps4
    go_wp2_with (first
      | (go_at_call 16; refine (alive5_any w HG.out).mono ?_; rintro e w1 ⟨rfl, hw1⟩; have hF1 := Blk.newL w1 frontV 35; have hs1 := hw1.size)
      | (go_at_call 24; refine (add_none _ zeroH).mono ?_; rintro e w2 ⟨rfl, hb2⟩; have hF2 := hF1.below hb2 (by simp); have hw2 : Below w.heap.size w w2 := (hw1.alloc hs1 _).trans (hb2.mono (by simp; omega)); clear hF1 hb2)
      | (go_at_call 25; refine (size_none _).mono ?_; rintro e w3 ⟨rfl, heqw⟩; rw [heqw]; clear heqw w3)
      | (go_at_call 26; refine (froot_none (.pointer none) w2 (HG.out.below hw2) (.inl rfl)).mono ?_; rintro e w4 ⟨rfl, hb4⟩; rw [show hv e0H = Value.agg (bytesV (sumN [])).toArray from rfl]; have hF4 := hF2.below hb4 hF2.lt; have hw4 := hw2.trans (hb4.mono hw2.size); clear hF2 hb4)
      | (go_at_call 27; refine (sum_any (.slice none 0 0) [] [] w4 (Parts.nil _) (by decide) (by decide) (HG.out.below hw4)).mono ?_; rintro e w5 ⟨rfl, hb5⟩; rw [sum_nat, show cat [] = [] from rfl]; have hF5 := hF4.below hb5 hF4.lt; have hw5 := hw4.trans (hb5.mono hw4.size); clear hF4 hb5)
      | (go_at_call 28; refine (trees_none _).mono ?_; rintro e w6 ⟨rfl, heqw⟩; rw [heqw]; clear heqw w6)
      | fail)
    have HFR := Lib.hid (fr_new hF5)
    obtain ⟨b, hbe⟩ : ∃ b, b = w1.heap.size := ⟨_, rfl⟩
    rw [← hbe] at HFR ⊢
    have hbw : w.heap.size ≤ b := by omega
    clear hF5 hbe hw2 hw4
    go_loopw [5] (fun nv wr => ∃ n : Nat, nv = .int .i64 n ∧ n ≤ l.length + 1 ∧ Fr wr b w5.heap.size (l.take n) ∧ Below w.heap.size w wr) (fun nv _ => l.length + 1 - (intOf nv).toNat)
    case atStart => exact ⟨0, rfl, by omega, HFR.out, hw5⟩
    case round =>
      obtain ⟨n, rfl, hn, hF, hw⟩ := hrel
      have HF := Lib.hid hF
      clear hF HFR hw5
      have hsz := hw.size
      by_cases hnl : n ≤ l.length
      · have hle : (n : Int) ≤ l.length := by omega
        obtain ⟨a1, c1, hs1, hh1⟩ := hs_head HS.out n hnl
        have HH1 := Lib.hid hh1
        have HGW := Lib.hid (HG.out.below hw)
        clear hh1
        have hln : (l.take n).length = n := by rw [List.length_take]; omega
        obtain ⟨R, hR⟩ : ∃ R, R = rootN ndH e0H (l.take n) := ⟨_, rfl⟩
        obtain ⟨T, hT⟩ : ∃ T, T = treesN ndH e0H (l.take n) := ⟨_, rfl⟩
        have hTl : T.length ≤ 1099511627776 := by rw [hT, trees_len, hln]; have := onesN_le n; omega
        have heqR := fun w => is_hash w R
        have HR := Lib.hid hR
        have HT := Lib.hid hT
        have HLN := Lib.hid hln
        clear hR hT hln
        go_wp2_with fail
        refine wp_region_mono 20 (wr.heap.size) [(fun v _ => v = .int .i64 n), (fun v _ => v = .int .i64 n), (fun v _ => v = .bool false), (fun v _ => v = .bool false), (fun v _ => v = .agg (bytesV R.b).toArray), (fun v _ => v = .slice xa l.length ca), (fun v _ => v = .int .i64 n), (fun v _ => v = .slice a1 n c1), (fun v _ => v = .agg (bytesV R.b).toArray), (fun v _ => v = .bool false), (fun v _ => v = .bool false), (fun v _ => v = .bool false),
          (fun v w => Hs w v T), (fun v _ => v = .slice xa l.length ca), (fun v _ => v = .int .i64 n), (fun v _ => v = .slice a1 n c1), (fun v w => Hs w v T), (fun v _ => v = .bool true), (fun v _ => v = .bool false), (fun v _ => v = .bool false)] (by kernel_rfl) (by kernel_rfl) (Nat.le_refl _) ?mkept _ rfl ?mops ?mfin
        case mkept =>
          repeat (refine List.forall_mem_cons.2 ⟨by first | exact fun _ _ _ _ h => h | exact fun _ _ _ hb h => Parts.below h hb | exact fun _ _ _ hb h => IsSl.below h hb, ?_⟩)
          exact fun _ h => by cases h
        case mops =>
          simp only [List.take_succ_cons, List.take_zero, monoAll, List.getD_cons_zero, List.getD_cons_succ]
          iterate 20
          
           (refine ⟨fun x wr hb hd Qg hK => ?_, ?_⟩
            · as_aux_lemma =>
              simp only [fill, Act.put, List.setIfInBounds_toArray, List.set_cons_succ, List.set_cons_zero, needs, Region.binds, List.filter_cons, List.filter_nil, List.map_cons, List.map_nil, if_true, List.mem_cons, List.not_mem_nil, or_false, forall_eq_or_imp, forall_eq, List.getD_cons_zero, List.getD_cons_succ, false_implies, implies_true] at hd hK ⊢
              (try simp only [hd] at hK ⊢)
              first
              | (show wpList _ _ _ [⟨some 35, .call _, _, _, _, _⟩] _ _; go_wp2_with (go_at_call 25; refine (size_is wr _ _ (l.take n) n (St.keep HF.out hb) HLN.out).mono ?_; rintro e w5 ⟨rfl, hb5⟩); exact hK _ _ (rfl) hb5)
              | (show wpList _ _ _ [⟨some 39, .call _, _, _, _, _⟩] _ _; go_wp2_with (go_at_call 26; refine (froot_any wr _ _ (l.take n) (St.keep HF.out hb) (by rw [HLN.out]; omega) (HGW.out.below hb)).mono ?_; rintro e w5 ⟨rfl, hb5⟩); exact hK _ _ (by rw [HR.out]; rfl) hb5)
              | (show wpList _ _ _ [⟨some 43, .call _, _, _, _, _⟩] _ _; go_wp2_with (go_at_call 29; refine (refroot_any n _ (l.take n) wr HLN.out (by omega) ((HH1.out.below hw).below hb) (HGW.out.below hb)).mono ?_; rintro e w5 ⟨rfl, hb5⟩); exact hK _ _ (by rw [HR.out]; rfl) hb5)
              | (show wpList _ _ _ [⟨some 47, .call _, _, _, _, _⟩] _ _; go_wp2_with (go_at_call 28; refine (trees_any wr _ _ (l.take n) (St.keep HF.out hb) (by rw [HLN.out]; omega)).mono ?_; rintro e w6 ⟨⟨v6, rfl, hv6⟩, hb6⟩); exact hK _ _ (by rw [← HT.out] at hv6; exact hv6) hb6)
              | (show wpList _ _ _ [⟨some 51, .call _, _, _, _, _⟩] _ _; go_wp2_with (go_at_call 31; refine (reftrees_any _ (l.take n) wr ((HH1.out.below hw).below hb) (by rw [HLN.out]; omega) (HGW.out.below hb)).mono ?_; rintro e w6 ⟨⟨v6, rfl, hv6⟩, hb6⟩); exact hK _ _ (by rw [← HT.out] at hv6; exact hv6) hb6)
              | (show wpList _ _ _ [⟨some 52, .call _, _, _, _, _⟩] _ _; go_wp2_with (go_at_call 30; refine (refsame_any (x 12) (x 16) T T wr (by simp only [hd]) (by simp only [hd]) hTl).mono ?_; rintro e w5 ⟨rfl, hb5⟩); exact hK _ _ (by simp) hb5)
              | (go_wp2_with fail; exact hK _ _ rfl (Below.refl _ _)))
          trivial
        case mfin =>
          intro x w7 hb7 hR
          have x19 := hR 19 (by decide)
          simp only [List.getD_cons_zero, List.getD_cons_succ] at x19
          have HF7 := Lib.hid (St.keep HF.out hb7)
          have hw7 := hw.trans (hb7.mono hsz)
          clear hR hb7 heqR hw HF
          simp only [List.drop_succ_cons, List.drop_zero]
          generalize List.toArray _ = L0
          simp only [List.take_succ_cons, List.take_zero, List.map_cons, List.map_nil, fill, Act.put, List.setIfInBounds_toArray, List.set_cons_succ, List.set_cons_zero, x19]
          clear x19
          by_cases hlt : n < l.length
          · have hlt' : (n : Int) < l.length := by omega
            obtain ⟨y, hy⟩ : ∃ y, l[n]? = some y := ⟨_, List.getElem?_eq_getElem hlt⟩
            obtain ⟨bb, off, e1, e2, hr, hbb⟩ := hs_block HS.out (by omega)
            subst e1
            have hE : w7.rangeAt bb (off + n * 32) (bytesV y.b) := range_below (Hs.elem hr hy) hw7
            have hix : (0 : Int) ≤ n ∧ (n : Int) < l.length := ⟨by omega, by omega⟩
            have HE := Lib.hid hE
            have HY := Lib.hid hy
            clear hE hr hy e2
            go_wp2_with (first
              | (refine wpList_load_mid rfl 24 (.tmp 61) rfl bb (off + n * 32) rfl (bytesV y.b) _ (by exact HE.out) Tryd.underlying24 rfl (by exact hv_info _) ?_)
              | (go_at_call 24; refine (add_any w w7 b w5.heap.size (l.take n) y HG.out hw7 hbw HF7.out (by rw [HLN.out]; omega)).mono ?_; rintro e w8 ⟨rfl, hF8, hB8⟩; rw [take_snoc l n y HY.out] at hF8; have HF8 := Lib.hid hF8; have hw8 := hw7.trans (hB8.old.mono hbw); clear hF8 hB8)
              | fail)
            exact ⟨⟨n + 1, by go_num, by omega, HF8.out, hw8⟩, by simp [intOf]; omega⟩
          · have hlt' : ¬ (n : Int) < l.length := by omega
            go_wp2_with fail
            refine ⟨⟨n + 1, by go_num, by omega, ?_, hw7⟩, by simp [intOf]; omega⟩
            rw [List.take_of_length_le (by omega), ← List.take_of_length_le (i := n) (l := l) (by omega)]
            exact HF7.out
      · have hle : ¬ (n : Int) ≤ l.length := by omega
        obtain ⟨R, hR⟩ : ∃ R, R = rootN ndH e0H l := ⟨_, rfl⟩
        have heqR := fun w => is_hash w R
        have HR := Lib.hid hR
        clear hR
        go_wp2_with (first
          | (go_at_call 32; refine (root_any l.length _ l wr rfl (by omega) (HS.out.below hw) (HG.out.below hw)).mono ?_; rintro e w8 ⟨rfl, hb8⟩; rw [← HR.out, show hv R = Value.agg (bytesV R.b).toArray from rfl]; have hw8 := hw.trans (hb8.mono hsz); clear hb8)
          | (go_at_call 29; refine (refroot_any l.length _ l w8 rfl (by omega) (HS.out.below hw8) (HG.out.below hw8)).mono ?_; rintro e w9 ⟨rfl, hb9⟩; rw [← HR.out, show hv R = Value.agg (bytesV R.b).toArray from rfl]; have hw9 := hw8.trans (hb9.mono hw8.size); clear hb9)
          | fail)
        go_ret
        exact ⟨rfl, hw9⟩
  · have h1 : (70 : Int) < l.length := by omega
    go_enter Tryd.func4, Tryd.ntmps4
    go_wp2_with (first
      | (go_at_call 16; refine (alive5_any w HG.out).mono ?_; rintro e w1 ⟨rfl, hw1⟩)
      | fail)
    go_ret
    exact ⟨rfl, hw1⟩
end Go.Proofs.YtkfplliipogagaaDoor
