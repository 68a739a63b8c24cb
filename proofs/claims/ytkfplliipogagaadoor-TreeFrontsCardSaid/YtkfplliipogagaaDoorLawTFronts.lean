/- The law TreeFronts, walked: true, and nothing that was there has turned. Conditions: the list can be read; the package's tables read as they are laid. -/
import Derived.Test.YtkfplliipogagaaDoorLawTRoots
namespace Go.Proofs.YtkfplliipogagaaDoor
open Go.RowKit

set_option maxRecDepth 100000 in
set_option maxHeartbeats 2000000 in
theorem tfronts_any (v : Value) (l : List H) (w : World) (hs : Hs w v l) (hg : Glob w) :
    Calls Tryd.prog 5 #[v] w fun e w' => e = .returned (.bool true) ∧ Below w.heap.size w w' := by
  obtain ⟨xa, ca, rfl, hca⟩ := hs.form
  have HG := Lib.hid hg
  have HS := Lib.hid hs
  clear hg hs
  by_cases h70 : l.length ≤ 70
  · have h1 : ¬ ((70 : Int) < l.length) := by omega
    go_enter Tryd.func5, Tryd.ntmps5
    go_wp2_with (first
      | (go_at_call 16; refine (alive5_any w HG.out).mono ?_; rintro e w1 ⟨rfl, hw1⟩; have hF1 := Blk.newL w1 frontV 35; have hs1 := hw1.size)
      | fail)
    have HFR := Lib.hid (fr_new hF1)
    have hw5 : Below w.heap.size w (w1.alloc (.cells frontV.toArray 35)) := hw1.alloc hs1 _
    obtain ⟨b, hbe⟩ : ∃ b, b = w1.heap.size := ⟨_, rfl⟩
    obtain ⟨V, hV⟩ : ∃ V, V = (w1.alloc (.cells frontV.toArray 35)).heap.size := ⟨_, rfl⟩
    rw [← hbe, ← hV] at HFR
    rw [← hbe]
    have hbw : w.heap.size ≤ b := by omega
    clear hF1 hbe hV
    go_loopw [4] (fun nv wr => ∃ n : Nat, nv = .int .i64 n ∧ n ≤ l.length ∧ Fr wr b V (l.take n) ∧ Below w.heap.size w wr) (fun nv _ => l.length - (intOf nv).toNat)
    case atStart => exact ⟨0, rfl, by omega, HFR.out, hw5⟩
    case round =>
      obtain ⟨n, rfl, hn, hF, hw⟩ := hrel
      have HF := Lib.hid hF
      clear hF HFR hw5 hw1
      by_cases hnl : n < l.length
      · have hlt : (n : Int) < l.length := by omega
        obtain ⟨y, hy⟩ : ∃ y, l[n]? = some y := ⟨_, List.getElem?_eq_getElem hnl⟩
        obtain ⟨bb, off, e1, e2, hr, hbb⟩ := hs_block HS.out (by omega)
        subst e1
        have hE : wr.rangeAt bb (off + n * 32) (bytesV y.b) := range_below (Hs.elem hr hy) hw
        have hix : (0 : Int) ≤ n ∧ (n : Int) < l.length := ⟨by omega, by omega⟩
        have hln : (l.take n).length = n := by rw [List.length_take]; omega
        have HE := Lib.hid hE
        have HY := Lib.hid hy
        have HLN := Lib.hid hln
        clear hE hr hy e2 hln
        go_wp2_with (first
          | (refine wpList_load_mid rfl 24 (.tmp 20) rfl bb (off + n * 32) rfl (bytesV y.b) _ (by exact HE.out) Tryd.underlying24 rfl (by exact hv_info _) ?_)
          | (go_at_call 24; refine (add_any w wr b V (l.take n) y HG.out hw hbw HF.out (by rw [HLN.out]; omega)).mono ?_; rintro e w8 ⟨rfl, hF8, hB8⟩; rw [take_snoc l n y HY.out] at hF8; have HF8 := Lib.hid hF8; have hw8 := hw.trans (hB8.old.mono hbw); clear hF8 hB8)
          | fail)
        clear hw HF HE
        go_loopw [5, 6] (fun ov kv wr => ∃ o k : Nat, ov = .int .i64 o ∧ kv = .int .i64 k ∧ o + onesN k = onesN (n + 1) ∧ k ≤ n + 1 ∧ o ≤ n + 1 ∧ wr = w8) (fun _ kv _ => (intOf kv).toNat)
        case atStart => exact ⟨0, n + 1, rfl, by go_num, by simp, by omega, by omega, rfl⟩
        case round =>
          obtain ⟨o, k, rfl, rfl, ho, hk, hon, rfl⟩ := hrel
          have HO := Lib.hid ho
          clear ho
          by_cases hk0 : k = 0
          · have hgt : ¬ (0 : Int) < k := by omega
            have ho1 : o = onesN (n + 1) := by
              have := HO.out
              rw [hk0, show onesN 0 = 0 by rw [onesN]; simp] at this
              omega
            obtain ⟨a1, c1, hs1, hh1⟩ := hs_head HS.out (n + 1) (by omega)
            have HH1 := Lib.hid (hh1.below hw8)
            have HGW := Lib.hid (HG.out.below hw8)
            clear hh1
            have hln : (l.take (n + 1)).length = n + 1 := by rw [List.length_take]; omega
            obtain ⟨R, hR⟩ : ∃ R, R = rootN ndH e0H (l.take (n + 1)) := ⟨_, rfl⟩
            obtain ⟨T, hT⟩ : ∃ T, T = treesN ndH e0H (l.take (n + 1)) := ⟨_, rfl⟩
            have hTl : T.length = o := by rw [hT, trees_len, hln, ho1]
            have heqR := fun w => is_hash w R
            have HR := Lib.hid hR
            have HT := Lib.hid hT
            have HTL := Lib.hid hTl
            have HLN2 := Lib.hid hln
            have hs1' : ∀ w' : World, (Instr.slice 31 (.slice (some ⟨bb, off, none⟩) l.length ca) none (some (.int .i64 ((n : Int) + 1))) none).run Tryd.prog w' = .ok (.slice a1 (n + 1) c1) w' := fun w' => by
              have := hs1 w'
              rwa [show ((n + 1 : Nat) : Int) = (n : Int) + 1 by omega] at this
            clear hR hT hln hTl hs1 ho1
            go_wp2_with fail
            refine wp_region_mono 13 (wr.heap.size) [(fun v _ => v = .agg (bytesV R.b).toArray), (fun v _ => v = .slice (some ⟨bb, off, none⟩) l.length ca), (fun v _ => v = .int .i64 n), (fun v _ => v = .int .i64 ((n : Int) + 1)), (fun v _ => v = .slice a1 (n + 1) c1), (fun v _ => v = .agg (bytesV R.b).toArray), (fun v _ => v = .bool false), (fun v _ => v = .bool false),
              (fun v w => Hs w v T), (fun v _ => v = .int .i64 o), (fun v _ => v = .int .i64 o), (fun v _ => v = .bool false), (fun v _ => v = .bool false)] (by kernel_rfl) (by kernel_rfl) (Nat.le_refl _) ?mkept _ rfl ?mops ?mfin
            case mkept =>
              repeat (refine List.forall_mem_cons.2 ⟨by first | exact fun _ _ _ _ h => h | exact fun _ _ _ hb h => Parts.below h hb | exact fun _ _ _ hb h => IsSl.below h hb, ?_⟩)
              exact fun _ h => by cases h
            case mops =>
              simp only [List.take_succ_cons, List.take_zero, monoAll, List.getD_cons_zero, List.getD_cons_succ]
              iterate 13
              
               (refine ⟨fun x wr hb hd Qg hK => ?_, ?_⟩
                · as_aux_lemma =>
                  simp only [fill, Act.put, List.setIfInBounds_toArray, List.set_cons_succ, List.set_cons_zero, needs, Region.binds, List.filter_cons, List.filter_nil, List.map_cons, List.map_nil, if_true, List.mem_cons, List.not_mem_nil, or_false, forall_eq_or_imp, forall_eq, List.getD_cons_zero, List.getD_cons_succ, false_implies, implies_true] at hd hK ⊢
                  (try simp only [hd] at hK ⊢)
                  first
                  | (show wpList _ _ _ [⟨some 33, .call _, _, _, _, _⟩] _ _; go_wp2_with (go_at_call 26; refine (froot_any wr _ _ (l.take (n + 1)) (St.keep HF8.out hb) (by rw [HLN2.out]; omega) (HGW.out.below hb)).mono ?_; rintro e w5 ⟨rfl, hb5⟩); exact hK _ _ (by rw [HR.out]; rfl) hb5)
                  | (show wpList _ _ _ [⟨some 38, .call _, _, _, _, _⟩] _ _; go_wp2_with (go_at_call 32; refine (root_any (n + 1) _ (l.take (n + 1)) wr HLN2.out (by omega) (HH1.out.below hb) (HGW.out.below hb)).mono ?_; rintro e w5 ⟨rfl, hb5⟩); exact hK _ _ (by rw [HR.out]; rfl) hb5)
                  | (show wpList _ _ _ [⟨some 41, .call _, _, _, _, _⟩] _ _; go_wp2_with (go_at_call 28; refine (trees_any wr _ _ (l.take (n + 1)) (St.keep HF8.out hb) (by rw [HLN2.out]; omega)).mono ?_; rintro e w6 ⟨⟨v6, rfl, hv6⟩, hb6⟩); exact hK _ _ (by rw [← HT.out] at hv6; exact hv6) hb6)
                  | (show wpList _ _ _ [⟨some 42, .call _, _, _, _, _⟩] _ _; obtain ⟨a9, c9, e9, _⟩ := Hs.form (show Hs wr (x 8) T by simp only [hd]); rw [HTL.out] at e9; simp only [e9] at hK ⊢; go_wp2_with fail; exact hK _ _ rfl (Below.refl _ _))
                  | (go_wp2_with fail; exact hK _ _ rfl (Below.refl _ _)))
              trivial
            case mfin =>
              intro x w9 hb9 hR
              have x12 := hR 12 (by decide)
              simp only [List.getD_cons_zero, List.getD_cons_succ] at x12
              have HF9 := Lib.hid (St.keep HF8.out hb9)
              have hw9 := hw8.trans (hb9.mono hw8.size)
              clear hR hb9 heqR HF8
              simp only [List.drop_succ_cons, List.drop_zero]
              generalize List.toArray _ = L0
              simp only [List.take_succ_cons, List.take_zero, List.map_cons, List.map_nil, fill, Act.put, List.setIfInBounds_toArray, List.set_cons_succ, List.set_cons_zero, x12]
              clear x12
              go_wp2_with fail
              exact ⟨⟨n + 1, by go_num, by omega, HF9.out, hw9⟩, by simp [intOf]; omega⟩
          · have hgt : (0 : Int) < k := by omega
            go_wp2_with fail
            refine ⟨⟨o + k % 2, k / 2, by go_num, by go_num, ?_, by omega, ?_, by trivial⟩, by simp [intOf]; omega⟩
            · have := HO.out
              rw [onesN, dif_neg hk0] at this
              omega
            · have := HO.out
              rw [onesN, dif_neg hk0] at this
              have h9 := onesN_le (n + 1)
              omega
      · have hlt : ¬ (n : Int) < l.length := by omega
        go_wp2_with fail
        go_ret
        exact ⟨rfl, hw⟩
  · have h1 : (70 : Int) < l.length := by omega
    go_enter Tryd.func5, Tryd.ntmps5
    go_wp2_with (first
      | (go_at_call 16; refine (alive5_any w HG.out).mono ?_; rintro e w1 ⟨rfl, hw1⟩)
      | fail)
    go_ret
    exact ⟨rfl, hw1⟩
end Go.Proofs.YtkfplliipogagaaDoor
