/- The law TreeHalves, walked: true, and nothing that was there has turned. Conditions: the list can be read; the package's tables read as they are laid. -/
import Derived.Test.YtkfplliipogagaaDoorLawTRoots
namespace Go.Proofs.YtkfplliipogagaaDoor
open Go.RowKit

set_option maxRecDepth 100000 in
set_option maxHeartbeats 2000000 in
theorem thalves_any (v : Value) (l : List H) (w : World) (hs : Hs w v l) (hg : Glob w) :
    Calls Tryd.prog 6 #[v] w fun e w' => e = .returned (.bool true) ∧ Below w.heap.size w w' := by
  obtain ⟨xa, ca, rfl, hca⟩ := hs.form
  have HG := Lib.hid hg
  have HS := Lib.hid hs
  clear hg hs
  by_cases h70 : l.length ≤ 70
  · have h1 : ¬ ((70 : Int) < l.length) := by omega
    by_cases h2 : 2 ≤ l.length
    · have h2' : ¬ ((l.length : Int) < 2) := by omega
      obtain ⟨k, hk⟩ : ∃ k, k = splitN l.length := ⟨_, rfl⟩
      have hkpos := splitN_pos l.length h2
      have hklt := splitN_lt l.length h2
      have hkhalf := splitN_half l.length h2
      have hkpow := splitN_pow l.length h2
      rw [← hk] at hkpos hklt hkhalf hkpow
      have hroot := rootN_two ndH e0H l h2
      rw [← hk] at hroot
      have htr : treesN ndH e0H (l.take k) = [rootN ndH e0H (l.take k)] := by
        rw [← stackN_trees ndH e0H _ _ rfl, stackN_whole ndH e0H (l.take k) (Nat.log2 (l.length - 1)) (by rw [List.length_take]; omega)]
        rfl
      have t1 : decide ((k : Int) < 1) = false := decide_eq_false (by omega)
      have t2 : decide (l.length ≤ k) = false := decide_eq_false (by omega)
      have t3 : decide ((2 : Int) * k < l.length) = false := decide_eq_false (by omega)
      have HK := Lib.hid hk
      have HROOT := Lib.hid hroot
      have HTR := Lib.hid htr
      clear hk hroot htr hkpow
      go_enter Tryd.func6, Tryd.ntmps6
      go_wp2_with (first
        | (go_at_call 16; refine (alive5_any w HG.out).mono ?_; rintro e w1 ⟨rfl, hw1⟩; have hF1 := Blk.newL w1 frontV 35; have hs1 := hw1.size)
        | (go_at_call 22; refine (split_any l.length _ (by omega)).mono ?_; rintro e w2 ⟨rfl, heqw⟩; rw [heqw]; clear heqw w2; rw [← HK.out])
        | fail)
      have HFR := Lib.hid (fr_new hF1)
      have hw5 : Below w.heap.size w (w1.alloc (.cells frontV.toArray 35)) := hw1.alloc hs1 _
      obtain ⟨b, hbe⟩ : ∃ b, b = w1.heap.size := ⟨_, rfl⟩
      obtain ⟨V, hV⟩ : ∃ V, V = (w1.alloc (.cells frontV.toArray 35)).heap.size := ⟨_, rfl⟩
      rw [← hbe, ← hV] at HFR
      rw [← hbe]
      have hbw : w.heap.size ≤ b := by omega
      clear hF1 hbe hV
      go_loopw [5] (fun nv wr => ∃ n : Nat, nv = .int .i64 n ∧ n ≤ k ∧ Fr wr b V (l.take n) ∧ Below w.heap.size w wr) (fun nv _ => k - (intOf nv).toNat)
      case atStart => exact ⟨0, rfl, by omega, HFR.out, hw5⟩
      case round =>
        obtain ⟨n, rfl, hn, hF, hw⟩ := hrel
        have HF := Lib.hid hF
        clear hF HFR hw5 hw1
        by_cases hnl : n < k
        · have hlt : (n : Int) < k := by omega
          obtain ⟨y, hy⟩ : ∃ y, l[n]? = some y := ⟨_, List.getElem?_eq_getElem (by omega)⟩
          obtain ⟨bb, off, e1, e2, hr, hbb⟩ := hs_block HS.out (by omega)
          subst e1
          have hE : wr.rangeAt bb (off + n * 32) (bytesV y.b) := range_below (Hs.elem hr hy) hw
          have hix : (0 : Int) ≤ n ∧ (n : Int) < l.length := ⟨by omega, by omega⟩
          have hln : (l.take n).length = n := by rw [List.length_take]; omega
          have HE := Lib.hid hE
          have HY := Lib.hid hy
          have HLN := Lib.hid hln
          clear hE hr hy e2 hln
          go_wp2_with (first
            | (refine wpList_load_mid rfl 24 (.tmp 42) rfl bb (off + n * 32) rfl (bytesV y.b) _ (by exact HE.out) Tryd.underlying24 rfl (by exact hv_info _) ?_)
            | (go_at_call 24; refine (add_any w wr b V (l.take n) y HG.out hw hbw HF.out (by rw [HLN.out]; omega)).mono ?_; rintro e w8 ⟨rfl, hF8, hB8⟩; rw [take_snoc l n y HY.out] at hF8; have HF8 := Lib.hid hF8; have hw8 := hw.trans (hB8.old.mono hbw); clear hF8 hB8)
            | fail)
          exact ⟨⟨n + 1, by go_num, by omega, HF8.out, hw8⟩, by simp [intOf]; omega⟩
        · obtain rfl : n = k := by omega
          obtain ⟨R1, hR1⟩ : ∃ R1, R1 = rootN ndH e0H (l.take n) := ⟨_, rfl⟩
          obtain ⟨R2, hR2⟩ : ∃ R2, R2 = rootN ndH e0H (l.drop n) := ⟨_, rfl⟩
          have hR := HROOT.out
          rw [← hR1, ← hR2] at hR
          have hln : (l.take n).length = n := by rw [List.length_take]; omega
          obtain ⟨a1, c1, hs1, hh1⟩ := hs_head HS.out n (by omega)
          obtain ⟨a2, c2, hs2, hh2⟩ := hs_tail HS.out n (by omega)
          have heq1 := fun w => is_hash w R1
          have heq2 := fun w => is_hash w (ndH R1 R2)
          have HR1 := Lib.hid hR1
          have HR2 := Lib.hid hR2
          have HR := Lib.hid hR
          have HLN := Lib.hid hln
          have HH1 := Lib.hid hh1
          have HH2 := Lib.hid hh2
          clear hR1 hR2 hR hln hh1 hh2
          go_wp2_with (first
            | (go_at_call 28; refine (trees_any wr b V (l.take n) HF.out (by rw [HLN.out]; omega)).mono ?_; rintro e w6 ⟨⟨v6, rfl, hv6⟩, hb6⟩; rw [HTR.out, ← HR1.out] at hv6; obtain ⟨ta, toff, tc, rfl, _, hr6, hb66⟩ := hv6.pos (by simp); have hw6 := hw.trans (hb6.mono hw.size); have hE6 := Hs.elem hr6 (i := 0) (x := R1) rfl; rw [Nat.zero_mul, Nat.add_zero] at hE6; have HE6 := Lib.hid hE6; clear hv6 hb6 hr6 hE6)
            | fail)
          have HS6 := Lib.hid (HS.out.below hw6)
          have HG6 := Lib.hid (HG.out.below hw6)
          have HH16 := Lib.hid (HH1.out.below hw6)
          have HH26 := Lib.hid (HH2.out.below hw6)
          refine wp_region_mono 27 (w6.heap.size) [(fun v _ => v = .slice xa l.length ca), (fun v _ => v = .agg (bytesV (ndH R1 R2).b).toArray), (fun v _ => v = .slice xa l.length ca), (fun v _ => v = .int .i64 n), (fun v _ => v = .slice a1 n c1), (fun v _ => v = .agg (bytesV R1.b).toArray), (fun v _ => v = .slice xa l.length ca), (fun v _ => v = .int .i64 n), (fun v _ => v = .slice a2 (l.length - n) c2), (fun v _ => v = .agg (bytesV R2.b).toArray), (fun v _ => v = .agg (bytesV (ndH R1 R2).b).toArray), (fun v _ => v = .bool true), (fun v _ => v = .bool true),
            (fun v _ => v = .slice (some ⟨ta, toff, none⟩) 1 tc), (fun v _ => v = .int .i64 1), (fun v _ => v = .bool true), (fun v _ => v = .bool true), (fun v _ => v = .bool true),
            (fun v _ => v = .slice (some ⟨ta, toff, none⟩) 1 tc), (fun v _ => v = .pointer (some ⟨ta, toff, none⟩)), (fun v _ => v = .agg (bytesV R1.b).toArray), (fun v _ => v = .slice xa l.length ca), (fun v _ => v = .int .i64 n), (fun v _ => v = .slice a1 n c1), (fun v _ => v = .agg (bytesV R1.b).toArray), (fun v _ => v = .bool true), (fun v _ => v = .bool true)] (by kernel_rfl) (by kernel_rfl) (Nat.le_refl _) ?mkept _ rfl ?mops ?mfin
          case mkept =>
            repeat (refine List.forall_mem_cons.2 ⟨by first | exact fun _ _ _ _ h => h | exact fun _ _ _ hb h => Parts.below h hb | exact fun _ _ _ hb h => IsSl.below h hb, ?_⟩)
            exact fun _ h => by cases h
          case mops =>
            simp only [List.take_succ_cons, List.take_zero, monoAll, List.getD_cons_zero, List.getD_cons_succ]
            iterate 27
            
             (refine ⟨fun x wr hb hd Qg hK => ?_, ?_⟩
              · as_aux_lemma =>
                simp only [fill, Act.put, List.setIfInBounds_toArray, List.set_cons_succ, List.set_cons_zero, needs, Region.binds, List.filter_cons, List.filter_nil, List.map_cons, List.map_nil, if_true, List.mem_cons, List.not_mem_nil, or_false, forall_eq_or_imp, forall_eq, List.getD_cons_zero, List.getD_cons_succ, false_implies, implies_true] at hd hK ⊢
                (try simp only [hd] at hK ⊢)
                first
                | (show wpList _ _ _ [⟨some 47, .call _, _, _, _, _⟩] _ _; go_wp2_with (go_at_call 32; refine (root_any l.length _ l wr rfl (by omega) (HS6.out.below hb) (HG6.out.below hb)).mono ?_; rintro e w5 ⟨rfl, hb5⟩); exact hK _ _ (by rw [HR.out]; rfl) hb5)
                | (show wpList _ _ _ [⟨some 51, .call _, _, _, _, _⟩] _ _; go_wp2_with (go_at_call 32; refine (root_any n _ (l.take n) wr HLN.out (by omega) (HH16.out.below hb) (HG6.out.below hb)).mono ?_; rintro e w5 ⟨rfl, hb5⟩); exact hK _ _ (by rw [← HR1.out]; rfl) hb5)
                | (show wpList _ _ _ [⟨some 55, .call _, _, _, _, _⟩] _ _; go_wp2_with (go_at_call 32; refine (root_any (l.length - n) _ (l.drop n) wr (by rw [List.length_drop]) (by omega) (HH26.out.below hb) (HG6.out.below hb)).mono ?_; rintro e w5 ⟨rfl, hb5⟩); exact hK _ _ (by rw [← HR2.out]; rfl) hb5)
                | (show wpList _ _ _ [⟨some 56, .call _, _, _, _, _⟩] _ _; go_wp2_with (go_at_call 19; refine (node_any R1 R2 wr (HG6.out.below hb)).mono ?_; rintro e w5 ⟨rfl, hb5⟩); exact hK _ _ (rfl) hb5)
                | ((refine wpList_load_midIf rfl 24 (.tmp 65) rfl ta toff rfl (bytesV R1.b) _ (range_below HE6.out hb) Tryd.underlying24 rfl (hv_info R1) ?_; exact hK _ _ rfl (Below.refl _ _)))
                | (show wpList _ _ _ [⟨some 70, .call _, _, _, _, _⟩] _ _; go_wp2_with (go_at_call 32; refine (root_any n _ (l.take n) wr HLN.out (by omega) (HH16.out.below hb) (HG6.out.below hb)).mono ?_; rintro e w5 ⟨rfl, hb5⟩); exact hK _ _ (by rw [← HR1.out]; rfl) hb5)
                | (go_wp2_with fail; exact hK _ _ rfl (Below.refl _ _)))
            trivial
          case mfin =>
            intro x w9 hb9 hR
            have x26 := hR 26 (by decide)
            simp only [List.getD_cons_zero, List.getD_cons_succ] at x26
            have hw9 := hw6.trans (hb9.mono hw6.size)
            clear hR hb9 heq1 heq2
            simp only [List.drop_succ_cons, List.drop_zero]
            generalize List.toArray _ = L0
            simp only [List.take_succ_cons, List.take_zero, List.map_cons, List.map_nil, fill, Act.put, List.setIfInBounds_toArray, List.set_cons_succ, List.set_cons_zero, x26]
            clear x26
            go_wp2_with fail
            go_ret
            exact ⟨rfl, hw9⟩
    · have h2' : (l.length : Int) < 2 := by omega
      go_enter Tryd.func6, Tryd.ntmps6
      go_wp2_with (first
        | (go_at_call 16; refine (alive5_any w HG.out).mono ?_; rintro e w1 ⟨rfl, hw1⟩)
        | fail)
      go_ret
      exact ⟨rfl, hw1⟩
  · have h1 : (70 : Int) < l.length := by omega
    go_enter Tryd.func6, Tryd.ntmps6
    go_wp2_with (first
      | (go_at_call 16; refine (alive5_any w HG.out).mono ?_; rintro e w1 ⟨rfl, hw1⟩)
      | fail)
    go_ret
    exact ⟨rfl, hw1⟩
end Go.Proofs.YtkfplliipogagaaDoor
