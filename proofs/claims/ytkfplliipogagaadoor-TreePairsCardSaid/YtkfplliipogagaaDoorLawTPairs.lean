/- The law TreePairs, walked: true, and nothing that was there has turned. Conditions: the list can be read; the package's tables read as they are laid. -/
import Derived.Test.YtkfplliipogagaaDoorLawTRoots
namespace Go.Proofs.YtkfplliipogagaaDoor
open Go.RowKit

theorem pairs_take (l : List H) (k : Nat) (x y : H) (hk : k % 2 = 0) (hx : l[k]? = some x) (hy : l[k + 1]? = some y) : pairsN ndH (l.take k) ++ [ndH x y] = pairsN ndH (l.take (k + 2)) := by
  rw [show k + 2 = k + 1 + 1 by omega, List.take_add_one, List.take_add_one, hx, hy]
  have hl : (l.take k).length % 2 = 0 := by
    have := (List.getElem?_eq_some_iff.1 hx).1
    rw [List.length_take]
    omega
  rw [List.append_assoc]
  exact (pairsN_snoc2 ndH _ x y hl).symm
set_option maxRecDepth 100000 in
set_option maxHeartbeats 2000000 in
theorem tpairs_any (v : Value) (l : List H) (w : World) (hs : Hs w v l) (hg : Glob w) :
    Calls Tryd.prog 8 #[v] w fun e w' => e = .returned (.bool true) ∧ Below w.heap.size w w' := by
  obtain ⟨i0, hi, hz0, hz1, hz2⟩ := info_parts info_hash
  obtain ⟨xa, ca, rfl, hca⟩ := hs.form
  have HI := Lib.hid hi
  have HG := Lib.hid hg
  have HS := Lib.hid hs
  clear hg hs hi
  by_cases h64 : l.length ≤ 64
  · have h1 : ¬ ((64 : Int) < l.length) := by omega
    go_enter Tryd.func8, Tryd.ntmps8
    go_wp2_with (first
      | (go_at_call 16; refine (alive5_any w HG.out).mono ?_; rintro e w1 ⟨rfl, hw1⟩)
      | fail)
    go_loopw [3] (fun nv wr => ∃ n : Nat, nv = .int .i64 n ∧ 2 ≤ n ∧ n % 2 = 0 ∧ (n = 2 ∨ n ≤ l.length) ∧ wr = w1) (fun nv _ => l.length - (intOf nv).toNat)
    case atStart => exact ⟨2, rfl, by omega, rfl, .inl rfl, rfl⟩
    case round =>
      obtain ⟨n, rfl, hn2, hne, hn, rfl⟩ := hrel
      by_cases h2n : 2 * n ≤ l.length
      · have hle : (2 : Int) * n ≤ l.length := by omega
        go_wp2_with fail
        exact ⟨⟨2 * n, by go_num, by omega, by omega, .inr h2n, by trivial⟩, by simp [intOf]; omega⟩
      · have hle : ¬ (2 : Int) * n ≤ l.length := by omega
        by_cases hl2 : 2 ≤ l.length
        · have hlt2 : ¬ (l.length : Int) < 2 := by omega
          have hnl : n ≤ l.length := by omega
          obtain ⟨a1, c1, hs1, hh1⟩ := hs_head HS.out n hnl
          obtain ⟨m, hm⟩ : ∃ m, m = l.take n := ⟨_, rfl⟩
          rw [← hm] at hh1
          have hml : m.length = n := by rw [hm, List.length_take]; omega
          have HH1 := Lib.hid hh1
          have HML := Lib.hid hml
          obtain ⟨bb, off, e1, e2, hr, hbb⟩ := hs_block hh1 (by omega)
          subst e1
          have HR := Lib.hid hr
          clear hh1 hm e2 hr hml
          go_wp2_with fail
          go_loopw [4, 5] (fun uv iv w2 => ∃ (k : Nat) (ua : Option Addr) (un uc : Nat), iv = .int .i64 k ∧ k % 2 = 0 ∧ k ≤ n ∧ uv = .slice ua un uc ∧ un = (pairsN ndH (m.take k)).length ∧ w2.ownsRow w.heap.size 24 32 uv un (bytesV (hflat (pairsN ndH (m.take k)))) ∧ Below w.heap.size w w2) (fun _ iv _ => n - (intOf iv).toNat)
          case atStart => exact ⟨0, none, 0, 0, rfl, rfl, by omega, rfl, by simp [pairsN], by simpa [pairsN, hflat, bytesV] using World.ownsRow_nil _ _ _ _, hw1⟩
          case round =>
            obtain ⟨k, ua, un, uc, rfl, hk2, hkn, rfl, hun, hown, hb⟩ := hrel
            have HU := Lib.hid hun
            have HO := Lib.hid hown
            have hsz := hb.size
            have hunle : un ≤ 64 := by rw [hun, pairsN_len, List.length_take, HML.out]; omega
            clear hun hown
            by_cases hlt : k < n
            · have hlt' : (k : Int) < n := by omega
              obtain ⟨p, hp⟩ : ∃ p, m[k]? = some p := ⟨_, List.getElem?_eq_getElem (by rw [HML.out]; omega)⟩
              obtain ⟨q, hq⟩ : ∃ q, m[k + 1]? = some q := ⟨_, List.getElem?_eq_getElem (by rw [HML.out]; omega)⟩
              have hpt := pairs_take m k p q hk2 hp hq
              have hE1 : wr.rangeAt bb (off + k * 32) (bytesV p.b) := fun j u hu => (hb.cell (p := ⟨bb, _, none⟩) hbb).trans (Hs.elem HR.out hp j u hu)
              have hE2 : wr.rangeAt bb (off + (k + 1) * 32) (bytesV q.b) := fun j u hu => (hb.cell (p := ⟨bb, _, none⟩) hbb).trans (Hs.elem HR.out hq j u hu)
              have hix1 : (0 : Int) ≤ k ∧ (k : Int) < n := ⟨by omega, by omega⟩
              have hix2 : (0 : Int) ≤ (k : Int) + 1 ∧ (k : Int) + 1 < n := ⟨by omega, by omega⟩
              obtain ⟨D, hD⟩ : ∃ D, D = ndH p q := ⟨_, rfl⟩
              have HPT := Lib.hid hpt
              have HE1 := Lib.hid hE1
              have HE2 := Lib.hid hE2
              have HD := Lib.hid hD
              have HGR := Lib.hid (HG.out.below hb)
              clear hpt hE1 hE2 hD hp hq
              go_wp2_with fail
              refine wp_region_monoF 12 (wr.heap.size) [] [(fun v _ => v = .slice ua un uc), (fun v _ => v = .slice (some ⟨bb, off, none⟩) n c1), (fun v _ => v = .int .i64 k), (fun v _ => v = .pointer (some ⟨bb, off + k * 32, none⟩)), (fun v _ => v = .agg (bytesV p.b).toArray), (fun v _ => v = .slice (some ⟨bb, off, none⟩) n c1), (fun v _ => v = .int .i64 k), (fun v _ => v = .int .i64 ((k : Int) + 1)), (fun v _ => v = .pointer (some ⟨bb, off + (k + 1) * 32, none⟩)), (fun v _ => v = .agg (bytesV q.b).toArray), (fun v _ => v = .agg (bytesV D.b).toArray), (fun v w => Hs w v [D])] (by kernel_rfl) (by kernel_rfl) (by decide) (Nat.le_refl _) ?mkept _ rfl ?mops ?mfin
              case mkept =>
                repeat (refine List.forall_mem_cons.2 ⟨by first | exact fun _ _ _ _ h => h | exact fun _ _ _ hb h => Parts.below h hb | exact fun _ _ _ hb h => IsSl.below h hb | exact fun _ _ _ hb h => RowAt.below h hb | exact fun _ _ _ hb ⟨vs, h⟩ => ⟨vs, Parts.below h hb⟩ | exact fun _ _ _ hb h => ownsRow_below h hb (ownsRow_block h) | exact fun _ _ _ hb ⟨g, e, h⟩ => ⟨g, e, ownsRow_below h hb (ownsRow_block h)⟩, ?_⟩)
                exact fun _ h => by cases h
              case mops =>
                simp only [List.take_succ_cons, List.take_zero, monoAllF, List.getD_cons_zero, List.getD_cons_succ]
                iterate 12
                
                 (refine ⟨fun x wr hb hd Qg hK => ?_, ?_⟩
                  · as_aux_lemma =>
                    simp only [fill, Act.put, List.setIfInBounds_toArray, List.set_cons_succ, List.set_cons_zero, needs, Region.binds, List.filter_cons, List.filter_nil, List.map_cons, List.map_nil, if_true, List.mem_cons, List.not_mem_nil, or_false, forall_eq_or_imp, forall_eq, List.getD_cons_zero, List.getD_cons_succ, false_implies, implies_true] at hd hK ⊢
                    (try simp only [hd] at hK ⊢)
                    first
                    | ((refine wpList_load_midIf rfl 24 (.tmp 32) rfl bb (off + k * 32) rfl (bytesV p.b) _ (range_below HE1.out hb) Tryd.underlying24 rfl (hv_info p) ?_; exact hK _ _ rfl (by first | exact trivial | exact fun h => absurd h (by decide) | exact fun _ => new_alloc _ _) (Below.refl _ _)))
                    | ((refine wpList_load_midIf rfl 24 (.tmp 37) rfl bb (off + (k + 1) * 32) rfl (bytesV q.b) _ (range_below HE2.out hb) Tryd.underlying24 rfl (hv_info q) ?_; exact hK _ _ rfl (by first | exact trivial | exact fun h => absurd h (by decide) | exact fun _ => new_alloc _ _) (Below.refl _ _)))
                    | (show wpList _ _ _ [⟨some 39, .call _, _, _, _, _⟩] _ _; go_wp2_with (go_at_call 19; refine (node_any p q wr (HGR.out.below hb)).mono ?_; rintro e w5 ⟨rfl, hb5⟩); exact hK _ _ (by rw [HD.out]; rfl) (by first | exact trivial | exact fun h => absurd h (by decide) | exact fun _ => new_alloc _ _) hb5)
                    | (refine wpList_hashes rfl [D] 1 _ rfl rfl (by decide) (by decide) (by simp only [List.map_toArray, List.map_cons, List.map_nil]; rfl) ?_; exact hK _ _ (hs_new wr [D] _ rfl rfl) (by first | exact trivial | exact fun h => absurd h (by decide) | exact fun _ => new_alloc _ _) ((Below.refl _ _).alloc (Nat.le_refl _) _))
                    | (go_wp2_with fail; exact hK _ _ rfl (by first | exact trivial | exact fun h => absurd h (by decide) | exact fun _ => new_alloc _ _) (Below.refl _ _)))
                trivial
              case mfin =>
                intro x w9 hb9 hR _
                have x0 := hR 0 (by decide)
                have x11 := hR 11 (by decide)
                simp only [List.getD_cons_zero, List.getD_cons_succ] at x0 x11
                have X11 := Lib.hid x11
                have HO9 := Lib.hid (ownsRow_below HO.out hb9 (ownsRow_block HO.out))
                have hw9 := hb.trans (hb9.mono hsz)
                have hsz9 := hw9.size
                clear hR hb9 x11 HO
                simp only [List.drop_succ_cons, List.drop_zero]
                generalize List.toArray _ = L0
                simp only [List.take_succ_cons, List.take_zero, List.map_cons, List.map_nil, fill, Act.put, List.setIfInBounds_toArray, List.set_cons_succ, List.set_cons_zero, x0]
                clear x0
                go_wp2_with (first
                  | (at_builtin; refine wpList_app rfl (.tmp 29) (.tmp 40) 31 rfl w.heap.size 24 i0 (.agg z32.toArray) 32 32 Tryd.underlying31 HI.out hz0 hz1 hz2 rfl (by decide) (.slice ua un uc) un _ rfl (by exact HO9.out) _ 1 (bytesV (hflat [D])) rfl (by exact X11.out) (by unfold maxLen; omega) (by omega) hsz9 ?_; intro a6 c6 w6 hown6 hgrow6 _;
                     rw [← bytesV_app, ← hflat_app, HD.out, HPT.out] at hown6; have hw6 := hw9.grown hgrow6 hsz9 (fun k hk => (HO9.out.lt k hk).1); have HO6 := Lib.hid hown6; clear hown6 hgrow6)
                  | fail)
                have hun2 : un + 1 = (pairsN ndH (m.take (k + 2))).length := by
                  rw [← HPT.out, List.length_append, List.length_singleton, HU.out]
                exact ⟨⟨k + 2, a6, un + 1, c6, by go_num, by omega, by omega, rfl, hun2, HO6.out, hw6⟩, by simp [intOf]; omega⟩
            · have hlt' : ¬ (k : Int) < n := by omega
              obtain rfl : k = n := by omega
              have htk : m.take k = m := List.take_of_length_le (by rw [HML.out]; exact Nat.le_refl _)
              have hown := HO.out
              have hun := HU.out
              rw [htk] at hown hun
              have hV : Hs wr (.slice ua un uc) (pairsN ndH m) := by
                unfold Hs
                rw [← hun]
                exact ownsRow_isSl hown (bytesV_one _)
              obtain ⟨R, hR⟩ : ∃ R, R = rootN ndH e0H m := ⟨_, rfl⟩
              have hRp : rootN ndH e0H (pairsN ndH m) = R := by rw [hR, rootN_pairs ndH e0H _ m rfl]
              have hre := fun w => is_hash w R
              have hrv : hv R = Value.agg (bytesV R.b).toArray := rfl
              have HV := Lib.hid hV
              have HRR := Lib.hid hR
              have HRP := Lib.hid hRp
              have HU2 := Lib.hid hun
              clear hown hV hR hRp hun htk HU
              go_wp2_with (first
                | (have HVx := HV; clear HVx; go_at_call 32; refine (root_any k _ m wr HML.out (by omega) (HH1.out.below hb) (HG.out.below hb)).mono ?_; rintro e w8 ⟨rfl, hb8⟩; rw [← HRR.out]; have HV8 := Lib.hid (HV.out.below hb8); have hw8 := hb.trans (hb8.mono hsz); clear hb8 HV)
                | (go_at_call 32; refine (root_any un _ (pairsN ndH m) w8 HU2.out.symm (by omega) HV8.out (HG.out.below hw8)).mono ?_; rintro e w9 ⟨rfl, hb9⟩; rw [HRP.out]; have hw9 := hw8.trans (hb9.mono hw8.size); clear hb9)
                | fail)
              go_ret
              exact ⟨rfl, hw9⟩
        · have hlt2 : (l.length : Int) < 2 := by omega
          go_wp2_with fail
          go_ret
          exact ⟨rfl, hw1⟩
  · have h1 : (64 : Int) < l.length := by omega
    go_enter Tryd.func8, Tryd.ntmps8
    go_wp2_with (first
      | (go_at_call 16; refine (alive5_any w HG.out).mono ?_; rintro e w1 ⟨rfl, hw1⟩)
      | fail)
    go_ret
    exact ⟨rfl, hw1⟩
end Go.Proofs.YtkfplliipogagaaDoor
