/- The law LinkChain, walked: true, and nothing that was there has turned. Conditions: the list can be read; the package's tables read as they are laid. -/
import Derived.Test.YtnbnjoejmepkjaaDoorAliveW
namespace Go.Proofs.YtnbnjoejmepkjaaDoor
open Go.RowKit

theorem begins_of {b : List (List UInt8)} {x y : Nat} (h : x ≤ y) : beginsB (b.take x) (b.take y) = true := by
  have := begins_take (b.take y) x
  rwa [List.take_take, Nat.min_eq_left h] at this
theorem begins_back {b : List (List UInt8)} {x y : Nat} (h : x ≤ y) (hy : y ≤ b.length) : beginsB (b.take y) (b.take x) = ((x : Int) == (y : Int)) := by
  by_cases he : x = y
  · subst he
    rw [begins_of (Nat.le_refl _)]
    simp
  · unfold beginsB
    rw [decide_eq_false (by rw [List.length_take, List.length_take]; omega), Bool.false_and]
    symm
    rw [beq_eq_false_iff_ne]
    omega
set_option maxRecDepth 100000 in
set_option maxHeartbeats 8000000 in
theorem lchain_any (vb : Value) (b : List (List UInt8)) (ys : List Value) (m n : Nat) (hm : m < 256) (hn : n < 256) (w : World) (hb : Parts w vb b ys) (hlb : b.length ≤ 4611686018427387904) (hg : Glob w) :
    Calls Tryd.prog 7 #[vb, .int .u8 m, .int .u8 n] w fun e w' => e = .returned (.bool true) ∧ Below w.heap.size w w' := by
  obtain ⟨xb, cb, rfl, _⟩ := hb.sl.form
  have HB := Lib.hid hb
  have HG := Lib.hid hg
  clear hb hg
  obtain ⟨k, hx⟩ : ∃ k, k = m % (b.length + 1) := ⟨_, rfl⟩
  have hx1 : k ≤ b.length := by have := Nat.mod_lt m (show 0 < b.length + 1 by omega); omega
  have hx2 : k < 256 := by have := Nat.mod_le m (b.length + 1); omega
  have hq1 : Int.tmod (m : Int) ((b.length : Int) + 1) = (k : Int) := by rw [hx]; rfl
  obtain ⟨r, hr⟩ : ∃ r, r = n % (b.length - k + 1) := ⟨_, rfl⟩
  have hr1 : r ≤ b.length - k := by have := Nat.mod_lt n (show 0 < b.length - k + 1 by omega); omega
  have hr2 : r < 256 := by have := Nat.mod_le n (b.length - k + 1); omega
  obtain ⟨j, hy⟩ : ∃ j, j = k + r := ⟨_, rfl⟩
  have hq2 : (k : Int) + Int.tmod (n : Int) ((b.length : Int) - (k : Int) + 1) = (j : Int) := by
    rw [hy, hr, show ((b.length : Int) - (k : Int) + 1) = ((b.length - k + 1 : Nat) : Int) by omega]
    rfl
  have hq3 : (k : Int) + (n : Int) % ((b.length : Int) - (k : Int) + 1) = (j : Int) := by
    rw [hy, hr, show ((b.length : Int) - (k : Int) + 1) = ((b.length - k + 1 : Nat) : Int) by omega]
    rfl
  have hxy : k ≤ j := by omega
  have hy2 : j < 512 := by omega
  have hne1 : ¬ (b.length : Int) + 1 = 0 := by omega
  have hne2 : ¬ (b.length : Int) - (k : Int) + 1 = 0 := by omega
  have hyb : j ≤ b.length := by omega
  obtain ⟨a1, d1, hs1, hp1⟩ := parts_head HB.out k hx1
  obtain ⟨a2, d2, hs2, hp2⟩ := parts_head HB.out j hyb
  obtain ⟨E, hE⟩ : ∃ E, ((k : Int) == (j : Int)) = E := ⟨_, rfl⟩
  have HE := Lib.hid ((begins_back hxy hyb (b := b)).trans hE)
  have B1 := Lib.hid (begins_of (b := b) hxy)
  have B2 := Lib.hid (begins_take b j)
  have B3 := Lib.hid (begins_take b k)
  have hEE : (E == E) = true := by simp
  have HP1 := Lib.hid hp1
  have HP2 := Lib.hid hp2
  have lx : (b.take k).length ≤ 1099511627776 := by rw [List.length_take]; omega
  have ly : (b.take j).length ≤ 1099511627776 := by rw [List.length_take]; omega
  clear hx hr hy hr1 hr2 hp1 hp2
  go_enter Tryd.func7, Tryd.ntmps7
  go_wp2_with (first
    | (go_at_call 8; refine (alive20_any w HG.out).mono ?_; rintro e w1 ⟨rfl, hb1⟩; have hw1 := hb1; have HB1 := Lib.hid (HB.out.below hb1); clear hb1)
    | (go_at_call 9; refine (great20_some _ _ _ [] b [] _ [] w1 (Parts.nil w1) HB1.out (Hs.nil w1) (by decide) hlb).mono ?_; rintro e w2 ⟨⟨g, rfl⟩, h2⟩; rw [h2]; clear h2 w2; cases g)
    | fail)
  rotate_left
  · go_ret
    exact ⟨rfl, hw1⟩
  refine wp_region_mono 34 (w1.heap.size) [(fun v _ => v = .slice xb b.length cb), (fun v _ => v = .int .i64 k), (fun v _ => v = .slice a1 k d1), (fun v _ => v = .slice xb b.length cb), (fun v _ => v = .int .i64 j), (fun v _ => v = .slice a2 j d2), (fun v _ => v = .bool true), (fun v _ => v = .bool true), (fun v _ => v = .slice xb b.length cb), (fun v _ => v = .int .i64 j), (fun v _ => v = .slice a2 j d2), (fun v _ => v = .slice xb b.length cb), (fun v _ => v = .bool true), (fun v _ => v = .bool true), (fun v _ => v = .bool true), (fun v _ => v = .slice xb b.length cb), (fun v _ => v = .int .i64 k), (fun v _ => v = .slice a1 k d1), (fun v _ => v = .slice xb b.length cb), (fun v _ => v = .bool true), (fun v _ => v = .bool true), (fun v _ => v = .bool true), (fun v _ => v = .slice xb b.length cb), (fun v _ => v = .int .i64 j), (fun v _ => v = .slice a2 j d2), (fun v _ => v = .slice xb b.length cb), (fun v _ => v = .int .i64 k), (fun v _ => v = .slice a1 k d1), (fun v _ => v = .bool E), (fun v _ => v = .int .i64 k), (fun v _ => v = .int .i64 j), (fun v _ => v = .bool E), (fun v _ => v = .bool true), (fun v _ => v = .bool true)] (by kernel_rfl) (by kernel_rfl) (Nat.le_refl _) ?mkept _ rfl ?mops ?mfin
  case mkept =>
    repeat (refine List.forall_mem_cons.2 ⟨by first | exact fun _ _ _ _ h => h | exact fun _ _ _ hb h => Parts.below h hb | exact fun _ _ _ hb h => IsSl.below h hb, ?_⟩)
    exact fun _ h => by cases h
  case mops =>
    simp only [List.take_succ_cons, List.take_zero, monoAll, List.getD_cons_zero, List.getD_cons_succ]
    iterate 34
    
     (refine ⟨fun x wr hb hd Qg hK => ?_, ?_⟩
      · as_aux_lemma =>
        simp only [fill, Act.put, List.setIfInBounds_toArray, List.set_cons_succ, List.set_cons_zero, needs, Region.binds, List.filter_cons, List.filter_nil, List.map_cons, List.map_nil, if_true, List.mem_cons, List.not_mem_nil, or_false, forall_eq_or_imp, forall_eq, List.getD_cons_zero, List.getD_cons_succ, false_implies, implies_true] at hd hK ⊢
        (try simp only [hd] at hK ⊢)
        first
        | (show wpList _ _ _ [⟨some 35, .call _, _, _, _, _⟩] _ _; go_wp2_with (go_at_call 15; refine (calls_same (lbegins_any _ _ (b.take k) (b.take j) _ _ wr (HP1.out.below (hw1.trans (hb.mono hw1.size))) (HP2.out.below (hw1.trans (hb.mono hw1.size))) lx)).mono ?_; rintro e w5 ⟨rfl, hb5⟩); exact hK _ _ (by rw [B1.out]) hb5)
        | (show wpList _ _ _ [⟨some 41, .call _, _, _, _, _⟩] _ _; go_wp2_with (go_at_call 15; refine (calls_same (lbegins_any _ _ (b.take j) b _ _ wr (HP2.out.below (hw1.trans (hb.mono hw1.size))) (HB1.out.below hb) ly)).mono ?_; rintro e w5 ⟨rfl, hb5⟩); exact hK _ _ (by rw [B2.out]) hb5)
        | (show wpList _ _ _ [⟨some 48, .call _, _, _, _, _⟩] _ _; go_wp2_with (go_at_call 15; refine (calls_same (lbegins_any _ _ (b.take k) b _ _ wr (HP1.out.below (hw1.trans (hb.mono hw1.size))) (HB1.out.below hb) lx)).mono ?_; rintro e w5 ⟨rfl, hb5⟩); exact hK _ _ (by rw [B3.out]) hb5)
        | (show wpList _ _ _ [⟨some 57, .call _, _, _, _, _⟩] _ _; go_wp2_with (go_at_call 15; refine (calls_same (lbegins_any _ _ (b.take j) (b.take k) _ _ wr (HP2.out.below (hw1.trans (hb.mono hw1.size))) (HP1.out.below (hw1.trans (hb.mono hw1.size))) ly)).mono ?_; rintro e w5 ⟨rfl, hb5⟩); exact hK _ _ (by rw [HE.out]) hb5)
        | (go_wp2_with fail; exact hK _ _ rfl (Below.refl _ _)))
    trivial
  case mfin =>
    intro z w4 hb4 hR4
    have x33 := hR4 33 (by decide)
    simp only [List.getD_cons_zero, List.getD_cons_succ] at x33
    have hw4 := hw1.trans (hb4.mono hw1.size)
    clear hR4 hb4
    simp only [List.drop_succ_cons, List.drop_zero]
    generalize List.toArray _ = L0
    simp only [List.take_succ_cons, List.take_zero, List.map_cons, List.map_nil, fill, Act.put, List.setIfInBounds_toArray, List.set_cons_succ, List.set_cons_zero, x33]
    clear x33
    go_wp2_with fail
    go_ret
    exact ⟨rfl, hw4⟩
end Go.Proofs.YtnbnjoejmepkjaaDoor
