/- The walks of the reference's Same and Trees. Conditions: the lists can be read, at most 2^40 hashes; the package's tables read as they are laid. -/
import Derived.Test.YtkfplliipogagaaDoorRef5B
import Derived.Test.YtkfplliipogagaaDoorMonoZ
import Derived.Test.YtkfplliipogagaaDoorHashB
namespace Go.Proofs.YtkfplliipogagaaDoor
open Go.RowKit

theorem ne_hash (w : World) (x y : H) (h : x ≠ y) : (Op.equalIn 10000 24 (.agg (bytesV x.b).toArray) (.agg (bytesV y.b).toArray)).run Tryd.prog w = .ok false w := by
  rw [eq_hash w x.b y.b x.len y.len, beq_eq_false_iff_ne.2 (fun e => h (H.ext e))]
theorem is_hash (w : World) (x : H) : (Op.equalIn 10000 24 (.agg (bytesV x.b).toArray) (.agg (bytesV x.b).toArray)).run Tryd.prog w = .ok true w := eq_hash_same w x.b x.len
set_option maxRecDepth 100000 in
set_option maxHeartbeats 1000000 in
theorem refsame_any (va vb : Value) (a b : List H) (w : World) (ha : Hs w va a) (hb : Hs w vb b) (hs : a.length ≤ 1099511627776) :
    Calls Tryd.prog 30 #[va, vb] w fun e w' => e = .returned (.bool (decide (a = b))) ∧ Below w.heap.size w w' := by
  by_cases hl : a.length = b.length
  · by_cases h0 : a.length = 0
    · have e1 : a = [] := List.eq_nil_of_length_eq_zero h0
      have e2 : b = [] := List.eq_nil_of_length_eq_zero (by omega)
      subst e1 e2
      obtain ⟨xa, ca, rfl, _⟩ := ha.form
      obtain ⟨xb, cb, rfl, _⟩ := hb.form
      clear ha hb hl h0
      go_enter Tryd.func30, Tryd.ntmps30
      go_wp2_with fail
      go_loopw [5] (fun i wr => i = .int .i64 0 ∧ Below w.heap.size w wr) (fun _ _ => 0)
      case atStart => exact ⟨rfl, by (repeat (first | with_reducible assumption | with_reducible exact Below.refl _ _ | ((with_reducible refine Below.setCell ?_ ?_ _); rotate_left; focus (first | omega | (simp; done) | (simp; omega))) | ((with_reducible refine Below.alloc ?_ ?_ _); rotate_left; focus (first | omega | (simp; done) | (simp; omega))) | ((with_reducible refine below_setRow ?_ ?_ _); rotate_left; focus (first | omega | (simp; done) | (simp; omega))) | (with_reducible refine below_drewN ?_ _) | (with_reducible refine Below.drew ?_)))⟩
      case round =>
        obtain ⟨rfl, hb⟩ := hrel
        go_wp2_with fail
        go_ret
        exact ⟨rfl, hb⟩
    · obtain ⟨b1, o1, c1, rfl, _, hr1, hw1⟩ := ha.pos (by omega)
      obtain ⟨b2, o2, c2, rfl, _, hr2, hw2⟩ := hb.pos (by omega)
      obtain ⟨n, hn⟩ : ∃ n, n = a.length := ⟨_, rfl⟩
      have hn2 : b.length = n := by omega
      rw [hn2, ← hn]
      have hns : n ≤ 1099511627776 := by omega
      have HN := Lib.hid hn
      have HN2 := Lib.hid hn2
      have H1 := Lib.hid hr1
      have H2 := Lib.hid hr2
      clear ha hb hr1 hr2 hn hn2 hl h0
      go_enter Tryd.func30, Tryd.ntmps30
      go_wp2_with fail
      go_loopw [5] (fun i wr => ∃ k : Nat, k ≤ n ∧ i = .int .i64 k ∧ a.take k = b.take k ∧ Below w.heap.size w wr) (fun i _ => n - (intOf i).toNat)
      case atStart => exact ⟨0, by omega, rfl, rfl, by (repeat (first | with_reducible assumption | with_reducible exact Below.refl _ _ | ((with_reducible refine Below.setCell ?_ ?_ _); rotate_left; focus (first | omega | (simp; done) | (simp; omega))) | ((with_reducible refine Below.alloc ?_ ?_ _); rotate_left; focus (first | omega | (simp; done) | (simp; omega))) | ((with_reducible refine below_setRow ?_ ?_ _); rotate_left; focus (first | omega | (simp; done) | (simp; omega))) | (with_reducible refine below_drewN ?_ _) | (with_reducible refine Below.drew ?_)))⟩
      case round =>
        obtain ⟨k, hk, rfl, ht, hb⟩ := hrel
        have HT := Lib.hid ht
        clear ht
        by_cases hkn : k < n
        · obtain ⟨p, hx⟩ : ∃ p, a[k]? = some p := ⟨_, List.getElem?_eq_getElem (by rw [← HN.out]; exact hkn)⟩
          obtain ⟨q, hy⟩ : ∃ q, b[k]? = some q := ⟨_, List.getElem?_eq_getElem (by rw [HN2.out]; exact hkn)⟩
          have hE1 : wr.rangeAt b1 (o1 + k * 32) (bytesV p.b) := fun j u hu => (hb.cell (p := ⟨b1, _, none⟩) hw1).trans (Hs.elem H1.out hx j u hu)
          have hE2 : wr.rangeAt b2 (o2 + k * 32) (bytesV q.b) := fun j u hu => (hb.cell (p := ⟨b2, _, none⟩) hw2).trans (Hs.elem H2.out hy j u hu)
          have HE1 := Lib.hid hE1
          have HE2 := Lib.hid hE2
          have HX := Lib.hid hx
          have HY := Lib.hid hy
          clear hx hy hE1 hE2
          have hix : (0 : Int) ≤ k ∧ (k : Int) < n := ⟨by omega, by omega⟩
          obtain ⟨d, hd⟩ : ∃ d : Bool, d = decide (p = q) := ⟨_, rfl⟩
          have heq : ∀ w, (Op.equalIn 10000 24 (.agg (bytesV p.b).toArray) (.agg (bytesV q.b).toArray)).run Tryd.prog w = .ok d w := fun w => by
            rw [hd]
            by_cases hxy : p = q
            · subst hxy; rw [is_hash, decide_eq_true rfl]
            · rw [ne_hash w p q hxy, decide_eq_false hxy]
          have HD := Lib.hid hd
          clear hd
          go_wp2_with fail
          refine wp_region_mono 9 (wr.heap.size) [(fun v _ => v = .slice (some ⟨b1, o1, none⟩) n c1), (fun v _ => v = .int .i64 k), (fun v _ => v = .pointer (some ⟨b1, o1 + k * 32, none⟩)), (fun v _ => v = .agg (bytesV p.b).toArray), (fun v _ => v = .slice (some ⟨b2, o2, none⟩) n c2), (fun v _ => v = .int .i64 k), (fun v _ => v = .pointer (some ⟨b2, o2 + k * 32, none⟩)), (fun v _ => v = .agg (bytesV q.b).toArray), (fun v _ => v = .bool (!d))] (by kernel_rfl) (by kernel_rfl) (Nat.le_refl _) ?mkept _ rfl ?mops ?mfin
          case mkept =>
            repeat (refine List.forall_mem_cons.2 ⟨by first | exact fun _ _ _ _ h => h | exact fun _ _ _ hb h => Parts.below h hb | exact fun _ _ _ hb h => IsSl.below h hb, ?_⟩)
            exact fun _ h => by cases h
          case mops =>
            simp only [List.take_succ_cons, List.take_zero, monoAll, List.getD_cons_zero, List.getD_cons_succ]
            iterate 9
            
             (refine ⟨fun x wr hb hd Qg hK => ?_, ?_⟩
              · as_aux_lemma =>
                simp only [fill, Act.put, List.setIfInBounds_toArray, List.set_cons_succ, List.set_cons_zero, needs, Region.binds, List.filter_cons, List.filter_nil, List.map_cons, List.map_nil, if_true, List.mem_cons, List.not_mem_nil, or_false, forall_eq_or_imp, forall_eq, List.getD_cons_zero, List.getD_cons_succ, false_implies, implies_true] at hd hK ⊢
                (try simp only [hd] at hK ⊢)
                first
                | ((refine wpList_load_midIf rfl 24 (.tmp 19) rfl b1 (o1 + k * 32) rfl (bytesV p.b) _ (range_below HE1.out hb) Tryd.underlying24 rfl (hv_info p) ?_; exact hK _ _ rfl (Below.refl _ _)))
                | ((refine wpList_load_midIf rfl 24 (.tmp 23) rfl b2 (o2 + k * 32) rfl (bytesV q.b) _ (range_below HE2.out hb) Tryd.underlying24 rfl (hv_info q) ?_; exact hK _ _ rfl (Below.refl _ _)))
                | (go_wp2_with fail; exact hK _ _ rfl (Below.refl _ _)))
            trivial
          case mfin =>
            intro z w3 hb3 hR
            have x8 := hR 8 (by decide)
            simp only [List.getD_cons_zero, List.getD_cons_succ] at x8
            have hb4 : Below w.heap.size w w3 := hb.trans (hb3.mono hb.size)
            clear hR hb3 hb HE1 HE2 heq
            simp only [List.drop_succ_cons, List.drop_zero]
            generalize List.toArray _ = L0
            simp only [List.take_succ_cons, List.take_zero, List.map_cons, List.map_nil, fill, Act.put, List.setIfInBounds_toArray, List.set_cons_succ, List.set_cons_zero, x8]
            clear x8
            cases d with
            | true =>
              have hxy : p = q := of_decide_eq_true HD.out.symm
              go_wp2_with fail
              refine ⟨⟨k + 1, by omega, by go_num, ?_, hb4⟩, by simp [intOf]; omega⟩
              rw [List.take_add_one, List.take_add_one, HX.out, HY.out, HT.out, hxy]
            | false =>
              have hxy : p ≠ q := of_decide_eq_false HD.out.symm
              have hab : decide (a = b) = false := decide_eq_false (fun e => by
                have h1 := HX.out
                rw [e, HY.out] at h1
                exact hxy (Option.some.inj h1).symm)
              have HAB := Lib.hid hab
              clear hab
              go_wp2_with fail
              go_ret
              exact ⟨by rw [HAB.out]; rfl, hb4⟩
        · obtain rfl : k = n := by omega
          have hab : decide (a = b) = true := decide_eq_true (by
            have h1 : a.take k = a := List.take_of_length_le (by rw [HN.out]; exact Nat.le_refl _)
            have h2 : b.take k = b := List.take_of_length_le (by rw [HN2.out]; exact Nat.le_refl _)
            have := HT.out
            rwa [h1, h2] at this)
          have HAB := Lib.hid hab
          clear hab
          go_wp2_with fail
          go_ret
          exact ⟨by rw [HAB.out]; rfl, hb⟩
  · have hab : decide (a = b) = false := decide_eq_false (fun e => hl (by rw [e]))
    obtain ⟨xa, ca, rfl, _⟩ := ha.form
    obtain ⟨xb, cb, rfl, _⟩ := hb.form
    rw [hab]
    clear ha hb hab
    have hne : ((a.length : Int) != (b.length : Int)) = true := by simp; omega
    go_enter Tryd.func30, Tryd.ntmps30
    go_wp2_with fail
    go_ret
    exact ⟨rfl, by (repeat (first | with_reducible assumption | with_reducible exact Below.refl _ _ | ((with_reducible refine Below.setCell ?_ ?_ _); rotate_left; focus (first | omega | (simp; done) | (simp; omega))) | ((with_reducible refine Below.alloc ?_ ?_ _); rotate_left; focus (first | omega | (simp; done) | (simp; omega))) | ((with_reducible refine below_setRow ?_ ?_ _); rotate_left; focus (first | omega | (simp; done) | (simp; omega))) | (with_reducible refine below_drewN ?_ _) | (with_reducible refine Below.drew ?_)))⟩

/-- The whole trees so far, and the list that is left. -/
structure TreesJ (w : World) (l done l' : List H) (lv ov : Value) (wr : World) : Prop where
  rest : Hs w lv l'
  own : wr.ownsRow w.heap.size 24 32 ov done.length (bytesV (hflat done))
  sum : done ++ treesN ndH e0H l' = treesN ndH e0H l
  few : done.length + l'.length ≤ l.length
  old : Below w.heap.size w wr
set_option maxRecDepth 100000 in
set_option maxHeartbeats 1000000 in
theorem reftrees_any (v : Value) (l : List H) (w : World) (hs : Hs w v l) (hl : l.length ≤ 1099511627776) (hg : Glob w) :
    Calls Tryd.prog 31 #[v] w fun e w' => (∃ v', e = .returned v' ∧ Hs w' v' (treesN ndH e0H l)) ∧ Below w.heap.size w w' := by
  obtain ⟨i0, hi, hz0, hz1, hz2⟩ := info_parts info_hash
  obtain ⟨xa, ca, rfl, _⟩ := hs.form
  have HS := Lib.hid hs
  have HG := Lib.hid hg
  have HI := Lib.hid hi
  clear hs hg hi
  go_enter Tryd.func31, Tryd.ntmps31
  go_wp2_with fail
  go_loopw [0, 3] (fun lv ov wr => ∃ (l' done : List H) (n c : Nat) (a : Option Addr), lv = .slice a n c ∧ n = l'.length ∧ TreesJ w l done l' lv ov wr) (fun lv _ _ => lenOf lv)
  case atStart => exact ⟨l, [], l.length, ca, xa, rfl, rfl, HS.out, World.ownsRow_nil _ _ _ _, rfl, by simp, Below.refl _ _⟩
  case round =>
    obtain ⟨l', done, n, c, a, rfl, hn, hj⟩ := hrel
    have HJ := Lib.hid hj
    have HN := Lib.hid hn
    have hfew := hj.few
    have hnl : n ≤ 1099511627776 := by omega
    have hsz := hj.old.size
    clear hn hj
    by_cases h0 : n = 0
    · have hgt : ¬ (0 : Int) < n := by omega
      have hT : treesN ndH e0H l = done := by
        have := HJ.out.sum
        rw [List.eq_nil_of_length_eq_zero (HN.out.symm.trans h0), treesN_nil, List.append_nil] at this
        exact this.symm
      obtain ⟨oa, oc, rfl⟩ := ownsRow_form HJ.out.own
      have HT := Lib.hid hT
      clear hT
      go_wp2_with fail
      go_ret
      refine ⟨⟨_, rfl, ?_⟩, HJ.out.old⟩
      rw [HT.out]
      exact ownsRow_isSl HJ.out.own (bytesV_one _)
    · have hgt : (0 : Int) < n := by omega
      go_wp2_with fail
      go_loopw [4] (fun kv w2 => ∃ (k j : Nat), kv = .int .i64 k ∧ k = 2 ^ j ∧ 1 ≤ k ∧ k ≤ n ∧ w2 = wr) (fun kv _ => n - (intOf kv).toNat)
      case atStart => exact ⟨1, 0, rfl, rfl, by omega, by omega, rfl⟩
      case round =>
        obtain ⟨k, j, rfl, hk, h1, hkn, rfl⟩ := hrel
        have HK := Lib.hid hk
        clear hk
        by_cases h2 : 2 * k ≤ n
        · have h2' : (2 : Int) * k ≤ n := by omega
          go_wp2_with fail
          exact ⟨⟨2 * k, j + 1, by go_num, by rw [HK.out, Nat.pow_succ]; omega, by omega, h2, by trivial⟩, by simp [intOf]; omega⟩
        · have h2' : ¬ (2 : Int) * k ≤ n := by omega
          have htop : topN n = k := by rw [topN_unique n j (by rw [← HK.out]; exact hkn) (by rw [Nat.pow_succ, ← HK.out]; omega), HK.out]
          obtain ⟨a1, c1, hs1, hh1⟩ := hs_head HJ.out.rest k (by rw [← HN.out]; exact hkn)
          obtain ⟨a2, c2, hs2, hh2⟩ := hs_tail HJ.out.rest k (by rw [← HN.out]; exact hkn)
          rw [← HN.out] at hs2 hh2
          obtain ⟨oa, oc, hov⟩ := ownsRow_form HJ.out.own
          subst hov
          obtain ⟨R, hR⟩ : ∃ R, R = rootN ndH e0H (l'.take k) := ⟨_, rfl⟩
          have hsum : treesN ndH e0H l' = R :: treesN ndH e0H (l'.drop k) := by rw [treesN_pos ndH e0H l' (by rw [← HN.out]; omega), ← HN.out, htop, hR]
          have HR := Lib.hid hR
          have HSUM := Lib.hid hsum
          have HH1 := Lib.hid hh1
          have HH2 := Lib.hid hh2
          clear hR hsum hh1 hh2 htop
          go_wp2_with (first
            | (go_at_call 29; refine (refroot_any k _ (l'.take k) _ (by rw [List.length_take, ← HN.out]; omega) (by omega) (HH1.out.below HJ.out.old) (HG.out.below HJ.out.old)).mono ?_; rintro e w5 ⟨rfl, hb5⟩; rw [← HR.out]; have hown5 := ownsRow_below HJ.out.own hb5 (ownsRow_block HJ.out.own); have HO5 := Lib.hid hown5; have hw5 := HJ.out.old.trans (hb5.mono hsz); have hsz5 := hw5.size; clear hown5 hb5)
            | (refine wpList_hashes rfl [R] 1 _ rfl rfl (by decide) (by decide) (by simp only [List.map_toArray, List.map_cons, List.map_nil]; rfl) ?_)
            | (at_builtin; refine wpList_app rfl (.tmp 15) (.tmp 20) 31 rfl w.heap.size 24 i0 (.agg z32.toArray) 32 32 Tryd.underlying31 HI.out hz0 hz1 hz2 rfl (by decide) (.slice oa done.length oc) done.length (bytesV (hflat done)) rfl (by exact ownsRow_below HO5.out ((Below.refl _ w5).alloc (Nat.le_refl _) _) (ownsRow_block HO5.out)) _ 1 (bytesV (hflat [R])) rfl (by exact hs_new w5 [R] _ rfl rfl) (by unfold maxLen; omega) (by omega) (by simp; omega) ?_; intro a6 cap6 w6 hown6 hgrow6 _;
               have hw6 := (hw5.alloc hsz5 (.cells (bytesV (hflat [R])).toArray 24)).grown hgrow6 (by simp; omega) (fun k hk => (HO5.out.lt k hk).1); have HO6 := Lib.hid hown6; clear hown6 hgrow6)
            | fail)
          refine ⟨⟨l'.drop k, done ++ [R], n - k, c2, a2, rfl, by rw [List.length_drop, HN.out], ⟨HH2.out, ?_, ?_, ?_, hw6⟩⟩, by simp [lenOf]; omega⟩
          · have := HO6.out
            rw [← bytesV_app, ← hflat_app] at this
            rw [List.length_append]
            exact this
          · rw [← HJ.out.sum, HSUM.out, List.append_assoc]
            rfl
          · rw [List.length_append, List.length_drop, List.length_singleton, ← HN.out]
            have := HN.out
            omega
end Go.Proofs.YtkfplliipogagaaDoor
