/- The walks of the reference's Said and Text, each by the other. The walk of the reference's Find. Conditions: what each part says. -/
import Derived.Test.YtnbnjoejmepkjaaDoorLinkS
import Derived.Test.YtnbnjoejmepkjaaDoorRef5
import Derived.Test.YtnbnjoejmepkjaaDoorRefS
import Derived.Test.YtnbnjoejmepkjaaDoorComesW
import Derived.Test.YtnbnjoejmepkjaaDoorLinkU
import Derived.Test.YtnbnjoejmepkjaaDoorLinkW
import Derived.Test.YtnbnjoejmepkjaaDoorClashT
/-! LinkM: The walks of the reference's Said and Text, each by the other. Conditions: the proof can be read, as long as the way down; the package's tables read as they are laid. -/
namespace Go.Proofs.YtnbnjoejmepkjaaDoor
open Go.RowKit

/-- What a proof says of a node. -/
def saidT (old : H) (n m : Nat) (wh : Bool) (rp : List H) : List UInt8 :=
  if m ≤ splitN n then 1 :: ((saidB old (splitN n) m wh rp.tail).b ++ (rp.headD e0H).b) else 1 :: ((rp.headD e0H).b ++ (saidB old (n - splitN n) (m - splitN n) false rp.tail).b)
theorem saidT_len (old : H) (n m : Nat) (wh : Bool) (rp : List H) : (saidT old n m wh rp).length = 65 := by
  unfold saidT
  split <;> simp [H.len]
theorem saidB_text (old : H) (n m : Nat) (wh : Bool) (rp : List H) (h : ¬ (n < 2 ∨ m = n)) : (saidB old n m wh rp).b = sumN (saidT old n m wh rp) := by
  rw [saidB, dif_neg h]
  unfold saidT
  split <;> rfl
/-- What Said is to answer for n leaves. -/
def SaidOk (old : H) (n : Nat) : Prop := ∀ (m : Nat) (wh : Bool) (vl : Value) (P : List H) (w : World), n ≤ 4000 → 1 ≤ m → m ≤ n → Hs w vl P → P.length ≤ 4096 → P.length = needsB n m wh → Glob w →
    Calls Tryd.prog 45 #[.int .i64 m, .int .i64 n, hv old, .bool wh, vl] w fun e w' => e = .returned (hv (saidB old n m wh P.reverse)) ∧ Below w.heap.size w w'
set_option maxRecDepth 100000 in
set_option maxHeartbeats 4000000 in
theorem rtext_of (old : H) (n : Nat) (ih : ∀ k, k < n → SaidOk old k) (m : Nat) (wh : Bool) (vl : Value) (P : List H) (w : World) (hn : n ≤ 4000) (h1 : 1 ≤ m) (hm : m < n) (hs : Hs w vl P) (hPm : P.length ≤ 4096) (hP : P.length = needsB n m wh) (hg : Glob w) :
    Calls Tryd.prog 24 #[.int .i64 m, .int .i64 n, .int .i64 (splitN n), hv old, .bool wh, vl] w fun e w' => (∃ v, e = .returned v ∧ Bytes w' v (saidT old n m wh P.reverse)) ∧ Below w.heap.size w w' := by
  have h2 : ¬ (n < 2 ∨ m = n) := by omega
  have hlt := splitN_lt n (by omega)
  have hpos := splitN_pos n (by omega)
  obtain ⟨j, hj, hjl, hjr⟩ : ∃ j, P.length = j + 1 ∧ (m ≤ splitN n → j = needsB (splitN n) m wh) ∧ (¬ m ≤ splitN n → j = needsB (n - splitN n) (m - splitN n) false) := by
    by_cases hik : m ≤ splitN n
    · rw [needsB_left _ m wh h2 hik] at hP
      exact ⟨_, hP, fun _ => rfl, fun h => absurd hik h⟩
    · rw [needsB_right _ m wh h2 hik] at hP
      exact ⟨_, hP, fun h => absurd h hik, fun _ => rfl⟩
  obtain ⟨o, ho⟩ : ∃ o, P[j]? = some o := ⟨_, List.getElem?_eq_getElem (by omega)⟩
  have hrev := rev_last hj ho
  have htx : ∀ S, m ≤ splitN n → S = saidB old (splitN n) m wh (P.take j).reverse → saidT old n m wh P.reverse = 1 :: (S.b ++ o.b) := fun S hik hS => by
    unfold saidT
    rw [if_pos hik, hrev, List.tail_cons, List.headD_cons, ← hS]
  have htr : ∀ S, ¬ m ≤ splitN n → S = saidB old (n - splitN n) (m - splitN n) false (P.take j).reverse → saidT old n m wh P.reverse = 1 :: (o.b ++ S.b) := fun S hik hS => by
    unfold saidT
    rw [if_neg hik, hrev, List.tail_cons, List.headD_cons, ← hS]
  obtain ⟨T, hT⟩ : ∃ T, T = saidT old n m wh P.reverse := ⟨_, rfl⟩
  rw [← hT] at htx htr ⊢
  obtain ⟨k, hk⟩ : ∃ k, k = splitN n := ⟨_, rfl⟩
  rw [← hk] at hlt hpos hjl hjr htx htr ⊢
  obtain ⟨lb, lo, cl, rfl, _, hr, _⟩ := Hs.pos hs (by omega)
  have hE : w.rangeAt lb (lo + j * 32) (bytesV o.b) := Hs.elem hr ho
  obtain ⟨ar, cr, hs3, hR⟩ := hs_head hs j (by omega)
  have hjb : j ≤ 4096 := by omega
  have hji : (P.length : Int) - 1 = (j : Int) := by omega
  have hix : (0 : Int) ≤ j ∧ (j : Int) < P.length := ⟨by omega, by omega⟩
  obtain ⟨w1, hw1⟩ : ∃ w1, w1 = ((w.alloc (.cells (bytesV old.b).toArray 32)).alloc (.cells z32.toArray 32)).setRow (w.heap.size + 1) (bytesV o.b).toArray := ⟨_, rfl⟩
  have hb0 : Below w.heap.size w (w.alloc (.cells (bytesV old.b).toArray 32)) := by (repeat (first | with_reducible assumption | with_reducible exact Below.refl _ _ | ((with_reducible refine Below.setCell ?_ ?_ _); rotate_left; focus (first | omega | (simp; done) | (simp; omega))) | ((with_reducible refine Below.alloc ?_ ?_ _); rotate_left; focus (first | omega | (simp; done) | (simp; omega))) | ((with_reducible refine below_setRow ?_ ?_ _); rotate_left; focus (first | omega | (simp; done) | (simp; omega))) | (with_reducible refine below_drewN ?_ _) | (with_reducible refine Below.drew ?_)))
  have hb1 : Below w.heap.size w w1 := by rw [hw1]; exact below_setRow (hb0.alloc hb0.size _) (by omega) _
  have hB0 : Blk w1 w.heap.size (bytesV old.b) 32 := by rw [hw1]; exact ((Blk.newL w _ _).alloc _).setRow_other (by omega) _
  have hB1 : Blk w1 (w.heap.size + 1) (bytesV o.b) 32 := by rw [hw1]; exact (Blk.newL1 w _ z32 _).setRow _
  have HB0 := Lib.hid hB0
  have HB1 := Lib.hid hB1
  have HE := Lib.hid (range_below hE hb0)
  have HR := Lib.hid (hR.below hb1)
  have HG := Lib.hid (hg.below hb1)
  have HK := Lib.hid hk
  have HPT := Lib.hid (show (P.take j).length = j by rw [List.length_take]; omega)
  have HJL := Lib.hid hjl
  have HJR := Lib.hid hjr
  have HTX := Lib.hid htx
  have HTR := Lib.hid htr
  have HW := Lib.hid hw1
  have hl0 := hB0.lt
  have hl1 := hB1.lt
  clear hs hP hg hk hj hjl hjr ho hrev hr hE hR hB0 hB1 h2 htx htr hw1 hT
  unfold hv
  by_cases hik : m ≤ k
  · have hlt' : (m : Int) ≤ k := by omega
    obtain ⟨S, hS⟩ : ∃ S, S = saidB old k m wh (P.take j).reverse := ⟨_, rfl⟩
    have HS := Lib.hid hS
    have HT := Lib.hid (HTX.out S hik (by rw [hS]))
    have HN := Lib.hid ((HPT.out).trans (HJL.out hik))
    have HIK := Lib.hid (ih k hlt)
    clear hS HTX HTR
    go_enter Tryd.func24, Tryd.ntmps24
    go_wp2_with (first
      | (refine wpList_load_mid rfl 32 (.tmp 19) rfl lb (lo + j * 32) rfl (bytesV o.b) _ (by exact HE.out) Tryd.underlying32 rfl (by exact hv_info _) ?_)
      | (refine wpList_store_row rfl 32 (.tmp 13) (.tmp 20) rfl (w.heap.size + 1) (bytesV o.b).toArray rfl rfl 32 z32.toArray (by exact Blk.newL1 w _ z32 _) (by exact hv_row _) (by exact z32_old _) (by exact hv_one _) ?_)
      | fail)
    refine wp_world HW.out ?_
    clear HW
    refine wp_region_mono 8 (w1.heap.size) [(fun v _ => v = .int .i64 m), (fun v _ => v = .int .i64 k), (fun v _ => v = .agg (bytesV old.b).toArray), (fun v _ => v = .bool wh), (fun v _ => v = .slice ar j cr), (fun v _ => v = .agg (bytesV S.b).toArray), (fun v _ => v = .agg (bytesV o.b).toArray), (fun v w => Bytes w v T)] (by kernel_rfl) (by kernel_rfl) (Nat.le_refl _) ?mkept _ rfl ?mops ?mfin
    case mkept =>
      repeat (refine List.forall_mem_cons.2 ⟨by first | exact fun _ _ _ _ h => h | exact fun _ _ _ hb h => Parts.below h hb | exact fun _ _ _ hb h => IsSl.below h hb, ?_⟩)
      exact fun _ h => by cases h
    case mops =>
      simp only [List.take_succ_cons, List.take_zero, monoAll, List.getD_cons_zero, List.getD_cons_succ]
      iterate 8
      
       (refine ⟨fun x wr hb hd Qg hK => ?_, ?_⟩
        · as_aux_lemma =>
          simp only [fill, Act.put, List.setIfInBounds_toArray, List.set_cons_succ, List.set_cons_zero, needs, Region.binds, List.filter_cons, List.filter_nil, List.map_cons, List.map_nil, if_true, List.mem_cons, List.not_mem_nil, or_false, forall_eq_or_imp, forall_eq, List.getD_cons_zero, List.getD_cons_succ, false_implies, implies_true] at hd hK ⊢
          (try simp only [hd] at hK ⊢)
          first
          | (have hBr := HB0.out.below hb (hl0); refine wpList_load_rowIf rfl 32 (.tmp 9) rfl _ rfl 32 (bytesV old.b).toArray (0, 0) _ (by exact hBr) Tryd.underlying32 rfl (hv_row _) ?_; exact hK _ _ rfl (Below.refl _ _))
          | (have hBr := HB1.out.below hb (hl1); refine wpList_load_rowIf rfl 32 (.tmp 13) rfl _ rfl 32 (bytesV o.b).toArray (0, 0) _ (by exact hBr) Tryd.underlying32 rfl (hv_row _) ?_; exact hK _ _ rfl (Below.refl _ _))
          | (show wpList _ _ _ [⟨some 34, .call _, _, _, _, _⟩] _ _; go_wp2_with (go_at_call 45; refine (HIK.out m wh _ (P.take j) wr (by omega) h1 hik (HR.out.below hb) (by rw [HPT.out]; omega) HN.out (HG.out.below hb)).mono ?_; rintro e w5 ⟨rfl, hb5⟩); exact hK _ _ (by rw [← HS.out]; rfl) hb5)
          | (show wpList _ _ _ [⟨some 36, .call _, _, _, _, _⟩] _ _; go_wp2_with (go_at_call 26; refine (pair_any S o wr).mono ?_; rintro e w5 ⟨⟨v5, rfl, hv5⟩, hb5⟩; rw [← HT.out] at hv5); exact hK _ _ hv5 hb5)
          | (go_wp2_with fail; exact hK _ _ rfl (Below.refl _ _)))
      trivial
    case mfin =>
      intro z w3 hb3 hR3
      have x7 := hR3 7 (by decide)
      simp only [List.getD_cons_zero, List.getD_cons_succ] at x7
      have X7 := Lib.hid x7
      have hw3 := hb1.trans (hb3.mono hb1.size)
      clear hR3 hb3 x7
      simp only [List.drop_succ_cons, List.drop_zero]
      generalize List.toArray _ = L0
      simp only [List.take_succ_cons, List.take_zero, List.map_cons, List.map_nil, fill, Act.put, List.setIfInBounds_toArray, List.set_cons_succ, List.set_cons_zero]
      go_wp2_with fail
      go_ret
      exact ⟨⟨_, rfl, X7.out⟩, hw3⟩
  · have hlt' : ¬ (m : Int) ≤ k := by omega
    have hmk : (m : Int) - k = (m - k : Nat) := by omega
    have hnk : (n : Int) - k = (n - k : Nat) := by omega
    obtain ⟨S, hS⟩ : ∃ S, S = saidB old (n - k) (m - k) false (P.take j).reverse := ⟨_, rfl⟩
    have HS := Lib.hid hS
    have HT := Lib.hid (HTR.out S hik (by rw [hS]))
    have HN := Lib.hid ((HPT.out).trans (HJR.out hik))
    have HIK := Lib.hid (ih (n - k) (by omega))
    clear hS HTX HTR
    go_enter Tryd.func24, Tryd.ntmps24
    go_wp2_with (first
      | (refine wpList_load_mid rfl 32 (.tmp 19) rfl lb (lo + j * 32) rfl (bytesV o.b) _ (by exact HE.out) Tryd.underlying32 rfl (by exact hv_info _) ?_)
      | (refine wpList_store_row rfl 32 (.tmp 13) (.tmp 20) rfl (w.heap.size + 1) (bytesV o.b).toArray rfl rfl 32 z32.toArray (by exact Blk.newL1 w _ z32 _) (by exact hv_row _) (by exact z32_old _) (by exact hv_one _) ?_)
      | fail)
    refine wp_world HW.out ?_
    clear HW
    refine wp_region_mono 11 (w1.heap.size) [(fun v _ => v = .agg (bytesV o.b).toArray), (fun v _ => v = .int .i64 m), (fun v _ => v = .int .i64 k), (fun v _ => v = .int .i64 (m - k : Nat)), (fun v _ => v = .int .i64 n), (fun v _ => v = .int .i64 k), (fun v _ => v = .int .i64 (n - k : Nat)), (fun v _ => v = .agg (bytesV old.b).toArray), (fun v _ => v = .slice ar j cr), (fun v _ => v = .agg (bytesV S.b).toArray), (fun v w => Bytes w v T)] (by kernel_rfl) (by kernel_rfl) (Nat.le_refl _) ?mkept _ rfl ?mops ?mfin
    case mkept =>
      repeat (refine List.forall_mem_cons.2 ⟨by first | exact fun _ _ _ _ h => h | exact fun _ _ _ hb h => Parts.below h hb | exact fun _ _ _ hb h => IsSl.below h hb, ?_⟩)
      exact fun _ h => by cases h
    case mops =>
      simp only [List.take_succ_cons, List.take_zero, monoAll, List.getD_cons_zero, List.getD_cons_succ]
      iterate 11
      
       (refine ⟨fun x wr hb hd Qg hK => ?_, ?_⟩
        · as_aux_lemma =>
          simp only [fill, Act.put, List.setIfInBounds_toArray, List.set_cons_succ, List.set_cons_zero, needs, Region.binds, List.filter_cons, List.filter_nil, List.map_cons, List.map_nil, if_true, List.mem_cons, List.not_mem_nil, or_false, forall_eq_or_imp, forall_eq, List.getD_cons_zero, List.getD_cons_succ, false_implies, implies_true] at hd hK ⊢
          (try simp only [hd] at hK ⊢)
          first
          | (have hBr := HB0.out.below hb (hl0); refine wpList_load_rowIf rfl 32 (.tmp 9) rfl _ rfl 32 (bytesV old.b).toArray (0, 0) _ (by exact hBr) Tryd.underlying32 rfl (hv_row _) ?_; exact hK _ _ rfl (Below.refl _ _))
          | (have hBr := HB1.out.below hb (hl1); refine wpList_load_rowIf rfl 32 (.tmp 13) rfl _ rfl 32 (bytesV o.b).toArray (0, 0) _ (by exact hBr) Tryd.underlying32 rfl (hv_row _) ?_; exact hK _ _ rfl (Below.refl _ _))
          | (show wpList _ _ _ [⟨some 46, .call _, _, _, _, _⟩] _ _; go_wp2_with (go_at_call 45; refine (HIK.out (m - k) false _ (P.take j) wr (by omega) (by omega) (by omega) (HR.out.below hb) (by rw [HPT.out]; omega) HN.out (HG.out.below hb)).mono ?_; rintro e w5 ⟨rfl, hb5⟩); exact hK _ _ (by rw [← HS.out]; rfl) hb5)
          | (show wpList _ _ _ [⟨some 47, .call _, _, _, _, _⟩] _ _; go_wp2_with (go_at_call 26; refine (pair_any o S wr).mono ?_; rintro e w5 ⟨⟨v5, rfl, hv5⟩, hb5⟩; rw [← HT.out] at hv5); exact hK _ _ hv5 hb5)
          | (go_wp2_with fail; exact hK _ _ rfl (Below.refl _ _)))
      trivial
    case mfin =>
      intro z w3 hb3 hR3
      have x7 := hR3 10 (by decide)
      simp only [List.getD_cons_zero, List.getD_cons_succ] at x7
      have X7 := Lib.hid x7
      have hw3 := hb1.trans (hb3.mono hb1.size)
      clear hR3 hb3 x7
      simp only [List.drop_succ_cons, List.drop_zero]
      generalize List.toArray _ = L0
      simp only [List.take_succ_cons, List.take_zero, List.map_cons, List.map_nil, fill, Act.put, List.setIfInBounds_toArray, List.set_cons_succ, List.set_cons_zero]
      go_wp2_with fail
      go_ret
      exact ⟨⟨_, rfl, X7.out⟩, hw3⟩
set_option maxRecDepth 100000 in
set_option maxHeartbeats 4000000 in
theorem rsaid_any (old : H) : ∀ n, SaidOk old n := by
  intro n
  induction n using Nat.strongRecOn with
  | _ n ih =>
    intro m wh vl P w hn h1 hm hs hPm hP hg
    obtain ⟨w1, hw1⟩ : ∃ w1, w1 = (w.alloc (.cells (bytesV old.b).toArray 32)).alloc (.cells z32.toArray 32) := ⟨_, rfl⟩
    have hb1 : Below w.heap.size w w1 := by rw [hw1]; (repeat (first | with_reducible assumption | with_reducible exact Below.refl _ _ | ((with_reducible refine Below.setCell ?_ ?_ _); rotate_left; focus (first | omega | (simp; done) | (simp; omega))) | ((with_reducible refine Below.alloc ?_ ?_ _); rotate_left; focus (first | omega | (simp; done) | (simp; omega))) | ((with_reducible refine below_setRow ?_ ?_ _); rotate_left; focus (first | omega | (simp; done) | (simp; omega))) | (with_reducible refine below_drewN ?_ _) | (with_reducible refine Below.drew ?_)))
    have hB0 : Blk w1 w.heap.size (bytesV old.b) 32 := by rw [hw1]; exact (Blk.newL w _ _).alloc _
    have hB1 : Blk w1 (w.heap.size + 1) z32 32 := by rw [hw1]; exact Blk.newL1 w _ _ _
    by_cases he : m = n
    · subst he
      have hne : ((m : Int) == (m : Int)) = true := by simp
      rw [needsB_end m m wh (.inr rfl)] at hP
      rw [said_end old m m wh P.reverse (.inr rfl)]
      have HB0 := Lib.hid (hw1 ▸ hB0)
      have HB1 := Lib.hid (hw1 ▸ hB1)
      have HBW := Lib.hid (hw1 ▸ hb1)
      cases wh with
      | true =>
        clear hs hP hg hw1 hb1 hB0 hB1 w1
        simp only [if_true]
        unfold hv
        go_enter Tryd.func45, Tryd.ntmps45
        go_wp2_with (first
          | (refine wpList_load_row rfl 32 (.tmp 7) rfl w.heap.size rfl 32 (bytesV old.b).toArray (0, 0) _ (by exact HB0.out) Tryd.underlying32 rfl (by exact hv_row _) ?_)
          | (refine wpList_store_row rfl 32 (.tmp 10) (.tmp 16) rfl (w.heap.size + 1) (bytesV old.b).toArray rfl rfl 32 z32.toArray (by exact HB1.out) (by exact hv_row _) (by exact z32_old _) (by exact hv_one _) ?_)
          | fail)
        exact bodyPost_ret (v := hv old) (results_cell_row rfl _ _ (w.heap.size + 1) 32 _ (0, 0) _ rfl (HB1.out.setRow _) Tryd.underlying32 rfl (hv_row _)) rfl ⟨rfl, below_setRow HBW.out (by omega) _⟩
      | false =>
        obtain ⟨o, rfl⟩ := List.length_eq_one_iff.1 hP
        obtain ⟨lb, lo, cl, rfl, _, hr, _⟩ := Hs.pos hs (by simp)
        have hE : ((w.alloc (.cells (bytesV old.b).toArray 32)).alloc (.cells z32.toArray 32)).rangeAt lb lo (bytesV o.b) := range_below (by have := Hs.elem hr (i := 0) (x := o) rfl; simpa using this) (by rw [← hw1]; exact hb1)
        have HE := Lib.hid hE
        clear hs hP hg hw1 hb1 hB0 hB1 hr hE w1
        simp only [Bool.false_eq_true, if_false, List.reverse_singleton, List.headD_cons]
        unfold hv
        go_enter Tryd.func45, Tryd.ntmps45
        go_wp2_with (first
          | (refine wpList_load_mid rfl 32 (.tmp 18) rfl lb lo rfl (bytesV o.b) _ (by exact HE.out) Tryd.underlying32 rfl (by exact hv_info _) ?_)
          | (refine wpList_store_row rfl 32 (.tmp 10) (.tmp 19) rfl (w.heap.size + 1) (bytesV o.b).toArray rfl rfl 32 z32.toArray (by exact HB1.out) (by exact hv_row _) (by exact z32_old _) (by exact hv_one _) ?_)
          | fail)
        exact bodyPost_ret (v := hv o) (results_cell_row rfl _ _ (w.heap.size + 1) 32 _ (0, 0) _ rfl (HB1.out.setRow _) Tryd.underlying32 rfl (hv_row _)) rfl ⟨rfl, below_setRow HBW.out (by omega) _⟩
    have hne : ((m : Int) == (n : Int)) = false := by rw [beq_eq_false_iff_ne]; omega
    obtain ⟨S, hS⟩ : ∃ S, S = saidB old n m wh P.reverse := ⟨_, rfl⟩
    obtain ⟨T, hT⟩ : ∃ T, T = saidT old n m wh P.reverse := ⟨_, rfl⟩
    have hST : S.b = sumN T := by rw [hS, hT]; exact saidB_text old n m wh _ (by omega)
    rw [← hS]
    obtain ⟨k, hk⟩ : ∃ k, k = splitN n := ⟨_, rfl⟩
    have HTX := Lib.hid (rtext_of old n ih m wh vl P w1 hn h1 (by omega) (hs.below hb1) hPm hP (hg.below hb1))
    have hTl : T.length = 65 := by rw [hT]; exact saidT_len _ _ _ _ _
    have HT := Lib.hid hT
    have HK := Lib.hid hk
    have HST := Lib.hid hST
    have HTL := Lib.hid hTl
    have HB0 := Lib.hid (hw1 ▸ hB0)
    have HB1 := Lib.hid hB1
    have HG := Lib.hid (hg.below hb1)
    have HW := Lib.hid hw1
    clear hs hP hg hw1 hB0 hB1 hS hT hk hST hTl
    unfold hv
    go_enter Tryd.func45, Tryd.ntmps45
    go_wp2_with (first
      | (go_at_call 23; refine (refsplit_any n _ (by omega)).mono ?_; rintro e w5 ⟨rfl, h5⟩; rw [h5, ← HK.out]; clear h5 w5)
      | (refine wpList_load_row rfl 32 (.tmp 7) rfl w.heap.size rfl 32 (bytesV old.b).toArray (0, 0) _ (by exact HB0.out) Tryd.underlying32 rfl (by exact hv_row _) ?_)
      | (go_at_call 24; rw [HK.out]; refine calls_eq HW.out (HTX.out.mono ?_); rintro e w5 ⟨⟨v5, rfl, hv5⟩, hb5⟩; rw [← HT.out] at hv5; have HV5 := Lib.hid hv5; have hw5 := hb1.trans (hb5.mono hb1.size); have HB5 := Lib.hid (HB1.out.below hb5 HB1.out.lt); have HG5 := Lib.hid (HG.out.below hb5); clear hv5 hb5)
      | (go_at_call 48; refine (refsum_any v5 T w5 HV5.out (by rw [HTL.out]; decide) HG5.out).mono ?_; rintro e w6 ⟨rfl, hb6⟩; rw [← HST.out]; have hw6 := hw5.trans (hb6.mono hw5.size); have HB6 := Lib.hid (HB5.out.below hb6 HB5.out.lt); clear hb6)
      | (refine wpList_store_row rfl 32 (.tmp 10) (.tmp 29) rfl (w.heap.size + 1) (bytesV S.b).toArray rfl rfl 32 z32.toArray (by exact HB6.out) (by exact hv_row _) (by exact z32_old _) (by exact hv_one _) ?_)
      | fail)
    exact bodyPost_ret (v := hv S) (results_cell_row rfl _ _ (w.heap.size + 1) 32 _ (0, 0) _ rfl (HB6.out.setRow _) Tryd.underlying32 rfl (hv_row _)) rfl ⟨rfl, below_setRow hw6 (by omega) _⟩
end Go.Proofs.YtnbnjoejmepkjaaDoor

/-! LinkN: The walk of the reference's Find. Conditions: the lists and the proof can be read, at most 4000 texts of at most 2^45 bytes, 4096 hashes; the package's tables read as they are laid. -/
namespace Go.Proofs.YtnbnjoejmepkjaaDoor
open Go.RowKit

set_option maxRecDepth 100000 in
set_option maxHeartbeats 1000000 in
theorem reffind_none (va vb vl : Value) (a b : List (List UInt8)) (xs ys : List Value) (P : List H) (w : World) (ha : Parts w va a xs) (hb : Parts w vb b ys) (hs : Hs w vl P) (hn : a.length ≤ 4000) (hm : b.length ≤ 4000) (hp : P.length ≤ 4096) (hwa : ∀ l ∈ a, l.length ≤ 35184372088832) (hwb : ∀ l ∈ b, l.length ≤ 35184372088832) (hg : Glob w)
    (hf : linkB a b P = false ∨ beginsB a b = true) :
    Calls Tryd.prog 11 #[va, vb, vl] w fun e w' => e = .returned (.tuple #[.slice none 0 0, .slice none 0 0, .bool false]) ∧ Below w.heap.size w w' := by
  obtain ⟨xa, ca, rfl, _⟩ := ha.sl.form
  obtain ⟨xb, cb, rfl, _⟩ := hb.sl.form
  have HA := Lib.hid ha
  have HB := Lib.hid hb
  have HS := Lib.hid hs
  have HG := Lib.hid hg
  have HWA := Lib.hid hwa
  have HWB := Lib.hid hwb
  clear ha hb hs hg hwa hwb
  cases hl : linkB a b P with
  | false =>
    have HL := Lib.hid hl
    clear hl hf
    go_enter Tryd.func11, Tryd.ntmps11
    go_wp2_with (first
      | (go_at_call 14; refine (reflis_any _ _ vl a b xs ys P w HA.out HB.out HS.out hn hm hp HWA.out HWB.out HG.out).mono ?_; rintro e w3 ⟨rfl, hb3⟩; rw [HL.out]; have HW3 := Lib.hid hb3; clear hb3)
      | fail)
    go_ret3
    exact ⟨rfl, HW3.out⟩
  | true =>
    have HL := Lib.hid hl
    have HF := Lib.hid (show beginsB a b = true from hf.resolve_left (by rw [hl]; decide))
    clear hl hf
    go_enter Tryd.func11, Tryd.ntmps11
    go_wp2_with (first
      | (go_at_call 14; refine (reflis_any _ _ vl a b xs ys P w HA.out HB.out HS.out hn hm hp HWA.out HWB.out HG.out).mono ?_; rintro e w3 ⟨rfl, hb3⟩; rw [HL.out]; have HW3 := Lib.hid hb3; have HA3 := Lib.hid (HA.out.below hb3); have HB3 := Lib.hid (HB.out.below hb3); clear hb3)
      | (go_at_call 16; refine (reflbegins_any _ _ a b xs ys w3 HA3.out HB3.out (by omega) HWA.out).mono ?_; rintro e w4 ⟨rfl, hb4⟩; rw [HF.out]; have HW4 := Lib.hid (HW3.out.trans (hb4.mono HW3.out.size)); clear hb4)
      | fail)
    go_ret3
    exact ⟨rfl, HW4.out⟩
theorem nodes_step (x o : H) (b : List (List UInt8)) (m : Nat) (wh : Bool) (rp : List H) (h : ¬ (b.length < 2 ∨ m = b.length)) : nodesB x b m wh (o :: rp) = (saidT x b.length m wh (o :: rp), textB b) :: (if m ≤ splitN b.length then nodesB x (b.take (splitN b.length)) m wh rp else nodesB x (b.drop (splitN b.length)) (m - splitN b.length) false rp) := by
  unfold saidT
  by_cases hk : m ≤ splitN b.length
  · rw [if_pos hk, if_pos hk, nodes_left x o b m wh rp h hk]; rfl
  · rw [if_neg hk, if_neg hk, nodes_right x o b m wh rp h hk]; rfl
set_option maxRecDepth 100000 in
set_option maxHeartbeats 8000000 in
theorem reffind_any (va vb vl : Value) (a b : List (List UInt8)) (xs ys : List Value) (P : List H) (w : World) (ha : Parts w va a xs) (hb : Parts w vb b ys) (hs : Hs w vl P) (hn : a.length ≤ 4000) (hm : b.length ≤ 4000) (hp : P.length ≤ 4096) (hwa : ∀ l ∈ a, l.length ≤ 35184372088832) (hwb : ∀ l ∈ b, l.length ≤ 35184372088832) (hg : Glob w) :
    Calls Tryd.prog 11 #[va, vb, vl] w fun e w' => ExtR (findB a b P) e w' ∧ Below w.heap.size w w' := by
  by_cases hf : linkB a b P = false ∨ beginsB a b = true
  · have hnone : findB a b P = none := by
      unfold findB
      rcases hf with h | h <;> rw [h] <;> simp
    rw [hnone]
    exact (reffind_none va vb vl a b xs ys P w ha hb hs hn hm hp hwa hwb hg hf).mono fun e w' ⟨h1, h2⟩ => by subst h1; exact ⟨extR_none _, h2⟩
  have hl : linkB a b P = true := by
    cases h : linkB a b P with
    | true => rfl
    | false => exact absurd (.inl h) hf
  have hbg : beginsB a b = false := by
    cases h : beginsB a b with
    | false => rfl
    | true => exact absurd (.inr h) hf
  have hne : a ≠ [] := fun e => by rw [e, begins_none] at hbg; cases hbg
  obtain ⟨hle, hPn⟩ := link_needs hl hne
  have ha1 : 1 ≤ a.length := List.length_pos_iff.2 hne
  obtain ⟨F, hF⟩ : ∃ F, F = nodesB (rootB a) b a.length true P.reverse := ⟨_, rfl⟩
  have hfind := find_first hl hbg hF
  obtain ⟨A, hA⟩ : ∃ A, A = rootB a := ⟨_, rfl⟩
  rw [← hA] at hF
  obtain ⟨xa, ca, rfl, _⟩ := ha.sl.form
  obtain ⟨xb, cb, rfl, _⟩ := hb.sl.form
  obtain ⟨a1, d1, hs1, hp1⟩ := parts_head hb a.length hle
  have HA := Lib.hid ha
  have HB := Lib.hid hb
  have HS := Lib.hid hs
  have HG := Lib.hid hg
  have HWA := Lib.hid hwa
  have HWB := Lib.hid hwb
  have HL := Lib.hid hl
  have HBG := Lib.hid hbg
  have HPN := Lib.hid hPn
  have HF := Lib.hid hF
  have HAE := Lib.hid hA
  have HFI := Lib.hid hfind
  have HP1 := Lib.hid hp1
  have HWT := Lib.hid (fun l (h : l ∈ b.take a.length) => hwb l (List.mem_of_mem_take h))
  have lbt : (b.take a.length).length ≤ 4000 := by rw [List.length_take]; omega
  clear ha hb hs hg hwa hwb hl hbg hPn hF hA hfind hp1 hne hf
  go_enter Tryd.func11, Tryd.ntmps11
  go_wp2_with (first
    | (go_at_call 14; refine (reflis_any _ _ vl a b xs ys P w HA.out HB.out HS.out hn hm hp HWA.out HWB.out HG.out).mono ?_; rintro e w3 ⟨rfl, hb3⟩; rw [HL.out]; have HW3 := Lib.hid hb3; have HA3 := Lib.hid (HA.out.below hb3); have HB3 := Lib.hid (HB.out.below hb3); clear hb3)
    | (go_at_call 16; refine (reflbegins_any _ _ a b xs ys w3 HA3.out HB3.out (by omega) HWA.out).mono ?_; rintro e w4 ⟨rfl, hb4⟩; rw [HBG.out]; have hw4 := HW3.out.trans (hb4.mono HW3.out.size); clear hb4)
    | fail)
  have hs4 := hw4.size
  go_loopw [2, 9, 10, 11] (fun lv mv wv cv wr => ∃ (m : Nat) (wh : Bool) (c : List (List UInt8)) (zs : List Value) (Q : List H), mv = .int .i64 m ∧ wv = .bool wh ∧ Parts wr cv c zs ∧ Hs wr lv Q ∧ 1 ≤ m ∧ m ≤ c.length ∧ c.length ≤ 4000 ∧ (∀ l ∈ c, l.length ≤ 35184372088832) ∧ Q.length ≤ 4096 ∧ Q.length = needsB c.length m wh ∧ firstB F = firstB (nodesB A c m wh Q.reverse) ∧ Below w4.heap.size w4 wr) (fun _ _ _ cv _ => lenV cv)
  case atStart => exact ⟨a.length, true, b, ys, P, rfl, rfl, HB.out.below hw4, HS.out.below hw4, ha1, hle, hm, HWB.out, hp, HPN.out, by rw [HF.out], Below.refl _ _⟩
  case round =>
    obtain ⟨m, wh, c, zs, Q, rfl, rfl, hc, hq, hm1, hmc, hcl, hwc, hql, hqn, hfr, hw⟩ := hrel
    have hsz := hw.size
    obtain ⟨xc, cc, rfl, _⟩ := hc.sl.form
    obtain ⟨xq, cq, rfl, _⟩ := hq.form
    by_cases hlt : m < c.length
    · have hlt' : (m : Int) < c.length := by omega
      have h2 : ¬ (c.length < 2 ∨ m = c.length) := by omega
      obtain ⟨k, hk⟩ : ∃ k, k = splitN c.length := ⟨_, rfl⟩
      have hkl := splitN_lt c.length (by omega)
      have hkp := splitN_pos c.length (by omega)
      rw [← hk] at hkl hkp
      obtain ⟨j, hj, hjl, hjr⟩ : ∃ j, Q.length = j + 1 ∧ (m ≤ k → j = needsB k m wh) ∧ (¬ m ≤ k → j = needsB (c.length - k) (m - k) false) := by
        by_cases hik : m ≤ splitN c.length
        · have := hqn
          rw [needsB_left _ m wh h2 hik] at this
          exact ⟨_, this, fun _ => by rw [hk], fun h => absurd (by rw [hk]; exact hik) h⟩
        · have := hqn
          rw [needsB_right _ m wh h2 hik] at this
          exact ⟨_, this, fun h => absurd (by rw [← hk]; exact h) hik, fun _ => by rw [hk]⟩
      obtain ⟨o, ho⟩ : ∃ o, Q[j]? = some o := ⟨_, List.getElem?_eq_getElem (by omega)⟩
      have hrev := rev_last hj ho
      have hstep := nodes_step A o c m wh (Q.take j).reverse h2
      rw [← hrev] at hstep
      obtain ⟨s, hs⟩ : ∃ s, s = saidT A c.length m wh Q.reverse := ⟨_, rfl⟩
      obtain ⟨t, ht⟩ : ∃ t, t = textB c := ⟨_, rfl⟩
      rw [← hs, ← ht, ← hk] at hstep
      obtain ⟨L, hL⟩ : ∃ L, L = rootB (c.take k) := ⟨_, rfl⟩
      obtain ⟨R, hR'⟩ : ∃ R, R = rootB (c.drop k) := ⟨_, rfl⟩
      have htt : t = 1 :: (L.b ++ R.b) := by rw [ht, textB_two c (by omega), ← hk, hL, hR']
      have hsl : s.length = 65 := by rw [hs]; exact saidT_len _ _ _ _ _
      have htl : t.length = 65 := by rw [htt]; simp [H.len]
      obtain ⟨a1, d1, hs1, hp1⟩ := parts_head hc k (by omega)
      obtain ⟨a2, d2, hs2, hp2⟩ := parts_tail hc k (by omega)
      obtain ⟨ar, dr, hs3, hp3⟩ := hs_head hq j (by omega)
      have hjb : j ≤ 4096 := by omega
      have hji : (Q.length : Int) - 1 = (j : Int) := by omega
      obtain ⟨B, hB⟩ : ∃ B, B = clashB s t := ⟨_, rfl⟩
      have HC := Lib.hid hc
      have HQ := Lib.hid hq
      have HQN := Lib.hid hqn
      have HJ := Lib.hid hj
      have HWC := Lib.hid hwc
      have HK := Lib.hid hk
      have HJL := Lib.hid hjl
      have HJR := Lib.hid hjr
      have HST := Lib.hid hstep
      have HSE := Lib.hid hs
      have HLE := Lib.hid hL
      have HRE := Lib.hid hR'
      have HTT := Lib.hid htt
      have HH1 := Lib.hid hp1
      have HH2 := Lib.hid hp2
      have HH3 := Lib.hid hp3
      have HBE := Lib.hid hB
      have HFR := Lib.hid hfr
      have HSL := Lib.hid hsl
      have HTL := Lib.hid htl
      have hwr := hw4.trans (hw.mono hs4)
      have HAr := Lib.hid (HA.out.below hwr)
      have HGr := Lib.hid (HG.out.below hwr)
      have HW1 := Lib.hid (fun l (h : l ∈ c.take k) => hwc l (List.mem_of_mem_take h))
      have HW2 := Lib.hid (fun l (h : l ∈ c.drop k) => hwc l (List.mem_of_mem_drop h))
      clear hc hq hqn hj hwc hk hjl hjr hstep hs hL hR' htt hp1 hp2 hp3 hB hfr hsl htl ho hrev ht h2
      go_wp2_with (first
        | (go_at_call 23; refine (refsplit_any c.length _ (by omega)).mono ?_; rintro e w5 ⟨rfl, h5⟩; rw [h5, ← HK.out]; clear h5 w5)
        | (go_at_call 25; refine (refroots_any _ a xs wr HAr.out hn HWA.out HGr.out).mono ?_; rintro e w5 ⟨rfl, hb5⟩; rw [← HAE.out]; have hw5 := hb5; have HQ5 := Lib.hid (HQ.out.below hb5); have HG5 := Lib.hid (HGr.out.below hb5); clear hb5)
        | (go_at_call 24; rw [HK.out]; refine (rtext_of A c.length (fun k _ => rsaid_any A k) m wh _ Q w5 hcl hm1 hlt HQ5.out hql HQN.out HG5.out).mono ?_; rintro e w6 ⟨⟨v6, rfl, hv6⟩, hb6⟩; rw [← HSE.out] at hv6; rw [← HK.out]; obtain ⟨e1, e2, rfl, _⟩ := hv6.form; have HV6 := Lib.hid hv6; have hw6 := hw5.trans (hb6.mono hw5.size); clear hv6 hb6 hw5)
        | fail)
      refine wp_region_mono 9 (w6.heap.size) [(fun v _ => v = .slice xc c.length cc), (fun v _ => v = .int .i64 k), (fun v _ => v = .slice a1 k d1), (fun v _ => v = .agg (bytesV L.b).toArray), (fun v _ => v = .slice xc c.length cc), (fun v _ => v = .int .i64 k), (fun v _ => v = .slice a2 (c.length - k) d2), (fun v _ => v = .agg (bytesV R.b).toArray), (fun v w => Bytes w v (1 :: (L.b ++ R.b)))] (by kernel_rfl) (by kernel_rfl) (Nat.le_refl _) ?mkept _ rfl ?mops ?mfin
      case mkept =>
        repeat (refine List.forall_mem_cons.2 ⟨by first | exact fun _ _ _ _ h => h | exact fun _ _ _ hb h => Parts.below h hb | exact fun _ _ _ hb h => IsSl.below h hb, ?_⟩)
        exact fun _ h => by cases h
      case mops =>
        simp only [List.take_succ_cons, List.take_zero, monoAll, List.getD_cons_zero, List.getD_cons_succ]
        iterate 9
        
         (refine ⟨fun x wr hb hd Qg hK => ?_, ?_⟩
          · as_aux_lemma =>
            simp only [fill, Act.put, List.setIfInBounds_toArray, List.set_cons_succ, List.set_cons_zero, needs, Region.binds, List.filter_cons, List.filter_nil, List.map_cons, List.map_nil, if_true, List.mem_cons, List.not_mem_nil, or_false, forall_eq_or_imp, forall_eq, List.getD_cons_zero, List.getD_cons_succ, false_implies, implies_true] at hd hK ⊢
            (try simp only [hd] at hK ⊢)
            first
            | (show wpList _ _ _ [⟨some 47, .call _, _, _, _, _⟩] _ _; go_wp2_with (go_at_call 25; refine (refroots_any _ (c.take k) _ wr ((HH1.out.below hw6).below hb) (by rw [List.length_take]; omega) HW1.out ((HGr.out.below hw6).below hb)).mono ?_; rintro e w5 ⟨rfl, hb5⟩); exact hK _ _ (by rw [← HLE.out]; rfl) hb5)
            | (show wpList _ _ _ [⟨some 51, .call _, _, _, _, _⟩] _ _; go_wp2_with (go_at_call 25; refine (refroots_any _ (c.drop k) _ wr ((HH2.out.below hw6).below hb) (by rw [List.length_drop]; omega) HW2.out ((HGr.out.below hw6).below hb)).mono ?_; rintro e w5 ⟨rfl, hb5⟩); exact hK _ _ (by rw [← HRE.out]; rfl) hb5)
            | (show wpList _ _ _ [⟨some 52, .call _, _, _, _, _⟩] _ _; go_wp2_with (go_at_call 26; refine (pair_any L R wr).mono ?_; rintro e w5 ⟨⟨v5, rfl, hv5⟩, hb5⟩); exact hK _ _ hv5 hb5)
            | (go_wp2_with fail; exact hK _ _ rfl (Below.refl _ _)))
        trivial
      case mfin =>
        intro z w7 hb7 hR7
        have x8 := hR7 8 (by decide)
        simp only [List.getD_cons_zero, List.getD_cons_succ] at x8
        rw [← HTT.out] at x8
        obtain ⟨c1, c2, e8, _⟩ := x8.form
        rw [e8] at x8
        have HT7 := Lib.hid (show Bytes w7 (.slice c1 t.length c2) t from x8)
        have HV7 := Lib.hid (HV6.out.below hb7)
        have hw7 := hw6.trans (hb7.mono hw6.size)
        have HC7 := Lib.hid (HGr.out.below hw7)
        have HQ7 := Lib.hid (HH3.out.below hw7)
        have HA7 := Lib.hid (HH1.out.below hw7)
        have HB7 := Lib.hid (HH2.out.below hw7)
        have ls7 : s.length ≤ 1099511627776 := by rw [HSL.out]; decide
        have lt7 : t.length ≤ 1099511627776 := by rw [HTL.out]; decide
        have hst := HST.out
        have hww := hw.trans (hw7.mono hsz)
        have hsw := hww.size
        clear hR7 hb7 x8 HV6 HH1 HH2 HH3 HC HQ HAr
        simp only [List.drop_succ_cons, List.drop_zero]
        generalize List.toArray _ = L0
        simp only [List.take_succ_cons, List.take_zero, List.map_cons, List.map_nil, fill, Act.put, List.setIfInBounds_toArray, List.set_cons_succ, List.set_cons_zero, e8]
        clear e8
        cases B with
        | true =>
          have hfi : firstB F = some (s, t) := by rw [HFR.out, hst]; unfold firstB; rw [if_pos HBE.out.symm]
          have HNX := Lib.hid (show findB a b P = some (s, t) by rw [HFI.out, hfi])
          clear hfi hst
          go_wp2_with (first
            | (go_at_call 27; refine (refis_any _ _ s t w7 HV7.out HT7.out ls7 lt7 HC7.out).mono ?_; rintro e w8 ⟨rfl, hb8⟩; rw [← HBE.out]; have hw8 := (hw4.trans (hww.mono hs4)).trans (hb8.mono (Nat.le_trans hs4 hsw)); have HV8 := Lib.hid (HV7.out.below hb8); have HT8 := Lib.hid (HT7.out.below hb8); clear hb8)
            | fail)
          go_ret3
          rw [HNX.out]
          exact ⟨⟨_, _, rfl, HV8.out, HT8.out⟩, hw8⟩
        | false =>
          have hfi : firstB F = firstB (if m ≤ k then nodesB A (c.take k) m wh (Q.take j).reverse else nodesB A (c.drop k) (m - k) false (Q.take j).reverse) := by rw [HFR.out, hst]; conv => lhs; unfold firstB; rw [if_neg (by rw [← HBE.out]; decide)]
          have hlj : (Q.take j).length = j := by rw [List.length_take, HJ.out]; omega
          clear hst
          by_cases hik : m ≤ k
          · have hik' : (m : Int) ≤ k := by omega
            rw [if_pos hik] at hfi
            have HFF := Lib.hid hfi
            have hlk : (c.take k).length = k := by rw [List.length_take]; omega
            have HLK := Lib.hid hlk
            have HLJ := Lib.hid hlj
            clear hfi hlk hlj
            go_wp2_with (first
              | (go_at_call 27; refine (refis_any _ _ s t w7 HV7.out HT7.out ls7 lt7 HC7.out).mono ?_; rintro e w8 ⟨rfl, hb8⟩; rw [← HBE.out]; have hw8 := hww.trans (hb8.mono hsw); have HQ8 := Lib.hid (HQ7.out.below hb8); have HA8 := Lib.hid (HA7.out.below hb8); clear hb8)
              | fail)
            exact ⟨⟨m, wh, c.take k, _, Q.take j, rfl, rfl, HA8.out, HQ8.out, hm1, by rw [HLK.out]; exact hik, by rw [HLK.out]; omega, HW1.out, by rw [HLJ.out]; omega, by rw [HLJ.out, HLK.out]; exact HJL.out hik, HFF.out, hw8⟩, by simp [lenV]; omega⟩
          · have hik' : ¬ (m : Int) ≤ k := by omega
            have hmk : (m : Int) - k = (m - k : Nat) := by omega
            rw [if_neg hik] at hfi
            have HFF := Lib.hid hfi
            have hlk : (c.drop k).length = c.length - k := by rw [List.length_drop]
            have HLK := Lib.hid hlk
            have HLJ := Lib.hid hlj
            clear hfi hlk hlj
            go_wp2_with (first
              | (go_at_call 27; refine (refis_any _ _ s t w7 HV7.out HT7.out ls7 lt7 HC7.out).mono ?_; rintro e w8 ⟨rfl, hb8⟩; rw [← HBE.out]; have hw8 := hww.trans (hb8.mono hsw); have HQ8 := Lib.hid (HQ7.out.below hb8); have HB8 := Lib.hid (HB7.out.below hb8); clear hb8)
              | fail)
            exact ⟨⟨m - k, false, c.drop k, _, Q.take j, rfl, rfl, HB8.out, HQ8.out, by omega, by rw [HLK.out]; omega, by rw [HLK.out]; omega, HW2.out, by rw [HLJ.out]; omega, by rw [HLJ.out, HLK.out]; exact HJR.out hik, HFF.out, hw8⟩, by simp [lenV]; omega⟩
    · have hlt' : ¬ (m : Int) < c.length := by omega
      have hend : firstB F = none := by rw [hfr, nodes_end A c m wh Q.reverse (.inr (by omega))]; rfl
      have HNX := Lib.hid (show findB a b P = extractB a (b.take a.length) by rw [HFI.out, hend])
      have hwr := hw4.trans (hw.mono hs4)
      have HAr := Lib.hid (HA.out.below hwr)
      have HTr := Lib.hid (HP1.out.below hwr)
      have HGr := Lib.hid (HG.out.below hwr)
      clear hend hfr hw hc hq hqn hwc
      go_wp2_with (first
        | (go_at_call 28; refine (refextract_any a.length _ _ a (b.take a.length) xs _ wr rfl HAr.out HTr.out hn lbt HWA.out HWT.out HGr.out).mono ?_; rintro e w8 ⟨h8, hb8⟩; rw [← HNX.out] at h8; obtain ⟨v1, v2, rfl, k1, k2⟩ := h8; have hw8 := hwr.trans (hb8.mono hwr.size); have K1 := Lib.hid k1; have K2 := Lib.hid k2; clear k1 k2 hb8)
        | fail)
      go_ret3
      exact ⟨⟨_, _, rfl, K1.out, K2.out⟩, hw8⟩
end Go.Proofs.YtnbnjoejmepkjaaDoor
