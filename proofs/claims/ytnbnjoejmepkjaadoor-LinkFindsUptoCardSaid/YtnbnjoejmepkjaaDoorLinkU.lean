/- The walk of link.Find. Plain facts of link.Find's answer: what it says of the lists; how long its texts are. No condition. Conditions: what each part says. -/
import Derived.Test.YtnbnjoejmepkjaaDoorLinkT
import Derived.Test.YtnbnjoejmepkjaaDoorLinkW
import Derived.Test.YtnbnjoejmepkjaaDoorClashY
import Derived.Test.YtnbnjoejmepkjaaDoorComesW
/-! LinkK: The walk of link.Find. Conditions: the lists and the proof can be read, at most 4000 texts of at most 2^45 bytes, 4096 hashes; the package's tables read as they are laid. -/
namespace Go.Proofs.YtnbnjoejmepkjaaDoor
open Go.RowKit

theorem first_at {l : List (List UInt8 × List UInt8)} {j : Nat} {x y : List UInt8} (h : l[j]? = some (x, y)) : firstB (l.drop j) = if clashB x y then some (x, y) else firstB (l.drop (j + 1)) := by
  obtain ⟨h1, h2⟩ := List.getElem?_eq_some_iff.1 h
  rw [List.drop_eq_getElem_cons h1, h2]
  rfl
theorem nodes_len (x : H) : ∀ (n : Nat) (b : List (List UInt8)) (m : Nat) (wh : Bool) (rp : List H), b.length = n → ∀ z ∈ nodesB x b m wh rp, z.1.length = 65 ∧ z.2.length = 65 := by
  intro n
  induction n using Nat.strongRecOn with
  | _ n ih =>
    intro b m wh rp hn z hz
    rw [nodesB] at hz
    split at hz
    · cases hz
    · rename_i h
      have hlt := splitN_lt n (by omega)
      have hpos := splitN_pos n (by omega)
      have ht : (textB b).length = 65 := by rw [textB_two b (by omega)]; simp [H.len]
      split at hz
      · rcases List.mem_cons.1 hz with rfl | hz
        · exact ⟨by simp [H.len], ht⟩
        · exact ih _ hlt (b.take (splitN b.length)) m wh rp.tail (by rw [List.length_take, hn]; omega) z hz
      · rcases List.mem_cons.1 hz with rfl | hz
        · exact ⟨by simp [H.len], ht⟩
        · exact ih (n - splitN n) (by omega) (b.drop (splitN b.length)) (m - splitN b.length) false rp.tail (by rw [List.length_drop, hn]) z hz
theorem begins_none (b : List (List UInt8)) : beginsB [] b = true := by
  have := begins_take b 0
  rwa [List.take_zero] at this
theorem find_first {a b : List (List UInt8)} {P : List H} {F : List (List UInt8 × List UInt8)} (hl : linkB a b P = true) (hb : beginsB a b = false) (hF : F = nodesB (rootB a) b a.length true P.reverse) : findB a b P = match firstB F with | some r => some r | none => extractB a (b.take a.length) := by
  unfold findB
  rw [hl, hb, hF]
  rfl
set_option maxRecDepth 100000 in
set_option maxHeartbeats 4000000 in
theorem lfind_any (va vb vl : Value) (a b : List (List UInt8)) (xs ys : List Value) (P : List H) (w : World) (ha : Parts w va a xs) (hb : Parts w vb b ys) (hs : Hs w vl P) (hn : a.length ≤ 4000) (hm : b.length ≤ 4000) (hp : P.length ≤ 4096) (hwa : ∀ l ∈ a, l.length ≤ 35184372088832) (hwb : ∀ l ∈ b, l.length ≤ 35184372088832) (hg : Glob w) :
    Calls Tryd.prog 10 #[va, vb, vl] w fun e w' => ExtR (findB a b P) e w' ∧ Below w.heap.size w w' := by
  by_cases hf : linkB a b P = false ∨ beginsB a b = true
  · have hnone : findB a b P = none := by
      unfold findB
      rcases hf with h | h <;> rw [h] <;> simp
    rw [hnone]
    exact (lfind_none va vb vl a b xs ys P w ha hb hs hn hm hp hwa hwb hg hf).mono fun e w' ⟨h1, h2⟩ => by subst h1; exact ⟨extR_none _, h2⟩
  have hl : linkB a b P = true := by
    cases h : linkB a b P with
    | true => rfl
    | false => exact absurd (.inl h) hf
  have hbg : beginsB a b = false := by
    cases h : beginsB a b with
    | false => rfl
    | true => exact absurd (.inr h) hf
  have hne : a ≠ [] := fun e => by rw [e, begins_none] at hbg; cases hbg
  obtain ⟨hle, hPn⟩ := link_needs hl hne
  have ha1 : 1 ≤ a.length := List.length_pos_iff.2 hne
  obtain ⟨F, hF⟩ : ∃ F, F = nodesB (rootB a) b a.length true P.reverse := ⟨_, rfl⟩
  have hfind := find_first hl hbg hF
  obtain ⟨A, hA⟩ : ∃ A, A = rootB a := ⟨_, rfl⟩
  rw [← hA] at hF
  obtain ⟨xa, ca, rfl, _⟩ := ha.sl.form
  obtain ⟨xb, cb, rfl, _⟩ := hb.sl.form
  obtain ⟨a1, d1, hs1, hp1⟩ := parts_head hb a.length hle
  have HA := Lib.hid ha
  have HB := Lib.hid hb
  have HS := Lib.hid hs
  have HG := Lib.hid hg
  have HWA := Lib.hid hwa
  have HWB := Lib.hid hwb
  have HL := Lib.hid hl
  have HBG := Lib.hid hbg
  have HPN := Lib.hid hPn
  have HF := Lib.hid hF
  have HAE := Lib.hid hA
  have HFI := Lib.hid hfind
  have HP1 := Lib.hid hp1
  have HFL := Lib.hid (show ∀ z ∈ F, z.1.length = 65 ∧ z.2.length = 65 by rw [hF]; exact nodes_len A _ b a.length true _ rfl)
  have HFN := Lib.hid (show F.length ≤ 4000 by rw [hF]; have := nodes_few A _ b a.length true P.reverse rfl; omega)
  have HWT := Lib.hid (fun l (h : l ∈ b.take a.length) => hwb l (List.mem_of_mem_take h))
  have lbt : (b.take a.length).length ≤ 4000 := by rw [List.length_take]; omega
  clear ha hb hs hg hwa hwb hl hbg hPn hF hA hfind hp1 hne hf
  go_enter Tryd.func10, Tryd.ntmps10
  go_wp2_with (first
    | (go_at_call 13; refine (lis_any _ _ vl a b xs ys P w HA.out HB.out HS.out hn hm hp HWA.out HWB.out HG.out).mono ?_; rintro e w3 ⟨rfl, hb3⟩; rw [HL.out]; have HW3 := Lib.hid hb3; have HA3 := Lib.hid (HA.out.below hb3); have HB3 := Lib.hid (HB.out.below hb3); have HS3 := Lib.hid (HS.out.below hb3); have HG3 := Lib.hid (HG.out.below hb3); clear hb3)
    | (go_at_call 15; refine (lbegins_any _ _ a b xs ys w3 HA3.out HB3.out (by omega)).mono ?_; rintro e w4 ⟨rfl, h4⟩; rw [h4, HBG.out]; clear h4 w4)
    | (go_at_call 21; refine (roots_any _ a xs w3 HA3.out hn HWA.out HG3.out).mono ?_; rintro e w4 ⟨rfl, hb4⟩; rw [← HAE.out]; have HW4 := Lib.hid (HW3.out.trans (hb4.mono HW3.out.size)); have HA4 := Lib.hid (HA3.out.below hb4); have HB4 := Lib.hid (HB3.out.below hb4); have HS4 := Lib.hid (HS3.out.below hb4); have HG4 := Lib.hid (HG3.out.below hb4); clear hb4)
    | (go_at_call 20; refine (nodes_any _ vl b ys a.length A P w4 HB4.out hm ha1 hle HWB.out HS4.out hp HPN.out HG4.out).mono ?_; rintro e w5 ⟨⟨v5, rfl, hv5⟩, hb5⟩; rw [← HF.out] at hv5; obtain ⟨f1, f2, rfl⟩ := hv5.form; have HV5 := Lib.hid hv5; have hw5 := HW4.out.trans (hb5.mono HW4.out.size); have HA5 := Lib.hid (HA4.out.below hb5); have HB5 := Lib.hid (HB4.out.below hb5); have HG5 := Lib.hid (HG4.out.below hb5); clear hv5 hb5 HW4 HW3)
    | fail)
  have hs5 := hw5.size
  go_loopw [29] (fun jv wr => ∃ j : Nat, jv = .int .i64 j ∧ j ≤ F.length ∧ firstB F = firstB (F.drop j) ∧ Below w5.heap.size w5 wr) (fun jv _ => F.length - (intOf jv).toNat)
  case atStart => exact ⟨0, rfl, Nat.zero_le _, rfl, Below.refl _ _⟩
  case round =>
    obtain ⟨j, rfl, hj, hf, hw⟩ := hrel
    have hsz := hw.size
    have HFj := Lib.hid hf
    clear hf
    by_cases hlt : j < F.length
    · have hlt' : (j : Int) < F.length := by omega
      have hix : (0 : Int) ≤ j ∧ (j : Int) < F.length := ⟨by omega, hlt'⟩
      have hjb : j + 1 ≤ 4000 := by have := HFN.out; omega
      obtain ⟨⟨s, t⟩, hz⟩ : ∃ z, F[j]? = some z := ⟨_, List.getElem?_eq_getElem hlt⟩
      obtain ⟨b0, o0, c0, x, y, e0, c1, c2, hx, hy⟩ := (HV5.out.below hw).at hz
      cases e0
      obtain ⟨ls, lt⟩ := HFL.out _ (List.mem_of_getElem? hz)
      have hat := first_at hz
      obtain ⟨x1, x2, rfl, _⟩ := hx.form
      obtain ⟨y1, y2, rfl, _⟩ := hy.form
      have hr : wr.rangeAt b0 (o0 + j * 2) [.slice x1 s.length x2, .slice y1 t.length y2] := fun i u hu => by
        match i with
        | 0 => cases hu; exact c1
        | 1 => cases hu; exact c2
        | i + 2 => cases hu
      obtain ⟨R, hR⟩ : ∃ R, R = clashB s t := ⟨_, rfl⟩
      have hal : Below wr.heap.size wr (wr.alloc (.cells #[.slice x1 s.length x2, .slice y1 t.length y2] 43)) := (Below.refl _ _).alloc (Nat.le_refl _) _
      have HRA := Lib.hid hr
      have HAT := Lib.hid hat
      have HX := Lib.hid (hx.below hal)
      have HY := Lib.hid (hy.below hal)
      have HR := Lib.hid hR
      have HGw := Lib.hid ((HG5.out.below hw).below hal)
      have HAL := Lib.hid hal
      have hls : s.length ≤ 1099511627776 := by have : s.length = 65 := ls; omega
      have hlt2 : t.length ≤ 1099511627776 := by have : t.length = 65 := lt; omega
      clear hr hat hx hy hR hal c1 c2 hz ls lt
      go_wp2_with (first
        | (refine wpList_load_mid rfl 43 (.tmp 31) rfl b0 (o0 + j * 2) rfl [.slice x1 s.length x2, .slice y1 t.length y2] _ (by exact HRA.out) Tryd.underlying43 rfl (by kernel_rfl) ?_)
        | (go_at_call 17; refine (cis_any _ _ s t _ HX.out HY.out hls hlt2 HGw.out).mono ?_; rintro e w7 ⟨rfl, hb7⟩; rw [← HR.out]; have hb17 := HAL.out.trans (hb7.mono HAL.out.size); have hw7 := hw.trans (hb17.mono hsz); have HX7 := Lib.hid (HX.out.below hb7); have HY7 := Lib.hid (HY.out.below hb7); have HB7 := Lib.hid ((Blk.newL wr [.slice x1 s.length x2, .slice y1 t.length y2] 43).below hb7 (by simp)); clear hb7 hb17; cases R)
        | fail)
      · have hnx : firstB F = firstB (F.drop (j + 1)) := by rw [HFj.out, HAT.out, ← HR.out]; rfl
        exact ⟨⟨j + 1, by go_num, by omega, hnx, hw7⟩, by simp [intOf]; omega⟩
      · have hnx : firstB F = some (s, t) := by rw [HFj.out, HAT.out, ← HR.out]; rfl
        have HNX := Lib.hid (show findB a b P = some (s, t) by rw [HFI.out, hnx])
        clear hnx
        have hs7 := hw7.size
        have hl7 := HB7.out.lt
        clear HRA HAT HX HY HGw HAL HFj
        go_wp2_with fail
        refine wp_region_mono 7 (w7.heap.size) [(fun v _ => v = .pointer (some ⟨wr.heap.size, 0, none⟩)), (fun v _ => v = .slice x1 s.length x2), (fun v _ => v = .pointer (some ⟨wr.heap.size, 1, none⟩)), (fun v _ => v = .slice y1 t.length y2), (fun v _ => v = .slice x1 s.length x2), (fun v _ => v = .slice y1 t.length y2), (fun v _ => v = .bool true)] (by kernel_rfl) (by kernel_rfl) (Nat.le_refl _) ?mkept _ rfl ?mops ?mfin
        case mkept =>
          repeat (refine List.forall_mem_cons.2 ⟨by first | exact fun _ _ _ _ h => h | exact fun _ _ _ hb h => Parts.below h hb | exact fun _ _ _ hb h => IsSl.below h hb, ?_⟩)
          exact fun _ h => by cases h
        case mops =>
          simp only [List.take_succ_cons, List.take_zero, monoAll, List.getD_cons_zero, List.getD_cons_succ]
          iterate 7
          
           (refine ⟨fun x wr hb hd Qg hK => ?_, ?_⟩
            · as_aux_lemma =>
              simp only [fill, Act.put, List.setIfInBounds_toArray, List.set_cons_succ, List.set_cons_zero, needs, Region.binds, List.filter_cons, List.filter_nil, List.map_cons, List.map_nil, if_true, List.mem_cons, List.not_mem_nil, or_false, forall_eq_or_imp, forall_eq, List.getD_cons_zero, List.getD_cons_succ, false_implies, implies_true] at hd hK ⊢
              (try simp only [hd] at hK ⊢)
              first
              | (show wpList _ _ _ [⟨some 39, .load _ _, _, _, _, _⟩] _ _; have c0 := (HB7.out.below hb hl7).cell (i := 0) rfl; go_wp2_with fail; exact hK _ _ rfl (Below.refl _ _))
              | (show wpList _ _ _ [⟨some 41, .load _ _, _, _, _, _⟩] _ _; have c0 := (HB7.out.below hb hl7).cell (i := 1) rfl; go_wp2_with fail; exact hK _ _ rfl (Below.refl _ _))
              | (go_wp2_with fail; exact hK _ _ rfl (Below.refl _ _)))
          trivial
        case mfin =>
          intro z w8 hb8 hR8
          have r4 := hR8 4 (by decide)
          have r5 := hR8 5 (by decide)
          have r6 := hR8 6 (by decide)
          simp only [List.getD_cons_zero, List.getD_cons_succ] at r4 r5 r6
          have HX8 := Lib.hid (HX7.out.below hb8)
          have HY8 := Lib.hid (HY7.out.below hb8)
          have hw8 := (hw5.trans (hw7.mono hs5)).trans (hb8.mono (Nat.le_trans hs5 hs7))
          clear hR8 hb8 HX7 HY7 HB7
          simp only [List.drop_succ_cons, List.drop_zero]
          generalize List.toArray _ = L0
          simp only [List.take_succ_cons, List.take_zero, List.map_cons, List.map_nil, fill, Act.put, List.setIfInBounds_toArray, List.set_cons_succ, List.set_cons_zero, r4, r5, r6]
          clear r4 r5 r6
          go_wp2_with fail
          go_ret3
          rw [HNX.out]
          exact ⟨⟨_, _, rfl, HX8.out, HY8.out⟩, hw8⟩
    · have hlt' : ¬ (j : Int) < F.length := by omega
      have hend : firstB F = none := by rw [HFj.out, List.drop_of_length_le (by omega)]; rfl
      have HNX := Lib.hid (show findB a b P = extractB a (b.take a.length) by rw [HFI.out, hend])
      have hwr := hw5.trans (hw.mono hs5)
      have HAr := Lib.hid (HA.out.below hwr)
      have HTr := Lib.hid (HP1.out.below hwr)
      have HGr := Lib.hid (HG.out.below hwr)
      clear hend HFj hw
      go_wp2_with (first
        | (go_at_call 22; refine (extract_any _ _ a (b.take a.length) xs _ wr HAr.out HTr.out hn lbt HWA.out HWT.out HGr.out).mono ?_; rintro e w8 ⟨h8, hb8⟩; rw [← HNX.out] at h8; obtain ⟨v1, v2, rfl, k1, k2⟩ := h8; have hw8 := hwr.trans (hb8.mono hwr.size); have K1 := Lib.hid k1; have K2 := Lib.hid k2; clear k1 k2 hb8)
        | fail)
      go_ret3
      exact ⟨⟨_, _, rfl, K1.out, K2.out⟩, hw8⟩
end Go.Proofs.YtnbnjoejmepkjaaDoor

/-! LinkL: Plain facts of link.Find's answer: what it says of the lists; how long its texts are. No condition. -/
namespace Go.Proofs.YtnbnjoejmepkjaaDoor
open Go.RowKit

theorem lextR_get {e : Ending} {w : World} (h : ExtR none e w) : ∃ e1 e2 e3 e4, e = .returned (.tuple #[.slice e1 0 e2, .slice e3 0 e4, .bool false]) := by
  obtain ⟨v1, v2, rfl, h1, h2⟩ := h
  obtain ⟨e1, e2, rfl, _⟩ := h1.form
  obtain ⟨e3, e4, rfl, _⟩ := h2.form
  exact ⟨e1, e2, e3, e4, rfl⟩
theorem lextract_le {a b : List (List UInt8)} {m : Nat} (hm : 65 ≤ m) (ha : ∀ l ∈ a, l.length < m) (hb : ∀ l ∈ b, l.length < m) : ((extractB a b).getD ([], [])).1.length ≤ m ∧ ((extractB a b).getD ([], [])).2.length ≤ m := by
  have htx : ∀ (l : List (List UInt8)), (∀ x ∈ l, x.length < m) → (textB l).length ≤ m := fun l hl => by
    unfold textB
    split
    · rename_i h1
      obtain ⟨x, rfl⟩ := List.length_eq_one_iff.1 h1
      have := hl x (by simp)
      simp
      omega
    · simp [H.len]
      omega
  have hdn : ∀ (n : Nat) (a b : List (List UInt8)), a.length = n → (∀ x ∈ a, x.length < m) → (∀ x ∈ b, x.length < m) → (downB a b).1.length ≤ m ∧ (downB a b).2.length ≤ m := by
    intro n
    induction n using Nat.strongRecOn with
    | _ n ih =>
      intro a b hn ha hb
      rw [downB]
      by_cases hs : a.length < 2 ∨ textB a ≠ textB b
      · rw [dif_pos hs]
        exact ⟨htx a ha, htx b hb⟩
      · rw [dif_neg hs]
        have hlt := splitN_lt a.length (by omega)
        have hpos := splitN_pos a.length (by omega)
        split
        · exact ih _ (by rw [List.length_drop]; omega) _ _ rfl (fun x h => ha x (List.mem_of_mem_drop h)) (fun x h => hb x (List.mem_of_mem_drop h))
        · exact ih _ (by rw [List.length_take]; omega) _ _ rfl (fun x h => ha x (List.mem_of_mem_take h)) (fun x h => hb x (List.mem_of_mem_take h))
  unfold extractB
  split
  · exact ⟨Nat.zero_le _, Nat.zero_le _⟩
  · exact hdn _ a b rfl ha hb
theorem find_some {a b : List (List UInt8)} {P : List H} {x y : List UInt8} (h : findB a b P = some (x, y)) : linkB a b P = true ∧ beginsB a b = false ∧ clashB x y = true := by
  have h1 : linkB a b P = true := by
    cases h1 : linkB a b P with
    | true => rfl
    | false => unfold findB at h; rw [h1] at h; simp at h
  have h2 : beginsB a b = false := by
    cases h2 : beginsB a b with
    | false => rfl
    | true => unfold findB at h; rw [h2] at h; simp at h
  obtain ⟨x', y', h3, h4⟩ := find_or a b P h1 h2
  rw [h] at h3
  cases h3
  exact ⟨h1, h2, h4⟩
theorem find_none' {a b : List (List UInt8)} {P : List H} (h : findB a b P = none) (h1 : linkB a b P = true) : beginsB a b = true := by
  cases h2 : beginsB a b with
  | true => rfl
  | false =>
    obtain ⟨x', y', h3, _⟩ := find_or a b P h1 h2
    rw [h] at h3
    cases h3
theorem first_mem {l : List (List UInt8 × List UInt8)} {r : List UInt8 × List UInt8} (h : firstB l = some r) : r ∈ l := by
  induction l with
  | nil => cases h
  | cons p l ih =>
    obtain ⟨x, y⟩ := p
    unfold firstB at h
    split at h
    · cases h; exact List.mem_cons_self
    · exact List.mem_cons_of_mem _ (ih h)
theorem find_le {a b : List (List UInt8)} {P : List H} {m : Nat} (hm : 65 ≤ m) (ha : ∀ l ∈ a, l.length < m) (hb : ∀ l ∈ b, l.length < m) : ((findB a b P).getD ([], [])).1.length ≤ m ∧ ((findB a b P).getD ([], [])).2.length ≤ m := by
  unfold findB
  split
  · exact ⟨Nat.zero_le _, Nat.zero_le _⟩
  · split
    · rename_i r hr
      obtain ⟨h1, h2⟩ := nodes_len (rootB a) _ b a.length true P.reverse rfl r (first_mem hr)
      simp only [Option.getD_some]
      omega
    · exact lextract_le hm ha (fun l hl => hb l (List.mem_of_mem_take hl))
end Go.Proofs.YtnbnjoejmepkjaaDoor
