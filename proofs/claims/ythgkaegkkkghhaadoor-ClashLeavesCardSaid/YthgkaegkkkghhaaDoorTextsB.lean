/- The walk of clash.texts. Conditions: the leaf and the path can be read, the path as long as the way down; the package's tables read as they are laid. -/
import Derived.Test.YthgkaegkkkghhaaDoorTextW
import Derived.Test.YthgkaegkkkghhaaDoorRef6W
namespace Go.Proofs.YthgkaegkkkghhaaDoor
open Go.RowKit

theorem own_past {w w' : World} {base : Nat} {e : TypeId} {v : Value} {n : Nat} {xs : List Value} (h : w.ownsRow base e 1 v n xs) (hb : Below w.heap.size w w') : w'.ownsRow base e 1 v n xs := ownsRow_below h hb (ownsRow_block h)
theorem grown_below {B : Nat} {w0 w w' : World} {base : Nat} {e : TypeId} {v : Value} {n : Nat} {xs : List Value} (h : w.ownsRow base e 1 v n xs) (hg : w.grownBy w' v.ownBlock) (hw : Below B w0 w) (hB : B ≤ base) (hs : B ≤ w.heap.size) : Below B w0 w' :=
  hw.grown hg hs (fun k hk => Nat.le_trans hB (h.lt k hk).1)
def Hof (t : List UInt8) : H := ⟨sumN t, sumN_len t⟩
set_option maxRecDepth 100000 in
set_option maxHeartbeats 8000000 in
theorem texts_any (va : Value) (leaf : List UInt8) (i n : Nat) (pv : Value) (P : List H) (w : World) (ha : Bytes w va leaf) (la : leaf.length ≤ 1099511627776) (hs : Hs w pv P) (hl : (sidesN n i).length = P.length) (hP : P.length ≤ 4000) (h1 : 1 ≤ n) (hn : n ≤ 1048576) (hi : i < n) (hg : Glob w) :
    Calls Tryd.prog 40 #[va, .int .i64 i, .int .i64 n, pv] w fun e w' => (∃ v vs, e = .returned v ∧ Parts w' v (textsB (0 :: leaf) ((sidesN n i).zip P)).reverse vs) ∧ Below w.heap.size w w' := by
  obtain ⟨xa, ca, rfl, _⟩ := ha.form
  obtain ⟨xp, cp, rfl, _⟩ := hs.form
  obtain ⟨A, hA⟩ : ∃ A, A = sidesN n i := ⟨_, rfl⟩
  rw [← hA] at hl ⊢
  obtain ⟨Z, hZ⟩ : ∃ Z, Z = A.zip P := ⟨_, rfl⟩
  rw [← hZ]
  have hZl : Z.length = A.length := by rw [hZ, List.length_zip, hl, Nat.min_self]
  have HZp := Lib.hid hZ
  have HZl := Lib.hid hZl
  obtain ⟨w1, hw1⟩ : ∃ w1, w1 = w.alloc (.cells (bytesV [0]).toArray 5) := ⟨_, rfl⟩
  have hb1 : Below w.heap.size w w1 := by rw [hw1]; (repeat (first | with_reducible assumption | with_reducible exact Below.refl _ _ | ((with_reducible refine Below.setCell ?_ ?_ _); rotate_left; focus (first | omega | (simp; done) | (simp; omega))) | ((with_reducible refine Below.alloc ?_ ?_ _); rotate_left; focus (first | omega | (simp; done) | (simp; omega))) | ((with_reducible refine below_setRow ?_ ?_ _); rotate_left; focus (first | omega | (simp; done) | (simp; omega))) | (with_reducible refine below_drewN ?_ _) | (with_reducible refine Below.drew ?_)))
  have hs1 : w1.heap.size = w.heap.size + 1 := by rw [hw1]; simp
  have HZ := Lib.hid (show Bytes w1 (.slice (some ⟨w.heap.size, 0, none⟩) 1 1) [0] by rw [hw1]; exact bytes_alloc w [0] _ _ rfl)
  have HT := Lib.hid (ha.below hb1)
  have HA := Lib.hid hA
  have HW1 := Lib.hid hw1
  have HS := Lib.hid hs
  have HG := Lib.hid hg
  have HV := Lib.hid ha
  have HL := Lib.hid hl
  clear ha hs hg hA hw1 hl hZ hZl
  go_enter Tryd.func40, Tryd.ntmps40
  go_wp2_with fail
  refine (concat_atF (n := 2) w1 [_, _] [[0], leaf] _ hs1 (.cons HZ.out (.cons HT.out .nil)) rfl (0 :: leaf) (by simp [cat]) (by simp; omega) (by decide)).mono ?_ |> (fun h => by rw [HW1.out] at h; exact h)
  rintro e w2 ⟨⟨v2, rfl, hv2, _⟩, hb2⟩
  have hw2 := hb1.trans (hb2.mono hb1.size)
  have hO2 := ownA_one hv2 (by simp) hw2.size (A := w2.heap.size + 1) (by omega)
  obtain ⟨c1, c2, hc2, _⟩ := hv2.form
  have hone := hv2.one
  obtain ⟨w3, hw3⟩ : ∃ w3, w3 = w2.alloc (.cells #[v2] 23) := ⟨_, rfl⟩
  have hs3 : w3.heap.size = w2.heap.size + 1 := by rw [hw3]; simp
  have hb3 : Below w.heap.size w w3 := by rw [hw3]; exact hw2.alloc hw2.size _
  rw [← hw3] at hO2
  have HO2 := Lib.hid hO2
  have HB3 := Lib.hid hb3
  have HW3 := Lib.hid hw3
  obtain ⟨g2, hg2⟩ : ∃ g2, g2 = w2.heap.size := ⟨_, rfl⟩
  rw [← hg2] at hO2
  subst hc2
  clear hb1 hb2 hv2 hw2 hO2 hw3 HZ HT HW1 hs1 hone hb3
  go_wp2_with fail
  refine wp_world HW3.out ?_
  go_loopw [1, 2, 10] (fun iv nv sv wr => ∃ (i' n' : Nat) (S : List Bool), iv = .int .i64 i' ∧ nv = .int .i64 n' ∧ 1 ≤ n' ∧ n' ≤ n ∧ i' < n' ∧ A.reverse = S ++ (sidesN n' i').reverse ∧ wr.ownsRow w3.heap.size 4 1 sv S.length (S.map Value.bool) ∧ Below w3.heap.size w3 wr) (fun _ nv _ _ => (intOf nv).toNat)
  case atStart => exact ⟨i, n, [], rfl, rfl, h1, Nat.le_refl _, hi, by rw [HA.out]; rfl, World.ownsRow_nil _ _ _ _, Below.refl _ _⟩
  case round =>
    clear h1 hi HA
    obtain ⟨i', n', S, rfl, rfl, h1, hle, hi, hS, hO, hb⟩ := hrel
    have hSl : S.length ≤ 4000 := by
      have := congrArg List.length hS
      rw [List.length_append, List.length_reverse, HL.out] at this
      omega
    have HSe := Lib.hid hS
    have HOs := Lib.hid hO
    have hsz := hb.size
    clear hS hO
    by_cases h2 : 1 < n'
    · have hgt : (1 : Int) < n' := by omega
      obtain ⟨k, hk⟩ : ∃ k, k = splitN n' := ⟨_, rfl⟩
      have hlt := splitN_lt n' (by omega)
      have hpos := splitN_pos n' (by omega)
      rw [← hk] at hlt hpos
      have HK := Lib.hid hk
      clear hk
      obtain ⟨i0, hi0, hz0, hz1, hz2⟩ := info_parts info_bool
      have HI := Lib.hid hi0
      clear hi0
      by_cases hik : i' < k
      · have hik' : (i' : Int) < k := by omega
        have HL2 := Lib.hid (sidesN_left n' i' (by omega) (HK.out ▸ hik))
        go_wp2_with (first
          | (go_at_call 32; refine (split_any n' _ (by omega)).mono ?_; rintro e w5 ⟨rfl, h5⟩; rw [h5, ← HK.out]; clear h5 w5)
          | (at_builtin; refine wpList_app rfl (.tmp 25) (.tmp 29) 76 rfl w3.heap.size 4 i0 (.bool false) 1 1 Tryd.underlying76 HI.out hz0 hz1 hz2 rfl (by decide) _ S.length (S.map Value.bool) rfl (by exact own_past HOs.out ((Below.refl _ _).alloc (Nat.le_refl _) _)) _ 1 [.bool true] rfl (by exact isSl_new wr [.bool true] _ 1 1 rfl (by decide)) (by unfold maxLen; omega) (by omega) (by simp; omega) ?_; intro a6 c6 w6 hown6 hgrow6 _;
             have hb6 := (hb.alloc hsz (.cells #[.bool true] 4)).grown hgrow6 (by simp; omega) (fun k hk => (HOs.out.lt k hk).1); have HO6 := Lib.hid hown6; clear hown6 hgrow6)
          | fail)
        refine ⟨⟨i', k, S ++ [true], rfl, by go_num, by omega, by omega, by omega, ?_, ?_, hb6⟩, by simp [intOf]; omega⟩
        · rw [HSe.out, HL2.out, ← HK.out, List.reverse_append]
          simp
        · have := HO6.out
          rw [List.length_append, List.length_singleton, List.map_append]
          exact this
      · have hik' : ¬ (i' : Int) < k := by omega
        have HL2 := Lib.hid (sidesN_right n' i' (by omega) (HK.out ▸ hik))
        go_wp2_with (first
          | (go_at_call 32; refine (split_any n' _ (by omega)).mono ?_; rintro e w5 ⟨rfl, h5⟩; rw [h5, ← HK.out]; clear h5 w5)
          | (at_builtin; refine wpList_app rfl (.tmp 25) (.tmp 29) 76 rfl w3.heap.size 4 i0 (.bool false) 1 1 Tryd.underlying76 HI.out hz0 hz1 hz2 rfl (by decide) _ S.length (S.map Value.bool) rfl (by exact own_past HOs.out ((Below.refl _ _).alloc (Nat.le_refl _) _)) _ 1 [.bool false] rfl (by exact isSl_new wr [.bool false] _ 1 1 rfl (by decide)) (by unfold maxLen; omega) (by omega) (by simp; omega) ?_; intro a6 c6 w6 hown6 hgrow6 _;
             have hb6 := (hb.alloc hsz (.cells #[.bool false] 4)).grown hgrow6 (by simp; omega) (fun k hk => (HOs.out.lt k hk).1); have HO6 := Lib.hid hown6; clear hown6 hgrow6)
          | fail)
        refine ⟨⟨i' - k, n' - k, S ++ [false], by go_num, by go_num, by omega, by omega, by omega, ?_, ?_, hb6⟩, by simp [intOf]; omega⟩
        · rw [HSe.out, HL2.out, ← HK.out, List.reverse_append]
          simp
        · have := HO6.out
          rw [List.length_append, List.length_singleton, List.map_append]
          exact this
    · have hgt : ¬ (1 : Int) < n' := by omega
      have hSA : (S.map Value.bool).reverse = A.map Value.bool := by
        have := HSe.out
        rw [sidesN_low n' i' (by omega), List.reverse_nil, List.append_nil] at this
        rw [← this, List.map_reverse, List.reverse_reverse]
      have hSAl : S.length = A.length := by
        have := congrArg List.length hSA
        simpa using this
      have HSA := Lib.hid hSA
      clear hSA
      have hO := HOs.out
      rw [hSAl] at hO
      have hAl : A.length ≤ 4000 := by rw [← hSAl]; exact hSl
      clear HOs hSAl hSl
      obtain ⟨sa, sc, hsv⟩ := ownsRow_form hO
      subst hsv
      have HOs := Lib.hid hO
      clear hO
      go_wp2_with (first
        | (go_at_call 53; refine (revb_any w3.heap.size _ A.length (S.map Value.bool) wr HOs.out (fun u hu => by obtain ⟨b, _, rfl⟩ := List.mem_map.1 hu; exact ⟨b, rfl⟩) (by omega)).mono ?_; rintro e w4 ⟨rfl, ho4, hg4⟩; rw [HSA.out] at ho4; have HO4 := Lib.hid ho4; have hb4 := grown_below HOs.out hg4 hb (Nat.le_refl _) hsz; have hw4 := HB3.out.trans (hb4.mono HB3.out.size); have hs4 := hb4.size; have HG4 := Lib.hid (HG.out.below hw4); have HV4 := Lib.hid (HV.out.below hw4); clear ho4 hg4)
        | (go_at_call 21; refine (leaf_any _ leaf w4 HV4.out (by omega) HG4.out).mono ?_; rintro e w5 ⟨rfl, hb5⟩; have hw5 := hw4.trans (hb5.mono hw4.size); have hb35 := hb4.trans (hb5.mono hs4); have hs5 := hb35.size; have HO5 := Lib.hid (own_past HO4.out hb5); clear hb5)
        | (refine wpList_store_row rfl 30 (.tmp 12) (.tmp 44) rfl w5.heap.size (bytesV (lfH leaf).b).toArray rfl rfl 30 z32.toArray (by exact Blk.newL w5 z32 _) (by exact hv_row _) (by exact z32_old _) (by exact hv_one _) ?_)
        | fail)
      obtain ⟨q, hq⟩ : ∃ q, q = w5.heap.size := ⟨_, rfl⟩
      obtain ⟨w6, hw6⟩ : ∃ w6, w6 = (w5.alloc (.cells z32.toArray 30)).setRow q (bytesV (lfH leaf).b).toArray := ⟨_, rfl⟩
      have hb56 : Below w5.heap.size w5 w6 := by rw [hw6, hq]; exact below_setRow ((Below.refl _ _).alloc (Nat.le_refl _) _) (Nat.le_refl _) _
      have hs6 : w6.heap.size = w5.heap.size + 1 := by rw [hw6]; simp
      have hQ6 : Blk w6 q (bytesV (lfH leaf).b) 30 := by rw [hw6, hq]; exact (Blk.newL w5 z32 _).setRow _
      have hw6b := hw5.trans (hb56.mono hw5.size)
      have hqw5 := hw5.size
      have hO6 : OwnA q w6 w.heap.size (.slice (some ⟨w2.heap.size, 0, none⟩) 1 1) ((textsB (0 :: leaf) Z).take 1) [.slice c1 (0 :: leaf).length c2] := by
        have h0 : (textsB (0 :: leaf) Z).take 1 = [0 :: leaf] := by
          cases Z with
          | nil => rfl
          | cons p Z => obtain ⟨s, o⟩ := p; rfl
        rw [h0]
        exact (((HO2.out.below hb35).avoid (by omega)).below hb56)
      have hsb : ∀ r, (Value.slice sa A.length sc).ownBlock = some r → w3.heap.size ≤ r ∧ r < q := fun r hr => ⟨(HO5.out.lt r hr).1, by rw [hq]; exact (HO5.out.lt r hr).2⟩
      have hBs := own_past HO5.out hb56
      have HO6 := Lib.hid hO6
      have HQ6 := Lib.hid hQ6
      have HBs := Lib.hid hBs
      have HW6 := Lib.hid hw6
      have HSB := Lib.hid hsb
      clear hO6 hQ6 hBs hsb HO2 HO4 HO5 HOs HSe hb4 hw4 hw5 hb35 HG4 HV4 HSA hb56 hb
      rw [← hq]
      refine wp_world (w' := w6) (by rw [HW6.out]; rfl) ?_
      have hqB : w.heap.size ≤ q := by rw [hq]; exact hqw5
      clear hq hg2
      go_wp2_with fail
      go_loopw [9, 47] (fun ov jv wr => ∃ (j : Nat) (vs : List Value) (t : List UInt8), jv = .int .i64 j ∧ j ≤ A.length ∧ OwnA q wr w.heap.size ov ((textsB (0 :: leaf) Z).take (j + 1)) vs ∧ (textsB (0 :: leaf) Z)[j]? = some t ∧ t.length ≤ 4398046511104 ∧ Blk wr q (bytesV (sumN t)) 30 ∧ wr.ownsRow w3.heap.size 4 1 (.slice sa A.length sc) A.length (A.map Value.bool) ∧ (∀ r, (Value.slice sa A.length sc).ownBlock = some r → ov.ownBlock ≠ some r ∧ r ≠ q) ∧ Below w.heap.size w wr) (fun _ jv _ => A.length - (intOf jv).toNat)
      case atStart => exact ⟨0, _, 0 :: leaf, rfl, Nat.zero_le _, HO6.out, textsB_0 _ _, by simp; omega, HQ6.out, HBs.out, fun r hr => ⟨fun e => by have h2 := (HSB.out r hr).1; have h3 : w2.heap.size = r := (by injection e); omega, by have := (HSB.out r hr).2; omega⟩, hw6b⟩
      case round =>
        clear HO6 HQ6 HBs hw6b
        obtain ⟨j, vs, t, rfl, hj, hO, ht, htl, hQ, hB, hsb, hw⟩ := hrel
        have hqw := hQ.lt
        have hsz := hw.size
        by_cases hlt : j < A.length
        · have hlt' : (j : Int) < A.length := by omega
          have hix : (0 : Int) ≤ j ∧ (j : Int) < A.length := ⟨by omega, hlt'⟩
          have hip : (0 : Int) ≤ j ∧ (j : Int) < P.length := ⟨by omega, by have := HL.out; omega⟩
          obtain ⟨s, hs⟩ : ∃ s, A[j]? = some s := ⟨_, List.getElem?_eq_getElem hlt⟩
          obtain ⟨o, ho⟩ : ∃ o, P[j]? = some o := ⟨_, List.getElem?_eq_getElem (by have := HL.out; omega)⟩
          have hz : Z[j]? = some (s, o) := by rw [HZp.out]; exact List.getElem?_zip_eq_some.2 ⟨hs, ho⟩
          have hu := textsB_step Z _ j t s o ht hz
          obtain ⟨bs, os, cs, e1, _, hr1, hbs⟩ := IsSl.pos (ownsRow_isSl hB (bools_one A)) (by omega) (by decide)
          cases e1
          have c0 : wr.cell? ⟨bs, os + j, none⟩ = some (.bool s) := hr1 j _ (by rw [List.getElem?_map, hs]; rfl)
          obtain ⟨bp, op, e2, _, hr2, hbp⟩ := hs_block (HS.out.below hw) (by have := HL.out; omega)
          subst e2
          have hE : wr.rangeAt bp (op + j * 32) (bytesV o.b) := Hs.elem hr2 ho
          have HE := Lib.hid hE
          have HO := Lib.hid hO
          have HQ := Lib.hid (show Blk wr q (bytesV (Hof t).b) 30 from hQ)
          have HB := Lib.hid hB
          have HSb := Lib.hid hsb
          have HU := Lib.hid hu
          obtain ⟨B, hBe⟩ : ∃ B, B = wr.heap.size := ⟨_, rfl⟩
          have hob := fun g hg => ownBlock_lt (g := g) hO.own hg
          have HOB := Lib.hid hob
          have HBE := Lib.hid hBe
          clear hO hQ hB hsb ht hu hz hs ho hr1 hr2 hE hob hBe
          go_wp2_with fail
          refine wp_region_mono 6 (wr.heap.size) [(fun v _ => v = .slice (some ⟨bp, op, none⟩) P.length cp), (fun v _ => v = .int .i64 j), (fun v _ => v = .pointer (some ⟨bp, op + j * 32, none⟩)), (fun v _ => v = hv o), (fun v _ => v = hv (Hof t)), (fun v w => Bytes w v (1 :: (o.b ++ (Hof t).b)) ∧ Fresh B v)] (by kernel_rfl) (by kernel_rfl) (Nat.le_refl _) ?mkept _ rfl ?mops ?mfin
          case mkept =>
            repeat (refine List.forall_mem_cons.2 ⟨by first | exact fun _ _ _ _ h => h | exact fun _ _ _ hb ⟨h1, h2⟩ => ⟨IsSl.below h1 hb, h2⟩ | exact fun _ _ _ hb h => Parts.below h hb | exact fun _ _ _ hb h => IsSl.below h hb, ?_⟩)
            exact fun _ h => by cases h
          case mops =>
            simp only [List.take_succ_cons, List.take_zero, monoAll, List.getD_cons_zero, List.getD_cons_succ]
            iterate 6
            
             (refine ⟨fun x wr hb hd Qg hK => ?_, ?_⟩
              · as_aux_lemma =>
                simp only [fill, Act.put, List.setIfInBounds_toArray, List.set_cons_succ, List.set_cons_zero, needs, Region.binds, List.filter_cons, List.filter_nil, List.map_cons, List.map_nil, if_true, List.mem_cons, List.not_mem_nil, or_false, forall_eq_or_imp, forall_eq, List.getD_cons_zero, List.getD_cons_succ, false_implies, implies_true] at hd hK ⊢
                (try simp only [hd] at hK ⊢)
                first
                | (show wpList _ _ _ [⟨some 55, .load _ _, _, _, _, _⟩] _ _; refine wpList_load_mid rfl 30 (.tmp 54) rfl bp (op + j * 32) rfl (bytesV o.b) _ (range_below HE.out hb) Tryd.underlying30 rfl (by exact hv_info _) ?_; exact hK _ _ rfl (Below.refl _ _))
                | (have hBr := HQ.out.below hb (hqw); refine wpList_load_rowIf rfl 30 (.tmp 12) rfl _ rfl 30 (bytesV (Hof t).b).toArray (0, 0) _ (by exact hBr) Tryd.underlying30 rfl (hv_row _) ?_; exact hK _ _ rfl (Below.refl _ _))
                | (show wpList _ _ _ [⟨some 57, .call _, _, _, _, _⟩] _ _; go_wp2_with (go_at_call 47; refine (cpair_fresh o (Hof t) wr).mono ?_; rintro e w5 ⟨⟨v5, rfl, hv5, hf5⟩, hb5⟩); exact hK _ _ ⟨hv5, hf5.mono (by rw [HBE.out]; exact hb.size)⟩ hb5)
                | (go_wp2_with fail; exact hK _ _ rfl (Below.refl _ _)))
            trivial
          case mfin =>
            intro z w7 hb7 hR7
            have x5 := hR7 5 (by decide)
            simp only [List.getD_cons_zero, List.getD_cons_succ] at x5
            obtain ⟨hX, hF⟩ := x5
            have HO7 := Lib.hid (HO.out.below hb7)
            have HQ7 := Lib.hid (HQ.out.below hb7 hqw)
            have HB7 := Lib.hid (own_past HB.out hb7)
            have HE7 := Lib.hid (range_below HE.out hb7)
            have hw7 := hw.trans (hb7.mono hsz)
            have hs7 := hb7.size
            have hbs7 : bs < w7.heap.size := by omega
            obtain ⟨y1, y2, e57, _⟩ := hX.form
            rw [show (1 :: (o.b ++ (Hof t).b)).length = 65 by simp [o.len, (Hof t).len]] at e57
            rw [e57] at hX hF
            have HX := Lib.hid hX
            have HF := Lib.hid hF
            clear hR7 hb7 HO HQ HB HE hX hF
            simp only [List.drop_succ_cons, List.drop_zero]
            generalize List.toArray _ = L0
            simp only [List.take_succ_cons, List.take_zero, List.map_cons, List.map_nil, fill, Act.put, List.setIfInBounds_toArray, List.set_cons_succ, List.set_cons_zero, e57]
            clear e57
            cases s with
            | false =>
              have hw9 := hw7
              have hul : (upB false t o).length = 65 := by simp [upB, sumN_len, o.len]
              have hof := HOB.out
              go_wp2_with (first
                | (at_builtin; refine wpList_texts rfl (.tmp 65) (.tmp 67) rfl q w.heap.size _ _ _ _ (upB false t o) rfl (by exact HO7.out) rfl (by exact HX.out) (by rw [hul]; decide) (fun ad k c e => ⟨fun e' => by have h1 := HF.out ad k c e; have h2 := hof _ e'; have h3 := HBE.out; omega, fun e' => by have h1 := HF.out ad k c e; have h3 := HBE.out; omega⟩) (by omega) (by rw [List.length_take, textsB_len, HZl.out]; omega) hw7.size (by exact hw7) ?_; intro v8 w8 hO8 hw8 hk8 hs8 hn8; have HO8 := Lib.hid hO8; have HK8 := Lib.hid hk8; have HN8 := Lib.hid hn8; have HX8 := Lib.hid (hO8.each _ _ _ (by rw [List.getElem?_append_right (Nat.le_refl _), Nat.sub_self]; rfl) (by rw [HO7.out.len, List.getElem?_append_right (Nat.le_refl _), Nat.sub_self]; rfl)); have HQ8 := Lib.hid (show Blk w8 q (bytesV (Hof t).b) 30 from (hk8 q HQ7.out.lt (fun e => HO7.out.away e.symm)).trans HQ7.out); clear hO8 hk8 hn8)
                | (go_at_call 38; refine (sum_at (n := 1) w8 [_] [upB false t o] _ (.cons HX8.out .nil) rfl (upB false t o) (by simp [cat]) (by rw [hul]; decide) (by decide) (HG.out.below hw8)).mono ?_; rintro e w9 ⟨rfl, hb9⟩; have HO9 := Lib.hid (HO8.out.below hb9); have HQ9 := Lib.hid (HQ8.out.below hb9 HQ8.out.lt); have hw10 := hw8.trans (hb9.mono hw8.size); have hb9' := Lib.hid hb9; clear hb9)
                | (refine wpList_store_row rfl 30 (.tmp 12) (.tmp 71) rfl q (bytesV (sumN (upB false t o))).toArray rfl rfl 30 (bytesV (Hof t).b).toArray (by exact HQ9.out) (by exact hv_row (Hof _)) (by simp [bytesV, Hof, sumN_len]) (by exact hv_one (Hof _)) ?_)
                | fail)
              have hsn : (textsB (0 :: leaf) Z).take (j + 1 + 1) = (textsB (0 :: leaf) Z).take (j + 1) ++ [upB false t o] := by rw [List.take_add_one, HU.out]; rfl
              refine ⟨⟨j + 1, vs ++ [.slice y1 65 y2], upB false t o, by go_num, by omega, ?_, HU.out, by rw [hul]; decide, HQ9.out.setRow _, ?_, fun r hr => ⟨HN8.out r ((fun r hr => (HB7.out.lt r hr).2) r hr) (HSb.out r hr).1, (HSb.out r hr).2⟩, below_setRow hw10 hqB _⟩, by simp [intOf]; omega⟩
              · rw [hsn]
                exact HO9.out.but (But.row q _)
              · exact own_but (own_past (own_kept HB7.out (fun r hr => HK8.out r ((fun r hr => (HB7.out.lt r hr).2) r hr) (fun e => (HSb.out r hr).1 e.symm))) hb9'.out) (But.row q _) (fun e => (HSb.out _ e).2 rfl)
            | true =>
              go_wp2_with fail
              have hq7 := HQ7.out.lt
              have hw7s := hw7.size
              refine wp_region_mono 6 (w7.heap.size) [(fun v _ => v = hv (Hof t)), (fun v _ => v = .slice (some ⟨bp, op, none⟩) P.length cp), (fun v _ => v = .int .i64 j), (fun v _ => v = .pointer (some ⟨bp, op + j * 32, none⟩)), (fun v _ => v = hv o), (fun v w => Bytes w v (1 :: ((Hof t).b ++ o.b)) ∧ Fresh B v)] (by kernel_rfl) (by kernel_rfl) (Nat.le_refl _) ?mkept _ rfl ?mops ?mfin
              case mkept =>
                repeat (refine List.forall_mem_cons.2 ⟨by first | exact fun _ _ _ _ h => h | exact fun _ _ _ hb ⟨h1, h2⟩ => ⟨IsSl.below h1 hb, h2⟩ | exact fun _ _ _ hb h => Parts.below h hb | exact fun _ _ _ hb h => IsSl.below h hb, ?_⟩)
                exact fun _ h => by cases h
              case mops =>
                simp only [List.take_succ_cons, List.take_zero, monoAll, List.getD_cons_zero, List.getD_cons_succ]
                iterate 6
                
                 (refine ⟨fun x wr hb hd Qg hK => ?_, ?_⟩
                  · as_aux_lemma =>
                    simp only [fill, Act.put, List.setIfInBounds_toArray, List.set_cons_succ, List.set_cons_zero, needs, Region.binds, List.filter_cons, List.filter_nil, List.map_cons, List.map_nil, if_true, List.mem_cons, List.not_mem_nil, or_false, forall_eq_or_imp, forall_eq, List.getD_cons_zero, List.getD_cons_succ, false_implies, implies_true] at hd hK ⊢
                    (try simp only [hd] at hK ⊢)
                    first
                    | (show wpList _ _ _ [⟨some 63, .load _ _, _, _, _, _⟩] _ _; refine wpList_load_mid rfl 30 (.tmp 62) rfl bp (op + j * 32) rfl (bytesV o.b) _ (range_below HE7.out hb) Tryd.underlying30 rfl (by exact hv_info _) ?_; exact hK _ _ rfl (Below.refl _ _))
                    | (have hBr := HQ7.out.below hb (hq7); refine wpList_load_rowIf rfl 30 (.tmp 12) rfl _ rfl 30 (bytesV (Hof t).b).toArray (0, 0) _ (by exact hBr) Tryd.underlying30 rfl (hv_row _) ?_; exact hK _ _ rfl (Below.refl _ _))
                    | (show wpList _ _ _ [⟨some 64, .call _, _, _, _, _⟩] _ _; go_wp2_with (go_at_call 47; refine (cpair_fresh (Hof t) o wr).mono ?_; rintro e w5 ⟨⟨v5, rfl, hv5, hf5⟩, hb5⟩); exact hK _ _ ⟨hv5, hf5.mono (by rw [HBE.out]; exact Nat.le_trans hs7 hb.size)⟩ hb5)
                    | (go_wp2_with fail; exact hK _ _ rfl (Below.refl _ _)))
                trivial
              case mfin =>
              intro z w11 hb11 hR11
              have x5 := hR11 5 (by decide)
              simp only [List.getD_cons_zero, List.getD_cons_succ] at x5
              obtain ⟨hX, hF⟩ := x5
              have HO11 := Lib.hid (HO7.out.below hb11)
              have HQ11 := Lib.hid (HQ7.out.below hb11 hq7)
              have HB11 := Lib.hid (own_past HB7.out hb11)
              have hw11 := hw7.trans (hb11.mono hw7.size)
              have hs11 := hb11.size
              obtain ⟨y3, y4, e64, _⟩ := hX.form
              rw [show (1 :: ((Hof t).b ++ o.b)).length = 65 by simp [o.len, (Hof t).len]] at e64
              rw [e64] at hX hF
              have HX11 := Lib.hid hX
              have HF11 := Lib.hid hF
              clear hR11 hb11 hX hF HX HF HO7 HQ7 HB7 HE7
              simp only [List.drop_succ_cons, List.drop_zero]
              generalize List.toArray _ = L0
              simp only [List.take_succ_cons, List.take_zero, List.map_cons, List.map_nil, fill, Act.put, List.setIfInBounds_toArray, List.set_cons_succ, List.set_cons_zero, e64]
              clear e64
              have hw9 := hw11
              have hul : (upB true t o).length = 65 := by simp [upB, sumN_len, o.len]
              have hof := HOB.out
              go_wp2_with (first
                | (at_builtin; refine wpList_texts rfl (.tmp 65) (.tmp 67) rfl q w.heap.size _ _ _ _ (upB true t o) rfl (by exact HO11.out) rfl (by exact HX11.out) (by rw [hul]; decide) (fun ad k c e => ⟨fun e' => by have h1 := HF11.out ad k c e; have h2 := hof _ e'; have h3 := HBE.out; omega, fun e' => by have h1 := HF11.out ad k c e; have h3 := HBE.out; omega⟩) (by omega) (by rw [List.length_take, textsB_len, HZl.out]; omega) hw11.size (by exact hw11) ?_; intro v8 w8 hO8 hw8 hk8 hs8 hn8; have HO8 := Lib.hid hO8; have HK8 := Lib.hid hk8; have HN8 := Lib.hid hn8; have HX8 := Lib.hid (hO8.each _ _ _ (by rw [List.getElem?_append_right (Nat.le_refl _), Nat.sub_self]; rfl) (by rw [HO11.out.len, List.getElem?_append_right (Nat.le_refl _), Nat.sub_self]; rfl)); have HQ8 := Lib.hid (show Blk w8 q (bytesV (Hof t).b) 30 from (hk8 q HQ11.out.lt (fun e => HO11.out.away e.symm)).trans HQ11.out); clear hO8 hk8 hn8)
                | (go_at_call 38; refine (sum_at (n := 1) w8 [_] [upB true t o] _ (.cons HX8.out .nil) rfl (upB true t o) (by simp [cat]) (by rw [hul]; decide) (by decide) (HG.out.below hw8)).mono ?_; rintro e w9 ⟨rfl, hb9⟩; have HO9 := Lib.hid (HO8.out.below hb9); have HQ9 := Lib.hid (HQ8.out.below hb9 HQ8.out.lt); have hw10 := hw8.trans (hb9.mono hw8.size); have hb9' := Lib.hid hb9; clear hb9)
                | (refine wpList_store_row rfl 30 (.tmp 12) (.tmp 71) rfl q (bytesV (sumN (upB true t o))).toArray rfl rfl 30 (bytesV (Hof t).b).toArray (by exact HQ9.out) (by exact hv_row (Hof _)) (by simp [bytesV, Hof, sumN_len]) (by exact hv_one (Hof _)) ?_)
                | fail)
              have hsn : (textsB (0 :: leaf) Z).take (j + 1 + 1) = (textsB (0 :: leaf) Z).take (j + 1) ++ [upB true t o] := by rw [List.take_add_one, HU.out]; rfl
              refine ⟨⟨j + 1, vs ++ [.slice y3 65 y4], upB true t o, by go_num, by omega, ?_, HU.out, by rw [hul]; decide, HQ9.out.setRow _, ?_, fun r hr => ⟨HN8.out r ((fun r hr => (HB11.out.lt r hr).2) r hr) (HSb.out r hr).1, (HSb.out r hr).2⟩, below_setRow hw10 hqB _⟩, by simp [intOf]; omega⟩
              · rw [hsn]
                exact HO9.out.but (But.row q _)
              · exact own_but (own_past (own_kept HB11.out (fun r hr => HK8.out r ((fun r hr => (HB11.out.lt r hr).2) r hr) (fun e => (HSb.out r hr).1 e.symm))) hb9'.out) (But.row q _) (fun e => (HSb.out _ e).2 rfl)
        · have hlt' : ¬ (j : Int) < A.length := by omega
          have hall : (textsB (0 :: leaf) Z).take (j + 1) = textsB (0 :: leaf) Z := List.take_of_length_le (by rw [textsB_len, HZl.out]; omega)
          rw [hall] at hO
          have hOl := textsB_len (0 :: leaf) Z
          obtain ⟨a9, c9, e9⟩ := ownsRow_form hO.own
          subst e9
          have HO := Lib.hid hO
          have HOl := Lib.hid hOl
          clear hO hall hOl ht hQ hB hsb
          go_wp2_with (first
            | (go_at_call 54; refine (revt_any w.heap.size _ (textsB (0 :: leaf) Z).length vs wr HO.out.own HO.out.lit (by rw [HOl.out, HZl.out]; omega)).mono ?_; rintro e w8 ⟨rfl, ho8, hg8⟩; have HP8 := Lib.hid (HO.out.turn ho8 hg8).parts; have hw8 := grown_below HO.out.own hg8 hw (Nat.le_refl _) hsz; clear ho8 hg8)
            | fail)
          go_ret
          exact ⟨⟨_, _, rfl, HP8.out⟩, hw8⟩
end Go.Proofs.YthgkaegkkkghhaaDoor
