/- The walk of clash.hashes: the leaves' hashes; and of Roots. The walk of the reference's Root of leaves. The walks of bytes.Equal, of clash.Is and of the reference's Is. The walks of slices.EqualFunc over bytes.Equal, and of the reference's Same. Parts of a list of texts; texts put together in a new block; the walks of clash.pair and clash.text. The walk of law 7's great: are lists more than are looked at? Condition: the list can be read. The walk of law 20's great: what it adds up may wrap; it answers either way, and nothing turns. Conditions: what each part says. -/
import Derived.Test.YtnbnjoejmepkjaaDoorPathW
import Derived.Test.YtnbnjoejmepkjaaDoorHashP
import Derived.Test.YtnbnjoejmepkjaaDoorRef5
import Derived.Test.YtnbnjoejmepkjaaDoorRefS
import Derived.Laws.IdiomStrings
/-! ClashA: The walk of clash.hashes: the leaves' hashes; and of Roots. Conditions: the parts can be read, at most 4000 of them; the package's tables read as they are laid. -/
namespace Go.Proofs.YtnbnjoejmepkjaaDoor
open Go.RowKit

set_option maxRecDepth 100000 in
set_option maxHeartbeats 2000000 in
theorem hashes_any (v : Value) (ls : List (List UInt8)) (vs : List Value) (w : World) (hp : Parts w v ls vs) (hl : ls.length ≤ 4000) (hw : ∀ b ∈ ls, b.length ≤ 35184372088832) (hg : Glob w) :
    Calls Tryd.prog 41 #[v] w fun e w' => (∃ v', e = .returned v' ∧ Own w' w.heap.size v' (ls.map lfH)) ∧ Below w.heap.size w w' := by
  obtain ⟨xa, ca, rfl, _⟩ := hp.sl.form
  have HP := Lib.hid hp
  have HG := Lib.hid hg
  have HW := Lib.hid hw
  clear hp hg hw
  go_enter Tryd.func41, Tryd.ntmps41
  go_wp2_with fail
  go_loopw [3, 8] (fun ov iv wr => ∃ k : Nat, iv = .int .i64 k ∧ k ≤ ls.length ∧ Own wr w.heap.size ov ((ls.take k).map lfH) ∧ Below w.heap.size w wr) (fun _ iv _ => ls.length - (intOf iv).toNat)
  case atStart => exact ⟨0, rfl, Nat.zero_le _, Own.nil _ _, Below.refl _ _⟩
  case round =>
    obtain ⟨k, rfl, hk, hO, hb⟩ := hrel
    have HO := Lib.hid hO
    clear hO
    have hsz := hb.size
    by_cases hlt : k < ls.length
    · have hlt' : (k : Int) < ls.length := by omega
      obtain ⟨b, hb0⟩ : ∃ b, ls[k]? = some b := ⟨_, List.getElem?_eq_getElem hlt⟩
      obtain ⟨x, hx⟩ : ∃ x, vs[k]? = some x := ⟨_, List.getElem?_eq_getElem (by rw [HP.out.len]; exact hlt)⟩
      obtain ⟨bp, off, cap, e, _, hr, hbp⟩ := IsSl.pos HP.out.sl (by omega) (by decide)
      cases e
      have cA : wr.cell? ⟨bp, off + k, none⟩ = some x := (hb.cell (p := ⟨bp, off + k, none⟩) hbp).trans (hr k x hx)
      have hix : (0 : Int) ≤ k ∧ (k : Int) < ls.length := ⟨by omega, hlt'⟩
      have hsn : (ls.take (k + 1)).map lfH = (ls.take k).map lfH ++ [lfH b] := by rw [List.take_add_one, hb0, List.map_append]; rfl
      have HB := Lib.hid ((HP.out.each k x b hx hb0).below hb)
      have HBL := Lib.hid (HW.out b (List.mem_of_getElem? hb0))
      have HGr := Lib.hid (HG.out.below hb)
      have HSN := Lib.hid hsn
      obtain ⟨T, hT⟩ : ∃ T, T = (ls.take k).map lfH := ⟨_, rfl⟩
      have hTl : T.length ≤ 4000 := by rw [hT, List.length_map, List.length_take]; omega
      have HO := Lib.hid (hT ▸ HO.out)
      rw [← hT] at hsn
      have HSN := Lib.hid hsn
      clear hr hsn hT hx hb0
      go_wp2_with (first
        | (go_at_call 18; refine (leaf_any x b wr HB.out HBL.out HGr.out).mono ?_; rintro e w4 ⟨rfl, hb4⟩; have hw4 := hb.trans (hb4.mono hsz); have hs4 := hw4.size; have HO4 := Lib.hid (HO.out.below hb4); clear hb4)
        | (refine wpList_hashes rfl [lfH b] 1 _ rfl rfl (by decide) (by decide) (by simp only [List.map_toArray, List.map_cons, List.map_nil]; rfl) ?_; have HO5 := Lib.hid (HO4.out.below ((Below.refl w4.heap.size w4).alloc (Nat.le_refl _) (.cells (bytesV (hflat [lfH b])).toArray 32))); have HX5 := Lib.hid (hs_new w4 [lfH b] 32 rfl rfl); have hw5 := hw4.alloc hs4 (.cells (bytesV (hflat [lfH b])).toArray 32); have hs5 : w.heap.size ≤ (w4.alloc (.cells (bytesV (hflat [lfH b])).toArray 32)).heap.size := (by simp; omega))
        | (at_builtin; refine wpList_owned rfl (.tmp 12) (.tmp 15) rfl w.heap.size _ _ T [lfH b] rfl (by exact HO5.out) rfl (by exact HX5.out) (by rw [List.length_singleton]; omega) hs5 hw5 ?_; intro v6 w6 hO6 hw6; rw [← HSN.out] at hO6; have HO6 := Lib.hid hO6; clear hO6 hw5 hs5)
        | fail)
      exact ⟨⟨k + 1, by go_num, by omega, HO6.out, hw6⟩, by simp [intOf]; omega⟩
    · have hlt' : ¬ (k : Int) < ls.length := by omega
      have hO := HO.out
      rw [List.take_of_length_le (by omega)] at hO
      have HO2 := Lib.hid hO
      clear hO
      go_wp2_with fail
      go_ret
      exact ⟨⟨_, rfl, HO2.out⟩, hb⟩
set_option maxRecDepth 100000 in
set_option maxHeartbeats 2000000 in
theorem roots_any (v : Value) (ls : List (List UInt8)) (vs : List Value) (w : World) (hp : Parts w v ls vs) (hl : ls.length ≤ 4000) (hw : ∀ b ∈ ls, b.length ≤ 35184372088832) (hg : Glob w) :
    Calls Tryd.prog 21 #[v] w fun e w' => e = .returned (hv (rootB ls)) ∧ Below w.heap.size w w' := by
  have hb1 : Below w.heap.size w (w.alloc (.cells z32.toArray 32)) := by (repeat (first | with_reducible assumption | with_reducible exact Below.refl _ _ | ((with_reducible refine Below.setCell ?_ ?_ _); rotate_left; focus (first | omega | (simp; done) | (simp; omega))) | ((with_reducible refine Below.alloc ?_ ?_ _); rotate_left; focus (first | omega | (simp; done) | (simp; omega))) | ((with_reducible refine below_setRow ?_ ?_ _); rotate_left; focus (first | omega | (simp; done) | (simp; omega))) | (with_reducible refine below_drewN ?_ _) | (with_reducible refine Below.drew ?_)))
  have hX : Blk (w.alloc (.cells z32.toArray 32)) w.heap.size z32 32 := Blk.newL w z32 _
  have HP := Lib.hid (hp.below hb1)
  have HG := Lib.hid (hg.below hb1)
  have HW := Lib.hid hw
  have HX := Lib.hid hX
  obtain ⟨R, hR⟩ : ∃ R, R = rootB ls := ⟨_, rfl⟩
  rw [← hR]
  have HR := Lib.hid hR
  clear hp hg hw hX hR
  go_enter Tryd.func21, Tryd.ntmps21
  go_wp2_with (first
    | (go_at_call 41; refine (hashes_any v ls vs (w.alloc (.cells z32.toArray 32)) HP.out hl HW.out HG.out).mono ?_; rintro e w2 ⟨⟨v2, rfl, ho2⟩, hb2⟩; have HX2 := Lib.hid (HX.out.below hb2 HX.out.lt); have HG2 := Lib.hid (HG.out.below hb2); have HV2 := Lib.hid ho2.hs; have hw2 := hb1.trans (hb2.mono hb1.size); clear ho2 hb2)
    | (go_at_call 40; refine (root_any ls.length v2 (ls.map lfH) w2 (by simp) (by omega) HV2.out HG2.out).mono ?_; rintro e w3 ⟨rfl, hb3⟩; rw [show rootN ndH e0H (ls.map lfH) = R from HR.out.symm]; have HX3 := Lib.hid (HX2.out.below hb3 HX2.out.lt); have hw3 := hw2.trans (hb3.mono hw2.size); clear hb3)
    | (refine wpList_store_row rfl 32 (.tmp 2) (.tmp 5) rfl w.heap.size (bytesV R.b).toArray rfl rfl 32 z32.toArray (by exact HX3.out) (by exact hv_row _) (by exact z32_old _) (by exact hv_one _) ?_)
    | fail)
  exact bodyPost_ret (v := hv R) (results_cell_row rfl _ _ w.heap.size 32 _ (0, 0) _ rfl (HX3.out.setRow _) Tryd.underlying32 rfl (hv_row _)) rfl ⟨rfl, below_setRow hw3 (Nat.le_refl _) _⟩
end Go.Proofs.YtnbnjoejmepkjaaDoor

/-! ClashB: The walk of the reference's Root of leaves. Conditions: the parts can be read, at most 4000 of them; the package's tables read as they are laid. -/
namespace Go.Proofs.YtnbnjoejmepkjaaDoor
open Go.RowKit

set_option maxRecDepth 100000 in
set_option maxHeartbeats 2000000 in
theorem refroots_any (v : Value) (ls : List (List UInt8)) (vs : List Value) (w : World) (hp : Parts w v ls vs) (hl : ls.length ≤ 4000) (hw : ∀ b ∈ ls, b.length ≤ 35184372088832) (hg : Glob w) :
    Calls Tryd.prog 25 #[v] w fun e w' => e = .returned (hv (rootB ls)) ∧ Below w.heap.size w w' := by
  obtain ⟨xa, ca, rfl, _⟩ := hp.sl.form
  have hb1 : Below w.heap.size w (w.alloc (.cells #[.int .u8 0, .int .u8 0, .int .u8 0, .int .u8 0, .int .u8 0, .int .u8 0, .int .u8 0, .int .u8 0, .int .u8 0, .int .u8 0, .int .u8 0, .int .u8 0, .int .u8 0, .int .u8 0, .int .u8 0, .int .u8 0, .int .u8 0, .int .u8 0, .int .u8 0, .int .u8 0, .int .u8 0, .int .u8 0, .int .u8 0, .int .u8 0, .int .u8 0, .int .u8 0, .int .u8 0, .int .u8 0, .int .u8 0, .int .u8 0, .int .u8 0, .int .u8 0] 32)) := by (repeat (first | with_reducible assumption | with_reducible exact Below.refl _ _ | ((with_reducible refine Below.setCell ?_ ?_ _); rotate_left; focus (first | omega | (simp; done) | (simp; omega))) | ((with_reducible refine Below.alloc ?_ ?_ _); rotate_left; focus (first | omega | (simp; done) | (simp; omega))) | ((with_reducible refine below_setRow ?_ ?_ _); rotate_left; focus (first | omega | (simp; done) | (simp; omega))) | (with_reducible refine below_drewN ?_ _) | (with_reducible refine Below.drew ?_)))
  have hX : Blk (w.alloc (.cells #[.int .u8 0, .int .u8 0, .int .u8 0, .int .u8 0, .int .u8 0, .int .u8 0, .int .u8 0, .int .u8 0, .int .u8 0, .int .u8 0, .int .u8 0, .int .u8 0, .int .u8 0, .int .u8 0, .int .u8 0, .int .u8 0, .int .u8 0, .int .u8 0, .int .u8 0, .int .u8 0, .int .u8 0, .int .u8 0, .int .u8 0, .int .u8 0, .int .u8 0, .int .u8 0, .int .u8 0, .int .u8 0, .int .u8 0, .int .u8 0, .int .u8 0, .int .u8 0] 32)) w.heap.size z32 32 := Blk.newL w z32 _
  obtain ⟨w0, hw0⟩ : ∃ w0, w0 = w.alloc (.cells #[.int .u8 0, .int .u8 0, .int .u8 0, .int .u8 0, .int .u8 0, .int .u8 0, .int .u8 0, .int .u8 0, .int .u8 0, .int .u8 0, .int .u8 0, .int .u8 0, .int .u8 0, .int .u8 0, .int .u8 0, .int .u8 0, .int .u8 0, .int .u8 0, .int .u8 0, .int .u8 0, .int .u8 0, .int .u8 0, .int .u8 0, .int .u8 0, .int .u8 0, .int .u8 0, .int .u8 0, .int .u8 0, .int .u8 0, .int .u8 0, .int .u8 0, .int .u8 0] 32) := ⟨_, rfl⟩
  rw [← hw0] at hb1 hX
  have hs0 : w0.heap.size = w.heap.size + 1 := by rw [hw0]; simp
  have HP := Lib.hid (hp.below hb1)
  have HG := Lib.hid (hg.below hb1)
  have HW := Lib.hid hw
  have HX := Lib.hid hX
  have HW0 := Lib.hid hw0
  obtain ⟨R, hR⟩ : ∃ R, R = rootB ls := ⟨_, rfl⟩
  rw [← hR]
  have HR := Lib.hid hR
  clear hp hg hw hX hR hw0
  go_enter Tryd.func25, Tryd.ntmps25
  go_wp2_with fail
  go_loopw [3, 4] (fun ov iv wr => ∃ k : Nat, iv = .int .i64 k ∧ k ≤ ls.length ∧ Own wr w0.heap.size ov ((ls.take k).map lfH) ∧ Below w0.heap.size w0 wr) (fun _ iv _ => ls.length - (intOf iv).toNat)
  case atStart => exact ⟨0, rfl, Nat.zero_le _, Own.nil _ _, HW0.out ▸ Below.refl _ _⟩
  case round =>
    obtain ⟨k, rfl, hk, hO, hb⟩ := hrel
    have HO := Lib.hid hO
    clear hO
    have hsz := hb.size
    by_cases hlt : k < ls.length
    · have hlt' : (k : Int) < ls.length := by omega
      obtain ⟨b, hb0⟩ : ∃ b, ls[k]? = some b := ⟨_, List.getElem?_eq_getElem hlt⟩
      obtain ⟨x, hx⟩ : ∃ x, vs[k]? = some x := ⟨_, List.getElem?_eq_getElem (by rw [HP.out.len]; exact hlt)⟩
      obtain ⟨bp, off, cap, e, _, hr, hbp⟩ := IsSl.pos HP.out.sl (by omega) (by decide)
      cases e
      have cA : wr.cell? ⟨bp, off + k, none⟩ = some x := (hb.cell (p := ⟨bp, off + k, none⟩) hbp).trans (hr k x hx)
      have hix : (0 : Int) ≤ k ∧ (k : Int) < ls.length := ⟨by omega, hlt'⟩
      have hsn : (ls.take (k + 1)).map lfH = (ls.take k).map lfH ++ [lfH b] := by rw [List.take_add_one, hb0, List.map_append]; rfl
      have HB := Lib.hid ((HP.out.each k x b hx hb0).below hb)
      have HBL := Lib.hid (HW.out b (List.mem_of_getElem? hb0))
      have HGr := Lib.hid (HG.out.below hb)
      obtain ⟨T, hT⟩ : ∃ T, T = (ls.take k).map lfH := ⟨_, rfl⟩
      have hTl : T.length ≤ 4000 := by rw [hT, List.length_map, List.length_take]; omega
      have HO := Lib.hid (hT ▸ HO.out)
      rw [← hT] at hsn
      have HSN := Lib.hid hsn
      clear hr hsn hT hx hb0
      go_wp2_with (first
        | (go_at_call 46; refine (refleaf_any x b wr HB.out HBL.out HGr.out).mono ?_; rintro e w4 ⟨rfl, hb4⟩; have hw4 := hb.trans (hb4.mono hsz); have hs4 := hw4.size; have HO4 := Lib.hid (HO.out.below hb4); clear hb4)
        | (refine wpList_hashes rfl [lfH b] 1 _ rfl rfl (by decide) (by decide) (by simp only [List.map_toArray, List.map_cons, List.map_nil]; rfl) ?_; have HO5 := Lib.hid (HO4.out.below ((Below.refl w4.heap.size w4).alloc (Nat.le_refl _) (.cells (bytesV (hflat [lfH b])).toArray 32))); have HX5 := Lib.hid (hs_new w4 [lfH b] 32 rfl rfl); have hw5 := hw4.alloc hs4 (.cells (bytesV (hflat [lfH b])).toArray 32); have hs5 : w0.heap.size ≤ (w4.alloc (.cells (bytesV (hflat [lfH b])).toArray 32)).heap.size := (by simp; omega))
        | (at_builtin; refine wpList_owned rfl (.tmp 11) (.tmp 17) rfl w0.heap.size _ _ T [lfH b] rfl (by exact HO5.out) rfl (by exact HX5.out) (by rw [List.length_singleton]; omega) hs5 hw5 ?_; intro v6 w6 hO6 hw6; rw [← HSN.out] at hO6; have HO6 := Lib.hid hO6; clear hO6 hw5 hs5)
        | fail)
      exact ⟨⟨k + 1, by go_num, by omega, HO6.out, hw6⟩, by simp [intOf]; omega⟩
    · have hlt' : ¬ (k : Int) < ls.length := by omega
      have hO := HO.out
      rw [List.take_of_length_le (by omega)] at hO
      have HV2 := Lib.hid hO.hs
      have HX2 := Lib.hid (HX.out.below hb HX.out.lt)
      have HG2 := Lib.hid (HG.out.below hb)
      have hw2 := hb1.trans (hb.mono hb1.size)
      clear hO
      go_wp2_with (first
        | (go_at_call 47; refine (refroot_any ls.length _ (ls.map lfH) wr (by simp) (by omega) HV2.out HG2.out).mono ?_; rintro e w3 ⟨rfl, hb3⟩; rw [show rootN ndH e0H (ls.map lfH) = R from HR.out.symm]; have HX3 := Lib.hid (HX2.out.below hb3 HX2.out.lt); have hw3 := hw2.trans (hb3.mono hw2.size); clear hb3)
        | (refine wpList_store_row rfl 32 (.tmp 2) (.tmp 20) rfl w.heap.size (bytesV R.b).toArray rfl rfl 32 z32.toArray (by exact HX3.out) (by exact hv_row _) (by exact z32_old _) (by exact hv_one _) ?_)
        | fail)
      exact bodyPost_ret (v := hv R) (results_cell_row rfl _ _ w.heap.size 32 _ (0, 0) _ rfl (HX3.out.setRow _) Tryd.underlying32 rfl (hv_row _)) rfl ⟨rfl, below_setRow hw3 (Nat.le_refl _) _⟩
end Go.Proofs.YtnbnjoejmepkjaaDoor

/-! ClashC: The walks of bytes.Equal, of clash.Is and of the reference's Is. Conditions: both texts can be read, at most 2^40 bytes; the package's tables read as they are laid. -/
namespace Go.Proofs.YtnbnjoejmepkjaaDoor
open Go.RowKit

theorem conv_bytes {w : World} {v : Value} {l : List UInt8} (h : Bytes w v l) : (convert 26 9 v).run Tryd.prog w = .ok (.string ⟨l.toArray⟩) w := by
  rcases h.2.2 with ⟨rfl, hl⟩ | ⟨ad, cap, rfl, hc, hr⟩
  · have := List.eq_nil_of_length_eq_zero hl
    subst this
    rw [run_convert_bytes_string w 26 9 5 none 0 0 Tryd.underlying26 Tryd.underlying5 Tryd.underlying9]
    rfl
  · exact run_convert_bytes_back w 26 9 5 ad cap l Tryd.underlying26 Tryd.underlying5 Tryd.underlying9 (fun j hj => hr j _ (bytesV_at l j _ (List.getElem?_eq_getElem hj)))
theorem str_same (a b : List UInt8) : ((⟨a.toArray⟩ : ByteArray) == ⟨b.toArray⟩) = (a == b) := by
  show (a.toArray == b.toArray) = (a == b)
  simp
set_option maxRecDepth 100000 in
set_option maxHeartbeats 400000 in
theorem bequal_any (va vb : Value) (a b : List UInt8) (w : World) (ha : Bytes w va a) (hb : Bytes w vb b) :
    Calls Tryd.prog 32 #[va, vb] w fun e w' => e = .returned (.bool (a == b)) ∧ w' = w := by
  have h1 := conv_bytes ha
  have h2 := conv_bytes hb
  have hs := str_same a b
  go_enter Tryd.func32, Tryd.ntmps32
  go_wp2_with fail
  go_ret
  exact ⟨rfl, rfl⟩
set_option maxRecDepth 100000 in
set_option maxHeartbeats 1000000 in
theorem cis_any (va vb : Value) (a b : List UInt8) (w : World) (ha : Bytes w va a) (hb : Bytes w vb b) (la : a.length ≤ 1099511627776) (lb : b.length ≤ 1099511627776) (hg : Glob w) :
    Calls Tryd.prog 17 #[va, vb] w fun e w' => e = .returned (.bool (clashB a b)) ∧ Below w.heap.size w w' := by
  obtain ⟨xa, ca, rfl, _⟩ := ha.form
  obtain ⟨xb, cb, rfl, _⟩ := hb.form
  have HA := Lib.hid ha
  have HB := Lib.hid hb
  have HG := Lib.hid hg
  clear ha hb hg
  by_cases he : (a == b) = true
  · have HC := Lib.hid (show clashB a b = false by unfold clashB; rw [he]; rfl)
    rw [HC.out]
    have HE := Lib.hid he
    clear he
    go_enter Tryd.func17, Tryd.ntmps17
    go_wp2_with (first
      | (go_at_call 32; refine (bequal_any _ _ a b w HA.out HB.out).mono ?_; rintro e w1 ⟨rfl, h1⟩; rw [h1, HE.out]; clear h1 w1)
      | fail)
    go_ret
    exact ⟨rfl, Below.refl _ _⟩
  · have he2 : (a == b) = false := by simpa using he
    have HC := Lib.hid (show clashB a b = (sumN a == sumN b) by unfold clashB; rw [he2]; rfl)
    rw [HC.out]
    have HE := Lib.hid he2
    obtain ⟨A, hA⟩ : ∃ A, A = sumN a := ⟨_, rfl⟩
    obtain ⟨B, hB⟩ : ∃ B, B = sumN b := ⟨_, rfl⟩
    have heq := fun w => eq_hash w A B (by rw [hA]; exact sumN_len _) (by rw [hB]; exact sumN_len _)
    rw [← hA, ← hB]
    have HA1 := Lib.hid hA
    have HB1 := Lib.hid hB
    clear he he2 hA hB
    go_enter Tryd.func17, Tryd.ntmps17
    go_wp2_with (first
      | (go_at_call 32; refine (bequal_any _ _ a b w HA.out HB.out).mono ?_; rintro e w1 ⟨rfl, h1⟩; rw [h1, HE.out]; clear h1 w1)
      | (go_at_call 34; have HX := HA; clear HA; refine (sum_at (n := 1) w [_] [a] _ (.cons HX.out .nil) rfl a (by simp [cat]) (by omega) (by decide) HG.out).mono ?_; rintro e w2 ⟨rfl, hb2⟩; rw [← HA1.out]; have HB2 := Lib.hid (HB.out.below hb2); have HG2 := Lib.hid (HG.out.below hb2); have hw2 := Lib.hid hb2; clear hb2)
      | (go_at_call 34; refine (sum_at (n := 1) w2 [_] [b] _ (.cons HB2.out .nil) rfl b (by simp [cat]) (by omega) (by decide) HG2.out).mono ?_; rintro e w3 ⟨rfl, hb3⟩; rw [← HB1.out]; have hw3 := Lib.hid (hw2.out.trans (hb3.mono hw2.out.size)); clear hb3)
      | fail)
    go_ret
    exact ⟨rfl, hw3.out⟩
set_option maxRecDepth 100000 in
set_option maxHeartbeats 1000000 in
theorem refis_any (va vb : Value) (a b : List UInt8) (w : World) (ha : Bytes w va a) (hb : Bytes w vb b) (la : a.length ≤ 1099511627776) (lb : b.length ≤ 1099511627776) (hg : Glob w) :
    Calls Tryd.prog 27 #[va, vb] w fun e w' => e = .returned (.bool (clashB a b)) ∧ Below w.heap.size w w' := by
  have HA := Lib.hid ha
  have HB := Lib.hid hb
  have HG := Lib.hid hg
  clear ha hb hg
  by_cases he : (a == b) = true
  · have HC := Lib.hid (show clashB a b = false by unfold clashB; rw [he]; rfl)
    rw [HC.out]
    have HE := Lib.hid he
    clear he
    go_enter Tryd.func27, Tryd.ntmps27
    go_wp2_with (first
      | (go_at_call 12; refine (refbytes_any _ _ a b w HA.out HB.out (by omega)).mono ?_; rintro e w1 ⟨rfl, hb1⟩; rw [HE.out])
      | fail)
    go_ret
    exact ⟨rfl, hb1⟩
  · have he2 : (a == b) = false := by simpa using he
    have HC := Lib.hid (show clashB a b = (sumN a == sumN b) by unfold clashB; rw [he2]; rfl)
    rw [HC.out]
    have HE := Lib.hid he2
    obtain ⟨A, hA⟩ : ∃ A, A = sumN a := ⟨_, rfl⟩
    obtain ⟨B, hB⟩ : ∃ B, B = sumN b := ⟨_, rfl⟩
    have heq := fun w => eq_hash w A B (by rw [hA]; exact sumN_len _) (by rw [hB]; exact sumN_len _)
    rw [← hA, ← hB]
    have HA1 := Lib.hid hA
    have HB1 := Lib.hid hB
    clear he he2 hA hB
    go_enter Tryd.func27, Tryd.ntmps27
    go_wp2_with (first
      | (go_at_call 12; refine (refbytes_any _ _ a b w HA.out HB.out (by omega)).mono ?_; rintro e w1 ⟨rfl, hb1⟩; rw [HE.out]; have HAb := Lib.hid (HA.out.below hb1); have HBb := Lib.hid (HB.out.below hb1); have HGb := Lib.hid (HG.out.below hb1); have hw1 := Lib.hid hb1; clear hb1)
      | (go_at_call 48; have HX := HAb; clear HAb; refine (refsum_any _ a w1 HX.out (by omega) HGb.out).mono ?_; rintro e w2 ⟨rfl, hb2⟩; have HB2 := Lib.hid (HBb.out.below hb2); have HG2 := Lib.hid (HGb.out.below hb2); have hw2 := Lib.hid (hw1.out.trans (hb2.mono hw1.out.size)); clear hb2)
      | (go_at_call 48; refine (refsum_any _ b w2 HB2.out (by omega) HG2.out).mono ?_; rintro e w3 ⟨rfl, hb3⟩; rw [← HA1.out, ← HB1.out]; have hw3 := Lib.hid (hw2.out.trans (hb3.mono hw2.out.size)); clear hb3)
      | fail)
    go_ret
    exact ⟨rfl, hw3.out⟩
end Go.Proofs.YtnbnjoejmepkjaaDoor

/-! ClashD: The walks of slices.EqualFunc over bytes.Equal, and of the reference's Same. Conditions: both lists can be read, at most 2^40 texts. -/
namespace Go.Proofs.YtnbnjoejmepkjaaDoor
open Go.RowKit

theorem lists_ne {a b : List (List UInt8)} {k : Nat} {x y : List UInt8} (hx : a[k]? = some x) (hy : b[k]? = some y) (h : x ≠ y) : (a == b) = false := by
  rw [beq_eq_false_iff_ne]
  rintro rfl
  rw [hx] at hy
  exact h (Option.some.inj hy)
theorem lists_len {a b : List (List UInt8)} (h : a.length ≠ b.length) : (a == b) = false := by
  rw [beq_eq_false_iff_ne]
  exact fun e => h (by rw [e])
theorem lists_all {a b : List (List UInt8)} {k : Nat} (h : a.take k = b.take k) (ha : a.length ≤ k) (hb : b.length ≤ k) : (a == b) = true := by
  rw [List.take_of_length_le ha, List.take_of_length_le hb] at h
  rw [h]
  simp
theorem lists_next {α : Type} {a b : List α} {k : Nat} {x : α} (h : a.take k = b.take k) (hx : a[k]? = some x) (hy : b[k]? = some x) : a.take (k + 1) = b.take (k + 1) := by
  rw [List.take_add_one, List.take_add_one, hx, hy, h]
/-- A text of a list: its value, its cell. -/
theorem Parts.at {w : World} {n cap : Nat} {xa : Option Addr} {ls : List (List UInt8)} {vs : List Value} (h : Parts w (.slice xa n cap) ls vs) {k : Nat} (hk : k < ls.length) :
    ∃ b off x t, xa = some ⟨b, off, none⟩ ∧ b < w.heap.size ∧ w.cell? ⟨b, off + k, none⟩ = some x ∧ vs[k]? = some x ∧ ls[k]? = some t ∧ Bytes w x t := by
  obtain ⟨b, off, c, e, _, hr, hb⟩ := h.sl.pos (by omega) (by decide)
  cases e
  have hkv : k < vs.length := by rw [h.len]; exact hk
  exact ⟨b, off, vs[k], ls[k], rfl, hb, hr k _ (List.getElem?_eq_getElem hkv), List.getElem?_eq_getElem hkv, List.getElem?_eq_getElem hk, h.each k _ _ (List.getElem?_eq_getElem hkv) (List.getElem?_eq_getElem hk)⟩
def fnEq : Value := .func (.func 32) #[] #[]
set_option maxRecDepth 100000 in
set_option maxHeartbeats 1000000 in
theorem eqfunc_any (va vb : Value) (a b : List (List UInt8)) (xs ys : List Value) (w : World) (ha : Parts w va a xs) (hb : Parts w vb b ys) (hn : a.length ≤ 1099511627776) :
    Calls Tryd.prog 31 #[va, vb, fnEq] w fun e w' => e = .returned (.bool (a == b)) ∧ w' = w := by
  obtain ⟨xa, ca, rfl, _⟩ := ha.sl.form
  obtain ⟨xb, cb, rfl, _⟩ := hb.sl.form
  have HA := Lib.hid ha
  have HB := Lib.hid hb
  clear ha hb
  unfold fnEq
  by_cases hl : a.length = b.length
  · have hle : ((a.length : Int) != (b.length : Int)) = false := by rw [hl]; simp
    have HL := Lib.hid hl
    clear hl
    go_enter Tryd.func31, Tryd.ntmps31
    go_wp2_with fail
    go_loopw [17] (fun iv wr => ∃ k : Nat, iv = .int .i64 k ∧ k ≤ a.length ∧ a.take k = b.take k ∧ wr = w) (fun iv _ => a.length - (intOf iv).toNat)
    case atStart => exact ⟨0, rfl, Nat.zero_le _, rfl, rfl⟩
    case round =>
      obtain ⟨k, rfl, hk, ht, rfl⟩ := hrel
      have HT := Lib.hid ht
      clear ht hle
      by_cases hlt : k < a.length
      · obtain ⟨b1, o1, x, s, rfl, _, c1, _, hs, hbs⟩ := HA.out.at hlt
        obtain ⟨b2, o2, y, t, rfl, _, c2, _, ht, hbt⟩ := HB.out.at (k := k) (by have := HL.out; omega)
        have i1 : (0 : Int) ≤ k ∧ (k : Int) < a.length := ⟨by omega, by omega⟩
        have i2 : (0 : Int) ≤ k ∧ (k : Int) < b.length := ⟨by omega, by have := HL.out; omega⟩
        have HS := Lib.hid hs
        have HT2 := Lib.hid ht
        have HX := Lib.hid hbs
        have HY := Lib.hid hbt
        clear hs ht hbs hbt
        by_cases he : s = t
        · have HE := Lib.hid (show (s == t) = true by simp [he])
          have HE2 := Lib.hid he
          clear he
          go_wp2_with (first
            | (go_at_call 32; refine (bequal_any _ _ s t wr HX.out HY.out).mono ?_; rintro e w1 ⟨rfl, h1⟩; rw [h1, HE.out]; clear h1 w1)
            | fail)
          exact ⟨⟨k + 1, by go_num, by omega, lists_next HT.out HS.out (HE2.out ▸ HT2.out), by trivial⟩, by simp [intOf]; omega⟩
        · have HE := Lib.hid (show (s == t) = false by simp [he])
          have HF := Lib.hid (lists_ne HS.out HT2.out he)
          clear he
          go_wp2_with (first
            | (go_at_call 32; refine (bequal_any _ _ s t wr HX.out HY.out).mono ?_; rintro e w1 ⟨rfl, h1⟩; rw [h1, HE.out]; clear h1 w1)
            | fail)
          go_ret
          exact ⟨by rw [HF.out]; rfl, rfl⟩
      · have hlt' : ¬ (k : Int) < a.length := by omega
        go_wp2_with fail
        go_ret
        exact ⟨by rw [lists_all HT.out (by omega) (by have := HL.out; omega)]; rfl, rfl⟩
  · have hle : ((a.length : Int) != (b.length : Int)) = true := by simp; omega
    rw [lists_len hl]
    go_enter Tryd.func31, Tryd.ntmps31
    go_wp2_with fail
    go_ret
    exact ⟨rfl, rfl⟩
set_option maxRecDepth 100000 in
set_option maxHeartbeats 1000000 in
theorem refsames_any (va vb : Value) (a b : List (List UInt8)) (xs ys : List Value) (w : World) (ha : Parts w va a xs) (hb : Parts w vb b ys) (hn : a.length ≤ 1099511627776) (hw : ∀ l ∈ a, l.length ≤ 35184372088832) :
    Calls Tryd.prog 33 #[va, vb] w fun e w' => e = .returned (.bool (a == b)) ∧ Below w.heap.size w w' := by
  obtain ⟨xa, ca, rfl, _⟩ := ha.sl.form
  obtain ⟨xb, cb, rfl, _⟩ := hb.sl.form
  have HA := Lib.hid ha
  have HB := Lib.hid hb
  have HW := Lib.hid hw
  clear ha hb hw
  by_cases hl : a.length = b.length
  · have hle : ((a.length : Int) != (b.length : Int)) = false := by rw [hl]; simp
    have HL := Lib.hid hl
    clear hl
    go_enter Tryd.func33, Tryd.ntmps33
    go_wp2_with fail
    go_loopw [5] (fun iv wr => ∃ k : Nat, iv = .int .i64 k ∧ k ≤ a.length ∧ a.take k = b.take k ∧ Below w.heap.size w wr) (fun iv _ => a.length - (intOf iv).toNat)
    case atStart => exact ⟨0, rfl, Nat.zero_le _, rfl, Below.refl _ _⟩
    case round =>
      obtain ⟨k, rfl, hk, ht, hbw⟩ := hrel
      have HT := Lib.hid ht
      clear ht hle
      by_cases hlt : k < a.length
      · obtain ⟨b1, o1, p1, s, rfl, _, c1, _, hs, hbs⟩ := (HA.out.below hbw).at hlt
        obtain ⟨b2, o2, p2, t, rfl, _, c2, _, ht, hbt⟩ := (HB.out.below hbw).at (k := k) (by have := HL.out; omega)
        have i1 : (0 : Int) ≤ k ∧ (k : Int) < a.length := ⟨by omega, by omega⟩
        have i2 : (0 : Int) ≤ k ∧ (k : Int) < b.length := ⟨by omega, by have := HL.out; omega⟩
        have hsl := HW.out s (List.mem_of_getElem? hs)
        have HS := Lib.hid hs
        have HT2 := Lib.hid ht
        have HX := Lib.hid hbs
        have HY := Lib.hid hbt
        have C1 := Lib.hid c1
        have C2 := Lib.hid c2
        have hlt' : (k : Int) < a.length := by omega
        have hsz := hbw.size
        obtain ⟨R, hR⟩ : ∃ R, R = (s == t) := ⟨_, rfl⟩
        have HR := Lib.hid hR
        clear hs ht hbs hbt hR c1 c2
        go_wp2_with fail
        refine wp_region_mono 10 (wr.heap.size) [(fun v _ => v = .slice (some ⟨b1, o1, none⟩) a.length ca), (fun v _ => v = .int .i64 k), (fun v _ => v = .pointer (some ⟨b1, o1 + k, none⟩)), (fun v _ => v = p1), (fun v _ => v = .slice (some ⟨b2, o2, none⟩) b.length cb), (fun v _ => v = .int .i64 k), (fun v _ => v = .pointer (some ⟨b2, o2 + k, none⟩)), (fun v _ => v = p2), (fun v _ => v = .bool R), (fun v _ => v = .bool (!R))] (by kernel_rfl) (by kernel_rfl) (Nat.le_refl _) ?mkept _ rfl ?mops ?mfin
        case mkept =>
          repeat (refine List.forall_mem_cons.2 ⟨by first | exact fun _ _ _ _ h => h | exact fun _ _ _ hb h => Parts.below h hb | exact fun _ _ _ hb h => IsSl.below h hb, ?_⟩)
          exact fun _ h => by cases h
        case mops =>
          simp only [List.take_succ_cons, List.take_zero, monoAll, List.getD_cons_zero, List.getD_cons_succ]
          iterate 10
          
           (refine ⟨fun x wr hb hd Qg hK => ?_, ?_⟩
            · as_aux_lemma =>
              simp only [fill, Act.put, List.setIfInBounds_toArray, List.set_cons_succ, List.set_cons_zero, needs, Region.binds, List.filter_cons, List.filter_nil, List.map_cons, List.map_nil, if_true, List.mem_cons, List.not_mem_nil, or_false, forall_eq_or_imp, forall_eq, List.getD_cons_zero, List.getD_cons_succ, false_implies, implies_true] at hd hK ⊢
              (try simp only [hd] at hK ⊢)
              first
              | (show wpList _ _ _ [⟨some 20, .load _ _, _, _, _, _⟩] _ _; have c0 := (hb.cell (p := ⟨b1, o1 + k, none⟩) (World.block_lt_of_cell? _ _ C1.out)).trans C1.out; go_wp2_with fail; exact hK _ _ rfl (Below.refl _ _))
              | (show wpList _ _ _ [⟨some 24, .load _ _, _, _, _, _⟩] _ _; have c0 := (hb.cell (p := ⟨b2, o2 + k, none⟩) (World.block_lt_of_cell? _ _ C2.out)).trans C2.out; go_wp2_with fail; exact hK _ _ rfl (Below.refl _ _))
              | (show wpList _ _ _ [⟨some 25, .call _, _, _, _, _⟩] _ _; go_wp2_with (go_at_call 12; refine (refbytes_any p1 p2 s t wr (HX.out.below hb) (HY.out.below hb) (by omega)).mono ?_; rintro e w5 ⟨rfl, hb5⟩); exact hK _ _ (by rw [HR.out]) hb5)
              | (go_wp2_with fail; exact hK _ _ rfl (Below.refl _ _)))
          trivial
        case mfin =>
          intro z w9 hb9 hR9
          have x9 := hR9 9 (by decide)
          simp only [List.getD_cons_zero, List.getD_cons_succ] at x9
          have hw9 := hbw.trans (hb9.mono hbw.size)
          clear hR9 hb9
          simp only [List.drop_succ_cons, List.drop_zero]
          generalize List.toArray _ = L0
          simp only [List.take_succ_cons, List.take_zero, List.map_cons, List.map_nil, fill, Act.put, List.setIfInBounds_toArray, List.set_cons_succ, List.set_cons_zero, x9]
          clear x9
          cases R with
          | true =>
            have he : s = t := by simpa using HR.out.symm
            have HE2 := Lib.hid he
            clear he
            go_wp2_with fail
            exact ⟨⟨k + 1, by go_num, by omega, lists_next HT.out HS.out (HE2.out ▸ HT2.out), hw9⟩, by simp [intOf]; omega⟩
          | false =>
            have he : s ≠ t := by simpa using HR.out.symm
            have HF := Lib.hid (lists_ne HS.out HT2.out he)
            clear he
            go_wp2_with fail
            go_ret
            exact ⟨by rw [HF.out]; rfl, hw9⟩
      · have hlt' : ¬ (k : Int) < a.length := by omega
        go_wp2_with fail
        go_ret
        exact ⟨by rw [lists_all HT.out (by omega) (by have := HL.out; omega)]; rfl, hbw⟩
  · have hle : ((a.length : Int) != (b.length : Int)) = true := by simp; omega
    rw [lists_len hl]
    go_enter Tryd.func33, Tryd.ntmps33
    go_wp2_with fail
    go_ret
    exact ⟨rfl, Below.refl _ _⟩
end Go.Proofs.YtnbnjoejmepkjaaDoor

/-! ClashE: Parts of a list of texts; texts put together in a new block; the walks of clash.pair and clash.text. Conditions: the list can be read, 1 to 4000 texts of at most 2^40 bytes; the package's tables read as they are laid. -/
namespace Go.Proofs.YtnbnjoejmepkjaaDoor
open Go.RowKit

theorem size_bytes (w : World) : (sizeOf 26).run Tryd.prog w = .ok 1 w := by
  have hk : (Tryd.prog.info? 26).map (·.size) = some 1 := by kernel_rfl
  obtain ⟨i0, hi, hs⟩ := Option.map_eq_some_iff.1 hk
  simp [sizeOf, typeInfo, hi, hs]
theorem parts_head {w : World} {v : Value} {ls : List (List UInt8)} {vs : List Value} (h : Parts w v ls vs) (j : Nat) (hj : j ≤ ls.length) :
    ∃ a c, (∀ w' : World, (Instr.slice 22 v none (some (.int .i64 (j : Int))) none).run Tryd.prog w' = .ok (.slice a j c) w') ∧ Parts w (.slice a j c) (ls.take j) (vs.take j) := by
  obtain ⟨a, c, h1, h2⟩ := sl_head (P := Tryd.prog) h.sl Tryd.underlying22 size_bytes j hj
  refine ⟨a, c, h1, by rw [List.length_take, List.length_take, h.len], ?_, fun i x l hx hl => ?_⟩
  · rw [List.length_take, Nat.min_eq_left hj]
    rwa [Nat.mul_one] at h2
  · rw [List.getElem?_take] at hx hl
    split at hx
    · rename_i hi
      rw [if_pos hi] at hl
      exact h.each i x l hx hl
    · cases hx
theorem parts_tail {w : World} {v : Value} {ls : List (List UInt8)} {vs : List Value} (h : Parts w v ls vs) (j : Nat) (hj : j ≤ ls.length) :
    ∃ a c, (∀ w' : World, (Instr.slice 22 v (some (.int .i64 (j : Int))) none none).run Tryd.prog w' = .ok (.slice a (ls.length - j) c) w') ∧ Parts w (.slice a (ls.length - j) c) (ls.drop j) (vs.drop j) := by
  obtain ⟨a, c, h1, h2⟩ := sl_tail (P := Tryd.prog) h.sl Tryd.underlying22 size_bytes j hj
  refine ⟨a, c, h1, by rw [List.length_drop, List.length_drop, h.len], ?_, fun i x l hx hl => ?_⟩
  · rw [List.length_drop]
    rwa [Nat.mul_one] at h2
  · rw [List.getElem?_drop] at hx hl
    exact h.each _ x l hx hl
/-- A slice that lies in blocks from B on. -/
def Fresh (B : Nat) (v : Value) : Prop := ∀ ad k c, v = .slice (some ad) k c → B ≤ ad.block
theorem Fresh.mono {B B' : Nat} {v : Value} (h : Fresh B v) (hb : B' ≤ B) : Fresh B' v := fun ad k c e => Nat.le_trans hb (h ad k c e)
theorem own_fresh {w : World} {base : Nat} {e : TypeId} {size : Nat} {v : Value} {n : Nat} {xs : List Value} (h : w.ownsRow base e size v n xs) : Fresh base v := fun ad k c e => (h.lt ad.block (by rw [e]; rfl)).1
/-- Texts put together, of which the caller has just laid the list in a new block. -/
theorem concat_atF (w : World) (vs : List Value) (ls : List (List UInt8)) (e : TypeId) {n B : Nat} (hB : w.heap.size = B) (h : Texts w vs ls) (hn : ls.length = n) (t : List UInt8) (ht : cat ls = t) (hsz : t.length ≤ 140737488355328) (hln : n ≤ 140737488355328) :
    Calls Tryd.prog 52 #[.slice (some ⟨B, 0, none⟩) n n] (w.alloc (.cells vs.toArray e)) fun e w' => (∃ v, e = .returned v ∧ Bytes w' v t ∧ Fresh w.heap.size v) ∧ Below w.heap.size w w' := by
  subst ht hB
  refine (concat_any _ ls vs _ (h.parts e hn) hsz (by omega)).mono ?_
  rintro e w' ⟨⟨a, c, rfl, hown⟩, hb⟩
  exact ⟨⟨_, rfl, ownsRow_isSl hown (bytesV_one _), (own_fresh hown).mono (by simp)⟩, Below.trans ((Below.refl _ _).alloc (Nat.le_refl _) _) (hb.mono (by simp))⟩
theorem concat_atB (w : World) (vs : List Value) (ls : List (List UInt8)) (e : TypeId) {n B : Nat} (hB : w.heap.size = B) (h : Texts w vs ls) (hn : ls.length = n) (t : List UInt8) (ht : cat ls = t) (hsz : t.length ≤ 140737488355328) (hln : n ≤ 140737488355328) :
    Calls Tryd.prog 52 #[.slice (some ⟨B, 0, none⟩) n n] (w.alloc (.cells vs.toArray e)) fun e w' => (∃ v, e = .returned v ∧ Bytes w' v t) ∧ Below w.heap.size w w' :=
  (concat_atF w vs ls e hB h hn t ht hsz hln).mono fun _ _ ⟨⟨v, e1, h1, _⟩, hb⟩ => ⟨⟨v, e1, h1⟩, hb⟩
def pairW (w : World) (l r : H) : World := (w.alloc (.cells (bytesV l.b).toArray 32)).alloc (.cells (bytesV r.b).toArray 32)
set_option maxRecDepth 100000 in
set_option maxHeartbeats 400000 in
theorem cpair_fresh (l r : H) (w : World) :
    Calls Tryd.prog 56 #[hv l, hv r] w fun e w' => (∃ v, e = .returned v ∧ Bytes w' v (1 :: (l.b ++ r.b)) ∧ Fresh w.heap.size v) ∧ Below w.heap.size w w' := by
  have hb1 : Below w.heap.size w (pairW w l r) := by unfold pairW; (repeat (first | with_reducible assumption | with_reducible exact Below.refl _ _ | ((with_reducible refine Below.setCell ?_ ?_ _); rotate_left; focus (first | omega | (simp; done) | (simp; omega))) | ((with_reducible refine Below.alloc ?_ ?_ _); rotate_left; focus (first | omega | (simp; done) | (simp; omega))) | ((with_reducible refine below_setRow ?_ ?_ _); rotate_left; focus (first | omega | (simp; done) | (simp; omega))) | (with_reducible refine below_drewN ?_ _) | (with_reducible refine Below.drew ?_)))
  have hL : Blk (pairW w l r) w.heap.size (bytesV l.b) 32 := (Blk.newL w _ _).alloc _
  have hR : Blk (pairW w l r) (w.heap.size + 1) (bytesV r.b) 32 := Blk.newL1 w _ _ _
  have hs : (pairW w l r).heap.size = w.heap.size + 1 + 1 := by simp [pairW]
  have HL := Lib.hid hL
  have HR := Lib.hid hR
  clear hL hR
  go_enter Tryd.func56, Tryd.ntmps56
  unfold hv
  go_wp2_with fail
  refine wp_region_forced [1, 2] [0, 3, 4, 5] (by kernel_rfl) (by kernel_rfl) (fun _ _ _ d _ h => by cases d <;> exact h) _ _ rfl rfl ?_
  simp only [List.map_cons, List.map_nil, List.getD_cons_succ, List.getD_cons_zero]
  refine wpPure_run (.slice (some ⟨w.heap.size, 0, none⟩) 32 32) rfl (fun w' => ?_) ?_
  · simp [go_sem, execOp]
  refine wpPure_run (.slice (some ⟨w.heap.size + 1, 0, none⟩) 32 32) rfl (fun w' => ?_) ?_
  · simp [go_sem, execOp]
  refine wpPure_nil ?_
  intro nq
  go_wp2_with fail
  obtain ⟨w1, hw1e⟩ : ∃ w1, w1 = ((pairW w l r).drewN nq).alloc (.cells (bytesV [1]).toArray 5) := ⟨_, rfl⟩
  have hbn : Below (w.heap.size + 1 + 1) (pairW w l r) w1 := by rw [hw1e]; exact (below_drewN (Below.refl _ _) nq).alloc (by simp [hs]) _
  have hT : Bytes w1 (.slice (some ⟨w.heap.size + 1 + 1, 0, none⟩) 1 1) [1] := by rw [hw1e]; exact bytes_alloc _ [1] _ _ (by simp [hs])
  have hL1 := bytes_box (HL.out.below hbn (by omega))
  have hR1 := bytes_box (HR.out.below hbn (by omega))
  have hs1 : w1.heap.size = w.heap.size + 1 + 1 + 1 := by rw [hw1e]; simp [hs]
  refine (concat_atF (n := 3) w1 [_, _, _] [[1], l.b, r.b] _ hs1 (.cons hT (.cons hL1 (.cons hR1 .nil))) rfl (1 :: (l.b ++ r.b)) (by simp [cat]) (by simp [l.len, r.len]) (by decide)).mono ?_ |> (fun h => by rw [hw1e] at h; exact h)
  rintro e w2 ⟨⟨v2, rfl, hv2, hf2⟩, hb2⟩
  have hw2 := hb1.trans ((hbn.trans (hb2.mono (by omega))).mono (by omega))
  clear hb1 hb2 HL HR hbn hT hL1 hR1
  have HV := Lib.hid hv2
  have HF := Lib.hid (hf2.mono (show w.heap.size ≤ w1.heap.size by omega))
  clear hv2 hf2
  go_wp2_with fail
  go_ret
  exact ⟨⟨_, rfl, HV.out, HF.out⟩, hw2⟩
theorem cpair_any (l r : H) (w : World) :
    Calls Tryd.prog 56 #[hv l, hv r] w fun e w' => (∃ v, e = .returned v ∧ Bytes w' v (1 :: (l.b ++ r.b))) ∧ Below w.heap.size w w' :=
  (cpair_fresh l r w).mono fun _ _ ⟨⟨v, e1, h1, _⟩, hb⟩ => ⟨⟨v, e1, h1⟩, hb⟩
set_option maxRecDepth 100000 in
set_option maxHeartbeats 1000000 in
theorem ctext_any (v : Value) (ls : List (List UInt8)) (vs : List Value) (w : World) (hp : Parts w v ls vs) (h1 : 1 ≤ ls.length) (hl : ls.length ≤ 4000) (hw : ∀ b ∈ ls, b.length ≤ 35184372088832) (hg : Glob w) :
    Calls Tryd.prog 44 #[v] w fun e w' => (∃ v, e = .returned v ∧ Bytes w' v (textB ls)) ∧ Below w.heap.size w w' := by
  obtain ⟨xa, ca, rfl, _⟩ := hp.sl.form
  have HP := Lib.hid hp
  have HG := Lib.hid hg
  have HW := Lib.hid hw
  clear hp hg hw
  by_cases h2 : ls.length = 1
  · obtain ⟨t, rfl⟩ := List.length_eq_one_iff.1 h2
    rw [textB_one]
    obtain ⟨b1, o1, p1, t', rfl, hbw, c1, _, ht, hbt⟩ := HP.out.at (k := 0) (by simp)
    cases ht
    obtain ⟨q1, q2, rfl, _⟩ := hbt.form
    have hlen : t.length ≤ 35184372088832 := HW.out t (by simp)
    obtain ⟨w1, hw1⟩ : ∃ w1, w1 = w.alloc (.cells (bytesV [0]).toArray 5) := ⟨_, rfl⟩
    have hb1 : Below w.heap.size w w1 := by rw [hw1]; (repeat (first | with_reducible assumption | with_reducible exact Below.refl _ _ | ((with_reducible refine Below.setCell ?_ ?_ _); rotate_left; focus (first | omega | (simp; done) | (simp; omega))) | ((with_reducible refine Below.alloc ?_ ?_ _); rotate_left; focus (first | omega | (simp; done) | (simp; omega))) | ((with_reducible refine below_setRow ?_ ?_ _); rotate_left; focus (first | omega | (simp; done) | (simp; omega))) | (with_reducible refine below_drewN ?_ _) | (with_reducible refine Below.drew ?_)))
    have hZ : Bytes w1 (.slice (some ⟨w.heap.size, 0, none⟩) 1 1) [0] := by rw [hw1]; exact bytes_alloc w [0] _ _ rfl
    have c2 : (w.alloc (.cells #[.int .u8 0] 5)).cell? ⟨b1, o1, none⟩ = some (.slice q1 t.length q2) := (((Below.refl w.heap.size w).alloc (Nat.le_refl _) (.cells #[.int .u8 0] 5)).cell (p := ⟨b1, o1, none⟩) hbw).trans c1
    have hs1 : w1.heap.size = w.heap.size + 1 := by rw [hw1]; simp
    have HZ := Lib.hid hZ
    have HT := Lib.hid (hbt.below hb1)
    have HW1 := Lib.hid hw1
    clear hbt hZ hw1 c1 h2
    go_enter Tryd.func44, Tryd.ntmps44
    go_wp2_with fail
    refine (concat_atB (n := 2) w1 [_, _] [[0], t] _ hs1 (.cons HZ.out (.cons HT.out .nil)) rfl (0 :: t) (by simp [cat]) (by simp; omega) (by decide)).mono ?_ |> (fun h => by rw [HW1.out] at h; exact h)
    rintro e w2 ⟨⟨v2, rfl, hv2⟩, hb2⟩
    have hw2 := Lib.hid (hb1.trans (hb2.mono hb1.size))
    have HV := Lib.hid hv2
    clear hv2 hb2
    go_wp2_with fail
    go_ret
    exact ⟨⟨_, rfl, HV.out⟩, hw2.out⟩
  · have h2' : ((ls.length : Int) == 1) = false := by rw [beq_eq_false_iff_ne]; omega
    rw [textB_two ls (by omega)]
    obtain ⟨k, hk⟩ : ∃ k, k = splitN ls.length := ⟨_, rfl⟩
    have hlt := splitN_lt ls.length (by omega)
    have hpos := splitN_pos ls.length (by omega)
    rw [← hk] at hlt hpos
    obtain ⟨a1, d1, hs1, hp1⟩ := parts_head HP.out k (by omega)
    obtain ⟨a2, d2, hs2, hp2⟩ := parts_tail HP.out k (by omega)
    obtain ⟨R1, hR1⟩ : ∃ R1, R1 = rootB (ls.take k) := ⟨_, rfl⟩
    obtain ⟨R2, hR2⟩ : ∃ R2, R2 = rootB (ls.drop k) := ⟨_, rfl⟩
    rw [← hk, ← hR1, ← hR2]
    have HK := Lib.hid hk
    have H1 := Lib.hid hp1
    have H2 := Lib.hid hp2
    have HR1 := Lib.hid hR1
    have HR2 := Lib.hid hR2
    have HLT := Lib.hid hlt
    clear hk hp1 hp2 hR1 hR2 h2
    go_enter Tryd.func44, Tryd.ntmps44
    go_wp2_with (first
      | (go_at_call 37; refine (split_any ls.length _ (by omega)).mono ?_; rintro e w2 ⟨rfl, h2⟩; rw [h2, ← HK.out]; clear h2 w2)
      | fail)
    refine wp_region_mono 9 (w.heap.size) [(fun v _ => v = .slice xa ls.length ca), (fun v _ => v = .int .i64 k), (fun v _ => v = .slice a1 k d1), (fun v _ => v = hv R1), (fun v _ => v = .slice xa ls.length ca), (fun v _ => v = .int .i64 k), (fun v _ => v = .slice a2 (ls.length - k) d2), (fun v _ => v = hv R2), (fun v w => Bytes w v (1 :: (R1.b ++ R2.b)))] (by kernel_rfl) (by kernel_rfl) (Nat.le_refl _) ?mkept _ rfl ?mops ?mfin
    case mkept =>
      repeat (refine List.forall_mem_cons.2 ⟨by first | exact fun _ _ _ _ h => h | exact fun _ _ _ hb h => Parts.below h hb | exact fun _ _ _ hb h => IsSl.below h hb, ?_⟩)
      exact fun _ h => by cases h
    case mops =>
      simp only [List.take_succ_cons, List.take_zero, monoAll, List.getD_cons_zero, List.getD_cons_succ]
      iterate 9
      
       (refine ⟨fun x wr hb hd Qg hK => ?_, ?_⟩
        · as_aux_lemma =>
          simp only [fill, Act.put, List.setIfInBounds_toArray, List.set_cons_succ, List.set_cons_zero, needs, Region.binds, List.filter_cons, List.filter_nil, List.map_cons, List.map_nil, if_true, List.mem_cons, List.not_mem_nil, or_false, forall_eq_or_imp, forall_eq, List.getD_cons_zero, List.getD_cons_succ, false_implies, implies_true] at hd hK ⊢
          (try simp only [hd] at hK ⊢)
          first
          | (show wpList _ _ _ [⟨some 19, .call _, _, _, _, _⟩] _ _; go_wp2_with (go_at_call 21; refine (roots_any _ (ls.take k) _ wr (H1.out.below hb) (by rw [List.length_take]; omega) (fun b hb' => HW.out b (List.mem_of_mem_take hb')) (HG.out.below hb)).mono ?_; rintro e w5 ⟨rfl, hb5⟩); exact hK _ _ (by rw [HR1.out]) hb5)
          | (show wpList _ _ _ [⟨some 23, .call _, _, _, _, _⟩] _ _; go_wp2_with (go_at_call 21; refine (roots_any _ (ls.drop k) _ wr (H2.out.below hb) (by rw [List.length_drop]; omega) (fun b hb' => HW.out b (List.mem_of_mem_drop hb')) (HG.out.below hb)).mono ?_; rintro e w5 ⟨rfl, hb5⟩); exact hK _ _ (by rw [HR2.out]) hb5)
          | (show wpList _ _ _ [⟨some 24, .call _, _, _, _, _⟩] _ _; go_wp2_with (go_at_call 56; refine (cpair_any R1 R2 wr).mono ?_; rintro e w5 ⟨⟨v5, rfl, hv5⟩, hb5⟩); exact hK _ _ hv5 hb5)
          | (go_wp2_with fail; exact hK _ _ rfl (Below.refl _ _)))
      trivial
    case mfin =>
      intro z w9 hb9 hR9
      have x8 := hR9 8 (by decide)
      simp only [List.getD_cons_zero, List.getD_cons_succ] at x8
      have HX := Lib.hid x8
      clear hR9 x8
      simp only [List.drop_succ_cons, List.drop_zero]
      generalize List.toArray _ = L0
      simp only [List.take_succ_cons, List.take_zero, List.map_cons, List.map_nil, fill, Act.put, List.setIfInBounds_toArray, List.set_cons_succ, List.set_cons_zero]
      go_wp2_with fail
      go_ret
      exact ⟨⟨_, rfl, HX.out⟩, hb9⟩
end Go.Proofs.YtnbnjoejmepkjaaDoor

/-! GreatC: The walk of law 7's great: are lists more than are looked at? Condition: the list can be read. -/
namespace Go.Proofs.YtnbnjoejmepkjaaDoor
open Go.RowKit

def gN (ls : List (List UInt8)) (k : Nat) : Nat := ((ls.take k).map fun l => 1 + l.length / 50).sum
def greatB (ls : List (List UInt8)) : Bool := decide (40 < gN ls ls.length)
theorem gN_succ (ls : List (List UInt8)) (k : Nat) (l : List UInt8) (h : ls[k]? = some l) : gN ls (k + 1) = gN ls k + (1 + l.length / 50) := by
  unfold gN
  rw [List.take_add_one, h]
  simp
theorem gN_le (ls : List (List UInt8)) (k : Nat) : gN ls k ≤ gN ls ls.length := by
  unfold gN
  rw [List.take_length]
  induction ls generalizing k with
  | nil => simp
  | cons l ls ih =>
    cases k with
    | zero => simp
    | succ k =>
      have := ih k
      simp only [List.take_succ_cons, List.map_cons, List.sum_cons]
      omega
theorem gN_mem {ls : List (List UInt8)} {l : List UInt8} (h : l ∈ ls) : ls.length + l.length / 50 ≤ gN ls ls.length := by
  unfold gN
  rw [List.take_length]
  induction ls with
  | nil => cases h
  | cons x ls ih =>
    simp only [List.length_cons, List.map_cons, List.sum_cons]
    have hl : ∀ m : List (List UInt8), m.length ≤ (m.map fun l => 1 + l.length / 50).sum := fun m => by
      induction m with
      | nil => simp
      | cons y m ih => simp only [List.length_cons, List.map_cons, List.sum_cons]; omega
    cases h with
    | head => have := hl ls; omega
    | tail _ h => have := ih h; omega
theorem gN_few (ls : List (List UInt8)) : ls.length ≤ gN ls ls.length := by
  cases ls with
  | nil => simp
  | cons x ls => have := gN_mem (ls := x :: ls) (l := x) (by simp); omega
theorem not_great {ls : List (List UInt8)} (h : greatB ls = false) : ls.length ≤ 40 ∧ ∀ l ∈ ls, l.length ≤ 2050 := by
  have h1 : ¬ 40 < gN ls ls.length := by simpa [greatB] using h
  refine ⟨by have := gN_few ls; omega, fun l hl => ?_⟩
  have := gN_mem hl
  omega
end Go.Proofs.YtnbnjoejmepkjaaDoor

/-! GreatD: The walk of law 20's great: what it adds up may wrap; it answers either way, and nothing turns. Condition: the lists can be read. -/
namespace Go.Proofs.YtnbnjoejmepkjaaDoor
open Go.RowKit

/-- A Boolean is handed back. -/
def AnyB (e : Ending) : Prop := ∃ r, e = .returned (.bool r)
set_option maxRecDepth 100000 in
set_option maxHeartbeats 800000 in
theorem great20_some (va vb vl : Value) (a b : List (List UInt8)) (xs ys : List Value) (P : List H) (w : World) (ha : Parts w va a xs) (hb : Parts w vb b ys) (hs : Hs w vl P) (hla : a.length ≤ 4611686018427387904) (hlb : b.length ≤ 4611686018427387904) :
    Calls Tryd.prog 9 #[va, vb, vl] w fun e w' => AnyB e ∧ w' = w := by
  obtain ⟨xa, ca, rfl, _⟩ := ha.sl.form
  obtain ⟨xb, cb, rfl, _⟩ := hb.sl.form
  obtain ⟨xl, cl, rfl, _⟩ := hs.form
  have HA := Lib.hid ha
  have HB := Lib.hid hb
  clear ha hb hs
  go_enter Tryd.func9, Tryd.ntmps9
  go_wp2_with fail
  go_loopw [7, 8] (fun n i wr => ∃ (k : Nat) (z : Int), k ≤ a.length ∧ i = .int .i64 k ∧ n = .int .i64 z ∧ wr = w) (fun _ i _ => a.length - (intOf i).toNat)
  case atStart => exact ⟨0, _, by omega, rfl, rfl, rfl⟩
  case round =>
    obtain ⟨k, z, hk, rfl, rfl, rfl⟩ := hrel
    by_cases hlt : k < a.length
    · obtain ⟨b1, o1, x, s, rfl, _, c1, _, hs, hbs⟩ := HA.out.at hlt
      obtain ⟨q1, q2, rfl, _⟩ := hbs.form
      have i1 : (0 : Int) ≤ k ∧ (k : Int) < a.length := ⟨by omega, by omega⟩
      have hlt' : (k : Int) < a.length := by omega
      clear hs hbs
      go_wp2_with fail
      exact ⟨⟨k + 1, _, by omega, by go_num, rfl, by trivial⟩, by simp [intOf]; omega⟩
    · have hlt' : ¬ (k : Int) < a.length := by omega
      go_wp2_with fail
      go_loopw [7, 9] (fun n i wq => ∃ (k : Nat) (z : Int), k ≤ b.length ∧ i = .int .i64 k ∧ n = .int .i64 z ∧ wq = wr) (fun _ i _ => b.length - (intOf i).toNat)
      case atStart => exact ⟨0, _, by omega, rfl, rfl, rfl⟩
      case round =>
        obtain ⟨k2, z2, hk2, rfl, rfl, rfl⟩ := hrel
        by_cases hlt2 : k2 < b.length
        · obtain ⟨b1, o1, x, s, rfl, _, c1, _, hs, hbs⟩ := HB.out.at hlt2
          obtain ⟨q1, q2, rfl, _⟩ := hbs.form
          have i1 : (0 : Int) ≤ k2 ∧ (k2 : Int) < b.length := ⟨by omega, by omega⟩
          have hlt2' : (k2 : Int) < b.length := by omega
          clear hs hbs
          go_wp2_with fail
          exact ⟨⟨k2 + 1, _, by omega, by go_num, rfl, by trivial⟩, by simp [intOf]; omega⟩
        · have hlt2' : ¬ (k2 : Int) < b.length := by omega
          go_wp2_with fail
          go_ret
          exact ⟨⟨_, rfl⟩, rfl⟩
end Go.Proofs.YtnbnjoejmepkjaaDoor
