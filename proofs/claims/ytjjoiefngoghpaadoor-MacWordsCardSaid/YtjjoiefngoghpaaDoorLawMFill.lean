/- The law MacFilled, walked: true, and nothing that was there has turned. Conditions: key and text can be read; the package's tables read as they are laid. -/
import Derived.Test.YtjjoiefngoghpaaDoorAlive2
import Derived.Test.YtjjoiefngoghpaaDoorTagAt
namespace Go.Proofs.YtjjoiefngoghpaaDoor
open Go.RowKit

set_option maxRecDepth 100000 in
set_option maxHeartbeats 400000 in
theorem mfill_out (va vb : Value) (a b : List UInt8) (w : World) (ha : Bytes w va a) (hb : Bytes w vb b) (hg : Glob w) (hl : ¬ (a.length ≤ 64 ∧ b.length ≤ 300)) :
    Calls Tryd.prog 14 #[va, vb] w fun e w' => e = .returned (.bool true) ∧ Below w.heap.size w w' := by
  obtain ⟨xa, ca, rfl, _⟩ := ha.form
  obtain ⟨xb, cb, rfl, _⟩ := hb.form
  have HG := Lib.hid hg
  clear hg ha hb
  by_cases h1 : a.length ≤ 64
  · have h3 : ¬ b.length ≤ 300 := fun h => hl ⟨h1, h⟩
    clear hl
    go_enter Tryd.func14, Tryd.ntmps14
    go_wp2_with (go_at_call 25; refine (alive2_any w HG.out).mono ?_; rintro e w1 ⟨rfl, hb1⟩)
    go_ret
    exact ⟨rfl, hb1⟩
  · clear hl
    go_enter Tryd.func14, Tryd.ntmps14
    go_wp2_with (go_at_call 25; refine (alive2_any w HG.out).mono ?_; rintro e w1 ⟨rfl, hb1⟩)
    go_ret
    exact ⟨rfl, hb1⟩

def filledN (k : List UInt8) : List UInt8 := k ++ List.replicate (64 - k.length) 0
theorem filledN_len (k : List UInt8) (h : k.length ≤ 64) : (filledN k).length = 64 := by simp [filledN]; omega
def z64 : List Value := [.int .u8 0, .int .u8 0, .int .u8 0, .int .u8 0, .int .u8 0, .int .u8 0, .int .u8 0, .int .u8 0, .int .u8 0, .int .u8 0, .int .u8 0, .int .u8 0, .int .u8 0, .int .u8 0, .int .u8 0, .int .u8 0, .int .u8 0, .int .u8 0, .int .u8 0, .int .u8 0, .int .u8 0, .int .u8 0, .int .u8 0, .int .u8 0, .int .u8 0, .int .u8 0, .int .u8 0, .int .u8 0, .int .u8 0, .int .u8 0, .int .u8 0, .int .u8 0, .int .u8 0, .int .u8 0, .int .u8 0, .int .u8 0, .int .u8 0, .int .u8 0, .int .u8 0, .int .u8 0, .int .u8 0, .int .u8 0, .int .u8 0, .int .u8 0, .int .u8 0, .int .u8 0, .int .u8 0, .int .u8 0, .int .u8 0, .int .u8 0, .int .u8 0, .int .u8 0, .int .u8 0, .int .u8 0, .int .u8 0, .int .u8 0, .int .u8 0, .int .u8 0, .int .u8 0, .int .u8 0, .int .u8 0, .int .u8 0, .int .u8 0, .int .u8 0]
theorem z64_eq : z64 = bytesV (zerosB 64) := by kernel_rfl
theorem filledN_splice (k : List UInt8) : splice z64 0 (bytesV k) = bytesV (filledN k) := by
  rw [z64_eq]
  unfold splice filledN zerosB
  rw [List.take_zero, List.nil_append, bytesV_len, Nat.zero_add, bytesV_app]
  congr 1
  unfold bytesV
  rw [← List.map_drop, List.drop_replicate]
theorem src_of {w : World} {xa : Option Addr} {ca : Nat} {k : List UInt8} (h : Bytes w (.slice xa k.length ca) k) (D : Addr) : 0 < (bytesV k).length → some D = some D ∧ ∃ ad, xa = some ad ∧ ∀ j v, (bytesV k)[j]? = some v → w.cell? (ad.add j) = some v := by
  intro hpos
  refine ⟨rfl, ?_⟩
  rw [bytesV_len] at hpos
  rcases h.2.2 with ⟨_, hl⟩ | ⟨ad, cap, e, _, hr⟩
  · omega
  · cases e
    exact ⟨ad, rfl, hr⟩
theorem row_bytes {w : World} {b : Nat} {e : TypeId} {l m : List UInt8} (h : Blk w b (bytesV l) e) (cap : Nat) (hc : m.length ≤ cap) (hm : ∃ r, l = m ++ r) : Bytes w (.slice (some ⟨b, 0, none⟩) m.length cap) m := by
  obtain ⟨r, rfl⟩ := hm
  refine IsSl.of_range (by rw [bytesV_len, Nat.mul_one]) (bytesV_one _) hc (fun i u hi => ?_)
  rw [Nat.zero_add]
  refine h.cell ?_
  rw [bytesV_app]
  exact (List.getElem?_append_left (List.getElem?_eq_some_iff.1 hi).1).trans hi

set_option maxRecDepth 100000 in
set_option maxHeartbeats 2000000 in
theorem mfill_in (vk va : Value) (k t : List UInt8) (w : World) (hk : Bytes w vk k) (ha : Bytes w va t) (hg : Glob w) (h1 : k.length ≤ 64) (h2 : t.length ≤ 300) :
    Calls Tryd.prog 14 #[vk, va] w fun e w' => e = .returned (.bool true) ∧ Below w.heap.size w w' := by
  obtain ⟨xk, ck, rfl, _⟩ := hk.form
  obtain ⟨xa, ca, rfl, _⟩ := ha.form
  have HG := Lib.hid hg
  have HK := Lib.hid hk
  have HA := Lib.hid ha
  clear hg hk ha
  go_enter Tryd.func14, Tryd.ntmps14
  go_wp2_with (first
    | (go_at_call 25; refine (alive2_any w HG.out).mono ?_; rintro e w1 ⟨rfl, hb1⟩; have hs1 := hb1.size)
    | (refine wpList_copy_splice rfl (.tmp 16) (.tmp 17) 24 24 rfl 5 Tryd.underlying24 (by kernel_rfl) (some ⟨w1.heap.size, 0, none⟩) xk 64 64 k.length ck rfl rfl
        w1.heap.size 0 z64 57 (by exact Blk.newL w1 z64 _) (bytesV k) (by rw [bytesV_len]; exact (Nat.min_eq_left h1).symm) (by exact src_of (HK.out.below (hb1.alloc hs1 _)) _) (by rw [bytesV_len, z64_eq, bytesV_len, zerosB_len]; omega) (bytesV_one _) w1.heap.size w1 (by (repeat (first | with_reducible assumption | with_reducible exact Below.refl _ _ | ((with_reducible refine Below.setCell ?_ ?_ _); rotate_left; focus (first | omega | (simp; done) | (simp; omega))) | ((with_reducible refine Below.alloc ?_ ?_ _); rotate_left; focus (first | omega | (simp; done) | (simp; omega))) | ((with_reducible refine below_setRow ?_ ?_ _); rotate_left; focus (first | omega | (simp; done) | (simp; omega))) | (with_reducible refine below_drewN ?_ _) | (with_reducible refine Below.drew ?_)))) (Nat.le_refl _) ?_; intro w2 hB2 hb2)
    | fail)
  rw [filledN_splice k] at hB2
  have hw2 := hb1.trans (hb2.mono hs1)
  obtain ⟨F, hF⟩ : ∃ F, F = filledN k := ⟨_, rfl⟩
  have hFL : F.length = 64 := by rw [hF, filledN_len k h1]
  have hFK : ∃ r, F = k ++ r := ⟨_, by rw [hF]; rfl⟩
  have HTF := Lib.hid (show tagN F t = tagN k t by rw [hF]; exact tagN_filled k t h1)
  rw [← hF] at hB2
  obtain ⟨T, hT⟩ : ∃ T, T = tagN k t := ⟨_, rfl⟩
  have HTL := Lib.hid (show T.length = 32 by rw [hT, tagN_len])
  have HT := Lib.hid hT
  have hee := fun w => eq_hash_same w T HTL.out
  have HB2 := Lib.hid (show Blk w2 w1.heap.size (bytesV F) 57 from hB2.out)
  have HFL := Lib.hid hFL
  have HFK := Lib.hid hFK
  have HK2 := Lib.hid (HK.out.below hw2)
  have HA2 := Lib.hid (HA.out.below hw2)
  have HG2 := Lib.hid (HG.out.below hw2)
  have HC1 := Lib.hid (show cat [t] = t by simp [cat])
  clear hB2 hb1 hb2 hs1 hFL hFK hT hF
  have hlt2 := HB2.out.lt
  refine wp_region_mono 22 (w2.heap.size) [(fun v _ => v = .slice xk k.length ck), (fun v _ => v = .slice xa t.length ca), (fun v w => Parts w v [t] [.slice xa t.length ca]), (fun v _ => v = .agg (bytesV T).toArray),
    (fun v _ => v = .slice (some ⟨w1.heap.size, 0, none⟩) 64 64), (fun v _ => v = .slice xa t.length ca), (fun v w => Parts w v [t] [.slice xa t.length ca]), (fun v _ => v = .agg (bytesV T).toArray), (fun v _ => v = .bool true), (fun v _ => v = .bool true),
    (fun v _ => v = .slice xk k.length ck), (fun v _ => v = .slice xa t.length ca), (fun v w => Parts w v [t] [.slice xa t.length ca]), (fun v _ => v = .agg (bytesV T).toArray),
    (fun v _ => v = .slice xk k.length ck), (fun v _ => v = .int .i64 k.length), (fun v _ => v = .slice (some ⟨w1.heap.size, 0, none⟩) k.length 64), (fun v _ => v = .slice xa t.length ca), (fun v w => Parts w v [t] [.slice xa t.length ca]), (fun v _ => v = .agg (bytesV T).toArray), (fun v _ => v = .bool true), (fun v _ => v = .bool true)] (by kernel_rfl) (by kernel_rfl) (Nat.le_refl _) ?mkept _ rfl ?mops ?mfin
  case mkept =>
    repeat (refine List.forall_mem_cons.2 ⟨by first | exact fun _ _ _ _ h => h | exact fun _ _ _ hb h => Parts.below h hb | exact fun _ _ _ hb h => IsSl.below h hb, ?_⟩)
    exact fun _ h => by cases h
  case mops =>
    simp only [List.take_succ_cons, List.take_zero, monoAll, List.getD_cons_zero, List.getD_cons_succ]
    iterate 22
    
     (refine ⟨fun x wr hb hd Qg hK => ?_, ?_⟩
      · as_aux_lemma =>
        simp only [fill, Act.put, List.setIfInBounds_toArray, List.set_cons_succ, List.set_cons_zero, needs, Region.binds, List.filter_cons, List.filter_nil, List.map_cons, List.map_nil, if_true, List.mem_cons, List.not_mem_nil, or_false, forall_eq_or_imp, forall_eq, List.getD_cons_zero, List.getD_cons_succ, false_implies, implies_true] at hd hK ⊢
        (try simp only [hd] at hK ⊢)
        first
        | (show wpList _ _ _ [⟨some _, .buildSlice _ _ _, _, _, _, _⟩] _ _; go_wp2_with fail; exact hK _ _ ((Texts.cons (HA2.out.below hb) .nil).parts 24 rfl) ((Below.refl _ _).alloc (Nat.le_refl _) _))
        | (show wpList _ _ _ [⟨some 22, .call _, _, _, _, _⟩] _ _; go_wp2_with (go_at_call 27; refine (tag_any _ (x 2) k [t] [.slice xa t.length ca] wr (HK2.out.below hb) (by simp only [hd]) (by omega) (by rw [HC1.out]; omega) (by show 1 ≤ _; decide) (HG2.out.below hb)).mono ?_; rintro e w5 ⟨rfl, hb5⟩); exact hK _ _ (by rw [HC1.out, HT.out]) hb5)
        | (show wpList _ _ _ [⟨some 26, .call _, _, _, _, _⟩] _ _; go_wp2_with (go_at_call 27; refine (tag_any _ (x 6) F [t] [.slice xa t.length ca] wr (by have := row_bytes (HB2.out.below hb hlt2) 64 (by have := HFL.out; omega) ⟨[], (List.append_nil F).symm⟩; rw [HFL.out] at this; exact this) (by simp only [hd]) (by rw [HFL.out]; decide) (by rw [HC1.out]; omega) (by show 1 ≤ _; decide) (HG2.out.below hb)).mono ?_; rintro e w5 ⟨rfl, hb5⟩); exact hK _ _ (by rw [HC1.out, HT.out, HTF.out]) hb5)
        | (show wpList _ _ _ [⟨some 32, .call _, _, _, _, _⟩] _ _; go_wp2_with (go_at_call 27; refine (tag_any _ (x 12) k [t] [.slice xa t.length ca] wr (HK2.out.below hb) (by simp only [hd]) (by omega) (by rw [HC1.out]; omega) (by show 1 ≤ _; decide) (HG2.out.below hb)).mono ?_; rintro e w5 ⟨rfl, hb5⟩); exact hK _ _ (by rw [HC1.out, HT.out]) hb5)
        | (show wpList _ _ _ [⟨some 38, .call _, _, _, _, _⟩] _ _; go_wp2_with (go_at_call 27; refine (tag_any _ (x 18) k [t] [.slice xa t.length ca] wr (row_bytes (HB2.out.below hb hlt2) 64 h1 HFK.out) (by simp only [hd]) (by omega) (by rw [HC1.out]; omega) (by show 1 ≤ _; decide) (HG2.out.below hb)).mono ?_; rintro e w5 ⟨rfl, hb5⟩); exact hK _ _ (by rw [HC1.out, HT.out]) hb5)
        | (show wpList _ _ _ [⟨some 39, .call _, _, _, _, _⟩] _ _; go_wp2_with (go_at_call 29; refine (equal_any T T wr HTL.out HTL.out).mono ?_; rintro e w5 ⟨rfl, hb5⟩); exact hK _ _ (by simp) hb5)
        | (go_wp2_with fail; exact hK _ _ rfl (Below.refl _ _)))
    trivial
  case mfin =>
    intro x w3 hb3 hR
    have x21 := hR 21 (by decide)
    simp only [List.getD_cons_zero, List.getD_cons_succ] at x21
    have hw3 := hw2.trans (hb3.mono hw2.size)
    clear hR hb3 hw2
    simp only [List.drop_succ_cons, List.drop_zero]
    generalize List.toArray _ = L0
    simp only [List.take_succ_cons, List.take_zero, List.map_cons, List.map_nil, fill, Act.put, List.setIfInBounds_toArray, List.set_cons_succ, List.set_cons_zero, x21]
    go_wp2_with fail
    go_ret
    exact ⟨rfl, hw3⟩
end Go.Proofs.YtjjoiefngoghpaaDoor
