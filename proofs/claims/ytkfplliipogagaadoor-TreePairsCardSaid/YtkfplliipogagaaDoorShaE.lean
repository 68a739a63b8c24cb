/- The walks of slices.Grow (of nil) and slices.Concat, at byte slices. Conditions: the parts can be read; their lengths add up to less than 2^47. -/
import Derived.Test.YtkfplliipogagaaDoorShaD
namespace Go.Proofs.YtkfplliipogagaaDoor
open Go.RowKit

set_option maxRecDepth 100000 in
set_option maxHeartbeats 400000 in
theorem grow_nil (n : Int) (w : World) (h0 : 0 ≤ n) (hn : n ≤ 140737488355328) :
    Calls Tryd.prog 67 #[.slice none 0 0, .int .i64 n] w fun e w' => (∃ a cap, e = .returned (.slice a 0 cap) ∧ w'.ownsRow w.heap.size 5 1 (.slice a 0 cap) 0 []) ∧ Below w.heap.size w w' := by
  obtain ⟨i0, hi, hz0, hz1, hz2⟩ := info_parts info_u8
  obtain ⟨n, rfl⟩ := Int.eq_ofNat_of_zero_le h0
  by_cases hn0 : n = 0
  · subst hn0
    go_enter Tryd.func67, Tryd.ntmps67
    go_wp2_with fail
    go_ret
    exact ⟨⟨none, 0, rfl, World.ownsRow_nil _ _ _ _⟩, Below.refl _ _⟩
  · have hpos : 0 < n := by omega
    have hap := fun w => run_append_nil_zeros (P := Tryd.prog) w 22 3 22 5 .i64 i0 _ Tryd.underlying22 Tryd.underlying3 hi hz0 n hpos (by omega) (by rw [hz2]; omega) (by omega)
    have HA := Lib.hid hap
    clear hap
    go_enter Tryd.func67, Tryd.ntmps67
    go_wp2_with (at_builtin; refine wpList_append_run rfl (.tmp 20) (.tmp 21) 22 3 rfl _ _ _ _ rfl rfl (by exact HA.out w) ?_)
    go_ret
    have hge := grownCap_ge w n 0 5
    refine ⟨⟨_, _, rfl, (World.ownsRow_made w _ _ (Nat.le_refl _) (grownCap_le_maxLen w n 0 5 (by unfold maxLen; omega)) ?_).drew⟩, by (repeat (first | with_reducible assumption | with_reducible exact Below.refl _ _ | ((with_reducible refine Below.setCell ?_ ?_ _); rotate_left; focus (first | omega | (simp; done) | (simp; omega))) | ((with_reducible refine Below.alloc ?_ ?_ _); rotate_left; focus (first | omega | (simp; done) | (simp; omega))) | ((with_reducible refine below_setRow ?_ ?_ _); rotate_left; focus (first | omega | (simp; done) | (simp; omega))) | (with_reducible refine below_drewN ?_ _) | (with_reducible refine Below.drew ?_)))⟩
    rw [Array.size_append, size_zeroCells, size_zeroCells]
    simp
    omega

/-- The first k of some texts, one behind the other. -/
def pre (ls : List (List UInt8)) (k : Nat) : List UInt8 := (ls.take k).flatten
/-- All of them. -/
def cat (ls : List (List UInt8)) : List UInt8 := ls.flatten
theorem pre_0 (ls : List (List UInt8)) : pre ls 0 = [] := rfl
theorem pre_all (ls : List (List UInt8)) : pre ls ls.length = cat ls := by simp [pre, cat]
theorem pre_succ (ls : List (List UInt8)) (k : Nat) (l : List UInt8) (h : ls[k]? = some l) : pre ls (k + 1) = pre ls k ++ l := by
  unfold pre
  rw [List.take_add_one, h]
  simp
theorem pre_le (ls : List (List UInt8)) (k : Nat) : (pre ls k).length ≤ (cat ls).length := by
  have : ls.flatten = (ls.take k).flatten ++ (ls.drop k).flatten := by rw [← List.flatten_append, List.take_append_drop]
  unfold pre cat
  rw [this, List.length_append]
  omega

def concRel1 (ls : List (List UInt8)) (s i : Value) : Prop :=
  ∃ k : Nat, k ≤ ls.length ∧ i = .int .i64 k ∧ s = .int .i64 ((pre ls k).length : Int)
def concRel2 (ls : List (List UInt8)) (w : World) (v i : Value) (wr : World) : Prop :=
  ∃ (k : Nat) (a : Option Addr) (cap : Nat), k ≤ ls.length ∧ i = .int .i64 k ∧ v = .slice a (pre ls k).length cap ∧
    wr.ownsRow w.heap.size 5 1 (.slice a (pre ls k).length cap) (pre ls k).length (bytesV (pre ls k)) ∧ Below w.heap.size w wr

set_option maxRecDepth 100000 in
set_option maxHeartbeats 400000 in
theorem concat_any (v : Value) (ls : List (List UInt8)) (vs : List Value) (w : World) (hp : Parts w v ls vs) (hsz : (cat ls).length ≤ 140737488355328) (hln : ls.length ≤ 140737488355328) :
    Calls Tryd.prog 52 #[v] w fun e w' => (∃ a cap, e = .returned (.slice a (cat ls).length cap) ∧ w'.ownsRow w.heap.size 5 1 (.slice a (cat ls).length cap) (cat ls).length (bytesV (cat ls))) ∧ Below w.heap.size w w' := by
  obtain ⟨i0, hi, hz0, hz1, hz2⟩ := info_parts info_u8
  obtain ⟨a, cap, rfl, hcap⟩ := hp.sl.form
  have HP := Lib.hid hp
  clear hp
  have hbase : 0 < ls.length → ∃ b off, a = some ⟨b, off, none⟩ ∧ w.rangeAt b off vs ∧ b < w.heap.size := by
    intro h
    obtain ⟨b, off, c, e, _, hr, hb⟩ := HP.out.sl.pos h (by decide)
    cases e
    exact ⟨b, off, rfl, hr, hb⟩
  have HB := Lib.hid hbase
  clear hbase
  go_enter Tryd.func52, Tryd.ntmps52
  go_wp2_with fail
  go_loop [3, 11] (fun s i => concRel1 ls s i) (fun _ i => ls.length - (intOf i).toNat)
  case atStart => exact ⟨0, by omega, rfl, rfl⟩
  case round =>
    obtain ⟨k, hk, rfl, rfl⟩ := hrel
    have hpl := pre_le ls k
    by_cases hlt : k < ls.length
    · obtain ⟨b, off, rfl, hr, hb⟩ := HB.out (by omega)
      have hkv : k < vs.length := by rw [HP.out.len]; exact hlt
      obtain ⟨ak, ck, hvk, hck⟩ := (HP.out.each k _ _ (List.getElem?_eq_getElem hkv) (List.getElem?_eq_getElem hlt)).form
      have hcell : w.cell? ⟨b, off + k, none⟩ = some (.slice ak (ls[k]).length ck) := by rw [← hvk]; exact hr k _ (List.getElem?_eq_getElem hkv)
      have hs := pre_succ ls k _ (List.getElem?_eq_getElem hlt)
      have hpl2 := pre_le ls (k + 1)
      have hsl : (pre ls (k + 1)).length = (pre ls k).length + (ls[k]).length := by rw [hs, List.length_append]
      have hpl3 : (pre ls k).length + (ls[k]).length ≤ (cat ls).length := by omega
      have HS := Lib.hid hsl
      clear hs hvk hr hsl hpl2
      go_wp2_with fail
      go_round
      case rel => exact ⟨k + 1, by omega, by go_num, by rw [HS.out]; go_num⟩
      case measure => simp [intOf]; omega
    · obtain rfl : k = ls.length := by omega
      go_wp2_with (go_at_call 67; refine (grow_nil _ _ (by omega) (by omega)).mono ?_; rintro e w1 ⟨⟨a1, cap1, rfl, hown⟩, hb1⟩)
      have HO1 := Lib.hid hown
      clear hown
      clear hlt hpl
      go_loopw [6, 27] (fun v i wr => concRel2 ls w v i wr) (fun _ i _ => ls.length - (intOf i).toNat)
      case atStart => exact ⟨0, a1, cap1, by omega, rfl, rfl, HO1.out, hb1⟩
      case round =>
        clear HO1 hb1
        obtain ⟨k, a2, cap2, hk, rfl, rfl, hown, hb2⟩ := hrel
        have HO := Lib.hid hown
        clear hown
        by_cases hlt : k < ls.length
        · obtain ⟨b, off, rfl, hr, hb⟩ := HB.out (by omega)
          have hkv : k < vs.length := by rw [HP.out.len]; exact hlt
          have hsl := HP.out.each k _ _ (List.getElem?_eq_getElem hkv) (List.getElem?_eq_getElem hlt)
          obtain ⟨ak, ck, hvk, hck⟩ := hsl.form
          have hcell : wr.cell? ⟨b, off + k, none⟩ = some (.slice ak (ls[k]).length ck) := by rw [← hvk]; exact (hb2.cell (p := ⟨b, _, none⟩) hb).trans (hr k _ (List.getElem?_eq_getElem hkv))
          have hs := pre_succ ls k _ (List.getElem?_eq_getElem hlt)
          have hpl2 := pre_le ls (k + 1)
          have hsl2 : (pre ls (k + 1)).length = (pre ls k).length + (ls[k]).length := by rw [hs, List.length_append]
          have hpl3 : (pre ls k).length + (ls[k]).length ≤ (cat ls).length := by omega
          have HS := Lib.hid hsl2
          have HV := Lib.hid hs
          rw [hvk] at hsl
          have HX := Lib.hid (hsl.below hb2)
          clear hs hvk hr hsl hpl2 hsl2
          go_wp2_with (at_builtin; refine wpList_app rfl (.tmp 31) (.tmp 32) 22 rfl w.heap.size 5 i0 (.int .u8 0) 1 1 Tryd.underlying22 hi hz0 hz1 hz2 rfl (by decide) (.slice a2 (pre ls k).length cap2) _ _ rfl (by exact HO.out) (.slice ak (ls[k]).length ck) _ _ rfl (by exact HX.out) (by unfold maxLen; omega) (by omega) (by exact hb2.size) ?_; intro a' cap' w1 hown' hgrow _)
          go_roundw
          case rel => exact ⟨k + 1, a', cap', by omega, by go_num, by rw [HS.out], by rw [HS.out, HV.out, bytesV_app]; exact hown', hb2.grown hgrow hb2.size (fun k hk => (HO.out.lt k hk).1)⟩
          case measure => simp [intOf]; omega
        · obtain rfl : k = ls.length := by omega
          go_wp2_with fail
          go_ret
          exact ⟨⟨a2, cap2, by rw [pre_all]; rfl, by have := HO.out; rw [pre_all] at this; exact this⟩, hb2⟩
end Go.Proofs.YtkfplliipogagaaDoor
