/- The walk of sha.Hex: a digest's digits. Condition: 32 bytes; the package's tables read as they are laid. -/
import Derived.Test.YtkfplliipogagaaDoorShaG
namespace Go.Proofs.YtkfplliipogagaaDoor
open Go.RowKit

def digT : List UInt8 := [48, 49, 50, 51, 52, 53, 54, 55, 56, 57, 97, 98, 99, 100, 101, 102]
def dgt (n : Nat) : UInt8 := digT[n]?.getD 0
def hexP (l : List UInt8) : List UInt8 := l.flatMap fun c => [dgt (c.toNat / 16), dgt (c.toNat % 16)]
def hash32 (l : List UInt8) : Value := .agg (bytesV l).toArray

theorem Glob.dat {w : World} (h : Glob w) (t : Nat) (ht : t < 16) : w.cell? ⟨1, t, none⟩ = some (.int .u8 ((dgt t).toNat : Int)) := by
  have e : dvals = bytesV digT := rfl
  have h2 := h.d
  rw [e] at h2
  have := h2 t (.int .u8 ((dgt t).toNat : Int)) (bytesV_at digT t (dgt t) (by
    have : t < digT.length := ht
    simp [dgt, this]))
  simpa using this
theorem byte_and15 (c : UInt8) : bits .and .u8 (c.toNat : Int) 15 = ((c.toNat % 16 : Nat) : Int) := by
  have : ∀ c : Fin 256, bits .and .u8 (c.val : Int) 15 = ((c.val % 16 : Nat) : Int) := by decide +kernel
  exact this ⟨c.toNat, c.toNat_lt⟩

def hexRel (l : List UInt8) (w : World) (v i : Value) (wr : World) : Prop :=
  ∃ (k : Nat) (a : Option Addr) (cap : Nat), k ≤ 32 ∧ i = .int .i64 k ∧ v = .slice a (2 * k) cap ∧
    wr.ownsRow w.heap.size 5 1 (.slice a (2 * k) cap) (2 * k) (bytesV (hexP (l.take k))) ∧ Below w.heap.size w wr

theorem hash_info (l : List UInt8) (hl : l.length = 32) : (Tryd.prog.info? 24).map (·.size) = some (bytesV l).toArray.size := by
  rw [List.size_toArray, bytesV_len, hl]
  kernel_rfl

set_option maxRecDepth 100000 in
set_option maxHeartbeats 400000 in
theorem hex_any (l : List UInt8) (hl : l.length = 32) (w : World) (hg : Glob w) :
    Calls Tryd.prog 46 #[hash32 l] w fun e w' => e = .returned (.string ⟨(hexP l).toArray⟩) ∧ Below w.heap.size w w' := by
  obtain ⟨i0, hi, hz0, hz1, hz2⟩ := info_parts info_u8
  have HG := Lib.hid hg
  have HL := Lib.hid hl
  clear hg hl
  unfold hash32
  go_enter Tryd.func46, Tryd.ntmps46
  go_wp2_with (refine wpList_load_row rfl 24 (.tmp 1) rfl w.heap.size rfl 24 (bytesV l).toArray (0, 0) _ (by exact Blk.newL w (bytesV l) _) Tryd.underlying24 rfl (by exact hash_info l HL.out) ?_)
  go_loopw [3, 7] (fun v i wr => hexRel l w v i wr) (fun _ i _ => 32 - (intOf i).toNat)
  case atStart => exact ⟨0, none, 0, by omega, rfl, rfl, World.ownsRow_nil _ _ _ _, by (repeat (first | with_reducible assumption | with_reducible exact Below.refl _ _ | ((with_reducible refine Below.setCell ?_ ?_ _); rotate_left; focus (first | omega | (simp; done) | (simp; omega))) | ((with_reducible refine Below.alloc ?_ ?_ _); rotate_left; focus (first | omega | (simp; done) | (simp; omega))) | ((with_reducible refine below_setRow ?_ ?_ _); rotate_left; focus (first | omega | (simp; done) | (simp; omega))) | (with_reducible refine below_drewN ?_ _) | (with_reducible refine Below.drew ?_)))⟩
  case round =>
    obtain ⟨k, a, cap, hk, rfl, rfl, hown, hb⟩ := hrel
    have HO := Lib.hid hown
    clear hown
    by_cases h32 : k < 32
    · have hkl : k < l.length := by rw [HL.out]; exact h32
      have hix : ∀ w', (Instr.index 24 (.agg (bytesV l).toArray) (.int .i64 (k : Int))).run Tryd.prog w' = .ok (.int .u8 (l[k].toNat : Int)) w' := fun w' =>
        run_index_arr _ _ 32 _ Tryd.underlying24 Tryd.underlying5 rfl (by kernel_rfl) _ k h32 _ (by rw [List.getElem?_toArray]; exact bytesV_at l k _ (List.getElem?_eq_getElem hkl)) w'
      have hc := l[k].toNat_lt
      have hand := byte_and15 l[k]
      have hG := HG.out.below hb
      have d0 : wr.cell? ⟨1, l[k].toNat / 16, none⟩ = some (.int .u8 ((dgt (l[k].toNat / 16)).toNat : Int)) := hG.dat _ (by omega)
      have d1 : wr.cell? ⟨1, l[k].toNat % 16, none⟩ = some (.int .u8 ((dgt (l[k].toNat % 16)).toNat : Int)) := hG.dat _ (by omega)
      have hsn : hexP (l.take (k + 1)) = hexP (l.take k) ++ [dgt (l[k].toNat / 16), dgt (l[k].toNat % 16)] := by
        rw [List.take_add_one, List.getElem?_eq_getElem hkl]
        unfold hexP
        rw [Option.toList_some, List.flatMap_append]
        rfl
      have HS := Lib.hid hsn
      have hs2 := hb.size
      clear hG hsn
      generalize l[k].toNat = cn at *
      go_wp2_with fail
      (refine wp_region_moves_tail 9 [0] [1, 2, 3, 4, 5, 6, 7, 8] (by kernel_rfl) (by kernel_rfl) (fun _ _ _ d _ h => by cases d <;> exact h) _ rfl ?_; simp only [List.drop_succ_cons, List.drop_zero, List.cons_append, List.nil_append, List.map_cons, List.map_nil, List.getD_cons_succ, List.getD_cons_zero]; (repeat (go_big_quiet_step (fail))); refine wpQuiet_nil ?_; intro _ hw'; obtain ⟨nq, hw''⟩ := hw'; subst hw'')
      go_wp2_with (at_builtin; refine wpList_app rfl (.tmp 10) (.tmp 19) 22 rfl w.heap.size 5 i0 (.int .u8 0) 1 1 Tryd.underlying22 hi hz0 hz1 hz2 rfl (by decide) (.slice a (2 * k) cap) _ _ rfl (by exact HO.out.alloc _) _ 2 [.int .u8 ((dgt (cn / 16)).toNat : Int), .int .u8 ((dgt (cn % 16)).toNat : Int)] rfl (by exact isSl_new _ _ _ _ _ rfl (by simp [Value.oneCell'])) (by unfold maxLen; omega) (by omega) (by simp; omega) ?_; intro a' cap' w1 hown' hgrow _)
      refine ⟨⟨k + 1, a', cap', by omega, by go_num, by rw [show 2 * (k + 1) = 2 * k + 2 by omega], ?_, ((below_drewN hb nq).alloc (by simp; omega) _).grown hgrow (by simp; omega) (fun k hk => (HO.out.lt k hk).1)⟩, by simp [intOf]; omega⟩
      rw [HS.out, bytesV_app, show 2 * (k + 1) = 2 * k + 2 by omega]
      exact hown'
    · obtain rfl : k = 32 := by omega
      obtain ⟨b, off, c, e, _, hr, _⟩ := (ownsRow_isSl HO.out (bytesV_one _)).pos (by omega) (by decide)
      cases e
      rw [List.take_of_length_le (by rw [HL.out]; omega)] at hr
      have hlen : (hexP l).length = 64 := by have := HO.out.1; rw [bytesV_len, List.take_of_length_le (by rw [HL.out]; omega)] at this; omega
      have hcv := run_convert_bytes_back (P := Tryd.prog) wr 22 9 5 ⟨b, off, none⟩ cap (hexP l) Tryd.underlying22 Tryd.underlying5 Tryd.underlying9 (fun j hj => by
        rw [Addr.add_mid]
        exact hr j _ (bytesV_at _ _ _ (List.getElem?_eq_getElem hj)))
      rw [hlen] at hcv
      clear hr
      have HLN := Lib.hid hlen
      clear hlen
      go_wp2_with fail
      go_ret
      exact ⟨rfl, hb⟩
end Go.Proofs.YtkfplliipogagaaDoor
