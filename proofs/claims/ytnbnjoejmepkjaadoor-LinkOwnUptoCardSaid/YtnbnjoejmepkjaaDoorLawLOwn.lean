/- The law LinkOwn, walked: true, and nothing that was there has turned. Conditions: the list can be read, at most 2^20 texts of at most 2^20 bytes; the package's tables read as they are laid. -/
import Derived.Test.YtnbnjoejmepkjaaDoorAliveW
import Derived.Test.YtnbnjoejmepkjaaDoorMoreW
namespace Go.Proofs.YtnbnjoejmepkjaaDoor
open Go.RowKit

set_option maxRecDepth 100000 in
set_option maxHeartbeats 8000000 in
theorem lown_any (vb : Value) (b : List (List UInt8)) (ys : List Value) (n : Nat) (hn : n < 256) (w : World) (hb : Parts w vb b ys) (hlb : b.length ≤ 1048576) (heb : ∀ l ∈ b, l.length ≤ 1048576) (hg : Glob w) :
    Calls Tryd.prog 5 #[vb, .int .u8 n] w fun e w' => e = .returned (.bool true) ∧ Below w.heap.size w w' := by
  obtain ⟨xb, cb, rfl, _⟩ := hb.sl.form
  have hsm : ([] : List H).length + gN [] ([] : List (List UInt8)).length + gN b b.length ≤ 1152921504606846976 := by
    have h1 := gN_bulk heb hlb
    have h2 : gN [] ([] : List (List UInt8)).length = 0 := rfl
    rw [h2, List.length_nil]
    omega
  have HB := Lib.hid hb
  have HG := Lib.hid hg
  have HSM := Lib.hid hsm
  clear hb hg hsm heb
  cases hga : great20B [] b [] with
  | true =>
    have GA := Lib.hid hga
    clear hga
    go_enter Tryd.func5, Tryd.ntmps5
    go_wp2_with (first
      | (go_at_call 8; refine (alive20_any w HG.out).mono ?_; rintro e w1 ⟨rfl, hb1⟩; have hw1 := hb1; have HB1 := Lib.hid (HB.out.below hb1); clear hb1)
      | (go_at_call 9; refine (great20_any _ _ _ [] b [] ys [] w1 (Parts.nil w1) HB1.out (Hs.nil w1) HSM.out).mono ?_; rintro e w2 ⟨rfl, h2⟩; rw [h2, GA.out]; clear h2 w2)
      | fail)
    go_ret
    exact ⟨rfl, hw1⟩
  | false =>
    have GA := Lib.hid hga
    obtain ⟨_, _, sb, _, tb0⟩ := not_great20 hga
    have tb : ∀ l ∈ b, l.length ≤ 35184372088832 := fun l hl => by have := tb0 l hl; omega
    clear hga tb0 hlb
    obtain ⟨k, hx⟩ : ∃ k, k = n % (b.length + 1) := ⟨_, rfl⟩
    have hx1 : k ≤ b.length := by have := Nat.mod_lt n (show 0 < b.length + 1 by omega); omega
    have hq1 : Int.tmod (n : Int) ((b.length : Int) + 1) = (k : Int) := by rw [hx]; rfl
    have hne1 : ¬ (b.length : Int) + 1 = 0 := by omega
    obtain ⟨a1, d1, hs1, hp1⟩ := parts_head HB.out k hx1
    have HTB := Lib.hid tb
    have HTT := Lib.hid (fun l (h : l ∈ b.take k) => tb l (List.mem_of_mem_take h))
    have HP1 := Lib.hid hp1
    have lm : (b.take k).length ≤ 1099511627776 := by rw [List.length_take]; omega
    have lm2 : (b.take k).length ≤ 4000 := by rw [List.length_take]; omega
    have HLK := Lib.hid (link_own_i b k hx1)
    have HBG := Lib.hid (begins_take b k)
    obtain ⟨P, hP⟩ : ∃ P, P = subR (b.map lfH) k := ⟨_, rfl⟩
    have HPE := Lib.hid hP
    rw [← hP] at HLK
    have lP : P.length ≤ 4096 := by
      have := refprove_len (b.map lfH) k (by rw [List.length_map]; omega)
      rw [hP]; omega
    clear tb hp1 hx hP
    go_enter Tryd.func5, Tryd.ntmps5
    go_wp2_with (first
      | (go_at_call 8; refine (alive20_any w HG.out).mono ?_; rintro e w1 ⟨rfl, hb1⟩; have hw1 := hb1; have HB1 := Lib.hid (HB.out.below hb1); have HG1 := Lib.hid (HG.out.below hb1); clear hb1)
      | (go_at_call 9; have HQ := HB1; refine (great20_any _ _ _ [] b [] ys [] w1 (Parts.nil w1) HQ.out (Hs.nil w1) HSM.out).mono ?_; rintro e w2 ⟨rfl, h2⟩; rw [h2, GA.out]; clear h2 w2 HQ)
      | fail)
    have hz1 := hw1.size
    go_loopw [6, 7] (fun ov iv wr => ∃ j : Nat, iv = .int .i64 j ∧ j ≤ b.length ∧ Own wr w1.heap.size ov ((b.take j).map lfH) ∧ Below w1.heap.size w1 wr) (fun _ iv _ => b.length - (intOf iv).toNat)
    case atStart => exact ⟨0, rfl, Nat.zero_le _, Own.nil _ _, Below.refl _ _⟩
    case round =>
      obtain ⟨j, rfl, hj, hO, hb⟩ := hrel
      have HO := Lib.hid hO
      clear hO
      have hsz := hb.size
      by_cases hlt : j < b.length
      · have hlt' : (j : Int) < b.length := by omega
        obtain ⟨b1, o1, x, s, rfl, hbb, c1, _, hs, hbs⟩ := HB1.out.at hlt
        have cA : wr.cell? ⟨b1, o1 + j, none⟩ = some x := (hb.cell (p := ⟨b1, o1 + j, none⟩) hbb).trans c1
        have hix : (0 : Int) ≤ j ∧ (j : Int) < b.length := ⟨by omega, hlt'⟩
        have hsn : (b.take (j + 1)).map lfH = (b.take j).map lfH ++ [lfH s] := by rw [List.take_add_one, hs, List.map_append]; rfl
        have HX := Lib.hid (hbs.below hb)
        have HXL := Lib.hid (HTB.out s (List.mem_of_getElem? hs))
        have HGr := Lib.hid (HG1.out.below hb)
        obtain ⟨T, hT⟩ : ∃ T, T = (b.take j).map lfH := ⟨_, rfl⟩
        have hTl : T.length ≤ 4000 := by rw [hT, List.length_map, List.length_take]; omega
        have HO := Lib.hid (hT ▸ HO.out)
        rw [← hT] at hsn
        have HSN := Lib.hid hsn
        clear hsn hT hs hbs c1
        go_wp2_with (first
          | (go_at_call 18; refine (leaf_any x s wr HX.out HXL.out HGr.out).mono ?_; rintro e w4 ⟨rfl, hb4⟩; have hw4 := hb.trans (hb4.mono hsz); have hs4 := hw4.size; have HO4 := Lib.hid (HO.out.below hb4); clear hb4)
          | (refine wpList_hashes rfl [lfH s] 1 _ rfl rfl (by decide) (by decide) (by simp only [List.map_toArray, List.map_cons, List.map_nil]; rfl) ?_; have HO5 := Lib.hid (HO4.out.below ((Below.refl w4.heap.size w4).alloc (Nat.le_refl _) (.cells (bytesV (hflat [lfH s])).toArray 32))); have HX5 := Lib.hid (hs_new w4 [lfH s] 32 rfl rfl); have hw5 := hw4.alloc hs4 (.cells (bytesV (hflat [lfH s])).toArray 32); have hs5 : w1.heap.size ≤ (w4.alloc (.cells (bytesV (hflat [lfH s])).toArray 32)).heap.size := (by simp; omega))
          | (at_builtin; refine wpList_owned rfl (.tmp 29) (.tmp 35) rfl w1.heap.size _ _ T [lfH s] rfl (by exact HO5.out) rfl (by exact HX5.out) (by rw [List.length_singleton]; omega) hs5 hw5 ?_; intro v6 w6 hO6 hw6; rw [← HSN.out] at hO6; have HO6 := Lib.hid hO6; clear hO6 hw5 hs5)
          | fail)
        exact ⟨⟨j + 1, by go_num, by omega, HO6.out, hw6⟩, by simp [intOf]; omega⟩
      · have hlt' : ¬ (j : Int) < b.length := by omega
        have hO := HO.out
        rw [List.take_of_length_le (by omega)] at hO
        obtain ⟨T, hT⟩ : ∃ T, T = b.map lfH := ⟨_, rfl⟩
        rw [← hT] at hO
        have HPT := Lib.hid (show P = subR T k by rw [hT]; exact HPE.out)
        have HL2 := Lib.hid (show T.length ≤ 1099511627776 by rw [hT, List.length_map]; omega)
        obtain ⟨a9, c9, e9⟩ := hO.form
        subst e9
        have HO2 := Lib.hid hO.hs
        have HB2 := Lib.hid (HB1.out.below hb)
        have HG2 := Lib.hid (HG1.out.below hb)
        have hw2 := hw1.trans (hb.mono hz1)
        have HH2 := Lib.hid (HP1.out.below hw2)
        clear hO HO hb HB1 HG1 hT
        go_wp2_with (first
          | (go_at_call 19; refine (prove_k _ T k P HPT.out wr HL2.out HO2.out HG2.out).mono ?_; rintro e w3 ⟨⟨y1, y2, dq, rfl, hp3⟩, hb3⟩; have HP3 := Lib.hid hp3; have HB3 := Lib.hid (HB2.out.below hb3); have HG3 := Lib.hid (HG2.out.below hb3); have HH3 := Lib.hid (HH2.out.below hb3); have hw3 := hw2.trans (hb3.mono hw2.size); clear hp3 hb3)
          | (go_at_call 10; have HQ := HH3; clear HH3; refine (lfind_none _ _ _ (b.take k) b _ ys P w3 HQ.out HB3.out HP3.out lm2 (by omega) lP HTT.out HTB.out HG3.out (.inr HBG.out)).mono ?_; rintro e w4 ⟨rfl, hb4⟩; have HP4 := Lib.hid (HP3.out.below hb4); have HB4 := Lib.hid (HB3.out.below hb4); have HG4 := Lib.hid (HG3.out.below hb4); have HH4 := Lib.hid (HQ.out.below hb4); have hw4 := hw3.trans (hb4.mono hw3.size); clear hb4)
          | (go_at_call 13; have HQ := HH4; clear HH4; refine (lis_any _ _ _ (b.take k) b _ ys P w4 HQ.out HB4.out HP4.out lm2 (by omega) lP HTT.out HTB.out HG4.out).mono ?_; rintro e w5 ⟨rfl, hb5⟩; rw [HLK.out]; have HB5 := Lib.hid (HB4.out.below hb5); have HH5 := Lib.hid (HQ.out.below hb5); have hw5 := hw4.trans (hb5.mono hw4.size); clear hb5)
          | (go_at_call 15; refine (lbegins_any _ _ (b.take k) b _ ys w5 HH5.out HB5.out lm).mono ?_; rintro e w6 ⟨rfl, h6⟩; rw [h6, HBG.out]; clear h6 w6)
          | fail)
        go_ret
        exact ⟨rfl, hw5⟩
end Go.Proofs.YtnbnjoejmepkjaaDoor
