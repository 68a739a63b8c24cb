/- The law ShaParts, walked: true, and nothing that was there has turned. Conditions: the texts can be read; the package's tables read as they are laid. -/
import Derived.Test.YtjjoiefngoghpaaDoorAlive1
import Derived.Test.YtjjoiefngoghpaaDoorEq
import Derived.Test.YtjjoiefngoghpaaDoorSumAt
import Derived.Test.YtjjoiefngoghpaaDoorLawHex
namespace Go.Proofs.YtjjoiefngoghpaaDoor
open Go.RowKit

set_option maxRecDepth 100000 in
set_option maxHeartbeats 400000 in
theorem parts_out (va vb vc : Value) (a b c : List UInt8) (w : World) (ha : Bytes w va a) (hb : Bytes w vb b) (hc : Bytes w vc c) (hg : Glob w) (hl : ¬ (a.length ≤ 300 ∧ b.length ≤ 300 ∧ c.length ≤ 300)) :
    Calls Tryd.prog 5 #[va, vb, vc] w fun e w' => e = .returned (.bool true) ∧ Below w.heap.size w w' := by
  obtain ⟨xa, ca, rfl, _⟩ := ha.form
  obtain ⟨xb, cb, rfl, _⟩ := hb.form
  obtain ⟨xc, cc, rfl, _⟩ := hc.form
  have HG := Lib.hid hg
  clear hg ha hb hc
  by_cases h1 : a.length ≤ 300
  · by_cases h2 : b.length ≤ 300
    · have h3 : ¬ c.length ≤ 300 := fun h => hl ⟨h1, h2, h⟩
      clear hl
      go_enter Tryd.func5, Tryd.ntmps5
      go_wp2_with (go_at_call 15; refine (alive1_any w HG.out).mono ?_; rintro e w1 ⟨rfl, hb1⟩)
      go_ret
      exact ⟨rfl, hb1⟩
    · clear hl
      go_enter Tryd.func5, Tryd.ntmps5
      go_wp2_with (go_at_call 15; refine (alive1_any w HG.out).mono ?_; rintro e w1 ⟨rfl, hb1⟩)
      go_ret
      exact ⟨rfl, hb1⟩
  · clear hl
    go_enter Tryd.func5, Tryd.ntmps5
    go_wp2_with (go_at_call 15; refine (alive1_any w HG.out).mono ?_; rintro e w1 ⟨rfl, hb1⟩)
    go_ret
    exact ⟨rfl, hb1⟩

set_option maxRecDepth 100000 in
set_option maxHeartbeats 1000000 in
theorem parts_in (va vb vc : Value) (a b c : List UInt8) (w : World) (ha : Bytes w va a) (hb : Bytes w vb b) (hc : Bytes w vc c) (hg : Glob w) (h1 : a.length ≤ 300) (h2 : b.length ≤ 300) (h3 : c.length ≤ 300) :
    Calls Tryd.prog 5 #[va, vb, vc] w fun e w' => e = .returned (.bool true) ∧ Below w.heap.size w w' := by
  obtain ⟨i0, hi, hz0, hz1, hz2⟩ := info_parts info_u8
  obtain ⟨xa, ca, rfl, _⟩ := ha.form
  obtain ⟨xb, cb, rfl, _⟩ := hb.form
  obtain ⟨xc, cc, rfl, _⟩ := hc.form
  have HG := Lib.hid hg
  have HA := Lib.hid ha
  have HB := Lib.hid hb
  have HC := Lib.hid hc
  clear hg ha hb hc
  go_enter Tryd.func5, Tryd.ntmps5
  go_wp2_with (first
    | (go_at_call 15; refine (alive1_any w HG.out).mono ?_; rintro e w1 ⟨rfl, hb1⟩; have hs1 := hb1.size)
    | (at_builtin; refine wpList_app rfl (.tmp 23) (.tmp 24) 24 rfl w.heap.size 5 i0 (.int .u8 0) 1 1 Tryd.underlying24 hi hz0 hz1 hz2 rfl (by decide) (.slice none 0 0) 0 [] rfl (by exact World.ownsRow_nil _ _ _ _) _ a.length (bytesV a) rfl (by exact IsSl.below HA.out hb1) (by unfold maxLen; omega) (by omega) (by omega) ?_; intro a2 cap2 w2 hown2 hgrow2 _; rw [Nat.zero_add, List.nil_append] at hown2;
       have hb2 := hb1.grown hgrow2 hs1 (fun k hk => by cases hk); have hs2 := hb2.size; have HO2 := Lib.hid hown2; clear hown2 hgrow2)
    | (at_builtin; refine wpList_app rfl (.tmp 26) (.tmp 27) 24 rfl w.heap.size 5 i0 (.int .u8 0) 1 1 Tryd.underlying24 hi hz0 hz1 hz2 rfl (by decide) (.slice a2 a.length cap2) _ _ rfl (by exact HO2.out) _ b.length (bytesV b) rfl (by exact IsSl.below HB.out hb2) (by unfold maxLen; omega) (by omega) (by omega) ?_; intro a3 cap3 w3 hown3 hgrow3 _;
       have hb3 := hb2.grown hgrow3 hs2 (fun k hk => (HO2.out.lt k hk).1); have hs3 := hb3.size; have HO3 := Lib.hid hown3; clear hown3 hgrow3)
    | (at_builtin; refine wpList_app rfl (.tmp 29) (.tmp 30) 24 rfl w.heap.size 5 i0 (.int .u8 0) 1 1 Tryd.underlying24 hi hz0 hz1 hz2 rfl (by decide) (.slice a3 (a.length + b.length) cap3) _ _ rfl (by exact HO3.out) _ c.length (bytesV c) rfl (by exact IsSl.below HC.out hb3) (by unfold maxLen; omega) (by omega) (by omega) ?_; intro a4 cap4 w4 hown4 hgrow4 _;
       have hb4 := hb3.grown hgrow4 hs3 (fun k hk => (HO3.out.lt k hk).1); have hs4 := hb4.size; have HO4 := Lib.hid hown4; clear hown4 hgrow4)
    | fail)
  have hall : Bytes w4 (.slice a4 (a.length + b.length + c.length) cap4) (a ++ b ++ c) := by
    have := ownsRow_isSl HO4.out (fun u hu => by rw [← bytesV_app, ← bytesV_app] at hu; exact bytesV_one _ u hu)
    rw [← bytesV_app, ← bytesV_app] at this
    unfold Bytes
    rw [List.length_append, List.length_append]
    exact this
  have HALL := Lib.hid hall
  have HA4 := Lib.hid (HA.out.below hb4)
  have HB4 := Lib.hid (HB.out.below hb4)
  have HC4 := Lib.hid (HC.out.below hb4)
  clear hall hb1 hb2 hb3 hs1 hs2 hs3 HO2 HO3 HO4 HA HB HC
  obtain ⟨t, ht⟩ : ∃ t, t = a ++ b ++ c := ⟨_, rfl⟩
  have heq := fun w => eq_hash_same w (sumN t) (sumN_len _)
  have hhex : ((⟨(hexP (sumN t)).toArray⟩ : ByteArray).size : Nat) = 64 := (hexP_len _).trans (by rw [sumN_len])
  have hlen : t.length ≤ 70368744177664 := by rw [ht]; simp; omega
  have hc3 : cat [a, b, c] = t := by simp [cat, ht]
  have hc1 : cat [t] = t := by simp [cat]
  have hc4 : cat [a, [], b, c] = t := by simp [cat, ht]
  rw [← ht] at HALL
  have HLEN := Lib.hid hlen
  have H1 := Lib.hid hc1
  have H3 := Lib.hid hc3
  have H4 := Lib.hid hc4
  clear hlen hc1 hc3 hc4 ht
  refine (sum_at (n := 3) w4 [_, _, _] [a, b, c] _ (.cons HA4.out (.cons HB4.out (.cons HC4.out .nil))) rfl t H3.out HLEN.out (by decide) (HG.out.below hb4)).mono ?_
  rintro e w5 ⟨rfl, hb5⟩
  have hw5 := hb4.trans (hb5.mono hs4)
  have HALL5 := Lib.hid (HALL.out.below hb5)
  have HA5 := Lib.hid (HA4.out.below hb5)
  have HB5 := Lib.hid (HB4.out.below hb5)
  have HC5 := Lib.hid (HC4.out.below hb5)
  have hs5 := hw5.size
  clear hb4 hb5 hs4 HA4 HB4 HC4 HALL
  go_wp2_with fail
  refine (sum_at (n := 1) w5 [_] [t] _ (.cons HALL5.out .nil) rfl t H1.out HLEN.out (by decide) (HG.out.below hw5)).mono ?_
  rintro e w6 ⟨rfl, hb6⟩
  have hw6 := hw5.trans (hb6.mono hs5)
  have HALL6 := Lib.hid (HALL5.out.below hb6)
  have HA6 := Lib.hid (HA5.out.below hb6)
  have HB6 := Lib.hid (HB5.out.below hb6)
  have HC6 := Lib.hid (HC5.out.below hb6)
  have hs6 := hw6.size
  clear hw5 hb6 hs5 HA5 HB5 HC5 HALL5
  go_wp2_with fail
  refine (sum_at (n := 4) w6 [_, _, _, _] [a, [], b, c] _ (.cons HA6.out (.cons (bytes_nil w6) (.cons HB6.out (.cons HC6.out .nil)))) rfl t H4.out HLEN.out (by decide) (HG.out.below hw6)).mono ?_
  rintro e w7 ⟨rfl, hb7⟩
  have hw7 := hw6.trans (hb7.mono hs6)
  have HALL7 := Lib.hid (HALL6.out.below hb7)
  have hs7 := hw7.size
  clear hw6 hb7 hs6 HA6 HB6 HC6 HALL6
  go_wp2_with fail
  refine (sum_at (n := 1) w7 [_] [t] _ (.cons HALL7.out .nil) rfl t H1.out HLEN.out (by decide) (HG.out.below hw7)).mono ?_
  rintro e w8 ⟨rfl, hb8⟩
  have hw8 := hw7.trans (hb8.mono hs7)
  have HALL8 := Lib.hid (HALL7.out.below hb8)
  have hs8 := hw8.size
  clear hw7 hb8 hs7 HALL7
  go_wp2_with fail
  refine (sum_at (n := 1) w8 [_] [t] _ (.cons HALL8.out .nil) rfl t H1.out HLEN.out (by decide) (HG.out.below hw8)).mono ?_
  rintro e w9 ⟨rfl, hb9⟩
  have hw9 := hw8.trans (hb9.mono hs8)
  have hs9 := hw9.size
  clear hw8 hb9 hs8 HALL8
  go_wp2_with fail
  refine (hex_any (sumN t) (sumN_len t) w9 (HG.out.below hw9)).mono ?_
  rintro e w10 ⟨rfl, hb10⟩
  have hw10 := hw9.trans (hb10.mono hs9)
  clear hw9 hb10 hs9
  go_wp2_with fail
  go_ret
  exact ⟨rfl, hw10⟩
end Go.Proofs.YtjjoiefngoghpaaDoor
