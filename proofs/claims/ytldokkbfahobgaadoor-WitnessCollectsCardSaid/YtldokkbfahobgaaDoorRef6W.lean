/- The walks of the reference's Path and Prove. The walk of the reference's node; lists of Booleans: one put ahead. The walk of the reference's Comes. The walks of the reference's Comes, whatever the numbers, and of its In. Conditions: what each part says. -/
import Derived.Test.YtldokkbfahobgaaDoorPathW
import Derived.Test.YtldokkbfahobgaaDoorRef5
import Derived.Test.YtldokkbfahobgaaDoorComesW
import Derived.Test.YtldokkbfahobgaaDoorGround
/-! Ref6A: The walks of the reference's Path and Prove. Conditions: the list can be read, at most 2^40 hashes; the package's tables read as they are laid. -/
namespace Go.Proofs.YtldokkbfahobgaaDoor
open Go.RowKit

def slLen : Value → Nat
  | .slice _ n _ => n
  | _ => 0
set_option maxRecDepth 100000 in
set_option maxHeartbeats 400000 in
theorem refprove_none (v : Value) (l : List H) (m : Int) (w : World) (hs : Hs w v l) (hi : m < 1 ∨ (l.length : Int) < m) :
    Calls Tryd.prog 29 #[v, .int .i64 m] w fun e w' => e = .returned (.tuple #[.slice none 0 0, .bool false]) ∧ w' = w := by
  obtain ⟨xa, ca, rfl, _⟩ := hs.form
  by_cases h0 : m < 1
  · go_enter Tryd.func29, Tryd.ntmps29
    go_wp2_with fail
    go_ret2
    exact ⟨rfl, rfl⟩
  · have h1 : (l.length : Int) < m := by omega
    go_enter Tryd.func29, Tryd.ntmps29
    go_wp2_with fail
    go_ret2
    exact ⟨rfl, rfl⟩
set_option maxRecDepth 100000 in
set_option maxHeartbeats 1000000 in
theorem refprove_any (v : Value) (l : List H) (i : Nat) (w : World) (hle : l.length ≤ 1099511627776) (hs : Hs w v l) (hg : Glob w) (h1 : 1 ≤ i) (hi : i ≤ l.length) :
    Calls Tryd.prog 29 #[v, .int .i64 i] w fun e w' => (∃ v', e = .returned (.tuple #[v', .bool true]) ∧ Hs w' v' (subN ndH e0H l i true)) ∧ Below w.heap.size w w' := by
  obtain ⟨xa, ca, rfl, _⟩ := hs.form
  have h0 : ¬ (i : Int) < 1 := by omega
  have h2 : ¬ (l.length : Int) < i := by omega
  have hpl := sub_few l i true h1 hi hle
  obtain ⟨P, hP⟩ : ∃ P, P = subN ndH e0H l i true := ⟨_, rfl⟩
  rw [← hP] at hpl ⊢
  have HP := Lib.hid hP
  have HS := Lib.hid hs
  have HG := Lib.hid hg
  clear hP hs hg
  go_enter Tryd.func29, Tryd.ntmps29
  go_wp2_with fail
  go_loopw [0, 1, 6, 7] (fun cv iv pv bv wr => ∃ (m A : List H) (j : Nat) (n : Nat) (ya : Option Addr) (yc : Nat) (wh : Bool), cv = .slice ya n yc ∧ n = m.length ∧ Hs wr (.slice ya n yc) m ∧ n ≤ l.length ∧ iv = .int .i64 j ∧ 1 ≤ j ∧ j ≤ n ∧ Hs wr pv A ∧ bv = .bool wh ∧ P = subN ndH e0H m j wh ++ A ∧ Below w.heap.size w wr) (fun cv _ _ _ _ => slLen cv)
  case atStart => exact ⟨l, [], i, l.length, xa, ca, true, rfl, rfl, HS.out, Nat.le_refl _, rfl, h1, hi, Hs.nil _, rfl, by rw [HP.out, List.append_nil], Below.refl _ _⟩
  case round =>
    obtain ⟨m, A, j, n, ya, yc, wh, rfl, hn, hm, hnl, rfl, hj1, hj, hA, rfl, hPP, hw⟩ := hrel
    have hAl : A.length ≤ 41 := by rw [hPP, List.length_append] at hpl; omega
    have HA := Lib.hid hA
    have hsz := hw.size
    have HGW := Lib.hid (HG.out.below hw)
    by_cases hjn : j < n
    · have hgt : (j : Int) < n := by omega
      have h2 : 2 ≤ n := by omega
      obtain ⟨k, hk⟩ : ∃ k, k = splitN n := ⟨_, rfl⟩
      have hlt := splitN_lt n h2
      have hpos := splitN_pos n h2
      rw [← hk] at hlt hpos
      have hm' := hm
      rw [hn] at hm'
      obtain ⟨a1, c1, hs1, hh1⟩ := hs_head hm' k (by omega)
      obtain ⟨a2, c2, hs2, hh2⟩ := hs_tail hm' k (by omega)
      rw [← hn] at hs1 hs2 hh2
      have H1 := Lib.hid hh1
      have H2 := Lib.hid hh2
      have HK := Lib.hid hk
      have HN := Lib.hid hn
      by_cases hik : j ≤ k
      · have hlt' : (j : Int) ≤ k := by omega
        have hpp : subN ndH e0H m j wh = subN ndH e0H (m.take k) j wh ++ [rootN ndH e0H (m.drop k)] := by
          rw [hk, hn]
          exact subN_left m j wh (by omega) (by omega) (by rw [← hn, ← hk]; exact hik)
        obtain ⟨R, hR⟩ : ∃ R, R = rootN ndH e0H (m.drop k) := ⟨_, rfl⟩
        rw [hpp, ← hR, List.append_assoc] at hPP
        have HPP := Lib.hid hPP
        have HR := Lib.hid hR
        clear hm hm' hn hh1 hh2 hk hpp hPP hR hA
        go_wp2_with (first
          | (go_at_call 41; refine (refsplit_any n _ (by omega)).mono ?_; rintro e w2 ⟨rfl, h2w⟩; rw [h2w, ← HK.out]; clear h2w w2)
          | (go_at_call 25; refine (refroot_any (n - k) _ (m.drop k) wr (by rw [List.length_drop, HN.out]) (by omega) H2.out HGW.out).mono ?_; rintro e w4 ⟨rfl, hb4⟩; rw [← HR.out]; have HA4 := Lib.hid (HA.out.below hb4); have H14 := Lib.hid (H1.out.below hb4); have hw4 := hw.trans (hb4.mono hsz); have hs4 := hw4.size; clear HA hb4)
          | (refine wpList_hashes rfl [R] 1 _ rfl rfl (by decide) (by decide) (by simp only [List.map_toArray, List.map_cons, List.map_nil]; rfl) ?_; have hal := (Below.refl w4.heap.size w4).alloc (Nat.le_refl _) (.cells (bytesV (hflat [R])).toArray 31); have HA5 := Lib.hid (HA4.out.below hal); have HX5 := Lib.hid (Own.fresh (base := w4.heap.size) (n := 1) w4 [R] rfl rfl (Nat.le_refl _) (by decide)); clear HA4)
          | (at_builtin; refine wpList_owned rfl (.tmp 31) (.tmp 32) rfl w4.heap.size _ _ [R] A rfl HX5.out rfl HA5.out (by rw [List.length_singleton]; omega) hal.size hal ?_; intro v6 w6 hO6 hb6; have hw6 := hw4.trans (hb6.mono hs4); have HO6 := Lib.hid hO6.hs; have H16 := Lib.hid (H14.out.below hb6); clear hO6 hb6 hal)
          | fail)
        exact ⟨⟨m.take k, _, j, k, a1, c1, wh, rfl, by rw [List.length_take, ← HN.out]; omega, H16.out, by omega, rfl, hj1, hik, HO6.out, rfl, HPP.out, hw6⟩, by simp only [slLen]; omega⟩
      · have hlt' : ¬ (j : Int) ≤ k := by omega
        have hpp : subN ndH e0H m j wh = subN ndH e0H (m.drop k) (j - k) false ++ [rootN ndH e0H (m.take k)] := by
          rw [hk, hn]
          exact subN_right m j wh (by omega) (by omega) (by rw [← hn, ← hk]; exact hik)
        obtain ⟨R, hR⟩ : ∃ R, R = rootN ndH e0H (m.take k) := ⟨_, rfl⟩
        rw [hpp, ← hR, List.append_assoc] at hPP
        have HPP := Lib.hid hPP
        have HR := Lib.hid hR
        clear hm hm' hn hh1 hh2 hk hpp hPP hR hA
        go_wp2_with (first
          | (go_at_call 41; refine (refsplit_any n _ (by omega)).mono ?_; rintro e w2 ⟨rfl, h2w⟩; rw [h2w, ← HK.out]; clear h2w w2)
          | (go_at_call 25; refine (refroot_any k _ (m.take k) wr (by rw [List.length_take, ← HN.out]; omega) (by omega) H1.out HGW.out).mono ?_; rintro e w4 ⟨rfl, hb4⟩; rw [← HR.out]; have HA4 := Lib.hid (HA.out.below hb4); have H14 := Lib.hid (H2.out.below hb4); have hw4 := hw.trans (hb4.mono hsz); have hs4 := hw4.size; clear HA hb4)
          | (refine wpList_hashes rfl [R] 1 _ rfl rfl (by decide) (by decide) (by simp only [List.map_toArray, List.map_cons, List.map_nil]; rfl) ?_; have hal := (Below.refl w4.heap.size w4).alloc (Nat.le_refl _) (.cells (bytesV (hflat [R])).toArray 31); have HA5 := Lib.hid (HA4.out.below hal); have HX5 := Lib.hid (Own.fresh (base := w4.heap.size) (n := 1) w4 [R] rfl rfl (Nat.le_refl _) (by decide)); clear HA4)
          | (at_builtin; refine wpList_owned rfl (.tmp 41) (.tmp 42) rfl w4.heap.size _ _ [R] A rfl HX5.out rfl HA5.out (by rw [List.length_singleton]; omega) hal.size hal ?_; intro v6 w6 hO6 hb6; have hw6 := hw4.trans (hb6.mono hs4); have HO6 := Lib.hid hO6.hs; have H16 := Lib.hid (H14.out.below hb6); clear hO6 hb6 hal)
          | fail)
        exact ⟨⟨m.drop k, _, j - k, n - k, a2, c2, false, rfl, by rw [List.length_drop, ← HN.out], H16.out, by omega, by go_num, by omega, by omega, HO6.out, rfl, HPP.out, hw6⟩, by simp only [slLen]; omega⟩
    · have hgt : ¬ (j : Int) < n := by omega
      have hpp := subN_end m j wh (by omega)
      obtain ⟨R, hR⟩ : ∃ R, R = rootN ndH e0H m := ⟨_, rfl⟩
      rw [hpp, ← hR] at hPP
      have HPP := Lib.hid hPP
      have HR := Lib.hid hR
      have HN := Lib.hid hn
      have HM := Lib.hid hm
      clear hm hn hpp hPP hR hA
      cases wh with
      | true =>
        go_wp2_with fail
        go_ret2
        exact ⟨⟨_, rfl, by rw [HPP.out]; exact HA.out⟩, hw⟩
      | false =>
        go_wp2_with (first
          | (go_at_call 25; refine (refroot_any n _ m wr HN.out.symm (by omega) HM.out HGW.out).mono ?_; rintro e w4 ⟨rfl, hb4⟩; rw [← HR.out]; have HA4 := Lib.hid (HA.out.below hb4); have hw4 := hw.trans (hb4.mono hsz); have hs4 := hw4.size; clear HA hb4)
          | (refine wpList_hashes rfl [R] 1 _ rfl rfl (by decide) (by decide) (by simp only [List.map_toArray, List.map_cons, List.map_nil]; rfl) ?_; have hal := (Below.refl w4.heap.size w4).alloc (Nat.le_refl _) (.cells (bytesV (hflat [R])).toArray 31); have HA5 := Lib.hid (HA4.out.below hal); have HX5 := Lib.hid (Own.fresh (base := w4.heap.size) (n := 1) w4 [R] rfl rfl (Nat.le_refl _) (by decide)); clear HA4)
          | (at_builtin; refine wpList_owned rfl (.tmp 54) (.tmp 55) rfl w4.heap.size _ _ [R] A rfl HX5.out rfl HA5.out (by rw [List.length_singleton]; omega) hal.size hal ?_; intro v6 w6 hO6 hb6; have hw6 := hw4.trans (hb6.mono hs4); have HO6 := Lib.hid hO6.hs; clear hO6 hb6 hal)
          | fail)
        go_ret2
        exact ⟨⟨_, rfl, by rw [HPP.out]; exact HO6.out⟩, hw6⟩
end Go.Proofs.YtldokkbfahobgaaDoor

/-! Ref6B: The walk of the reference's node; lists of Booleans: one put ahead. Conditions: the package's tables read as they are laid. -/
namespace Go.Proofs.YtldokkbfahobgaaDoor
open Go.RowKit

theorem calls_at {P : Program} {f : FuncId} {args : Array Value} {w w' : World} {R : Ending → World → Prop} (h : w' = w) (hc : Calls P f args w' R) : Calls P f args w R := h ▸ hc
set_option maxRecDepth 100000 in
set_option maxHeartbeats 400000 in
theorem refnode_any (l r : H) (w : World) (hg : Glob w) :
    Calls Tryd.prog 61 #[hv l, hv r] w fun e w' => e = .returned (hv (ndH l r)) ∧ Below w.heap.size w w' := by
  obtain ⟨w1, hw1⟩ : ∃ w1, w1 = ((w.alloc (.cells (bytesV l.b).toArray 31)).alloc (.cells (bytesV r.b).toArray 31)).alloc (.cells z32.toArray 31) := ⟨_, rfl⟩
  have hb1 : Below w.heap.size w w1 := by rw [hw1]; (repeat (first | with_reducible assumption | with_reducible exact Below.refl _ _ | ((with_reducible refine Below.setCell ?_ ?_ _); rotate_left; focus (first | omega | (simp; done) | (simp; omega))) | ((with_reducible refine Below.alloc ?_ ?_ _); rotate_left; focus (first | omega | (simp; done) | (simp; omega))) | ((with_reducible refine below_setRow ?_ ?_ _); rotate_left; focus (first | omega | (simp; done) | (simp; omega))) | (with_reducible refine below_drewN ?_ _) | (with_reducible refine Below.drew ?_)))
  have hL : Blk w1 w.heap.size (bytesV l.b) 31 := by rw [hw1]; exact ((Blk.newL w _ _).alloc _).alloc _
  have hR : Blk w1 (w.heap.size + 1) (bytesV r.b) 31 := by rw [hw1]; exact (Blk.newL1 w _ _ _).alloc _
  have hX : Blk w1 (w.heap.size + 1 + 1) z32 31 := by rw [hw1]; exact Blk.newL2 w _ _ _ _
  have HL := Lib.hid (hw1 ▸ hL)
  have HR := Lib.hid (hw1 ▸ hR)
  have HX := Lib.hid hX
  have HG := Lib.hid (hg.below hb1)
  have HW := Lib.hid hw1
  clear hL hR hX hg hw1
  go_enter Tryd.func61, Tryd.ntmps61
  unfold hv
  go_wp2_with (first
    | (refine wpList_load_row rfl 31 (.tmp 2) rfl w.heap.size rfl 31 (bytesV l.b).toArray (0, 0) _ (by exact HL.out) Tryd.underlying31 rfl (by exact hv_row _) ?_)
    | (refine wpList_load_row rfl 31 (.tmp 3) rfl (w.heap.size + 1) rfl 31 (bytesV r.b).toArray (0, 0) _ (by exact HR.out) Tryd.underlying31 rfl (by exact hv_row _) ?_)
    | (go_at_call 42; refine calls_at HW.out ((pair_any l r w1).mono ?_); rintro e w2 ⟨⟨v2, rfl, hv2⟩, hb2⟩; have HV2 := Lib.hid hv2; have HG2 := Lib.hid (HG.out.below hb2); have HX2 := Lib.hid (HX.out.below hb2 HX.out.lt); have hw2 := hb1.trans (hb2.mono hb1.size); clear hv2 hb2)
    | (go_at_call 40; refine (refsum_any v2 (1 :: (l.b ++ r.b)) w2 HV2.out (by simp [H.len]) HG2.out).mono ?_; rintro e w3 ⟨rfl, hb3⟩; have HX3 := Lib.hid (HX2.out.below hb3 HX2.out.lt); have hw3 := hw2.trans (hb3.mono hw2.size); clear hb3)
    | (refine wpList_store_row rfl 31 (.tmp 4) (.tmp 8) rfl (w.heap.size + 1 + 1) (bytesV (ndH l r).b).toArray rfl rfl 31 z32.toArray (by exact HX3.out) (by exact hv_row _) (by exact z32_old _) (by exact hv_one _) ?_)
    | fail)
  exact bodyPost_ret (v := hv (ndH l r)) (results_cell_row rfl _ _ (w.heap.size + 1 + 1) 31 _ (0, 0) _ rfl (HX3.out.setRow _) Tryd.underlying31 rfl (hv_row _)) rfl ⟨rfl, below_setRow hw3 (by omega) _⟩
/-- A slice of Booleans. -/
def Bs (w : World) (v : Value) (l : List Bool) : Prop := IsSl w v 1 l.length (l.map Value.bool)
theorem Bs.nil (w : World) : Bs w (.slice none 0 0) [] := IsSl.nil w 1
theorem Bs.form {w : World} {v : Value} {l : List Bool} (h : Bs w v l) : ∃ a cap, v = .slice a l.length cap ∧ l.length ≤ cap := IsSl.form h
theorem Bs.below {w w' : World} {v : Value} {l : List Bool} (h : Bs w v l) (hb : Below w.heap.size w w') : Bs w' v l := IsSl.below h hb
theorem info_bool : (Tryd.prog.info? 4).map (fun i => (i.zero, i.size, i.bytes)) = some (some (.bool false), 1, 1) := by kernel_rfl
theorem bools_one (l : List Bool) : ∀ u ∈ l.map Value.bool, u.oneCell' = true := by
  intro u hu
  obtain ⟨b, _, rfl⟩ := List.mem_map.1 hu
  rfl
theorem wpList_ahead {w : World} {ops : Array Oper} {rest : List Oper} {o : Oper} {a : Act} {Q : Exit → Act → World → Prop} (hgd : o.guard = none) (s x : Operand)
    (ho : o.op = .call { callee := .builtin .append, args := #[s, x], argTypes := #[109, 109] }) (b : Bool) (xv : Value) (l : List Bool) (hs : a.eval s = .slice (some ⟨w.heap.size, 0, none⟩) 1 1)
    (hx : a.eval x = xv) (hX : Bs w xv l) (hlen : l.length ≤ 4096)
    (h : ∀ v' w', Bs w' v' (b :: l) → Below w.heap.size w w' → wpList Tryd.prog ops Q rest (a.put o.dst v') w') : wpList Tryd.prog ops Q (o :: rest) a (w.alloc (.cells #[.bool b] 4)) := by
  obtain ⟨i0, hi, hz0, hz1, hz2⟩ := info_parts info_bool
  have hal : Below w.heap.size w (w.alloc (.cells #[.bool b] 4)) := (Below.refl _ _).alloc (Nat.le_refl _) _
  have hown := World.ownsRow_lit w #[.bool b] (e := 4) (size := 1) (base := w.heap.size) 1 (Nat.le_refl _) (by decide) rfl
  refine wpList_app hgd s x 109 ho w.heap.size 4 i0 (.bool false) 1 1 Tryd.underlying109 hi hz0 hz1 hz2 rfl (by decide) (.slice (some ⟨w.heap.size, 0, none⟩) 1 1) 1 _ hs hown xv l.length (l.map Value.bool) hx (hX.below hal) (by unfold maxLen; omega) (by omega) hal.size ?_
  intro a' c' w' hown' hgrow _
  refine h _ w' ?_ (hal.grown hgrow hal.size (fun k hk => by cases hk; exact Nat.le_refl _))
  have := ownsRow_isSl hown' (by intro u hu; exact bools_one (b :: l) u (by simpa using hu))
  have e : (#[Value.bool b] : Array Value).toList ++ l.map Value.bool = (b :: l).map Value.bool := rfl
  rw [e] at this
  unfold Bs
  rw [List.length_cons, Nat.add_comm l.length 1]
  exact this
end Go.Proofs.YtldokkbfahobgaaDoor

/-! Ref6C: The walk of the reference's Comes. Conditions: the path can be read, at most 4096 hashes; the package's tables read as they are laid. -/
namespace Go.Proofs.YtldokkbfahobgaaDoor
open Go.RowKit

theorem sidesN_low (n i : Nat) (h : n < 2) : sidesN n i = [] := by rw [sidesN, dif_pos h]
theorem sidesN_left (n i : Nat) (h : 2 ≤ n) (hi : i < splitN n) : sidesN n i = sidesN (splitN n) i ++ [true] := by rw [sidesN, dif_neg (by omega), if_pos hi]
theorem sidesN_right (n i : Nat) (h : 2 ≤ n) (hi : ¬ i < splitN n) : sidesN n i = sidesN (n - splitN n) (i - splitN n) ++ [false] := by rw [sidesN, dif_neg (by omega), if_neg hi]
theorem climb_step (x : H) (A : List Bool) (P : List H) (j : Nat) (b : Bool) (o : H) (hA : A[j]? = some b) (hP : P[j]? = some o) :
    climbN ndH x ((A.zip P).take (j + 1)) = if b then ndH (climbN ndH x ((A.zip P).take j)) o else ndH o (climbN ndH x ((A.zip P).take j)) := by
  have hz : (A.zip P)[j]? = some (b, o) := by rw [List.getElem?_zip_eq_some]; exact ⟨hA, hP⟩
  rw [List.take_add_one, hz]
  unfold climbN
  rw [List.foldl_append]
  rfl
end Go.Proofs.YtldokkbfahobgaaDoor

/-! Ref6D: The walks of the reference's Comes, whatever the numbers, and of its In. Conditions: the path can be read, at most 4096 hashes; the package's tables read as they are laid. -/
namespace Go.Proofs.YtldokkbfahobgaaDoor
open Go.RowKit

theorem hw_lit (w : World) (l : List Value) (e : TypeId) : (w.alloc (.cells l.toArray e)).alloc (.cells z32.toArray 31) = (w.alloc (.cells l.toArray e)).alloc (.cells #[.int .u8 0, .int .u8 0, .int .u8 0, .int .u8 0, .int .u8 0, .int .u8 0, .int .u8 0, .int .u8 0, .int .u8 0, .int .u8 0, .int .u8 0, .int .u8 0, .int .u8 0, .int .u8 0, .int .u8 0, .int .u8 0, .int .u8 0, .int .u8 0, .int .u8 0, .int .u8 0, .int .u8 0, .int .u8 0, .int .u8 0, .int .u8 0, .int .u8 0, .int .u8 0, .int .u8 0, .int .u8 0, .int .u8 0, .int .u8 0, .int .u8 0, .int .u8 0] 31) := by rw [z32_arr]
end Go.Proofs.YtldokkbfahobgaaDoor
