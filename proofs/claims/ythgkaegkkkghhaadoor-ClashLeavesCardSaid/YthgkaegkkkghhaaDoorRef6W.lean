/- The walk of the reference's node; lists of Booleans: one put ahead. The walk of the reference's Comes. The walks of the reference's Comes, whatever the numbers, and of its In. Conditions: what each part says. -/
import Derived.Test.YthgkaegkkkghhaaDoorRef5
import Derived.Test.YthgkaegkkkghhaaDoorPathW
import Derived.Test.YthgkaegkkkghhaaDoorComesW
import Derived.Test.YthgkaegkkkghhaaDoorGround
/-! Ref6B: The walk of the reference's node; lists of Booleans: one put ahead. Conditions: the package's tables read as they are laid. -/
namespace Go.Proofs.YthgkaegkkkghhaaDoor
open Go.RowKit

theorem calls_at {P : Program} {f : FuncId} {args : Array Value} {w w' : World} {R : Ending → World → Prop} (h : w' = w) (hc : Calls P f args w' R) : Calls P f args w R := h ▸ hc
set_option maxRecDepth 100000 in
set_option maxHeartbeats 400000 in
theorem refnode_any (l r : H) (w : World) (hg : Glob w) :
    Calls Tryd.prog 55 #[hv l, hv r] w fun e w' => e = .returned (hv (ndH l r)) ∧ Below w.heap.size w w' := by
  obtain ⟨w1, hw1⟩ : ∃ w1, w1 = ((w.alloc (.cells (bytesV l.b).toArray 30)).alloc (.cells (bytesV r.b).toArray 30)).alloc (.cells z32.toArray 30) := ⟨_, rfl⟩
  have hb1 : Below w.heap.size w w1 := by rw [hw1]; (repeat (first | with_reducible assumption | with_reducible exact Below.refl _ _ | ((with_reducible refine Below.setCell ?_ ?_ _); rotate_left; focus (first | omega | (simp; done) | (simp; omega))) | ((with_reducible refine Below.alloc ?_ ?_ _); rotate_left; focus (first | omega | (simp; done) | (simp; omega))) | ((with_reducible refine below_setRow ?_ ?_ _); rotate_left; focus (first | omega | (simp; done) | (simp; omega))) | (with_reducible refine below_drewN ?_ _) | (with_reducible refine Below.drew ?_)))
  have hL : Blk w1 w.heap.size (bytesV l.b) 30 := by rw [hw1]; exact ((Blk.newL w _ _).alloc _).alloc _
  have hR : Blk w1 (w.heap.size + 1) (bytesV r.b) 30 := by rw [hw1]; exact (Blk.newL1 w _ _ _).alloc _
  have hX : Blk w1 (w.heap.size + 1 + 1) z32 30 := by rw [hw1]; exact Blk.newL2 w _ _ _ _
  have HL := Lib.hid (hw1 ▸ hL)
  have HR := Lib.hid (hw1 ▸ hR)
  have HX := Lib.hid hX
  have HG := Lib.hid (hg.below hb1)
  have HW := Lib.hid hw1
  clear hL hR hX hg hw1
  go_enter Tryd.func55, Tryd.ntmps55
  unfold hv
  go_wp2_with (first
    | (refine wpList_load_row rfl 30 (.tmp 2) rfl w.heap.size rfl 30 (bytesV l.b).toArray (0, 0) _ (by exact HL.out) Tryd.underlying30 rfl (by exact hv_row _) ?_)
    | (refine wpList_load_row rfl 30 (.tmp 3) rfl (w.heap.size + 1) rfl 30 (bytesV r.b).toArray (0, 0) _ (by exact HR.out) Tryd.underlying30 rfl (by exact hv_row _) ?_)
    | (go_at_call 34; refine calls_at HW.out ((pair_any l r w1).mono ?_); rintro e w2 ⟨⟨v2, rfl, hv2⟩, hb2⟩; have HV2 := Lib.hid hv2; have HG2 := Lib.hid (HG.out.below hb2); have HX2 := Lib.hid (HX.out.below hb2 HX.out.lt); have hw2 := hb1.trans (hb2.mono hb1.size); clear hv2 hb2)
    | (go_at_call 39; refine (refsum_any v2 (1 :: (l.b ++ r.b)) w2 HV2.out (by simp [H.len]) HG2.out).mono ?_; rintro e w3 ⟨rfl, hb3⟩; have HX3 := Lib.hid (HX2.out.below hb3 HX2.out.lt); have hw3 := hw2.trans (hb3.mono hw2.size); clear hb3)
    | (refine wpList_store_row rfl 30 (.tmp 4) (.tmp 8) rfl (w.heap.size + 1 + 1) (bytesV (ndH l r).b).toArray rfl rfl 30 z32.toArray (by exact HX3.out) (by exact hv_row _) (by exact z32_old _) (by exact hv_one _) ?_)
    | fail)
  exact bodyPost_ret (v := hv (ndH l r)) (results_cell_row rfl _ _ (w.heap.size + 1 + 1) 30 _ (0, 0) _ rfl (HX3.out.setRow _) Tryd.underlying30 rfl (hv_row _)) rfl ⟨rfl, below_setRow hw3 (by omega) _⟩
/-- A slice of Booleans. -/
def Bs (w : World) (v : Value) (l : List Bool) : Prop := IsSl w v 1 l.length (l.map Value.bool)
theorem Bs.nil (w : World) : Bs w (.slice none 0 0) [] := IsSl.nil w 1
theorem Bs.form {w : World} {v : Value} {l : List Bool} (h : Bs w v l) : ∃ a cap, v = .slice a l.length cap ∧ l.length ≤ cap := IsSl.form h
theorem Bs.below {w w' : World} {v : Value} {l : List Bool} (h : Bs w v l) (hb : Below w.heap.size w w') : Bs w' v l := IsSl.below h hb
theorem info_bool : (Tryd.prog.info? 4).map (fun i => (i.zero, i.size, i.bytes)) = some (some (.bool false), 1, 1) := by kernel_rfl
theorem bools_one (l : List Bool) : ∀ u ∈ l.map Value.bool, u.oneCell' = true := by
  intro u hu
  obtain ⟨b, _, rfl⟩ := List.mem_map.1 hu
  rfl
theorem wpList_ahead {w : World} {ops : Array Oper} {rest : List Oper} {o : Oper} {a : Act} {Q : Exit → Act → World → Prop} (hgd : o.guard = none) (s x : Operand)
    (ho : o.op = .call { callee := .builtin .append, args := #[s, x], argTypes := #[76, 76] }) (b : Bool) (xv : Value) (l : List Bool) (hs : a.eval s = .slice (some ⟨w.heap.size, 0, none⟩) 1 1)
    (hx : a.eval x = xv) (hX : Bs w xv l) (hlen : l.length ≤ 4096)
    (h : ∀ v' w', Bs w' v' (b :: l) → Below w.heap.size w w' → wpList Tryd.prog ops Q rest (a.put o.dst v') w') : wpList Tryd.prog ops Q (o :: rest) a (w.alloc (.cells #[.bool b] 4)) := by
  obtain ⟨i0, hi, hz0, hz1, hz2⟩ := info_parts info_bool
  have hal : Below w.heap.size w (w.alloc (.cells #[.bool b] 4)) := (Below.refl _ _).alloc (Nat.le_refl _) _
  have hown := World.ownsRow_lit w #[.bool b] (e := 4) (size := 1) (base := w.heap.size) 1 (Nat.le_refl _) (by decide) rfl
  refine wpList_app hgd s x 76 ho w.heap.size 4 i0 (.bool false) 1 1 Tryd.underlying76 hi hz0 hz1 hz2 rfl (by decide) (.slice (some ⟨w.heap.size, 0, none⟩) 1 1) 1 _ hs hown xv l.length (l.map Value.bool) hx (hX.below hal) (by unfold maxLen; omega) (by omega) hal.size ?_
  intro a' c' w' hown' hgrow _
  refine h _ w' ?_ (hal.grown hgrow hal.size (fun k hk => by cases hk; exact Nat.le_refl _))
  have := ownsRow_isSl hown' (by intro u hu; exact bools_one (b :: l) u (by simpa using hu))
  have e : (#[Value.bool b] : Array Value).toList ++ l.map Value.bool = (b :: l).map Value.bool := rfl
  rw [e] at this
  unfold Bs
  rw [List.length_cons, Nat.add_comm l.length 1]
  exact this
end Go.Proofs.YthgkaegkkkghhaaDoor

/-! Ref6C: The walk of the reference's Comes. Conditions: the path can be read, at most 4096 hashes; the package's tables read as they are laid. -/
namespace Go.Proofs.YthgkaegkkkghhaaDoor
open Go.RowKit

theorem sidesN_low (n i : Nat) (h : n < 2) : sidesN n i = [] := by rw [sidesN, dif_pos h]
theorem sidesN_left (n i : Nat) (h : 2 ≤ n) (hi : i < splitN n) : sidesN n i = sidesN (splitN n) i ++ [true] := by rw [sidesN, dif_neg (by omega), if_pos hi]
theorem sidesN_right (n i : Nat) (h : 2 ≤ n) (hi : ¬ i < splitN n) : sidesN n i = sidesN (n - splitN n) (i - splitN n) ++ [false] := by rw [sidesN, dif_neg (by omega), if_neg hi]
theorem climb_step (x : H) (A : List Bool) (P : List H) (j : Nat) (b : Bool) (o : H) (hA : A[j]? = some b) (hP : P[j]? = some o) :
    climbN ndH x ((A.zip P).take (j + 1)) = if b then ndH (climbN ndH x ((A.zip P).take j)) o else ndH o (climbN ndH x ((A.zip P).take j)) := by
  have hz : (A.zip P)[j]? = some (b, o) := by rw [List.getElem?_zip_eq_some]; exact ⟨hA, hP⟩
  rw [List.take_add_one, hz]
  unfold climbN
  rw [List.foldl_append]
  rfl
set_option maxRecDepth 100000 in
set_option maxHeartbeats 2000000 in
theorem refcomes_ok (w : World) (x : H) (i n : Nat) (pv : Value) (P : List H) (hs : Hs w pv P) (_hl : P.length ≤ 4096) (hg : Glob w) (h1 : 1 ≤ n) (hn : n ≤ 1048576) (hi : i < n) :
    Calls Tryd.prog 41 #[hv x, .int .i64 i, .int .i64 n, pv] w fun e w' => e = .returned (.tuple #[comesV (comesN ndH x n i P), .bool (comesN ndH x n i P).isSome]) ∧ Below w.heap.size w w' := by
  obtain ⟨xp, cp, rfl, _⟩ := hs.form
  obtain ⟨W, hW⟩ : ∃ W, W = (w.alloc (.cells (bytesV x.b).toArray 30)).alloc (.cells z32.toArray 30) := ⟨_, rfl⟩
  have hbW : Below w.heap.size w W := by rw [hW]; (repeat (first | with_reducible assumption | with_reducible exact Below.refl _ _ | ((with_reducible refine Below.setCell ?_ ?_ _); rotate_left; focus (first | omega | (simp; done) | (simp; omega))) | ((with_reducible refine Below.alloc ?_ ?_ _); rotate_left; focus (first | omega | (simp; done) | (simp; omega))) | ((with_reducible refine below_setRow ?_ ?_ _); rotate_left; focus (first | omega | (simp; done) | (simp; omega))) | (with_reducible refine below_drewN ?_ _) | (with_reducible refine Below.drew ?_)))
  have hX : Blk W w.heap.size (bytesV x.b) 30 := by rw [hW]; exact (Blk.newL w _ _).alloc _
  have hR : Blk W (w.heap.size + 1) z32 30 := by rw [hW]; exact Blk.newL1 w _ _ _
  have hsW : W.heap.size = w.heap.size + 1 + 1 := by rw [hW]; simp
  have k1 : ¬ (i : Int) < 0 := by omega
  have k2 : ¬ (n : Int) ≤ i := by omega
  have k3 : ¬ (1048576 : Int) < n := by omega
  obtain ⟨T, hT⟩ : ∃ T, T = comesN ndH x n i P := ⟨_, rfl⟩
  rw [← hT]
  have HT := Lib.hid hT
  have HX := Lib.hid hX
  have HR := Lib.hid hR
  have HS := Lib.hid (hs.below hbW)
  have HG := Lib.hid (hg.below hbW)
  have HW := Lib.hid hW
  clear hT hX hR hs hg
  unfold hv
  go_enter Tryd.func41, Tryd.ntmps41
  go_wp2_with fail
  go_loopw [1, 2, 10] (fun iv nv lv wr => ∃ (A : List Bool) (j m : Nat), iv = .int .i64 j ∧ nv = .int .i64 m ∧ j < m ∧ m ≤ n ∧ Bs wr lv A ∧ sidesN n i = sidesN m j ++ A ∧ Below W.heap.size W wr) (fun _ nv _ _ => (intOf nv).toNat)
  case atStart => exact ⟨[], i, n, rfl, rfl, hi, Nat.le_refl _, Bs.nil _, by rw [List.append_nil], HW.out ▸ Below.refl _ _⟩
  case round =>
    obtain ⟨A, j, m, rfl, rfl, hjm, hmn, hA, hSd, hb⟩ := hrel
    have hAl : A.length ≤ 40 := by
      have h40 := sidesN_len 40 n i (by simp; omega)
      rw [hSd, List.length_append] at h40
      omega
    have hsz := hb.size
    have HA := Lib.hid hA
    have HSd := Lib.hid hSd
    clear hA hSd
    by_cases hm : 2 ≤ m
    · have hgt : (1 : Int) < m := by omega
      obtain ⟨k, hk⟩ : ∃ k, k = splitN m := ⟨_, rfl⟩
      have hlt := splitN_lt m hm
      have hpos := splitN_pos m hm
      rw [← hk] at hlt hpos
      have HK := Lib.hid hk
      by_cases hik : j < k
      · have hlt' : (j : Int) < k := by omega
        have hdt : decide ((j : Int) < k) = true := decide_eq_true hlt'
        have hnx : sidesN n i = sidesN k j ++ (true :: A) := by rw [HSd.out, sidesN_left m j hm (hk ▸ hik), ← hk, List.append_assoc]; rfl
        have HNX := Lib.hid hnx
        clear hnx hk
        go_wp2_with (first
          | (go_at_call 33; refine (refsplit_any m _ (by omega)).mono ?_; rintro e w2 ⟨rfl, h2w⟩; rw [h2w, ← HK.out]; clear h2w w2)
          | (at_builtin; refine wpList_ahead rfl (.tmp 33) (.tmp 34) rfl true _ A rfl rfl HA.out (by omega) ?_; intro v5 w5 hA5 hb5; have HA5 := Lib.hid hA5; have hb6 := hb.trans (hb5.mono hsz); clear hA5 hb5)
          | fail)
        exact ⟨⟨_, j, k, rfl, rfl, hik, by omega, HA5.out, HNX.out, hb6⟩, by simp [intOf]; omega⟩
      · have hlt' : ¬ (j : Int) < k := by omega
        have hdt : decide ((j : Int) < k) = false := decide_eq_false hlt'
        have hnx : sidesN n i = sidesN (m - k) (j - k) ++ (false :: A) := by rw [HSd.out, sidesN_right m j hm (hk ▸ hik), ← hk, List.append_assoc]; rfl
        have HNX := Lib.hid hnx
        clear hnx hk
        go_wp2_with (first
          | (go_at_call 33; refine (refsplit_any m _ (by omega)).mono ?_; rintro e w2 ⟨rfl, h2w⟩; rw [h2w, ← HK.out]; clear h2w w2)
          | (at_builtin; refine wpList_ahead rfl (.tmp 33) (.tmp 34) rfl false _ A rfl rfl HA.out (by omega) ?_; intro v5 w5 hA5 hb5; have HA5 := Lib.hid hA5; have hb6 := hb.trans (hb5.mono hsz); clear hA5 hb5)
          | fail)
        exact ⟨⟨_, j - k, m - k, by go_num, by go_num, by omega, by omega, HA5.out, HNX.out, hb6⟩, by simp [intOf]; omega⟩
    · have hgt : ¬ (1 : Int) < m := by omega
      have hAe : sidesN n i = A := by rw [HSd.out, sidesN_low m j (by omega)]; rfl
      have HAe := Lib.hid hAe
      have HX2 := Lib.hid (HX.out.below hb HX.out.lt)
      have HR2 := Lib.hid (HR.out.below hb HR.out.lt)
      have hbw := hbW.trans (hb.mono hbW.size)
      obtain ⟨ya, yc, hye, _⟩ := HA.out.form
      subst hye
      clear hAe
      by_cases hln : A.length = P.length
      · have hne : ((A.length : Int) == P.length) = true := by rw [beq_iff_eq]; omega
        rename World => v0
        obtain ⟨u0, hu0⟩ : ∃ u0, u0 = (v0.alloc (.cells z32.toArray 30)).setRow v0.heap.size (bytesV x.b).toArray := ⟨_, rfl⟩
        have hb0 : Below v0.heap.size v0 u0 := by rw [hu0]; exact below_setRow ((Below.refl _ _).alloc (Nat.le_refl _) _) (Nat.le_refl _) _
        have hB0 : Blk u0 v0.heap.size (bytesV x.b) 30 := by rw [hu0]; exact (Blk.newL v0 z32 _).setRow _
        have HB0 := Lib.hid hB0
        have HU0 := Lib.hid hu0
        have HSr := Lib.hid (HS.out.below hb)
        have HGr := Lib.hid (HG.out.below hb)
        clear hB0 hu0
        go_wp2_with (first
          | (refine wpList_load_row rfl 30 (.tmp 4) rfl w.heap.size rfl 30 (bytesV x.b).toArray (0, 0) _ (by exact HX2.out) Tryd.underlying30 rfl (by exact hv_row _) ?_)
          | (refine wpList_store_row rfl 30 (.tmp 12) (.tmp 52) rfl v0.heap.size (bytesV x.b).toArray rfl rfl 30 z32.toArray (by exact Blk.newL v0 z32 _) (by exact hv_row _) (by exact z32_old _) (by exact hv_one _) ?_)
          | fail)
        go_loopw [13] (fun jv u => ∃ (q : Nat) (cur : H), jv = .int .i64 q ∧ q ≤ P.length ∧ cur = climbN ndH x ((A.zip P).take q) ∧ Blk u v0.heap.size (bytesV cur.b) 30 ∧ Below v0.heap.size v0 u) (fun jv _ => P.length - (intOf jv).toNat)
        case atStart => exact ⟨0, x, rfl, by omega, rfl, HU0.out ▸ HB0.out, HU0.out ▸ hb0⟩
        case round =>
          rename World => u
          obtain ⟨q, cur, rfl, hq, hcur, hB12, hu⟩ := hrel
          have HB12 := Lib.hid hB12
          have HGu := Lib.hid (HGr.out.below hu)
          clear hB12
          by_cases hlt : q < P.length
          · have hlt' : (q : Int) < P.length := by omega
            obtain ⟨o, ho⟩ : ∃ o, P[q]? = some o := ⟨_, List.getElem?_eq_getElem hlt⟩
            obtain ⟨sd, hsd⟩ : ∃ sd, A[q]? = some sd := ⟨_, List.getElem?_eq_getElem (by omega)⟩
            obtain ⟨bp, offp, e1, _, hr, hbp⟩ := hs_block HSr.out (by omega)
            subst e1
            obtain ⟨ba, offa, ca, ea, hca, hra, hba⟩ := IsSl.pos HA.out (by omega) (by decide)
            cases ea
            have hE : u.rangeAt bp (offp + q * 32) (bytesV o.b) := range_below (Hs.elem hr ho) hu
            have cA : u.cell? ⟨ba, offa + q, none⟩ = some (.bool sd) := (hu.cell (p := ⟨ba, offa + q, none⟩) hba).trans (hra q (.bool sd) (by rw [List.getElem?_map, hsd]; rfl))
            have hix : (0 : Int) ≤ q ∧ (q : Int) < P.length := ⟨by omega, hlt'⟩
            have hixA : (0 : Int) ≤ q ∧ (q : Int) < A.length := ⟨by omega, by omega⟩
            have HE := Lib.hid hE
            clear hE hr hra
            cases sd with
            | true =>
              have hst : climbN ndH x ((A.zip P).take (q + 1)) = ndH cur o := by rw [climb_step x A P q true o hsd ho, ← hcur]; rfl
              have HST := Lib.hid hst
              clear hst hsd ho hcur
              go_wp2_with fail
              refine wp_region_monoF 6 (u.heap.size) [] [(fun v _ => v = .agg (bytesV cur.b).toArray), (fun v _ => v = .slice (some ⟨bp, offp, none⟩) P.length cp), (fun v _ => v = .int .i64 q), (fun v _ => v = .pointer (some ⟨bp, offp + q * 32, none⟩)), (fun v _ => v = .agg (bytesV o.b).toArray), (fun v _ => v = .agg (bytesV (ndH cur o).b).toArray)] (by kernel_rfl) (by kernel_rfl) (by decide) (Nat.le_refl _) ?mkept _ rfl ?mops ?mfin
              case mkept =>
                repeat (refine List.forall_mem_cons.2 ⟨by first | exact fun _ _ _ _ h => h | exact fun _ _ _ hb h => Parts.below h hb | exact fun _ _ _ hb h => IsSl.below h hb | exact fun _ _ _ hb h => RowAt.below h hb | exact fun _ _ _ hb ⟨vs, h⟩ => ⟨vs, Parts.below h hb⟩ | exact fun _ _ _ hb h => ownsRow_below h hb (ownsRow_block h) | exact fun _ _ _ hb ⟨g, e, h⟩ => ⟨g, e, ownsRow_below h hb (ownsRow_block h)⟩, ?_⟩)
                exact fun _ h => by cases h
              case mops =>
                simp only [List.take_succ_cons, List.take_zero, monoAllF, List.getD_cons_zero, List.getD_cons_succ]
                iterate 6
                
                 (refine ⟨fun x wr hb hd Qg hK => ?_, ?_⟩
                  · as_aux_lemma =>
                    simp only [fill, Act.put, List.setIfInBounds_toArray, List.set_cons_succ, List.set_cons_zero, needs, Region.binds, List.filter_cons, List.filter_nil, List.map_cons, List.map_nil, if_true, List.mem_cons, List.not_mem_nil, or_false, forall_eq_or_imp, forall_eq, List.getD_cons_zero, List.getD_cons_succ, false_implies, implies_true] at hd hK ⊢
                    (try simp only [hd] at hK ⊢)
                    first
                    | (have hBr := HB12.out.below hb (HB12.out.lt); refine wpList_load_rowIf rfl 30 (.tmp 12) rfl _ rfl 30 ((bytesV cur.b)).toArray (0, 0) _ (by exact hBr) Tryd.underlying30 rfl (hv_row _) ?_; exact hK _ _ rfl (by first | exact trivial | exact fun h => absurd h (by decide) | exact fun _ => new_alloc _ _) (Below.refl _ _))
                    | ((refine wpList_load_midIf rfl 30 (.tmp 66) rfl bp (offp + q * 32) rfl (bytesV o.b) _ (range_below HE.out hb) Tryd.underlying30 rfl (hv_info o) ?_; exact hK _ _ rfl (by first | exact trivial | exact fun h => absurd h (by decide) | exact fun _ => new_alloc _ _) (Below.refl _ _)))
                    | (show wpList _ _ _ [⟨some 68, .call _, _, _, _, _⟩] _ _; go_wp2_with (go_at_call 55; refine (refnode_any cur o wr (HGu.out.below hb)).mono ?_; rintro e w5 ⟨rfl, hb5⟩); exact hK _ _ (rfl) (by first | exact trivial | exact fun h => absurd h (by decide) | exact fun _ => new_alloc _ _) hb5)
                    | (go_wp2_with fail; exact hK _ _ rfl (by first | exact trivial | exact fun h => absurd h (by decide) | exact fun _ => new_alloc _ _) (Below.refl _ _)))
                trivial
              case mfin =>
                intro z u9 hb9 hR9 _
                have z5 := hR9 5 (by decide)
                simp only [List.getD_cons_zero, List.getD_cons_succ] at z5
                have HB9 := Lib.hid (HB12.out.below hb9 HB12.out.lt)
                have hu9 := hu.trans (hb9.mono hu.size)
                clear hR9 hb9
                simp only [List.drop_succ_cons, List.drop_zero]
                generalize List.toArray _ = L0
                simp only [List.take_succ_cons, List.take_zero, List.map_cons, List.map_nil, fill, Act.put, List.setIfInBounds_toArray, List.set_cons_succ, List.set_cons_zero, z5]
                clear z5
                go_wp2_with (first
                  | (refine wpList_store_row rfl 30 (.tmp 12) (.tmp 68) rfl v0.heap.size (bytesV (ndH cur o).b).toArray rfl rfl 30 (bytesV cur.b).toArray (by exact HB9.out) (by exact hv_row _) (by simp only [List.size_toArray, bytesV_len, H.len]) (by exact hv_one _) ?_)
                  | fail)
                exact ⟨⟨q + 1, _, by go_num, by omega, HST.out.symm, HB9.out.setRow _, below_setRow hu9 (Nat.le_refl _) _⟩, by simp [intOf]; omega⟩
            | false =>
              have hst : climbN ndH x ((A.zip P).take (q + 1)) = ndH o cur := by rw [climb_step x A P q false o hsd ho, ← hcur]; rfl
              have HST := Lib.hid hst
              clear hst hsd ho hcur
              go_wp2_with fail
              refine wp_region_monoF 6 (u.heap.size) [] [(fun v _ => v = .slice (some ⟨bp, offp, none⟩) P.length cp), (fun v _ => v = .int .i64 q), (fun v _ => v = .pointer (some ⟨bp, offp + q * 32, none⟩)), (fun v _ => v = .agg (bytesV o.b).toArray), (fun v _ => v = .agg (bytesV cur.b).toArray), (fun v _ => v = .agg (bytesV (ndH o cur).b).toArray)] (by kernel_rfl) (by kernel_rfl) (by decide) (Nat.le_refl _) ?mkept _ rfl ?mops ?mfin
              case mkept =>
                repeat (refine List.forall_mem_cons.2 ⟨by first | exact fun _ _ _ _ h => h | exact fun _ _ _ hb h => Parts.below h hb | exact fun _ _ _ hb h => IsSl.below h hb | exact fun _ _ _ hb h => RowAt.below h hb | exact fun _ _ _ hb ⟨vs, h⟩ => ⟨vs, Parts.below h hb⟩ | exact fun _ _ _ hb h => ownsRow_below h hb (ownsRow_block h) | exact fun _ _ _ hb ⟨g, e, h⟩ => ⟨g, e, ownsRow_below h hb (ownsRow_block h)⟩, ?_⟩)
                exact fun _ h => by cases h
              case mops =>
                simp only [List.take_succ_cons, List.take_zero, monoAllF, List.getD_cons_zero, List.getD_cons_succ]
                iterate 6
                
                 (refine ⟨fun x wr hb hd Qg hK => ?_, ?_⟩
                  · as_aux_lemma =>
                    simp only [fill, Act.put, List.setIfInBounds_toArray, List.set_cons_succ, List.set_cons_zero, needs, Region.binds, List.filter_cons, List.filter_nil, List.map_cons, List.map_nil, if_true, List.mem_cons, List.not_mem_nil, or_false, forall_eq_or_imp, forall_eq, List.getD_cons_zero, List.getD_cons_succ, false_implies, implies_true] at hd hK ⊢
                    (try simp only [hd] at hK ⊢)
                    first
                    | (have hBr := HB12.out.below hb (HB12.out.lt); refine wpList_load_rowIf rfl 30 (.tmp 12) rfl _ rfl 30 ((bytesV cur.b)).toArray (0, 0) _ (by exact hBr) Tryd.underlying30 rfl (hv_row _) ?_; exact hK _ _ rfl (by first | exact trivial | exact fun h => absurd h (by decide) | exact fun _ => new_alloc _ _) (Below.refl _ _))
                    | ((refine wpList_load_midIf rfl 30 (.tmp 71) rfl bp (offp + q * 32) rfl (bytesV o.b) _ (range_below HE.out hb) Tryd.underlying30 rfl (hv_info o) ?_; exact hK _ _ rfl (by first | exact trivial | exact fun h => absurd h (by decide) | exact fun _ => new_alloc _ _) (Below.refl _ _)))
                    | (show wpList _ _ _ [⟨some 74, .call _, _, _, _, _⟩] _ _; go_wp2_with (go_at_call 55; refine (refnode_any o cur wr (HGu.out.below hb)).mono ?_; rintro e w5 ⟨rfl, hb5⟩); exact hK _ _ (rfl) (by first | exact trivial | exact fun h => absurd h (by decide) | exact fun _ => new_alloc _ _) hb5)
                    | (go_wp2_with fail; exact hK _ _ rfl (by first | exact trivial | exact fun h => absurd h (by decide) | exact fun _ => new_alloc _ _) (Below.refl _ _)))
                trivial
              case mfin =>
                intro z u9 hb9 hR9 _
                have z5 := hR9 5 (by decide)
                simp only [List.getD_cons_zero, List.getD_cons_succ] at z5
                have HB9 := Lib.hid (HB12.out.below hb9 HB12.out.lt)
                have hu9 := hu.trans (hb9.mono hu.size)
                clear hR9 hb9
                simp only [List.drop_succ_cons, List.drop_zero]
                generalize List.toArray _ = L0
                simp only [List.take_succ_cons, List.take_zero, List.map_cons, List.map_nil, fill, Act.put, List.setIfInBounds_toArray, List.set_cons_succ, List.set_cons_zero, z5]
                clear z5
                go_wp2_with (first
                  | (refine wpList_store_row rfl 30 (.tmp 12) (.tmp 74) rfl v0.heap.size (bytesV (ndH o cur).b).toArray rfl rfl 30 (bytesV cur.b).toArray (by exact HB9.out) (by exact hv_row _) (by simp only [List.size_toArray, bytesV_len, H.len]) (by exact hv_one _) ?_)
                  | fail)
                exact ⟨⟨q + 1, _, by go_num, by omega, HST.out.symm, HB9.out.setRow _, below_setRow hu9 (Nat.le_refl _) _⟩, by simp [intOf]; omega⟩
          · have hlt' : ¬ (q : Int) < P.length := by omega
            have hce : climbN ndH x (A.zip P) = cur := by rw [hcur, List.take_of_length_le (by rw [List.length_zip]; omega)]
            have hTn : T = some cur := by rw [HT.out, comesN, HAe.out, if_pos hln, hce]
            clear hcur hce
            subst hTn
            have HR3 := Lib.hid (HR2.out.below hu HR2.out.lt)
            have hw3 := hbw.trans (hu.mono hbw.size)
            go_wp2_with (first
              | (refine wpList_load_row rfl 30 (.tmp 12) rfl v0.heap.size rfl 30 (bytesV cur.b).toArray (0, 0) _ (by exact HB12.out) Tryd.underlying30 rfl (by exact hv_row _) ?_)
              | (refine wpList_store_row rfl 30 (.tmp 8) (.tmp 75) rfl (w.heap.size + 1) (bytesV cur.b).toArray rfl rfl 30 z32.toArray (by exact HR3.out) (by exact hv_row _) (by exact z32_old _) (by exact hv_one _) ?_)
              | fail)
            exact bodyPost_ret (results_row_tmp (p := 8) (u := 9) rfl _ _ (w.heap.size + 1) 30 (bytesV cur.b).toArray (0, 0) _ rfl (HR3.out.setRow _) Tryd.underlying30 rfl (hv_row cur)) rfl ⟨rfl, below_setRow hw3 (by omega) _⟩
      · have hne : ((A.length : Int) == P.length) = false := by rw [beq_eq_false_iff_ne]; omega
        have hTn : T = none := by rw [HT.out, comesN, HAe.out, if_neg hln]
        subst hTn
        go_wp2_with (first
          | (refine wpList_store_row rfl 30 (.tmp 8) (.tmp 51) rfl (w.heap.size + 1) z32.toArray rfl (by rw [z32_arr]; rfl) 30 z32.toArray (by exact HR2.out) (by exact z32_row) (by exact z32_old z0H) (by exact hv_one z0H) ?_)
          | fail)
        exact bodyPost_ret (results_row_tmp (p := 8) (u := 9) rfl _ _ (w.heap.size + 1) 30 z32.toArray (0, 0) _ rfl (HR2.out.setRow z32) Tryd.underlying30 rfl z32_row) rfl ⟨rfl, below_setRow hbw (by omega) _⟩
end Go.Proofs.YthgkaegkkkghhaaDoor

/-! Ref6D: The walks of the reference's Comes, whatever the numbers, and of its In. Conditions: the path can be read, at most 4096 hashes; the package's tables read as they are laid. -/
namespace Go.Proofs.YthgkaegkkkghhaaDoor
open Go.RowKit

theorem hw_lit (w : World) (l : List Value) (e : TypeId) : (w.alloc (.cells l.toArray e)).alloc (.cells z32.toArray 30) = (w.alloc (.cells l.toArray e)).alloc (.cells #[.int .u8 0, .int .u8 0, .int .u8 0, .int .u8 0, .int .u8 0, .int .u8 0, .int .u8 0, .int .u8 0, .int .u8 0, .int .u8 0, .int .u8 0, .int .u8 0, .int .u8 0, .int .u8 0, .int .u8 0, .int .u8 0, .int .u8 0, .int .u8 0, .int .u8 0, .int .u8 0, .int .u8 0, .int .u8 0, .int .u8 0, .int .u8 0, .int .u8 0, .int .u8 0, .int .u8 0, .int .u8 0, .int .u8 0, .int .u8 0, .int .u8 0, .int .u8 0] 30) := by rw [z32_arr]
set_option maxRecDepth 100000 in
set_option maxHeartbeats 1000000 in
theorem refcomes_badA (w : World) (x : H) (i n : Int) (pv : Value) (h : i < 0) :
    Calls Tryd.prog 41 #[hv x, .int .i64 i, .int .i64 n, pv] w fun e w' => e = .returned (.tuple #[.agg z32.toArray, .bool false]) ∧ Below w.heap.size w w' := by
  have hb : Below w.heap.size w ((w.alloc (.cells (bytesV x.b).toArray 30)).alloc (.cells z32.toArray 30)) := by (repeat (first | with_reducible assumption | with_reducible exact Below.refl _ _ | ((with_reducible refine Below.setCell ?_ ?_ _); rotate_left; focus (first | omega | (simp; done) | (simp; omega))) | ((with_reducible refine Below.alloc ?_ ?_ _); rotate_left; focus (first | omega | (simp; done) | (simp; omega))) | ((with_reducible refine below_setRow ?_ ?_ _); rotate_left; focus (first | omega | (simp; done) | (simp; omega))) | (with_reducible refine below_drewN ?_ _) | (with_reducible refine Below.drew ?_)))
  have h3 : Blk ((w.alloc (.cells (bytesV x.b).toArray 30)).alloc (.cells z32.toArray 30)) (w.heap.size + 1) z32 30 := Blk.newL1 w _ _ _
  rw [hw_lit] at hb h3
  have H3 := Lib.hid h3
  clear h3
  unfold hv
  go_enter Tryd.func41, Tryd.ntmps41
  go_wp2_with (first
    | (refine wpList_store_row rfl 30 (.tmp 8) (.tmp 25) rfl (w.heap.size + 1) z32.toArray rfl (by rw [z32_arr]; rfl) 30 z32.toArray (by exact H3.out) (by exact z32_row) (by exact z32_old z0H) (by exact hv_one z0H) ?_)
    | fail)
  refine bodyPost_ret (results_row_tmp (p := 8) (u := 9) rfl _ _ (w.heap.size + 1) 30 z32.toArray (0, 0) _ rfl (H3.out.setRow z32) Tryd.underlying30 rfl z32_row) rfl ⟨rfl, below_setRow hb (by omega) _⟩
set_option maxRecDepth 100000 in
set_option maxHeartbeats 1000000 in
theorem refcomes_badB (w : World) (x : H) (i n : Int) (pv : Value) (h : 0 ≤ i) (h' : n ≤ i) :
    Calls Tryd.prog 41 #[hv x, .int .i64 i, .int .i64 n, pv] w fun e w' => e = .returned (.tuple #[.agg z32.toArray, .bool false]) ∧ Below w.heap.size w w' := by
  have hb : Below w.heap.size w ((w.alloc (.cells (bytesV x.b).toArray 30)).alloc (.cells z32.toArray 30)) := by (repeat (first | with_reducible assumption | with_reducible exact Below.refl _ _ | ((with_reducible refine Below.setCell ?_ ?_ _); rotate_left; focus (first | omega | (simp; done) | (simp; omega))) | ((with_reducible refine Below.alloc ?_ ?_ _); rotate_left; focus (first | omega | (simp; done) | (simp; omega))) | ((with_reducible refine below_setRow ?_ ?_ _); rotate_left; focus (first | omega | (simp; done) | (simp; omega))) | (with_reducible refine below_drewN ?_ _) | (with_reducible refine Below.drew ?_)))
  have h3 : Blk ((w.alloc (.cells (bytesV x.b).toArray 30)).alloc (.cells z32.toArray 30)) (w.heap.size + 1) z32 30 := Blk.newL1 w _ _ _
  rw [hw_lit] at hb h3
  have H3 := Lib.hid h3
  clear h3
  unfold hv
  go_enter Tryd.func41, Tryd.ntmps41
  go_wp2_with (first
    | (refine wpList_store_row rfl 30 (.tmp 8) (.tmp 25) rfl (w.heap.size + 1) z32.toArray rfl (by rw [z32_arr]; rfl) 30 z32.toArray (by exact H3.out) (by exact z32_row) (by exact z32_old z0H) (by exact hv_one z0H) ?_)
    | fail)
  refine bodyPost_ret (results_row_tmp (p := 8) (u := 9) rfl _ _ (w.heap.size + 1) 30 z32.toArray (0, 0) _ rfl (H3.out.setRow z32) Tryd.underlying30 rfl z32_row) rfl ⟨rfl, below_setRow hb (by omega) _⟩
set_option maxRecDepth 100000 in
set_option maxHeartbeats 1000000 in
theorem refcomes_badC (w : World) (x : H) (i n : Int) (pv : Value) (h : 0 ≤ i) (h' : i < n) (h'' : 1048576 < n) :
    Calls Tryd.prog 41 #[hv x, .int .i64 i, .int .i64 n, pv] w fun e w' => e = .returned (.tuple #[.agg z32.toArray, .bool false]) ∧ Below w.heap.size w w' := by
  have hb : Below w.heap.size w ((w.alloc (.cells (bytesV x.b).toArray 30)).alloc (.cells z32.toArray 30)) := by (repeat (first | with_reducible assumption | with_reducible exact Below.refl _ _ | ((with_reducible refine Below.setCell ?_ ?_ _); rotate_left; focus (first | omega | (simp; done) | (simp; omega))) | ((with_reducible refine Below.alloc ?_ ?_ _); rotate_left; focus (first | omega | (simp; done) | (simp; omega))) | ((with_reducible refine below_setRow ?_ ?_ _); rotate_left; focus (first | omega | (simp; done) | (simp; omega))) | (with_reducible refine below_drewN ?_ _) | (with_reducible refine Below.drew ?_)))
  have h3 : Blk ((w.alloc (.cells (bytesV x.b).toArray 30)).alloc (.cells z32.toArray 30)) (w.heap.size + 1) z32 30 := Blk.newL1 w _ _ _
  rw [hw_lit] at hb h3
  have H3 := Lib.hid h3
  clear h3
  unfold hv
  go_enter Tryd.func41, Tryd.ntmps41
  go_wp2_with (first
    | (refine wpList_store_row rfl 30 (.tmp 8) (.tmp 25) rfl (w.heap.size + 1) z32.toArray rfl (by rw [z32_arr]; rfl) 30 z32.toArray (by exact H3.out) (by exact z32_row) (by exact z32_old z0H) (by exact hv_one z0H) ?_)
    | fail)
  refine bodyPost_ret (results_row_tmp (p := 8) (u := 9) rfl _ _ (w.heap.size + 1) 30 z32.toArray (0, 0) _ rfl (H3.out.setRow z32) Tryd.underlying30 rfl z32_row) rfl ⟨rfl, below_setRow hb (by omega) _⟩
theorem refcomes_any (w : World) (x : H) (i n : Int) (pv : Value) (P : List H) (hs : Hs w pv P) (hl : P.length ≤ 4096) (hg : Glob w) :
    Calls Tryd.prog 41 #[hv x, .int .i64 i, .int .i64 n, pv] w fun e w' => e = .returned (.tuple #[hv ((comesR x i n P).getD z0H), .bool (comesR x i n P).isSome]) ∧ Below w.heap.size w w' := by
  rw [← comesV_eq]
  by_cases h1 : i < 0
  · rw [show comesR x i n P = none from if_neg (by omega)]
    exact refcomes_badA w x i n pv h1
  by_cases h2 : n ≤ i
  · rw [show comesR x i n P = none from if_neg (by omega)]
    exact refcomes_badB w x i n pv (by omega) h2
  by_cases h3 : 1048576 < n
  · rw [show comesR x i n P = none from if_neg (by omega)]
    exact refcomes_badC w x i n pv (by omega) (by omega) h3
  obtain ⟨a, rfl⟩ : ∃ a : Nat, i = a := ⟨i.toNat, by omega⟩
  obtain ⟨b, rfl⟩ : ∃ b : Nat, n = b := ⟨n.toNat, by omega⟩
  rw [show comesR x (a : Int) (b : Int) P = comesN ndH x b a P from if_pos ⟨by omega, by omega, by omega⟩]
  exact refcomes_ok w x a b pv P hs hl hg (by omega) (by omega) (by omega)
end Go.Proofs.YthgkaegkkkghhaaDoor
