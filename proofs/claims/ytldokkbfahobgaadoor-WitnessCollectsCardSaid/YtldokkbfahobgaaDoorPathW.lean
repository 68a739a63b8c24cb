/- A list of hashes in memory of the call's own: made, told further, appended to. The walk of proof.Path. The walks of proof.sub and proof.Prove. The walks of the closure that takes a path's hashes, the last first: it panics at none. A region that draws its order, one of whose operations turns one block that was there (and may panic); the others turn nothing; the tail stands in one forced order. The walks of taken's deferred closure: of a frame that returns, and of one that panics for want of a hash. The walk of taken, the walk that it is handed told by its contract. A region that draws its order, one of whose operations turns one block that was there (and may panic): as XBut, where besides the operations that it waits for find that block as it was. A region that draws its order and lays rows of its own, each filled by one store, while one of its operations turns a block that was there. Conditions: what each part says. -/
import Derived.Test.YtldokkbfahobgaaDoorTreeW
import Derived.Test.YtldokkbfahobgaaDoorGround
import Derived.Test.YtldokkbfahobgaaDoorHashP
import Derived.Recover
/-! Own: A list of hashes in memory of the call's own: made, told further, appended to. Conditions: the sizes' bounds. -/
namespace Go.Proofs.YtldokkbfahobgaaDoor
open Go.RowKit

def Own (w : World) (base : Nat) (v : Value) (l : List H) : Prop := w.ownsRow base 31 32 v l.length (bytesV (hflat l))
theorem Own.nil (w : World) (base : Nat) : Own w base (.slice none 0 0) [] := World.ownsRow_nil _ _ _ _
theorem Own.hs {w : World} {base : Nat} {v : Value} {l : List H} (h : Own w base v l) : Hs w v l := ownsRow_isSl h (bytesV_one _)
theorem Own.below {w w' : World} {base : Nat} {v : Value} {l : List H} (h : Own w base v l) (hb : Below w.heap.size w w') : Own w' base v l := ownsRow_below h hb (ownsRow_block h)
theorem Own.base {w : World} {base base' : Nat} {v : Value} {l : List H} (h : Own w base v l) (hb : base' ≤ base) : Own w base' v l := own_base h hb
theorem Own.fresh (w : World) (vs : List H) {B n base : Nat} (hB : w.heap.size = B) (hn : vs.length = n) (hb : base ≤ B) (hm : n ≤ maxLen) : Own (w.alloc (.cells (bytesV (hflat vs)).toArray 31)) base (.slice (some ⟨B, 0, none⟩) n n) vs := by
  have := own_new w vs hB hn hb hm
  unfold Own
  rw [hn]
  exact this
theorem Own.form {w : World} {base : Nat} {v : Value} {l : List H} (h : Own w base v l) : ∃ a c, v = .slice a l.length c := ownsRow_form h
theorem wpList_owned {w w0 : World} {ops : Array Oper} {rest : List Oper} {o : Oper} {a : Act} {Q : Exit → Act → World → Prop} (hgd : o.guard = none) (s x : Operand)
    (ho : o.op = .call { callee := .builtin .append, args := #[s, x], argTypes := #[22, 22] }) (base : Nat) (v xv : Value) (l m : List H) (hs : a.eval s = v) (hO : Own w base v l)
    (hx : a.eval x = xv) (hX : Hs w xv m) (hlen : l.length + m.length ≤ 4096) (hb : base ≤ w.heap.size) (hW : Below base w0 w)
    (h : ∀ v' w', Own w' base v' (l ++ m) → Below base w0 w' → wpList Tryd.prog ops Q rest (a.put o.dst v') w') : wpList Tryd.prog ops Q (o :: rest) a w := by
  obtain ⟨i0, hi, hz0, hz1, hz2⟩ := info_parts info_hash
  refine wpList_app hgd s x 22 ho base 31 i0 (.agg z32.toArray) 32 32 Tryd.underlying22 hi hz0 hz1 hz2 rfl (by decide) v l.length _ hs hO xv m.length (bytesV (hflat m)) hx hX (by unfold maxLen; omega) (by omega) hb ?_
  intro a' c' w' hown hgrow _
  refine h _ w' ?_ (hW.grown hgrow hb (fun k hk => (hO.lt k hk).1))
  unfold Own
  rw [List.length_append, hflat_app, bytesV_app]
  exact hown
theorem path_len (l : List H) (i : Nat) (hi : i < l.length) (hl : l.length ≤ 1099511627776) : (pathN ndH e0H l i).length ≤ 40 := by
  obtain ⟨h1, _⟩ := path_both ndH e0H _ l i (l[i]) rfl (List.getElem?_eq_getElem hi)
  rw [h1]
  exact sidesN_len 40 _ _ (by simpa using hl)
theorem pathN_low (l : List H) (i : Nat) (h : l.length < 2) : pathN ndH e0H l i = [] := by rw [pathN, dif_pos h]
theorem pathN_left (l : List H) (i : Nat) (h : 2 ≤ l.length) (hi : i < splitN l.length) : pathN ndH e0H l i = pathN ndH e0H (l.take (splitN l.length)) i ++ [rootN ndH e0H (l.drop (splitN l.length))] := by rw [pathN, dif_neg (by omega), if_pos hi]
theorem pathN_right (l : List H) (i : Nat) (h : 2 ≤ l.length) (hi : ¬ i < splitN l.length) : pathN ndH e0H l i = pathN ndH e0H (l.drop (splitN l.length)) (i - splitN l.length) ++ [rootN ndH e0H (l.take (splitN l.length))] := by rw [pathN, dif_neg (by omega), if_neg hi]
end Go.Proofs.YtldokkbfahobgaaDoor

/-! PathA: The walk of proof.Path. Conditions: the list can be read, at most 2^40 hashes; the package's tables read as they are laid. -/
namespace Go.Proofs.YtldokkbfahobgaaDoor
open Go.RowKit

end Go.Proofs.YtldokkbfahobgaaDoor

/-! PathB: The walks of proof.sub and proof.Prove. Conditions: the list can be read, at most 2^40 hashes; the package's tables read as they are laid. -/
namespace Go.Proofs.YtldokkbfahobgaaDoor
open Go.RowKit

theorem sub_few (l : List H) (m : Nat) (wh : Bool) (h1 : 1 ≤ m) (h2 : m ≤ l.length) (hl : l.length ≤ 1099511627776) : (subN ndH e0H l m wh).length ≤ 41 := by
  obtain ⟨i1, i2⟩ := sub_both ndH e0H _ l m wh rfl h1 h2
  have hs := sidesM_len 40 l.length m (by simpa using hl)
  cases h : wholeN l.length m wh with
  | true => rw [(i1 h).1]; omega
  | false =>
    obtain ⟨h', t, e0, e1, _⟩ := i2 h
    rw [e0, List.length_cons, e1]
    omega
theorem subN_end (l : List H) (m : Nat) (wh : Bool) (h : m = l.length) : subN ndH e0H l m wh = if wh then [] else [rootN ndH e0H l] := by rw [subN, dif_pos (.inr h)]
theorem subN_left (l : List H) (m : Nat) (wh : Bool) (h : 2 ≤ l.length) (hm : m ≠ l.length) (hi : m ≤ splitN l.length) : subN ndH e0H l m wh = subN ndH e0H (l.take (splitN l.length)) m wh ++ [rootN ndH e0H (l.drop (splitN l.length))] := by
  rw [subN, dif_neg (by omega), if_pos hi]
theorem subN_right (l : List H) (m : Nat) (wh : Bool) (h : 2 ≤ l.length) (hm : m ≠ l.length) (hi : ¬ m ≤ splitN l.length) : subN ndH e0H l m wh = subN ndH e0H (l.drop (splitN l.length)) (m - splitN l.length) false ++ [rootN ndH e0H (l.take (splitN l.length))] := by
  rw [subN, dif_neg (by omega), if_neg hi]
set_option maxRecDepth 100000 in
set_option maxHeartbeats 1000000 in
theorem sub_any : ∀ (n : Nat) (v : Value) (l : List H) (m : Nat) (wh : Bool) (w : World), l.length = n → n ≤ 1099511627776 → Hs w v l → Glob w → 1 ≤ m → m ≤ n →
    Calls Tryd.prog 34 #[v, .int .i64 m, .bool wh] w fun e w' => (∃ v', e = .returned v' ∧ Own w' w.heap.size v' (subN ndH e0H l m wh)) ∧ Below w.heap.size w w' := by
  intro n
  induction n using Nat.strongRecOn with
  | _ n ih =>
    intro v l m wh w hn hle hs hg hm1 hmn
    by_cases he : m = n
    · subst he
      have hpl := subN_end l m wh (by omega)
      obtain ⟨xa, ca, rfl, _⟩ := hs.form
      obtain ⟨R, hR⟩ : ∃ R, R = rootN ndH e0H l := ⟨_, rfl⟩
      rw [← hR] at hpl
      have HP := Lib.hid hpl
      have HS := Lib.hid hs
      have HG := Lib.hid hg
      have HR := Lib.hid hR
      have HN := Lib.hid hn
      rw [hn]
      clear hpl hs hg hR
      cases wh with
      | true =>
        clear hn
        go_enter Tryd.func34, Tryd.ntmps34
        go_wp2_with fail
        go_ret
        exact ⟨⟨_, rfl, by rw [HP.out]; exact Own.nil _ _⟩, Below.refl _ _⟩
      | false =>
        clear hn
        go_enter Tryd.func34, Tryd.ntmps34
        go_wp2_with (first
          | (go_at_call 19; refine (root_any m _ l w HN.out (by omega) (HN.out ▸ HS.out) HG.out).mono ?_; rintro e w4 ⟨rfl, hb4⟩; rw [← HR.out]; have hs4 := hb4.size)
          | (refine wpList_hashes rfl [R] 1 _ rfl rfl (by decide) (by decide) (by simp only [List.map_toArray, List.map_cons, List.map_nil]; rfl) ?_)
          | fail)
        go_ret
        exact ⟨⟨_, rfl, by rw [HP.out]; exact Own.fresh w4 [R] rfl rfl hs4 (by decide)⟩, hb4.alloc hs4 _⟩
    have he' : ¬ (m : Int) = n := by omega
    have h2 : 2 ≤ n := by omega
    have hpl := sub_few l m wh hm1 (by omega) (by omega)
    obtain ⟨xa, ca, rfl, _⟩ := hs.form
    obtain ⟨k, hk⟩ : ∃ k, k = splitN n := ⟨_, rfl⟩
    have hlt := splitN_lt n h2
    have hpos := splitN_pos n h2
    rw [← hk] at hlt hpos
    obtain ⟨a1, c1, hs1, hh1⟩ := hs_head hs k (by omega)
    obtain ⟨a2, c2, hs2, hh2⟩ := hs_tail hs k (by omega)
    rw [hn] at hs1 hs2 hh2
    have HG := Lib.hid hg
    have H1 := Lib.hid hh1
    have H2 := Lib.hid hh2
    have HK := Lib.hid hk
    by_cases hik : m ≤ k
    · have hlt' : (m : Int) ≤ k := by omega
      have hpp : subN ndH e0H l m wh = subN ndH e0H (l.take k) m wh ++ [rootN ndH e0H (l.drop k)] := by
        rw [hk, ← hn]
        exact subN_left l m wh (by omega) (by omega) (by rw [hn, ← hk]; exact hik)
      obtain ⟨R, hR⟩ : ∃ R, R = rootN ndH e0H (l.drop k) := ⟨_, rfl⟩
      obtain ⟨T, hT⟩ : ∃ T, T = subN ndH e0H (l.take k) m wh := ⟨_, rfl⟩
      rw [← hR, ← hT] at hpp
      rw [hpp, List.length_append, List.length_singleton] at hpl
      have HP := Lib.hid hpp
      have HR := Lib.hid hR
      have HT := Lib.hid hT
      have HN := Lib.hid hn
      clear hs hh1 hh2 hg hk hpp hR hT
      rw [hn]
      clear hn
      go_enter Tryd.func34, Tryd.ntmps34
      go_wp2_with (first
        | (go_at_call 32; refine (split_any n _ (by omega)).mono ?_; rintro e w2 ⟨rfl, h2w⟩; rw [h2w, ← HK.out]; clear h2w w2)
        | fail)
      refine wp_region_monoF 11 (w.heap.size) [] [(fun v _ => v = .slice xa n ca), (fun v _ => v = .int .i64 k), (fun v _ => v = .slice a1 k c1), (fun v _ => v = .int .i64 m), (fun v _ => v = .bool wh), (fun v w' => w'.ownsRow w.heap.size 31 32 v T.length (bytesV (hflat T))), (fun v _ => v = .slice xa n ca), (fun v _ => v = .int .i64 k), (fun v _ => v = .slice a2 (n - k) c2), (fun v _ => v = .agg (bytesV R.b).toArray), (fun v w => Hs w v [R])] (by kernel_rfl) (by kernel_rfl) (by decide) (Nat.le_refl _) ?mkept _ rfl ?mops ?mfin
      case mkept =>
        repeat (refine List.forall_mem_cons.2 ⟨by first | exact fun _ _ _ _ h => h | exact fun _ _ _ hb h => Parts.below h hb | exact fun _ _ _ hb h => IsSl.below h hb | exact fun _ _ _ hb h => RowAt.below h hb | exact fun _ _ _ hb ⟨vs, h⟩ => ⟨vs, Parts.below h hb⟩ | exact fun _ _ _ hb h => ownsRow_below h hb (ownsRow_block h) | exact fun _ _ _ hb ⟨g, e, h⟩ => ⟨g, e, ownsRow_below h hb (ownsRow_block h)⟩, ?_⟩)
        exact fun _ h => by cases h
      case mops =>
        simp only [List.take_succ_cons, List.take_zero, monoAllF, List.getD_cons_zero, List.getD_cons_succ]
        iterate 11
        
         (refine ⟨fun x wr hb hd Qg hK => ?_, ?_⟩
          · as_aux_lemma =>
            simp only [fill, Act.put, List.setIfInBounds_toArray, List.set_cons_succ, List.set_cons_zero, needs, Region.binds, List.filter_cons, List.filter_nil, List.map_cons, List.map_nil, if_true, List.mem_cons, List.not_mem_nil, or_false, forall_eq_or_imp, forall_eq, List.getD_cons_zero, List.getD_cons_succ, false_implies, implies_true] at hd hK ⊢
            (try simp only [hd] at hK ⊢)
            first
            | (show wpList _ _ _ [⟨some 27, .call _, _, _, _, _⟩] _ _; go_wp2_with (go_at_call 34; refine (ih k hlt _ (l.take k) m wh wr (by rw [List.length_take, HN.out]; omega) (by omega) (H1.out.below hb) (HG.out.below hb) hm1 hik).mono ?_; rintro e w5 ⟨⟨v5, rfl, hO5⟩, hb5⟩); exact hK _ _ (by rw [← HT.out] at hO5; exact hO5.base hb.size) (by first | exact trivial | exact fun h => absurd h (by decide) | exact fun _ => new_alloc _ _) hb5)
            | (show wpList _ _ _ [⟨some 31, .call _, _, _, _, _⟩] _ _; go_wp2_with (go_at_call 19; refine (root_any (n - k) _ (l.drop k) wr (by rw [List.length_drop, HN.out]) (by omega) (H2.out.below hb) (HG.out.below hb)).mono ?_; rintro e w5 ⟨rfl, hb5⟩); exact hK _ _ (by rw [HR.out]; rfl) (by first | exact trivial | exact fun h => absurd h (by decide) | exact fun _ => new_alloc _ _) hb5)
            | (refine wpList_hashes rfl [R] 1 _ rfl rfl (by decide) (by decide) (by simp only [List.map_toArray, List.map_cons, List.map_nil]; rfl) ?_; exact hK _ _ (hs_new wr [R] _ rfl rfl) (by first | exact trivial | exact fun h => absurd h (by decide) | exact fun _ => new_alloc _ _) ((Below.refl _ _).alloc (Nat.le_refl _) _))
            | (go_wp2_with fail; exact hK _ _ rfl (by first | exact trivial | exact fun h => absurd h (by decide) | exact fun _ => new_alloc _ _) (Below.refl _ _)))
        trivial
      case mfin =>
        intro x w9 hb9 hR9 _
        have x5 : Own w9 w.heap.size (x 5) T := hR9 5 (by decide)
        have x10 : Hs w9 (x 10) [R] := hR9 10 (by decide)
        have X5 := Lib.hid x5
        have X10 := Lib.hid x10
        have hs9 := hb9.size
        clear hR9 x5 x10
        simp only [List.drop_succ_cons, List.drop_zero]
        generalize List.toArray _ = L0
        simp only [List.take_succ_cons, List.take_zero, List.map_cons, List.map_nil, fill, Act.put, List.setIfInBounds_toArray, List.set_cons_succ, List.set_cons_zero]
        go_wp2_with (first
          | (at_builtin; refine wpList_owned rfl (.tmp 27) (.tmp 32) rfl w.heap.size (x 5) (x 10) T [R] rfl X5.out rfl X10.out (by rw [List.length_singleton]; omega) hs9 hb9 ?_; intro v6 w6 hO6 hw6; rw [← HP.out] at hO6; have HO6 := Lib.hid hO6; clear hO6)
          | fail)
        go_ret
        exact ⟨⟨_, rfl, HO6.out⟩, hw6⟩
    · have hlt' : ¬ (m : Int) ≤ k := by omega
      have hpp : subN ndH e0H l m wh = subN ndH e0H (l.drop k) (m - k) false ++ [rootN ndH e0H (l.take k)] := by
        rw [hk, ← hn]
        exact subN_right l m wh (by omega) (by omega) (by rw [hn, ← hk]; exact hik)
      obtain ⟨R, hR⟩ : ∃ R, R = rootN ndH e0H (l.take k) := ⟨_, rfl⟩
      obtain ⟨T, hT⟩ : ∃ T, T = subN ndH e0H (l.drop k) (m - k) false := ⟨_, rfl⟩
      rw [← hR, ← hT] at hpp
      rw [hpp, List.length_append, List.length_singleton] at hpl
      obtain ⟨j, hj⟩ : ∃ j, j = m - k := ⟨_, rfl⟩
      have hji : (m : Int) - k = j := by omega
      have HP := Lib.hid hpp
      have HR := Lib.hid hR
      have HT := Lib.hid hT
      have HN := Lib.hid hn
      have HJ := Lib.hid hj
      have hj1 : 1 ≤ j := by omega
      have hjn : j ≤ n - k := by omega
      clear hs hh1 hh2 hg hk hpp hR hT hj
      rw [hn]
      clear hn
      go_enter Tryd.func34, Tryd.ntmps34
      go_wp2_with (first
        | (go_at_call 32; refine (split_any n _ (by omega)).mono ?_; rintro e w2 ⟨rfl, h2w⟩; rw [h2w, ← HK.out]; clear h2w w2)
        | fail)
      refine wp_region_monoF 12 (w.heap.size) [] [(fun v _ => v = .slice xa n ca), (fun v _ => v = .int .i64 k), (fun v _ => v = .slice a2 (n - k) c2), (fun v _ => v = .int .i64 m), (fun v _ => v = .int .i64 k), (fun v _ => v = .int .i64 j), (fun v w' => w'.ownsRow w.heap.size 31 32 v T.length (bytesV (hflat T))), (fun v _ => v = .slice xa n ca), (fun v _ => v = .int .i64 k), (fun v _ => v = .slice a1 k c1), (fun v _ => v = .agg (bytesV R.b).toArray), (fun v w => Hs w v [R])] (by kernel_rfl) (by kernel_rfl) (by decide) (Nat.le_refl _) ?mkept _ rfl ?mops ?mfin
      case mkept =>
        repeat (refine List.forall_mem_cons.2 ⟨by first | exact fun _ _ _ _ h => h | exact fun _ _ _ hb h => Parts.below h hb | exact fun _ _ _ hb h => IsSl.below h hb | exact fun _ _ _ hb h => RowAt.below h hb | exact fun _ _ _ hb ⟨vs, h⟩ => ⟨vs, Parts.below h hb⟩ | exact fun _ _ _ hb h => ownsRow_below h hb (ownsRow_block h) | exact fun _ _ _ hb ⟨g, e, h⟩ => ⟨g, e, ownsRow_below h hb (ownsRow_block h)⟩, ?_⟩)
        exact fun _ h => by cases h
      case mops =>
        simp only [List.take_succ_cons, List.take_zero, monoAllF, List.getD_cons_zero, List.getD_cons_succ]
        iterate 12
        
         (refine ⟨fun x wr hb hd Qg hK => ?_, ?_⟩
          · as_aux_lemma =>
            simp only [fill, Act.put, List.setIfInBounds_toArray, List.set_cons_succ, List.set_cons_zero, needs, Region.binds, List.filter_cons, List.filter_nil, List.map_cons, List.map_nil, if_true, List.mem_cons, List.not_mem_nil, or_false, forall_eq_or_imp, forall_eq, List.getD_cons_zero, List.getD_cons_succ, false_implies, implies_true] at hd hK ⊢
            (try simp only [hd] at hK ⊢)
            first
            | (show wpList _ _ _ [⟨some 40, .call _, _, _, _, _⟩] _ _; go_wp2_with (go_at_call 34; refine (ih (n - k) (by omega) _ (l.drop k) j false wr (by rw [List.length_drop, HN.out]) (by omega) (H2.out.below hb) (HG.out.below hb) hj1 hjn).mono ?_; rintro e w5 ⟨⟨v5, rfl, hO5⟩, hb5⟩); exact hK _ _ (by rw [HJ.out, ← HT.out] at hO5; exact hO5.base hb.size) (by first | exact trivial | exact fun h => absurd h (by decide) | exact fun _ => new_alloc _ _) hb5)
            | (show wpList _ _ _ [⟨some 44, .call _, _, _, _, _⟩] _ _; go_wp2_with (go_at_call 19; refine (root_any k _ (l.take k) wr (by rw [List.length_take, HN.out]; omega) (by omega) (H1.out.below hb) (HG.out.below hb)).mono ?_; rintro e w5 ⟨rfl, hb5⟩); exact hK _ _ (by rw [HR.out]; rfl) (by first | exact trivial | exact fun h => absurd h (by decide) | exact fun _ => new_alloc _ _) hb5)
            | (refine wpList_hashes rfl [R] 1 _ rfl rfl (by decide) (by decide) (by simp only [List.map_toArray, List.map_cons, List.map_nil]; rfl) ?_; exact hK _ _ (hs_new wr [R] _ rfl rfl) (by first | exact trivial | exact fun h => absurd h (by decide) | exact fun _ => new_alloc _ _) ((Below.refl _ _).alloc (Nat.le_refl _) _))
            | (go_wp2_with fail; exact hK _ _ rfl (by first | exact trivial | exact fun h => absurd h (by decide) | exact fun _ => new_alloc _ _) (Below.refl _ _)))
        trivial
      case mfin =>
        intro x w9 hb9 hR9 _
        have x5 : Own w9 w.heap.size (x 6) T := hR9 6 (by decide)
        have x10 : Hs w9 (x 11) [R] := hR9 11 (by decide)
        have X5 := Lib.hid x5
        have X10 := Lib.hid x10
        have hs9 := hb9.size
        clear hR9 x5 x10
        simp only [List.drop_succ_cons, List.drop_zero]
        generalize List.toArray _ = L0
        simp only [List.take_succ_cons, List.take_zero, List.map_cons, List.map_nil, fill, Act.put, List.setIfInBounds_toArray, List.set_cons_succ, List.set_cons_zero]
        go_wp2_with (first
          | (at_builtin; refine wpList_owned rfl (.tmp 40) (.tmp 45) rfl w.heap.size (x 6) (x 11) T [R] rfl X5.out rfl X10.out (by rw [List.length_singleton]; omega) hs9 hb9 ?_; intro v6 w6 hO6 hw6; rw [← HP.out] at hO6; have HO6 := Lib.hid hO6; clear hO6)
          | fail)
        go_ret
        exact ⟨⟨_, rfl, HO6.out⟩, hw6⟩
set_option maxRecDepth 100000 in
set_option maxHeartbeats 400000 in
theorem prove_none (v : Value) (l : List H) (m : Int) (w : World) (hs : Hs w v l) (hi : m < 1 ∨ (l.length : Int) < m) :
    Calls Tryd.prog 20 #[v, .int .i64 m] w fun e w' => e = .returned (.tuple #[.slice none 0 0, .bool false]) ∧ w' = w := by
  obtain ⟨xa, ca, rfl, _⟩ := hs.form
  by_cases h0 : m < 1
  · go_enter Tryd.func20, Tryd.ntmps20
    go_wp2_with fail
    go_ret2
    exact ⟨rfl, rfl⟩
  · have h1 : (l.length : Int) < m := by omega
    go_enter Tryd.func20, Tryd.ntmps20
    go_wp2_with fail
    go_ret2
    exact ⟨rfl, rfl⟩
set_option maxRecDepth 100000 in
set_option maxHeartbeats 400000 in
theorem prove_any (v : Value) (l : List H) (m : Nat) (w : World) (hl : l.length ≤ 1099511627776) (hs : Hs w v l) (hg : Glob w) (h1 : 1 ≤ m) (h2 : m ≤ l.length) :
    Calls Tryd.prog 20 #[v, .int .i64 m] w fun e w' => (∃ v', e = .returned (.tuple #[v', .bool true]) ∧ Own w' w.heap.size v' (subN ndH e0H l m true)) ∧ Below w.heap.size w w' := by
  obtain ⟨xa, ca, rfl, _⟩ := hs.form
  have h0 : ¬ (m : Int) < 1 := by omega
  have h3 : ¬ (l.length : Int) < m := by omega
  have HS := Lib.hid hs
  have HG := Lib.hid hg
  clear hs hg
  go_enter Tryd.func20, Tryd.ntmps20
  go_wp2_with (first
    | (go_at_call 34; refine (sub_any l.length _ l m true w rfl hl HS.out HG.out h1 h2).mono ?_; rintro e w5 ⟨⟨v5, rfl, hO5⟩, hb5⟩)
    | fail)
  go_ret2
  exact ⟨⟨_, rfl, hO5⟩, hb5⟩
end Go.Proofs.YtldokkbfahobgaaDoor

/-! TakenA: The walks of the closure that takes a path's hashes, the last first: it panics at none. Conditions: the two variables that it has captured read as told. -/
namespace Go.Proofs.YtldokkbfahobgaaDoor
open Go.RowKit

/-- Nothing that was there has turned but block g. -/
structure But (g : Nat) (w w' : World) : Prop where
  os : w'.os = w.os
  tape : w'.tape = w.tape
  output : w'.output = w.output
  size : w.heap.size ≤ w'.heap.size
  block : ∀ k, k < w.heap.size → k ≠ g → w'.heap[k]? = w.heap[k]?
theorem But.of {g : Nat} {w w' : World} (h : Below w.heap.size w w') : But g w w' := ⟨h.os, h.tape, h.output, h.size, fun k hk _ => h.block k hk⟩
theorem But.refl (g : Nat) (w : World) : But g w w := ⟨rfl, rfl, rfl, Nat.le_refl _, fun _ _ _ => rfl⟩
theorem But.trans {g : Nat} {u w w' : World} (h : But g u w) (h' : But g w w') : But g u w' :=
  ⟨h'.os.trans h.os, h'.tape.trans h.tape, h'.output.trans h.output, Nat.le_trans h.size h'.size, fun k hk hg => (h'.block k (Nat.lt_of_lt_of_le hk h.size) hg).trans (h.block k hk hg)⟩
theorem But.below {g B : Nat} {w w' : World} (h : But g w w') (h1 : B ≤ g) (h2 : B ≤ w.heap.size) : Below B w w' := ⟨h.os, h.tape, h.output, h.size, fun k hk => h.block k (by omega) (by omega)⟩
theorem But.blk {g r : Nat} {w w' : World} {l : List Value} {e : TypeId} (h : But g w w') (hr : Blk w r l e) (hg : r ≠ g) : Blk w' r l e := (h.block r hr.lt hg).trans hr
theorem But.set {g : Nat} {w w1 : World} (h : Below w.heap.size w w1) (_hg : g < w.heap.size) (i : Nat) (v : Value) : But g w (w1.setCell ⟨g, i, none⟩ v) := by
  have hb := ((Below.refl g w1).setCell (p := ⟨g, i, none⟩) (Nat.le_refl _) v)
  exact ⟨hb.os.trans h.os, hb.tape.trans h.tape, hb.output.trans h.output, Nat.le_trans h.size hb.size, fun k hk hkg => (Below.heap_setCell _ _ _ _ hkg).trans (h.block k hk)⟩
theorem But.cell {g : Nat} {w w' : World} (h : But g w w') {p : Addr} {u : Value} (hc : w.cell? p = some u) (hg : p.block ≠ g) : w'.cell? p = some u := by
  rw [World.cell?_of_block (h.block p.block (World.block_lt_of_cell? _ _ hc) hg)]
  exact hc
theorem IsSl.any0 {w w' : World} {v : Value} {size : Nat} {cs : List Value} (h : IsSl w v size 0 cs) : IsSl w' v size 0 cs := by
  have hz := h.zero
  subst hz
  refine ⟨h.1, h.2.1, ?_⟩
  rcases h.2.2 with h | ⟨ad, cap, e, hc, _⟩
  · exact .inl h
  · exact .inr ⟨ad, cap, e, hc, fun j u hu => by simp at hu⟩
theorem But.isSl {g : Nat} {w w' : World} {v : Value} {size n : Nat} {cs : List Value} (h : But g w w') (hs : IsSl w v size n cs) (hg : 0 < n → ∀ a k c, v = .slice (some a) k c → a.block ≠ g) : IsSl w' v size n cs := by
  by_cases hn : n = 0
  · subst hn
    exact hs.any0
  · exact hs.of_cells fun p _ hc ⟨a, k, c, e, hp⟩ => h.cell hc (fun e' => hg (by omega) a k c e (hp.trans e'))
/-- What the panic for want of a hash carries. -/
def shortP : Value := .iface 123 (.agg #[])
/-- The closure as a value. -/
def nextV (g q : Nat) : Value := .func (.func 73) #[] #[.pointer (some ⟨g, 0, none⟩), .pointer (some ⟨q, 0, none⟩)]
/-- What it has captured: how many hashes are left, the path. -/
structure Tk (w : World) (g q : Nat) (pv : Value) (P : List H) (a : Nat) : Prop where
  at_ : Blk w g [.int .i64 a] 3
  box : w.cell? ⟨q, 0, none⟩ = some pv
  ne : q ≠ g
  hs : Hs w pv P
  apart : 0 < P.length → ∀ ad k c, pv = .slice (some ad) k c → ad.block ≠ g
  le : a ≤ P.length
  len : P.length ≤ maxLen
theorem Tk.below {w w' : World} {g q : Nat} {pv : Value} {P : List H} {a : Nat} (h : Tk w g q pv P a) (hb : Below w.heap.size w w') : Tk w' g q pv P a :=
  ⟨h.at_.below hb h.at_.lt, (hb.cell (p := ⟨q, 0, none⟩) (World.block_lt_of_cell? _ _ h.box)).trans h.box, h.ne, h.hs.below hb, h.apart, h.le, h.len⟩
theorem But.then {g : Nat} {u w w' : World} (h : But g u w) (h' : Below u.heap.size w w') : But g u w' :=
  ⟨h'.os.trans h.os, h'.tape.trans h.tape, h'.output.trans h.output, Nat.le_trans h.size h'.size, fun k hk hg => (h'.block k hk).trans (h.block k hk hg)⟩
theorem Tk.past {w w' : World} {B g q : Nat} {pv : Value} {P : List H} {a : Nat} (h : Tk w g q pv P a) (hb : Below B w w') (h1 : g < B) (h2 : q < B) (h3 : 0 < P.length → ∀ ad k c, pv = .slice (some ad) k c → ad.block < B) : Tk w' g q pv P a := by
  refine ⟨h.at_.below hb h1, (hb.cell (p := ⟨q, 0, none⟩) h2).trans h.box, h.ne, ?_, h.apart, h.le, h.len⟩
  by_cases hn : P.length = 0
  · have := h.hs
    unfold Hs at this ⊢
    rw [hn] at this ⊢
    exact this.any0
  · exact IsSl.below' h.hs hb (h3 (by omega))
theorem z32_arr : z32.toArray = #[.int .u8 0, .int .u8 0, .int .u8 0, .int .u8 0, .int .u8 0, .int .u8 0, .int .u8 0, .int .u8 0, .int .u8 0, .int .u8 0, .int .u8 0, .int .u8 0, .int .u8 0, .int .u8 0, .int .u8 0, .int .u8 0, .int .u8 0, .int .u8 0, .int .u8 0, .int .u8 0, .int .u8 0, .int .u8 0, .int .u8 0, .int .u8 0, .int .u8 0, .int .u8 0, .int .u8 0, .int .u8 0, .int .u8 0, .int .u8 0, .int .u8 0, .int .u8 0] := rfl
set_option maxRecDepth 100000 in
set_option maxHeartbeats 400000 in
theorem next_none (w : World) (g q : Nat) (pv : Value) (P : List H) (h : Tk w g q pv P 0) :
    Calls Tryd.prog 73 #[.pointer (some ⟨g, 0, none⟩), .pointer (some ⟨q, 0, none⟩)] w fun e w' => e = .panicked [{ v := shortP, recovered := false }] ∧ Below w.heap.size w w' := by
  have hb1 : Below w.heap.size w (w.alloc (.cells z32.toArray 31)) := by (repeat (first | with_reducible assumption | with_reducible exact Below.refl _ _ | ((with_reducible refine Below.setCell ?_ ?_ _); rotate_left; focus (first | omega | (simp; done) | (simp; omega))) | ((with_reducible refine Below.alloc ?_ ?_ _); rotate_left; focus (first | omega | (simp; done) | (simp; omega))) | ((with_reducible refine below_setRow ?_ ?_ _); rotate_left; focus (first | omega | (simp; done) | (simp; omega))) | (with_reducible refine below_drewN ?_ _) | (with_reducible refine Below.drew ?_)))
  have c1 : (w.alloc (.cells z32.toArray 31)).cell? ⟨g, 0, none⟩ = some (.int .i64 0) := (h.at_.alloc _).cell rfl
  rw [z32_arr] at c1 hb1
  clear h
  go_enter Tryd.func73, Tryd.ntmps73
  go_wp2_with fail
  exact ⟨rfl, rfl, hb1⟩
set_option maxRecDepth 100000 in
set_option maxHeartbeats 400000 in
theorem next_some (w : World) (g q : Nat) (pv : Value) (P : List H) (a : Nat) (x : H) (h : Tk w g q pv P (a + 1)) (hx : P[a]? = some x) :
    Calls Tryd.prog 73 #[.pointer (some ⟨g, 0, none⟩), .pointer (some ⟨q, 0, none⟩)] w fun e w' => e = .returned (hv x) ∧ Tk w' g q pv P a ∧ But g w w' := by
  have hlt := h.at_.lt
  obtain ⟨hB, hQ, hne, hS, hA, hle, hln⟩ := h
  obtain ⟨b, off, cap, rfl, hcap, hr, hbw⟩ := hS.pos (by omega)
  have hgb := hA (by omega) ⟨b, off, none⟩ _ _ rfl
  have hqlt : q < w.heap.size := World.block_lt_of_cell? _ _ hQ
  have hb1 : Below w.heap.size w (w.alloc (.cells z32.toArray 31)) := by (repeat (first | with_reducible assumption | with_reducible exact Below.refl _ _ | ((with_reducible refine Below.setCell ?_ ?_ _); rotate_left; focus (first | omega | (simp; done) | (simp; omega))) | ((with_reducible refine Below.alloc ?_ ?_ _); rotate_left; focus (first | omega | (simp; done) | (simp; omega))) | ((with_reducible refine below_setRow ?_ ?_ _); rotate_left; focus (first | omega | (simp; done) | (simp; omega))) | (with_reducible refine below_drewN ?_ _) | (with_reducible refine Below.drew ?_)))
  have hB1 : Blk (w.alloc (.cells z32.toArray 31)) g [.int .i64 ((a : Int) + 1)] 3 := hB.alloc _
  have hH1 : Blk (w.alloc (.cells z32.toArray 31)) w.heap.size z32 31 := Blk.newL w _ _
  have hse : (w.setCell ⟨g, 0, none⟩ (.int .i64 (a : Int))).heap.size = w.heap.size := by simp
  have hBt : But g w ((w.setCell ⟨g, 0, none⟩ (.int .i64 a)).alloc (.cells z32.toArray 31)) := (But.set (Below.refl _ _) hlt 0 _).trans (But.of ((Below.refl _ _).alloc (Nat.le_refl _) _))
  have hB2 : Blk ((w.setCell ⟨g, 0, none⟩ (.int .i64 a)).alloc (.cells z32.toArray 31)) g [.int .i64 a] 3 := (hB.set 0 _).alloc _
  have hH2 : Blk ((w.setCell ⟨g, 0, none⟩ (.int .i64 a)).alloc (.cells z32.toArray 31)) w.heap.size z32 31 := by
    have h9 := Blk.newL (w.setCell ⟨g, 0, none⟩ (.int .i64 a)) z32 31
    rw [hse] at h9
    exact h9
  have c1 := hB1.cell (i := 0) rfl
  have f1 := hB1.frozen 0
  have c2 := hBt.cell hQ hne
  have c3 := hB2.cell (i := 0) rfl
  have hr2 : ((w.setCell ⟨g, 0, none⟩ (.int .i64 a)).alloc (.cells z32.toArray 31)).rangeAt b (off + a * 32) (bytesV x.b) := fun j u hu => hBt.cell (Hs.elem hr hx j u hu) hgb
  have hix : (0 : Int) ≤ a ∧ (a : Int) < P.length := ⟨by omega, by omega⟩
  have hAB := Lib.hid hA
  have HS2 := Lib.hid (hBt.isSl hS hA)
  have hTk : Tk ((w.setCell ⟨g, 0, none⟩ (.int .i64 a)).alloc (.cells z32.toArray 31)) g q (.slice (some ⟨b, off, none⟩) P.length cap) P a := ⟨hB2, c2, hne, HS2.out, hA, by omega, hln⟩
  rw [z32_arr] at c1 f1 c2 c3
  have HR2 := Lib.hid hr2
  have HH2 := Lib.hid hH2
  have HT := Lib.hid hTk
  have HBt := Lib.hid hBt
  clear hB hQ hS hA hr hb1 hB1 hH1 hBt hB2 hH2 hr2 hTk hAB HS2
  unfold maxLen at hln
  go_enter Tryd.func73, Tryd.ntmps73
  go_wp2_with (first
    | (refine wpList_load_mid rfl 31 (.tmp 11) rfl b (off + a * 32) rfl (bytesV x.b) _ (by exact HR2.out) Tryd.underlying31 rfl (by exact hv_info _) ?_)
    | (refine wpList_store_row rfl 31 (.tmp 2) (.tmp 12) rfl w.heap.size (bytesV x.b).toArray rfl rfl 31 z32.toArray (by exact HH2.out) (by exact hv_row _) (by exact z32_old _) (by exact hv_one _) ?_)
    | fail)
  refine bodyPost_ret (v := hv x) (results_cell_row rfl _ _ w.heap.size 31 _ (0, 0) _ rfl (HH2.out.setRow _) Tryd.underlying31 rfl (hv_row _)) rfl ⟨rfl, ?_, ?_⟩
  · exact HT.out.past (below_setRow (Below.refl w.heap.size _) (Nat.le_refl _) _) hlt hqlt (fun _ ad k c e => by cases e; exact hbw)
  · exact HBt.out.then (below_setRow (Below.refl w.heap.size _) (Nat.le_refl _) _)
end Go.Proofs.YtldokkbfahobgaaDoor

/-! But: A region that draws its order, one of whose operations turns one block that was there (and may panic); the others turn nothing; the tail stands in one forced order. Condition: the Bool monoFB, and that the program follows the row on mixed orders. -/
namespace Go.Proofs.YtldokkbfahobgaaDoor
open Go Go.BigFrame Go.RowKit
section
variable {P : Program} {ops : Array Oper} {md : Region.Mode}

def butAll (P : Program) (md : Region.Mode) (ops : Array Oper) (s g : Nat) (St : Bool → World → Prop) (R : Nat → Value → World → Prop) (Pn : List PanicEntry → World → Prop) (ds : List (Option Tmp)) (a0 : Act) (w0 : World) : List Oper → Nat → Prop
  | [], _ => True
  | o :: rest, i => (∀ (x : Nat → Value) (w : World), But g w0 w → (∀ j ∈ needs md o, R j (x j) w) → (i = s → St false w) → ∀ Qg : Exit → Act → World → Prop,
      (∀ v w', R i v w' → (i = s → But g w w' ∧ St true w') → (i ≠ s → Below w.heap.size w w') → Qg .normal ((fill x ds 0 a0).put o.dst v) w') → (∀ c a w', a.defers = a0.defers → Pn c w' → Qg (.panic c) a w') → wpList P ops Qg [o] (fill x ds 0 a0) w) ∧ butAll P md ops s g St R Pn ds a0 w0 rest (i + 1)
def butJ (s g : Nat) (St : Bool → World → Prop) (R : Nat → Value → World → Prop) (w0 : World) (L : Nat → Bool) (x : Nat → Value) (w : World) : Prop := But g w0 w ∧ (∀ j, L j = true → R j (x j) w) ∧ St (L s) w
theorem butAll_inv {s g : Nat} {St : Bool → World → Prop} {R : Nat → Value → World → Prop} {Pn : List PanicEntry → World → Prop} {ds : List (Option Tmp)} {a0 : Act} {w0 : World}
    (hRk : ∀ j v w w', But g w w' → R j v w → R j v w') (hSk : ∀ b w w', Below w.heap.size w w' → St b w → St b w') :
    ∀ (l : List Oper) (i : Nat), butAll P md ops s g St R Pn ds a0 w0 l i → invAll P md ops (butJ s g St R w0) Pn ds a0 l i
  | [], _, _ => trivial
  | o :: l, i, h => by
    refine ⟨fun L x w hL hn hJ Qg hK hP => ?_, butAll_inv hRk hSk l (i + 1) h.2⟩
    obtain ⟨hb, hR, hS⟩ := hJ
    refine h.1 x w hb (fun j hj => hR j (hn j hj)) (fun e => by subst e; rw [hL] at hS; exact hS) Qg (fun v w' hv h1 h2 => hK v w' ?_) hP
    have hbw : But g w w' := by
      by_cases e : i = s
      · exact (h1 e).1
      · exact But.of (h2 e)
    refine ⟨hb.trans hbw, fun j hj => ?_, ?_⟩
    · unfold updL at hj
      unfold upd
      by_cases e : j = i
      · subst e
        rw [if_pos rfl]
        exact hv
      · rw [if_neg e] at hj ⊢
        exact hRk _ _ _ _ hbw (hR j hj)
    · unfold updL
      by_cases e : s = i
      · rw [if_pos e]
        exact (h1 e.symm).2
      · rw [if_neg e]
        exact hSk _ _ _ (h2 (fun h => e h.symm)) hS
theorem getD_past {α : Type} (l : List α) (j : Nat) (d : α) (h : l.length ≤ j) : l.getD j d = d := by
  rw [List.getD_eq_getElem?_getD, List.getElem?_eq_none h]
  rfl
theorem getD_here {α : Type} (l : List α) (j : Nat) (d : α) (h : j < l.length) : l.getD j d = l[j] := by
  rw [List.getD_eq_getElem?_getD, List.getElem?_eq_getElem h]
  rfl
theorem wp_region_but {id : Nat} {Q : Exit → Act → World → Prop} {a0 : Act} {w0 : World} {l : List Oper} (n s g : Nat) (St : Bool → World → Prop) (Rs : List (Value → World → Prop)) (Pn : List PanicEntry → World → Prop) (hm : P.follows .mixedOrders = true) (hB : monoFB l.toArray n = true)
    (hs : s < n) (hlen : Rs.length = n) (ds : List (Option Tmp)) (hds : (l.take n).map (·.dst) = ds) (hRk : ∀ R ∈ Rs, ∀ v w w', But g w w' → R v w → R v w') (hSk : ∀ b w w', Below w.heap.size w w' → St b w → St b w')
    (hS0 : St false w0) (hPn : ∀ c a w, a.defers = a0.defers → Pn c w → Q (.panic c) a w)
    (hops : butAll P .any l.toArray s g St (fun j => Rs.getD j fun _ _ => True) Pn ds a0 w0 (l.take n) 0)
    (hfin : ∀ (x : Nat → Value) (w : World), But g w0 w → (∀ j, j < n → Rs.getD j (fun _ _ => True) (x j) w) → St true w → wpList P l.toArray Q (l.drop n) (fill x ds 0 a0) w) : (Code.region id l.toArray true).wp P Q a0 w0 := by
  have hdr : Below w0.heap.size w0 w0.drew := (Below.refl _ _).drew
  have hRk' : ∀ j v w w', But g w w' → Rs.getD j (fun _ _ => True) v w → Rs.getD j (fun _ _ => True) v w' := fun j v w w' hb h => by
    by_cases hj : j < Rs.length
    · rw [getD_here _ _ _ hj] at h ⊢
      exact hRk _ (List.getElem_mem hj) v w w' hb h
    · rw [getD_past _ _ _ (by omega)]
      trivial
  refine wp_region_inv n (butJ s g St (fun j => Rs.getD j fun _ _ => True) w0) Pn hm hB ds hds (fun L x hL => ⟨But.of hdr, fun j hj => ?_, ?_⟩) hPn (butAll_inv hRk' hSk _ 0 hops) (fun L x w hL hJ => ?_)
  · by_cases h : j < n
    · rw [hL j h] at hj
      cases hj
    · show Rs.getD j (fun _ _ => True) (x j) w0.drew
      rw [getD_past _ _ _ (by omega)]
      trivial
  · rw [hL s hs]
    exact hSk _ _ _ hdr hS0
  · obtain ⟨hb, hR, hS⟩ := hJ
    refine hfin x w hb (fun j hj => hR j (hL j hj)) ?_
    rw [hL s hs] at hS
    exact hS
end
end Go.Proofs.YtldokkbfahobgaaDoor

/-! TakenB: The walks of taken's deferred closure: of a frame that returns, and of one that panics for want of a hash. -/
namespace Go.Proofs.YtldokkbfahobgaaDoor
open Go.RowKit

set_option maxRecDepth 100000 in
set_option maxHeartbeats 400000 in
theorem catch_idle (p : Addr) (w : World) :
    CallsD Tryd.prog 72 #[.pointer (some p)] .returning w fun e u' w' => e = .returned (.tuple #[]) ∧ u' = .returning ∧ w' = w := by
  refine callsD_of_wpS Tryd.func72 rfl fun c₀ cs hu => ?_
  simp only [Tryd.ntmps72, List.size_toArray, List.length_cons, List.length_nil, Nat.reduceAdd, Nat.reduceSub, Array.replicate_succ, Array.replicate_zero, List.push_toArray, List.append_toArray, List.nil_append, List.cons_append]
  apply wpS_seq
  apply wpS_region
  simp [wpOpsS, go_sem, recoverD, hu, Exit.thenS]
  refine wpS_of_wp ?_
  go_wp2_with fail
  all_goals (cases c₀; simp_all [bodyPostS, results, Tryd.results72])
set_option maxRecDepth 100000 in
set_option maxHeartbeats 400000 in
theorem catch_short (w : World) (s : Nat) (b : Bool) (hs : Blk w s [.bool b] 4) :
    CallsD Tryd.prog 72 #[.pointer (some ⟨s, 0, none⟩)] (.panicking [{ v := shortP, recovered := false }]) w fun e u' w' =>
      e = .returned (.tuple #[]) ∧ u' = .panicking [{ v := shortP, recovered := true }] ∧ Blk w' s [.bool false] 4 ∧ But s w w' := by
  unfold shortP
  have hta : ∀ w : World, (Instr.typeAssert (.iface 123 (.agg #[])) 20 123 true).run Tryd.prog w = .ok (.tuple #[.agg #[], .bool true]) w := fun _ => by simp [Instr.typeAssert, run_underlying Tryd.underlying123]
  refine callsD_of_wpS Tryd.func72 rfl fun c₀ cs hu => ?_
  simp only [Tryd.ntmps72, List.size_toArray, List.length_cons, List.length_nil, Nat.reduceAdd, Nat.reduceSub, Array.replicate_succ, Array.replicate_zero, List.push_toArray, List.append_toArray, List.nil_append, List.cons_append]
  apply wpS_seq
  apply wpS_region
  simp [wpOpsS, go_sem, recoverD, hu, Exit.thenS]
  refine wpS_of_wp ?_
  have c1 : (w.alloc (.cells #[] 123)).cell? ⟨s, 0, none⟩ = some (.bool b) := (hs.alloc _).cell rfl
  have f1 : (w.alloc (.cells #[] 123)).frozen? ⟨s, 0, none⟩ = false := (hs.alloc _).frozen 0
  have hB := Lib.hid ((hs.alloc (.cells #[] 123)).set 0 (.bool false))
  have hN := Lib.hid (But.set ((Below.refl w.heap.size w).alloc (Nat.le_refl _) (.cells #[] 123)) hs.lt 0 (.bool false))
  clear hs
  go_wp2_with fail
  exact ⟨rfl, _, rfl, _, results_none rfl _ _ _, rfl, rfl, hB.out, hN.out⟩
end Go.Proofs.YtldokkbfahobgaaDoor

/-! TakenC: The walk of taken, the walk that it is handed told by its contract. -/
namespace Go.Proofs.YtldokkbfahobgaaDoor
open Go.RowKit

/-- Nothing that was there has turned but blocks g and r. -/
structure But2 (g r : Nat) (w w' : World) : Prop where
  os : w'.os = w.os
  tape : w'.tape = w.tape
  output : w'.output = w.output
  size : w.heap.size ≤ w'.heap.size
  block : ∀ k, k < w.heap.size → k ≠ g → k ≠ r → w'.heap[k]? = w.heap[k]?
theorem But2.of {g r : Nat} {w w' : World} (h : But g w w') : But2 g r w w' := ⟨h.os, h.tape, h.output, h.size, fun k hk hg _ => h.block k hk hg⟩
theorem But2.of' {g r : Nat} {w w' : World} (h : But r w w') : But2 g r w w' := ⟨h.os, h.tape, h.output, h.size, fun k hk _ hg => h.block k hk hg⟩
theorem But2.trans {g r : Nat} {u w w' : World} (h : But2 g r u w) (h' : But2 g r w w') : But2 g r u w' :=
  ⟨h'.os.trans h.os, h'.tape.trans h.tape, h'.output.trans h.output, Nat.le_trans h.size h'.size, fun k hk hg hr => (h'.block k (Nat.lt_of_lt_of_le hk h.size) hg hr).trans (h.block k hk hg hr)⟩
theorem But2.blk {g r b : Nat} {w w' : World} {l : List Value} {e : TypeId} (h : But2 g r w w') (hb : Blk w b l e) (hg : b ≠ g) (hr : b ≠ r) : Blk w' b l e := (h.block b hb.lt hg hr).trans hb
/-- The walk's own blocks are new. -/
theorem But2.past {g r : Nat} {u w w' : World} (h : Below u.heap.size u w) (h' : But2 g r w w') (hg : u.heap.size ≤ g) : But r u w' :=
  ⟨h'.os.trans h.os, h'.tape.trans h.tape, h'.output.trans h.output, Nat.le_trans h.size h'.size, fun k hk hr => (h'.block k (Nat.lt_of_lt_of_le hk h.size) (by omega) hr).trans (h.block k hk)⟩
theorem But.setNew {g b : Nat} {u w : World} (h : But g u w) (hb : u.heap.size ≤ b) (i : Nat) (v : Value) : But g u (w.setCell ⟨b, i, none⟩ v) :=
  h.then ((Below.refl u.heap.size w).setCell (p := ⟨b, i, none⟩) hb v)
theorem taken_start (w : World) (pv : Value) (P : List H) (hs : Hs w pv P) (hl : P.length ≤ 4096) :
    Below w.heap.size w (((w.alloc (.cells #[pv] 22)).alloc (.cells #[.bool false] 4)).alloc (.cells #[.int .i64 (P.length : Int)] 3)) ∧
    Tk (((w.alloc (.cells #[pv] 22)).alloc (.cells #[.bool false] 4)).alloc (.cells #[.int .i64 (P.length : Int)] 3)) (w.heap.size + 1 + 1) w.heap.size pv P P.length ∧
    Blk (((w.alloc (.cells #[pv] 22)).alloc (.cells #[.bool false] 4)).alloc (.cells #[.int .i64 (P.length : Int)] 3)) (w.heap.size + 1) [.bool false] 4 := by
  have hb : Below w.heap.size w (((w.alloc (.cells #[pv] 22)).alloc (.cells #[.bool false] 4)).alloc (.cells #[.int .i64 (P.length : Int)] 3)) := by (repeat (first | with_reducible assumption | with_reducible exact Below.refl _ _ | ((with_reducible refine Below.setCell ?_ ?_ _); rotate_left; focus (first | omega | (simp; done) | (simp; omega))) | ((with_reducible refine Below.alloc ?_ ?_ _); rotate_left; focus (first | omega | (simp; done) | (simp; omega))) | ((with_reducible refine below_setRow ?_ ?_ _); rotate_left; focus (first | omega | (simp; done) | (simp; omega))) | (with_reducible refine below_drewN ?_ _) | (with_reducible refine Below.drew ?_)))
  refine ⟨hb, ⟨?_, ?_, by omega, hs.below hb, fun hp ad k c e => ?_, Nat.le_refl _, by unfold maxLen; omega⟩, ?_⟩
  · exact Blk.newL2 w _ _ [.int .i64 (P.length : Int)] _
  · exact (((Blk.newL w [pv] 22).alloc _).alloc _).cell (i := 0) rfl
  · have := IsSl.block_lt hs hp (by decide) ad k c e
    omega
  · exact (Blk.newL1 w _ [.bool false] _).alloc _
set_option maxRecDepth 100000 in
set_option maxHeartbeats 1000000 in
theorem taken_ret_both (w : World) (pv : Value) (P : List H) (caps : Array Value) (r a : Nat) (d : Bool) (L : List Value) (er : TypeId) (hs : Hs w pv P) (hl : P.length ≤ 4096) (hr : r < w.heap.size) (hd : ((a : Int) == 0) = d)
    (hcall : ∀ w1, Below w.heap.size w w1 → w1.heap.size = w.heap.size + 1 + 1 + 1 → Tk w1 (w.heap.size + 1 + 1) w.heap.size pv P P.length →
      Calls Tryd.prog 57 (#[nextV (w.heap.size + 1 + 1) w.heap.size] ++ caps) w1 fun e w2 => e = .returned (.tuple #[]) ∧ Tk w2 (w.heap.size + 1 + 1) w.heap.size pv P a ∧ But2 (w.heap.size + 1 + 1) r w1 w2 ∧ Blk w2 r L er) :
    Calls Tryd.prog 56 #[pv, .func (.func 57) #[] caps] w fun e w' => e = .returned (.bool d) ∧ But r w w' ∧ Blk w' r L er := by
  have hmf : ∀ (fn : Fn) (first cap : Array Value) (w : World), (Instr.makeFunc fn first cap).run Tryd.prog w = .ok (.func fn first cap) w := fun _ _ _ _ => rfl
  obtain ⟨hb0, hT0, hB0⟩ := taken_start w pv P hs hl
  obtain ⟨xa, ca, rfl, _⟩ := hs.form
  have HT0 := Lib.hid hT0
  have HB0 := Lib.hid hB0
  have HD := Lib.hid hd
  have HC := Lib.hid hcall
  clear hs hT0 hB0 hd hcall
  go_enter_defers Tryd.func56, Tryd.ntmps56
  go_wp2_with (first
    | (go_at_call 57; refine (HC.out _ hb0 (by simp) HT0.out).mono ?_; rintro e w2 ⟨rfl, hT2, hb2, hR2⟩; have hB2 := hb2.blk HB0.out (by omega) (by omega); have c1 := hT2.at_.cell (i := 0) rfl; have c2 := hB2.cell (i := 0) rfl; have f2 := hB2.frozen 0; have HB2 := Lib.hid hB2; have HR2 := Lib.hid hR2; have hw2 := But2.past hb0 hb2 (by omega); clear hT2 hb2 hB2 hR2 HB0)
    | fail)
  rw [HD.out]
  refine leaves_cons (f := 72) (args := #[.pointer (some ⟨w.heap.size + 1, 0, none⟩)]) (by simp) (by simp [go_sem]) ?_
  refine (catch_idle ⟨w.heap.size + 1, 0, none⟩ _).mono ?_
  rintro e u' w'' ⟨rfl, rfl, rfl⟩
  have hB4 := HB2.out.set 0 (.bool d)
  have c4 := hB4.cell (i := 0) rfl
  simp [Leaves, settle, results, Tryd.results56, go_sem, c4]
  exact ⟨hw2.setNew (by omega) 0 _, HR2.out.set_other (by show w.heap.size + 1 ≠ r; omega) _⟩
set_option maxRecDepth 100000 in
set_option maxHeartbeats 1000000 in
theorem taken_panic_both (w : World) (pv : Value) (P : List H) (caps : Array Value) (r : Nat) (hs : Hs w pv P) (hl : P.length ≤ 4096) (hr : r < w.heap.size)
    (hcall : ∀ w1, Below w.heap.size w w1 → w1.heap.size = w.heap.size + 1 + 1 + 1 → Tk w1 (w.heap.size + 1 + 1) w.heap.size pv P P.length →
      Calls Tryd.prog 57 (#[nextV (w.heap.size + 1 + 1) w.heap.size] ++ caps) w1 fun e w2 => e = .panicked [{ v := shortP, recovered := false }] ∧ But2 (w.heap.size + 1 + 1) r w1 w2) :
    Calls Tryd.prog 56 #[pv, .func (.func 57) #[] caps] w fun e w' => e = .returned (.bool false) ∧ But r w w' := by
  have hmf : ∀ (fn : Fn) (first cap : Array Value) (w : World), (Instr.makeFunc fn first cap).run Tryd.prog w = .ok (.func fn first cap) w := fun _ _ _ _ => rfl
  obtain ⟨hb0, hT0, hB0⟩ := taken_start w pv P hs hl
  obtain ⟨xa, ca, rfl, _⟩ := hs.form
  have HT0 := Lib.hid hT0
  have HB0 := Lib.hid hB0
  have HC := Lib.hid hcall
  clear hs hT0 hB0 hcall
  go_enter_defers Tryd.func56, Tryd.ntmps56
  go_wp2_with (first
    | (go_at_call 57; refine (HC.out _ hb0 (by simp) HT0.out).mono ?_; rintro e w2 ⟨rfl, hb2⟩; have hB2 := hb2.blk HB0.out (by omega) (by omega); have HB2 := Lib.hid hB2; have hw2 := But2.past hb0 hb2 (by omega); clear hb2 hB2 HB0)
    | fail)
  refine leaves_cons (f := 72) (args := #[.pointer (some ⟨w.heap.size + 1, 0, none⟩)]) (by simp) (by simp [go_sem]) ?_
  refine (catch_short _ _ false HB2.out).mono ?_
  rintro e u' w'' ⟨rfl, rfl, hB4, hb4⟩
  have c4 := hB4.cell (i := 0) rfl
  simp [Leaves, settle, results, Tryd.results56, go_sem, c4]
  exact hw2.then ⟨hb4.os, hb4.tape, hb4.output, hb4.size, fun k hk => hb4.block k (Nat.lt_of_lt_of_le hk hw2.size) (by omega)⟩
end Go.Proofs.YtldokkbfahobgaaDoor

/-! Spun: A region that draws its order, one of whose operations turns one block that was there (and may panic): as XBut, where besides the operations that it waits for find that block as it was. Condition: the Bool monoFB, and that the program follows the row on mixed orders. -/
namespace Go.Proofs.YtldokkbfahobgaaDoor
open Go Go.BigFrame Go.RowKit
section
variable {P : Program} {ops : Array Oper} {md : Region.Mode}

def spunAll (P : Program) (md : Region.Mode) (ops : Array Oper) (s g : Nat) (nd : List Nat) (St : Bool → World → Prop) (R : Nat → Value → World → Prop) (Pn : List PanicEntry → World → Prop) (ds : List (Option Tmp)) (a0 : Act) (w0 : World) : List Oper → Nat → Prop
  | [], _ => True
  | o :: rest, i => (∀ (x : Nat → Value) (w : World), But g w0 w → (∀ j ∈ needs md o, R j (x j) w) → (i = s ∨ i ∈ nd → St false w) → ∀ Qg : Exit → Act → World → Prop,
      (∀ v w', R i v w' → (i = s → But g w w' ∧ St true w') → (i ≠ s → Below w.heap.size w w') → Qg .normal ((fill x ds 0 a0).put o.dst v) w') → (∀ c a w', a.defers = a0.defers → Pn c w' → Qg (.panic c) a w') → wpList P ops Qg [o] (fill x ds 0 a0) w) ∧ spunAll P md ops s g nd St R Pn ds a0 w0 rest (i + 1)
def spunJ (s g : Nat) (nd : List Nat) (St : Bool → World → Prop) (R : Nat → Value → World → Prop) (w0 : World) (L : Nat → Bool) (x : Nat → Value) (w : World) : Prop := butJ s g St R w0 L x w ∧ (L s = true → ∀ j ∈ nd, L j = true)
theorem spunAll_inv {s g : Nat} {nd : List Nat} {St : Bool → World → Prop} {R : Nat → Value → World → Prop} {Pn : List PanicEntry → World → Prop} {ds : List (Option Tmp)} {a0 : Act} {w0 : World}
    (hRk : ∀ j v w w', But g w w' → R j v w → R j v w') (hSk : ∀ b w w', Below w.heap.size w w' → St b w → St b w') (hself : s ∉ nd) :
    ∀ (l : List Oper) (i : Nat), (∀ j o, l[j]? = some o → i + j = s → needs md o = nd) → spunAll P md ops s g nd St R Pn ds a0 w0 l i → invAll P md ops (spunJ s g nd St R w0) Pn ds a0 l i
  | [], _, _, _ => trivial
  | o :: l, i, hnd, h => by
    refine ⟨fun L x w hL hn hJ Qg hK hP => ?_, spunAll_inv hRk hSk hself l (i + 1) (fun j o hj e => hnd (j + 1) o (by simpa using hj) (by omega)) h.2⟩
    obtain ⟨⟨hb, hR, hS⟩, hord⟩ := hJ
    have hSf : i = s ∨ i ∈ nd → St false w := fun e => by
      have hLs : L s = false := by
        rcases e with e | e
        · rw [← e]; exact hL
        · cases hs : L s with
          | false => rfl
          | true => rw [hord hs i e] at hL; cases hL
      rw [hLs] at hS
      exact hS
    refine h.1 x w hb (fun j hj => hR j (hn j hj)) hSf Qg (fun v w' hv h1 h2 => hK v w' ?_) hP
    have hbw : But g w w' := by
      by_cases e : i = s
      · exact (h1 e).1
      · exact But.of (h2 e)
    refine ⟨⟨hb.trans hbw, fun j hj => ?_, ?_⟩, fun hs j hj => ?_⟩
    · unfold updL at hj
      unfold upd
      by_cases e : j = i
      · subst e
        rw [if_pos rfl]
        exact hv
      · rw [if_neg e] at hj ⊢
        exact hRk _ _ _ _ hbw (hR j hj)
    · unfold updL
      by_cases e : s = i
      · rw [if_pos e]
        exact (h1 e.symm).2
      · rw [if_neg e]
        exact hSk _ _ _ (h2 (fun h => e h.symm)) hS
    · unfold updL at hs ⊢
      by_cases e : s = i
      · have e2 := hnd 0 o (by simp) (by omega)
        rw [← e2] at hj
        by_cases e3 : j = i
        · rw [if_pos e3]
        · rw [if_neg e3]
          exact hn j hj
      · rw [if_neg e] at hs
        by_cases e3 : j = i
        · rw [if_pos e3]
        · rw [if_neg e3]
          exact hord hs j hj
theorem wp_region_spun {id : Nat} {Q : Exit → Act → World → Prop} {a0 : Act} {w0 : World} {l : List Oper} (n s g : Nat) (nd : List Nat) (St : Bool → World → Prop) (Rs : List (Value → World → Prop)) (Pn : List PanicEntry → World → Prop) (hm : P.follows .mixedOrders = true) (hB : monoFB l.toArray n = true)
    (hs : s < n) (hlen : Rs.length = n) (hnd : (l[s]?).map (needs .any) = some nd) (hself : s ∉ nd) (ds : List (Option Tmp)) (hds : (l.take n).map (·.dst) = ds) (hRk : ∀ R ∈ Rs, ∀ v w w', But g w w' → R v w → R v w') (hSk : ∀ b w w', Below w.heap.size w w' → St b w → St b w')
    (hS0 : St false w0) (hPn : ∀ c a w, a.defers = a0.defers → Pn c w → Q (.panic c) a w)
    (hops : spunAll P .any l.toArray s g nd St (fun j => Rs.getD j fun _ _ => True) Pn ds a0 w0 (l.take n) 0)
    (hfin : ∀ (x : Nat → Value) (w : World), But g w0 w → (∀ j, j < n → Rs.getD j (fun _ _ => True) (x j) w) → St true w → wpList P l.toArray Q (l.drop n) (fill x ds 0 a0) w) : (Code.region id l.toArray true).wp P Q a0 w0 := by
  have hdr : Below w0.heap.size w0 w0.drew := (Below.refl _ _).drew
  have hRk' : ∀ j v w w', But g w w' → Rs.getD j (fun _ _ => True) v w → Rs.getD j (fun _ _ => True) v w' := fun j v w w' hb h => by
    by_cases hj : j < Rs.length
    · rw [getD_here _ _ _ hj] at h ⊢
      exact hRk _ (List.getElem_mem hj) v w w' hb h
    · rw [getD_past _ _ _ (by omega)]
      trivial
  refine wp_region_inv n (spunJ s g nd St (fun j => Rs.getD j fun _ _ => True) w0) Pn hm hB ds hds (fun L x hL => ⟨⟨But.of hdr, fun j hj => ?_, ?_⟩, fun h => ?_⟩) hPn (spunAll_inv hRk' hSk hself _ 0 (fun j o hj e => ?_) hops) (fun L x w hL hJ => ?_)
  · by_cases h : j < n
    · rw [hL j h] at hj
      cases hj
    · show Rs.getD j (fun _ _ => True) (x j) w0.drew
      rw [getD_past _ _ _ (by omega)]
      trivial
  · rw [hL s hs]
    exact hSk _ _ _ hdr hS0
  · rw [hL s hs] at h
    cases h
  · have e' : j = s := by omega
    subst e'
    rw [List.getElem?_take, if_pos hs] at hj
    rw [hj] at hnd
    exact Option.some.inj hnd
  · obtain ⟨⟨hb, hR, hS⟩, _⟩ := hJ
    refine hfin x w hb (fun j hj => hR j (hL j hj)) ?_
    rw [hL s hs] at hS
    exact hS
end
end Go.Proofs.YtldokkbfahobgaaDoor

/-! FilledG: A region that draws its order and lays rows of its own, each filled by one store, while one of its operations turns a block that was there. Condition: the Bool monoFB, and that the program follows the row on mixed orders. -/
namespace Go.Proofs.YtldokkbfahobgaaDoor
open Go Go.BigFrame Go.RowKit

structure RowsG (U : World) (g s0 : Nat) (z0 c0 : List Value) (e0 : TypeId) (C : List (Value → Prop)) (rows : List RowD) (L : Nat → Bool) (x : Nat → Value) (w : World) : Prop where
  gl : g < U.heap.size
  sep : ∀ r ∈ rows, r.a ≠ s0 ∧ r.s ≠ s0
  old : But g U w
  st : Blk w g (if L s0 = true then c0 else z0) e0
  vals : ∀ j, L j = true → C.getD j (fun _ => True) (x j)
  at_ : ∀ r ∈ rows, L r.a = true → ∃ p, x r.a = .pointer (some ⟨p, 0, none⟩) ∧ U.heap.size ≤ p ∧ Blk w p (if L r.s = true then r.c else r.z) r.e
  ne : ∀ r ∈ rows, ∀ r' ∈ rows, r.a ≠ r'.a → L r.a = true → L r'.a = true → x r.a ≠ x r'.a
  ord : ∀ r ∈ rows, L r.s = true → L r.a = true
section
variable {P : Program} {ops : Array Oper} {md : Region.Mode} {U : World} {g s0 : Nat} {z0 c0 : List Value} {e0 : TypeId} {C : List (Value → Prop)} {rows : List RowD} {L : Nat → Bool} {x : Nat → Value} {w w' : World}
theorem valsG_upd {i : Nat} {v : Value} (h : ∀ j, L j = true → C.getD j (fun _ => True) (x j)) (hv : C.getD i (fun _ => True) v) : ∀ j, updL L i j = true → C.getD j (fun _ => True) (upd x i v j) := fun j hj => by
  by_cases e : j = i
  · subst e
    rw [upd_eq]
    exact hv
  · rw [upd_ne e]
    rw [updL_ne e] at hj
    exact h j hj
/-- An operation that is none of the rows'. -/
theorem RowsG.const {i : Nat} {v : Value} (h : RowsG U g s0 z0 c0 e0 C rows L x w) (hi : (s0 != i && rows.all fun r => r.a != i && r.s != i) = true) (hv : C.getD i (fun _ => True) v) (hw : Below w.heap.size w w') : RowsG U g s0 z0 c0 e0 C rows (updL L i) (upd x i v) w' := by
  have hne : ∀ r ∈ rows, r.a ≠ i ∧ r.s ≠ i := fun r hr => by simpa using List.all_eq_true.1 (Bool.and_eq_true_iff.1 hi).2 r hr
  have h0 : s0 ≠ i := by simpa using (Bool.and_eq_true_iff.1 hi).1
  refine ⟨h.gl, h.sep, h.old.trans (But.of hw), (by rw [updL_ne h0]; exact h.st.below hw h.st.lt), valsG_upd h.vals hv, fun r hr hL => ?_, fun r hr r' hr' hn hL hL' => ?_, fun r hr hL => ?_⟩
  · rw [updL_ne (hne r hr).1] at hL
    obtain ⟨p, e1, e2, e3⟩ := h.at_ r hr hL
    rw [upd_ne (hne r hr).1, updL_ne (hne r hr).2]
    exact ⟨p, e1, e2, e3.below hw e3.lt⟩
  · rw [updL_ne (hne r hr).1] at hL
    rw [updL_ne (hne r' hr').1] at hL'
    rw [upd_ne (hne r hr).1, upd_ne (hne r' hr').1]
    exact h.ne r hr r' hr' hn hL hL'
  · rw [updL_ne (hne r hr).2] at hL
    rw [updL_ne (hne r hr).1]
    exact h.ord r hr hL
/-- The operation that lays a row. -/
theorem RowsG.alloc {r : RowD} {i : Nat} (h : RowsG U g s0 z0 c0 e0 C rows L x w) (hr : r ∈ rows) (hi : r.a = i) (hB : apB (rows.map RowD.ix) = true) (hL0 : L i = false) (hC : C.getD i (fun _ => True) = fun _ => True) {zs : Array Value} (hz : zs = r.z.toArray) :
    RowsG U g s0 z0 c0 e0 C rows (updL L i) (upd x i (.pointer (some ⟨w.heap.size, 0, none⟩))) (w.alloc (.cells zs r.e)) := by
  subst hi hz
  have hs0 : L r.s = false := by
    cases hs : L r.s with
    | false => rfl
    | true => rw [h.ord r hr hs] at hL0; cases hL0
  have hown := apB_own hB r hr
  have hfresh : ∀ r' ∈ rows, r ≠ r' → L r'.a = true → x r'.a ≠ .pointer (some ⟨w.heap.size, 0, none⟩) := fun r' hr' _ hL' e => by
    obtain ⟨p, e1, e2, e3⟩ := h.at_ r' hr' hL'
    rw [e1] at e
    injection e with e
    injection e with e
    injection e with e
    have := e3.lt
    omega
  refine ⟨h.gl, h.sep, h.old.trans (But.of ((Below.refl _ _).alloc (Nat.le_refl _) _)), (by rw [updL_ne (Ne.symm (h.sep r hr).1)]; exact h.st.alloc _), valsG_upd h.vals (by rw [hC]; trivial), fun r' hr' hL => ?_, fun r1 h1 r2 h2 hn hL1 hL2 => ?_, fun r' hr' hL => ?_⟩
  · rcases apB_two hB r hr r' hr' with e | ⟨n1, n2, n3, n4⟩
    · subst e
      rw [upd_eq, updL_ne (Ne.symm hown), hs0]
      exact ⟨_, rfl, h.old.size, by rw [if_neg (by decide)]; exact Blk.newL w r.z r.e⟩
    · rw [updL_ne (Ne.symm n1)] at hL
      obtain ⟨p, e1, e2, e3⟩ := h.at_ r' hr' hL
      rw [upd_ne (Ne.symm n1), updL_ne (Ne.symm n2)]
      exact ⟨p, e1, e2, e3.alloc _⟩
  · by_cases e1 : r1.a = r.a
    · have e2 : r2.a ≠ r.a := fun e => hn (e1.trans e.symm)
      rw [e1, upd_eq, upd_ne e2]
      rw [updL_ne e2] at hL2
      exact fun e => hfresh r2 h2 (fun e' => e2 (by rw [e'])) hL2 e.symm
    · rw [upd_ne e1]
      rw [updL_ne e1] at hL1
      by_cases e2 : r2.a = r.a
      · rw [e2, upd_eq]
        exact hfresh r1 h1 (fun e' => e1 (by rw [e'])) hL1
      · rw [upd_ne e2]
        rw [updL_ne e2] at hL2
        exact h.ne r1 h1 r2 h2 hn hL1 hL2
  · rcases apB_two hB r hr r' hr' with e | ⟨n1, n2, n3, n4⟩
    · subst e
      exact updL_eq _
    · rw [updL_ne (Ne.symm n2)] at hL
      rw [updL_ne (Ne.symm n1)]
      exact h.ord r' hr' hL
/-- The operation that fills a row. -/
theorem RowsG.store {r : RowD} {i p : Nat} {v : Value} (h : RowsG U g s0 z0 c0 e0 C rows L x w) (hr : r ∈ rows) (hi : r.s = i) (hB : apB (rows.map RowD.ix) = true) (hLa : L r.a = true) (hp : x r.a = .pointer (some ⟨p, 0, none⟩)) (hC : C.getD i (fun _ => True) = fun _ => True) {cs : Array Value} (hc : cs = r.c.toArray) :
    RowsG U g s0 z0 c0 e0 C rows (updL L i) (upd x i v) (w.setRow p cs) := by
  subst hi hc
  have hown := apB_own hB r hr
  obtain ⟨q, f1, f2, f3⟩ := h.at_ r hr hLa
  have hqp : q = p := by
    rw [f1] at hp
    injection hp with e
    injection e with e
    injection e
  subst hqp
  have hqg : g ≠ q := by have := h.gl; omega
  refine ⟨h.gl, h.sep, h.old.then (below_setRow (Below.refl _ _) f2 _), (by rw [updL_ne (Ne.symm (h.sep r hr).2)]; exact h.st.setRow_other hqg _), valsG_upd h.vals (by rw [hC]; trivial), fun r' hr' hL => ?_, fun r1 h1 r2 h2 hn hL1 hL2 => ?_, fun r' hr' hL => ?_⟩
  · rcases apB_two hB r hr r' hr' with e | ⟨n1, n2, n3, n4⟩
    · subst e
      rw [upd_ne hown, updL_eq]
      exact ⟨q, f1, f2, by rw [if_pos rfl]; exact f3.setRow _⟩
    · rw [updL_ne (Ne.symm n3)] at hL
      obtain ⟨p', e1, e2, e3⟩ := h.at_ r' hr' hL
      rw [upd_ne (Ne.symm n3), updL_ne (Ne.symm n4)]
      refine ⟨p', e1, e2, e3.setRow_other (fun e => ?_) _⟩
      subst e
      exact h.ne r hr r' hr' n1 hLa hL (f1.trans e1.symm)
  · have e1 : r1.a ≠ r.s := by
      rcases apB_two hB r hr r1 h1 with e | ⟨_, _, n3, _⟩
      · subst e; exact hown
      · exact Ne.symm n3
    have e2 : r2.a ≠ r.s := by
      rcases apB_two hB r hr r2 h2 with e | ⟨_, _, n3, _⟩
      · subst e; exact hown
      · exact Ne.symm n3
    rw [upd_ne e1, upd_ne e2]
    rw [updL_ne e1] at hL1
    rw [updL_ne e2] at hL2
    exact h.ne r1 h1 r2 h2 hn hL1 hL2
  · rcases apB_two hB r hr r' hr' with e | ⟨n1, n2, n3, n4⟩
    · subst e
      rw [updL_ne hown]
      exact hLa
    · rw [updL_ne (Ne.symm n4)] at hL
      rw [updL_ne (Ne.symm n3)]
      exact h.ord r' hr' hL
theorem RowsG.fresh {r : RowD} (h : RowsG U g s0 z0 c0 e0 C rows L x w) (hr : r ∈ rows) (hLa : L r.a = true) (hLs : L r.s = false) : ∃ p, x r.a = .pointer (some ⟨p, 0, none⟩) ∧ U.heap.size ≤ p ∧ Blk w p r.z r.e := by
  obtain ⟨p, e1, e2, e3⟩ := h.at_ r hr hLa
  rw [if_neg (by rw [hLs]; decide)] at e3
  exact ⟨p, e1, e2, e3⟩
/-- The operation that turns the block. -/
theorem RowsG.turn {v : Value} (h : RowsG U g s0 z0 c0 e0 C rows L x w) (hv : C.getD s0 (fun _ => True) v) (hw : But g w w') (hB : Blk w' g c0 e0) : RowsG U g s0 z0 c0 e0 C rows (updL L s0) (upd x s0 v) w' := by
  refine ⟨h.gl, h.sep, h.old.trans hw, (by rw [updL_eq, if_pos rfl]; exact hB), valsG_upd h.vals hv, fun r hr hL => ?_, fun r hr r' hr' hn hL hL' => ?_, fun r hr hL => ?_⟩
  · rw [updL_ne (h.sep r hr).1] at hL
    obtain ⟨p, e1, e2, e3⟩ := h.at_ r hr hL
    rw [upd_ne (h.sep r hr).1, updL_ne (h.sep r hr).2]
    exact ⟨p, e1, e2, hw.blk e3 (by have := h.gl; omega)⟩
  · rw [updL_ne (h.sep r hr).1] at hL
    rw [updL_ne (h.sep r' hr').1] at hL'
    rw [upd_ne (h.sep r hr).1, upd_ne (h.sep r' hr').1]
    exact h.ne r hr r' hr' hn hL hL'
  · rw [updL_ne (h.sep r hr).2] at hL
    rw [updL_ne (h.sep r hr).1]
    exact h.ord r hr hL
theorem RowsG.was (h : RowsG U g s0 z0 c0 e0 C rows L x w) (hL : L s0 = false) : Blk w g z0 e0 := by
  have := h.st
  rw [if_neg (by rw [hL]; decide)] at this
  exact this
def rowsAllG (P : Program) (md : Region.Mode) (ops : Array Oper) (U : World) (g s0 : Nat) (z0 c0 : List Value) (e0 : TypeId) (C : List (Value → Prop)) (rows : List RowD) (ds : List (Option Tmp)) (a0 : Act) : List Oper → Nat → Prop
  | [], _ => True
  | o :: rest, i => (∀ (L : Nat → Bool) (x : Nat → Value) (w : World), L i = false → (∀ j ∈ needs md o, L j = true) → (∀ j ∈ needs md o, C.getD j (fun _ => True) (x j)) → RowsG U g s0 z0 c0 e0 C rows L x w → ∀ Qg : Exit → Act → World → Prop,
      (∀ v w', RowsG U g s0 z0 c0 e0 C rows (updL L i) (upd x i v) w' → True → Qg .normal ((fill x ds 0 a0).put o.dst v) w') → wpList P ops Qg [o] (fill x ds 0 a0) w) ∧ rowsAllG P md ops U g s0 z0 c0 e0 C rows ds a0 rest (i + 1)
theorem rowsAllG_inv {ds : List (Option Tmp)} {a0 : Act} : ∀ (l : List Oper) (i : Nat), rowsAllG P md ops U g s0 z0 c0 e0 C rows ds a0 l i → invAll P md ops (RowsG U g s0 z0 c0 e0 C rows) (fun _ _ => False) ds a0 l i
  | [], _, _ => trivial
  | _ :: l, i, h => ⟨fun L x w hL hn hJ Qg hK _ => h.1 L x w hL hn (fun j hj => hJ.vals j (hn j hj)) hJ Qg (fun v w' hv _ => hK v w' hv), rowsAllG_inv l (i + 1) h.2⟩
theorem wp_region_rowsG {id : Nat} {Q : Exit → Act → World → Prop} {a0 : Act} {w0 : World} {l : List Oper} (n g s0 : Nat) (z0 c0 : List Value) (e0 : TypeId) (C : List (Value → Prop)) (rows : List RowD) (hm : P.follows .mixedOrders = true) (hB : monoFB l.toArray n = true)
    (hs0 : s0 < n) (h0 : Blk w0 g z0 e0) (hlen : C.length = n) (hin : (rows.all fun r => decide (r.a < n) && decide (r.s < n) && r.a != s0 && r.s != s0) = true) (ds : List (Option Tmp)) (hds : (l.take n).map (·.dst) = ds)
    (hops : rowsAllG P .any l.toArray w0 g s0 z0 c0 e0 C rows ds a0 (l.take n) 0)
    (hfin : ∀ (x : Nat → Value) (w : World), But g w0 w → Blk w g c0 e0 → (∀ j, j < n → C.getD j (fun _ => True) (x j)) → (∀ r ∈ rows, ∃ p, x r.a = .pointer (some ⟨p, 0, none⟩) ∧ w0.heap.size ≤ p ∧ Blk w p r.c r.e) →
      (∀ r ∈ rows, ∀ r' ∈ rows, r.a ≠ r'.a → x r.a ≠ x r'.a) → wpList P l.toArray Q (l.drop n) (fill x ds 0 a0) w) : (Code.region id l.toArray true).wp P Q a0 w0 := by
  have hin' : ∀ r ∈ rows, r.a < n ∧ r.s < n ∧ r.a ≠ s0 ∧ r.s ≠ s0 := fun r hr => by
    have := List.all_eq_true.1 hin r hr
    simp only [Bool.and_eq_true, decide_eq_true_iff, bne_iff_ne, ne_eq] at this
    exact ⟨this.1.1.1, this.1.1.2, this.1.2, this.2⟩
  refine wp_region_inv n (RowsG w0 g s0 z0 c0 e0 C rows) (fun _ _ => False) hm hB ds hds (fun L x hL => ⟨h0.lt, fun r hr => (hin' r hr).2.2, But.of (Below.refl _ _).drew, ?_, fun j hj => ?_, fun r hr h => ?_, fun r hr r' _ _ h _ => ?_, fun r hr h => ?_⟩) (fun _ _ _ _ h => h.elim) (rowsAllG_inv _ 0 hops) (fun L x w hL hJ => ?_)
  · rw [hL _ hs0, if_neg (by decide)]
    exact h0.below (Below.refl _ _).drew h0.lt
  · by_cases h : j < n
    · rw [hL j h] at hj
      cases hj
    · rw [List.getD_eq_getElem?_getD, List.getElem?_eq_none (by omega)]
      trivial
  · rw [hL _ (hin' r hr).1] at h
    cases h
  · rw [hL _ (hin' r hr).1] at h
    cases h
  · rw [hL _ (hin' r hr).2.1] at h
    cases h
  · refine hfin x w hJ.old (by have := hJ.st; rw [if_pos (hL _ hs0)] at this; exact this) (fun j hj => hJ.vals j (hL j hj)) (fun r hr => ?_) (fun r hr r' hr' hn => hJ.ne r hr r' hr' hn (hL _ (hin' r hr).1) (hL _ (hin' r' hr').1))
    obtain ⟨p, e1, e2, e3⟩ := hJ.at_ r hr (hL _ (hin' r hr).1)
    rw [if_pos (hL _ (hin' r hr).2.1)] at e3
    exact ⟨p, e1, e2, e3⟩
end
end Go.Proofs.YtldokkbfahobgaaDoor
