/- The walks of the reference's Path and Prove. The walk of the reference's node; lists of Booleans: one put ahead. The walk of the reference's Comes. The walks of the reference's Comes, whatever the numbers, and of its In. Conditions: what each part says. -/
import Derived.Test.YtnbnjoejmepkjaaDoorPathW
import Derived.Test.YtnbnjoejmepkjaaDoorRef5
import Derived.Test.YtnbnjoejmepkjaaDoorComesW
import Derived.Test.YtnbnjoejmepkjaaDoorGround
/-! Ref6A: The walks of the reference's Path and Prove. Conditions: the list can be read, at most 2^40 hashes; the package's tables read as they are laid. -/
namespace Go.Proofs.YtnbnjoejmepkjaaDoor
open Go.RowKit

def slLen : Value → Nat
  | .slice _ n _ => n
  | _ => 0
end Go.Proofs.YtnbnjoejmepkjaaDoor

/-! Ref6B: The walk of the reference's node; lists of Booleans: one put ahead. Conditions: the package's tables read as they are laid. -/
namespace Go.Proofs.YtnbnjoejmepkjaaDoor
open Go.RowKit

theorem calls_at {P : Program} {f : FuncId} {args : Array Value} {w w' : World} {R : Ending → World → Prop} (h : w' = w) (hc : Calls P f args w' R) : Calls P f args w R := h ▸ hc
set_option maxRecDepth 100000 in
set_option maxHeartbeats 400000 in
theorem refnode_any (l r : H) (w : World) (hg : Glob w) :
    Calls Tryd.prog 63 #[hv l, hv r] w fun e w' => e = .returned (hv (ndH l r)) ∧ Below w.heap.size w w' := by
  obtain ⟨w1, hw1⟩ : ∃ w1, w1 = ((w.alloc (.cells (bytesV l.b).toArray 32)).alloc (.cells (bytesV r.b).toArray 32)).alloc (.cells z32.toArray 32) := ⟨_, rfl⟩
  have hb1 : Below w.heap.size w w1 := by rw [hw1]; (repeat (first | with_reducible assumption | with_reducible exact Below.refl _ _ | ((with_reducible refine Below.setCell ?_ ?_ _); rotate_left; focus (first | omega | (simp; done) | (simp; omega))) | ((with_reducible refine Below.alloc ?_ ?_ _); rotate_left; focus (first | omega | (simp; done) | (simp; omega))) | ((with_reducible refine below_setRow ?_ ?_ _); rotate_left; focus (first | omega | (simp; done) | (simp; omega))) | (with_reducible refine below_drewN ?_ _) | (with_reducible refine Below.drew ?_)))
  have hL : Blk w1 w.heap.size (bytesV l.b) 32 := by rw [hw1]; exact ((Blk.newL w _ _).alloc _).alloc _
  have hR : Blk w1 (w.heap.size + 1) (bytesV r.b) 32 := by rw [hw1]; exact (Blk.newL1 w _ _ _).alloc _
  have hX : Blk w1 (w.heap.size + 1 + 1) z32 32 := by rw [hw1]; exact Blk.newL2 w _ _ _ _
  have HL := Lib.hid (hw1 ▸ hL)
  have HR := Lib.hid (hw1 ▸ hR)
  have HX := Lib.hid hX
  have HG := Lib.hid (hg.below hb1)
  have HW := Lib.hid hw1
  clear hL hR hX hg hw1
  go_enter Tryd.func63, Tryd.ntmps63
  unfold hv
  go_wp2_with (first
    | (refine wpList_load_row rfl 32 (.tmp 2) rfl w.heap.size rfl 32 (bytesV l.b).toArray (0, 0) _ (by exact HL.out) Tryd.underlying32 rfl (by exact hv_row _) ?_)
    | (refine wpList_load_row rfl 32 (.tmp 3) rfl (w.heap.size + 1) rfl 32 (bytesV r.b).toArray (0, 0) _ (by exact HR.out) Tryd.underlying32 rfl (by exact hv_row _) ?_)
    | (go_at_call 26; refine calls_at HW.out ((pair_any l r w1).mono ?_); rintro e w2 ⟨⟨v2, rfl, hv2⟩, hb2⟩; have HV2 := Lib.hid hv2; have HG2 := Lib.hid (HG.out.below hb2); have HX2 := Lib.hid (HX.out.below hb2 HX.out.lt); have hw2 := hb1.trans (hb2.mono hb1.size); clear hv2 hb2)
    | (go_at_call 48; refine (refsum_any v2 (1 :: (l.b ++ r.b)) w2 HV2.out (by simp [H.len]) HG2.out).mono ?_; rintro e w3 ⟨rfl, hb3⟩; have HX3 := Lib.hid (HX2.out.below hb3 HX2.out.lt); have hw3 := hw2.trans (hb3.mono hw2.size); clear hb3)
    | (refine wpList_store_row rfl 32 (.tmp 4) (.tmp 8) rfl (w.heap.size + 1 + 1) (bytesV (ndH l r).b).toArray rfl rfl 32 z32.toArray (by exact HX3.out) (by exact hv_row _) (by exact z32_old _) (by exact hv_one _) ?_)
    | fail)
  exact bodyPost_ret (v := hv (ndH l r)) (results_cell_row rfl _ _ (w.heap.size + 1 + 1) 32 _ (0, 0) _ rfl (HX3.out.setRow _) Tryd.underlying32 rfl (hv_row _)) rfl ⟨rfl, below_setRow hw3 (by omega) _⟩
/-- A slice of Booleans. -/
def Bs (w : World) (v : Value) (l : List Bool) : Prop := IsSl w v 1 l.length (l.map Value.bool)
theorem Bs.nil (w : World) : Bs w (.slice none 0 0) [] := IsSl.nil w 1
theorem Bs.form {w : World} {v : Value} {l : List Bool} (h : Bs w v l) : ∃ a cap, v = .slice a l.length cap ∧ l.length ≤ cap := IsSl.form h
theorem Bs.below {w w' : World} {v : Value} {l : List Bool} (h : Bs w v l) (hb : Below w.heap.size w w') : Bs w' v l := IsSl.below h hb
theorem info_bool : (Tryd.prog.info? 4).map (fun i => (i.zero, i.size, i.bytes)) = some (some (.bool false), 1, 1) := by kernel_rfl
theorem bools_one (l : List Bool) : ∀ u ∈ l.map Value.bool, u.oneCell' = true := by
  intro u hu
  obtain ⟨b, _, rfl⟩ := List.mem_map.1 hu
  rfl
theorem wpList_ahead {w : World} {ops : Array Oper} {rest : List Oper} {o : Oper} {a : Act} {Q : Exit → Act → World → Prop} (hgd : o.guard = none) (s x : Operand)
    (ho : o.op = .call { callee := .builtin .append, args := #[s, x], argTypes := #[83, 83] }) (b : Bool) (xv : Value) (l : List Bool) (hs : a.eval s = .slice (some ⟨w.heap.size, 0, none⟩) 1 1)
    (hx : a.eval x = xv) (hX : Bs w xv l) (hlen : l.length ≤ 4096)
    (h : ∀ v' w', Bs w' v' (b :: l) → Below w.heap.size w w' → wpList Tryd.prog ops Q rest (a.put o.dst v') w') : wpList Tryd.prog ops Q (o :: rest) a (w.alloc (.cells #[.bool b] 4)) := by
  obtain ⟨i0, hi, hz0, hz1, hz2⟩ := info_parts info_bool
  have hal : Below w.heap.size w (w.alloc (.cells #[.bool b] 4)) := (Below.refl _ _).alloc (Nat.le_refl _) _
  have hown := World.ownsRow_lit w #[.bool b] (e := 4) (size := 1) (base := w.heap.size) 1 (Nat.le_refl _) (by decide) rfl
  refine wpList_app hgd s x 83 ho w.heap.size 4 i0 (.bool false) 1 1 Tryd.underlying83 hi hz0 hz1 hz2 rfl (by decide) (.slice (some ⟨w.heap.size, 0, none⟩) 1 1) 1 _ hs hown xv l.length (l.map Value.bool) hx (hX.below hal) (by unfold maxLen; omega) (by omega) hal.size ?_
  intro a' c' w' hown' hgrow _
  refine h _ w' ?_ (hal.grown hgrow hal.size (fun k hk => by cases hk; exact Nat.le_refl _))
  have := ownsRow_isSl hown' (by intro u hu; exact bools_one (b :: l) u (by simpa using hu))
  have e : (#[Value.bool b] : Array Value).toList ++ l.map Value.bool = (b :: l).map Value.bool := rfl
  rw [e] at this
  unfold Bs
  rw [List.length_cons, Nat.add_comm l.length 1]
  exact this
end Go.Proofs.YtnbnjoejmepkjaaDoor

/-! Ref6C: The walk of the reference's Comes. Conditions: the path can be read, at most 4096 hashes; the package's tables read as they are laid. -/
namespace Go.Proofs.YtnbnjoejmepkjaaDoor
open Go.RowKit

theorem sidesN_low (n i : Nat) (h : n < 2) : sidesN n i = [] := by rw [sidesN, dif_pos h]
theorem sidesN_left (n i : Nat) (h : 2 ≤ n) (hi : i < splitN n) : sidesN n i = sidesN (splitN n) i ++ [true] := by rw [sidesN, dif_neg (by omega), if_pos hi]
theorem sidesN_right (n i : Nat) (h : 2 ≤ n) (hi : ¬ i < splitN n) : sidesN n i = sidesN (n - splitN n) (i - splitN n) ++ [false] := by rw [sidesN, dif_neg (by omega), if_neg hi]
theorem climb_step (x : H) (A : List Bool) (P : List H) (j : Nat) (b : Bool) (o : H) (hA : A[j]? = some b) (hP : P[j]? = some o) :
    climbN ndH x ((A.zip P).take (j + 1)) = if b then ndH (climbN ndH x ((A.zip P).take j)) o else ndH o (climbN ndH x ((A.zip P).take j)) := by
  have hz : (A.zip P)[j]? = some (b, o) := by rw [List.getElem?_zip_eq_some]; exact ⟨hA, hP⟩
  rw [List.take_add_one, hz]
  unfold climbN
  rw [List.foldl_append]
  rfl
end Go.Proofs.YtnbnjoejmepkjaaDoor

/-! Ref6D: The walks of the reference's Comes, whatever the numbers, and of its In. Conditions: the path can be read, at most 4096 hashes; the package's tables read as they are laid. -/
namespace Go.Proofs.YtnbnjoejmepkjaaDoor
open Go.RowKit

theorem hw_lit (w : World) (l : List Value) (e : TypeId) : (w.alloc (.cells l.toArray e)).alloc (.cells z32.toArray 32) = (w.alloc (.cells l.toArray e)).alloc (.cells #[.int .u8 0, .int .u8 0, .int .u8 0, .int .u8 0, .int .u8 0, .int .u8 0, .int .u8 0, .int .u8 0, .int .u8 0, .int .u8 0, .int .u8 0, .int .u8 0, .int .u8 0, .int .u8 0, .int .u8 0, .int .u8 0, .int .u8 0, .int .u8 0, .int .u8 0, .int .u8 0, .int .u8 0, .int .u8 0, .int .u8 0, .int .u8 0, .int .u8 0, .int .u8 0, .int .u8 0, .int .u8 0, .int .u8 0, .int .u8 0, .int .u8 0, .int .u8 0] 32) := by rw [z32_arr]
end Go.Proofs.YtnbnjoejmepkjaaDoor
