/- The walks of math/bits.RotateLeft32, sha.turned and sha.moved: each computes what it says, and only draws. No condition but the range of the turns. The walk of sha.schedule: the numbers of a block's rounds. The walk of sha.Turn: the state behind a block. The walk of sha.Fill: what fills up a text. The walks of slices.Grow (of nil) and slices.Concat, at byte slices. The walk of the iterator sha.blocks$1, whatever the loop's body keeps. The walk of sha.Sum. A digest's digits, in plain Lean. No condition. Plain arithmetic: what sha.Sum's walk computes, in natural numbers; the digests of the document's examples. No condition. Conditions: what each part says. -/
import Derived.Test.YtldokkbfahobgaaDoorProg
import Derived.Test.YtldokkbfahobgaaDoorGround
import Derived.LoopIn
import Derived.LoopNIn
import Derived.OwnWalkIn
import Derived.RangeFuncBound
import Derived.RangeFuncCalls
import Derived.RangeFuncLeaves
import Derived.RangeFuncNested
import Derived.Shelf.Abstract
import Derived.Shelf.RegionOpen
import Derived.TacticsInMore
/-! ShaA: The walks of math/bits.RotateLeft32, sha.turned and sha.moved: each computes what it says, and only draws. No condition but the range of the turns. -/
namespace Go.Proofs.YtldokkbfahobgaaDoor
open Go.RowKit

theorem rot_and (a : Nat) (h1 : 1 ≤ a) (h2 : a ≤ 31) : bits .and .u64 (IntKind.u64.wrap (-(a:Int))) 31 = 32 - (a:Int) := by
  have : ∀ a : Fin 32, 1 ≤ a.val → bits .and .u64 (IntKind.u64.wrap (-(a.val:Int))) 31 = 32 - (a.val:Int) := by decide
  exact this ⟨a, by omega⟩ h1

def rr (x : Int) (a : Nat) : Int := bits .or .u32 (x * 2 ^ (32 - a) % 4294967296) (x / 2 ^ a)
def turnedI (x : Int) (a b c : Nat) : Int := bits .xor .u32 (bits .xor .u32 (rr x a) (rr x b)) (rr x c)
def movedI (x : Int) (a b c : Nat) : Int := bits .xor .u32 (bits .xor .u32 (rr x a) (rr x b)) (x / 2 ^ c)

set_option maxHeartbeats 400000 in
theorem rotl_any (x : Int) (k : Int) (w : World) (h1 : -31 ≤ k) (h2 : k ≤ -1) :
    Calls Tryd.prog 78 #[.int .u32 x, .int .i64 k] w fun e w' => e = .returned (.int .u32 (rr x (-k).toNat)) ∧ w' = w := by
  obtain ⟨a, rfl⟩ : ∃ a : Nat, k = -(a:Int) := ⟨(-k).toNat, by omega⟩
  have h1' : 1 ≤ a := by omega
  have h2' : a ≤ 31 := by omega
  have hb := rot_and a h1' h2'
  have hs : IntKind.u64.wrap (32 - (32 - (a:Int))) = a := by simp [IntKind.wrap, IntKind.bits, IntKind.signed]; omega
  have e1 : (32 - (a:Int)).toNat = 32 - a := by omega
  go_enter Tryd.func78, Tryd.ntmps78
  go_wp2
  go_ret
  exact ⟨by simp [rr], rfl⟩

set_option maxHeartbeats 400000 in
theorem turned_any (x : Int) (a b c : Int) (w : World) (ha1 : 1 ≤ a) (ha2 : a ≤ 31) (hb1 : 1 ≤ b) (hb2 : b ≤ 31) (hc1 : 1 ≤ c) (hc2 : c ≤ 31) :
    Calls Tryd.prog 67 #[.int .u32 x, .int .i64 a, .int .i64 b, .int .i64 c] w fun e w' => e = .returned (.int .u32 (turnedI x a.toNat b.toNat c.toNat)) ∧ w' = w := by
  go_enter Tryd.func67, Tryd.ntmps67
  go_wp2_with (go_at_call 78; refine (rotl_any _ _ _ (by omega) (by omega)).mono ?_; rintro e w' ⟨rfl, rfl⟩)
  go_ret
  exact ⟨by simp [turnedI], rfl⟩

set_option maxHeartbeats 400000 in
theorem moved_any (x : Int) (a b c : Int) (w : World) (ha1 : 1 ≤ a) (ha2 : a ≤ 31) (hb1 : 1 ≤ b) (hb2 : b ≤ 31) (hc1 : 1 ≤ c) (hc2 : c ≤ 31) :
    Calls Tryd.prog 77 #[.int .u32 x, .int .i64 a, .int .i64 b, .int .i64 c] w fun e w' => e = .returned (.int .u32 (movedI x a.toNat b.toNat c.toNat)) ∧ ∃ n, w' = w.drewN n := by
  go_enter Tryd.func77, Tryd.ntmps77
  go_wp2
  go_quiet ((go_at_call 78; exact Calls.quiet_of_same (rotl_any _ _ _ (by omega) (by omega))))
  go_wp2
  go_ret
  exact ⟨by simp [movedI], _, rfl⟩
end Go.Proofs.YtldokkbfahobgaaDoor

/-! ShaB: The walk of sha.schedule: the numbers of a block's rounds. Condition: 64 bytes lie in the slice. -/
namespace Go.Proofs.YtldokkbfahobgaaDoor
open Go.RowKit

def byteI (l : List UInt8) (i : Nat) : Int := ((l[i]?.getD 0).toNat : Int)
theorem byteI_0 (l : List UInt8) (i : Nat) : 0 ≤ byteI l i := by unfold byteI; omega
theorem byteI_1 (l : List UInt8) (i : Nat) : byteI l i < 256 := by unfold byteI; have := (l[i]?.getD 0).toNat_lt; omega
def wordI (l : List UInt8) (t : Nat) : Int :=
  bits .or .u32 (bits .or .u32 (bits .or .u32 (byteI l (4 * t) * 16777216) (byteI l (4 * t + 1) * 65536)) (byteI l (4 * t + 2) * 256)) (byteI l (4 * t + 3))
def wI (l : List UInt8) (t : Nat) : Int :=
  if _h : t < 16 then wordI l t
  else (movedI (wI l (t - 2)) 17 19 10 + wI l (t - 7) + movedI (wI l (t - 15)) 7 18 3 + wI l (t - 16)) % 4294967296
def wrow (l : List UInt8) (k : Nat) : List Value := (List.range 64).map fun t => .int .u32 (if t < k then wI l t else 0)
theorem wrow_at (l : List UInt8) (k t : Nat) (h : t < 64) : (wrow l k)[t]? = some (.int .u32 (if t < k then wI l t else 0)) := by
  unfold wrow; simp [h]
theorem wrow_len (l : List UInt8) (k : Nat) : (wrow l k).length = 64 := by unfold wrow; simp
theorem wrow_set (l : List UInt8) (k : Nat) : (wrow l k).set k (.int .u32 (wI l k)) = wrow l (k + 1) := by
  apply List.ext_getElem?
  intro i
  by_cases hi : i < 64
  · rw [List.getElem?_set, wrow_len, wrow_at _ _ _ hi, wrow_at _ _ _ hi]
    by_cases hk : k = i
    · subst hk; rw [if_pos rfl, if_pos hi, if_pos (by omega)]
    · rw [if_neg hk]
      by_cases h2 : i < k
      · rw [if_pos h2, if_pos (by omega)]
      · rw [if_neg h2, if_neg (by omega)]
  · rw [List.getElem?_eq_none (by simp [wrow_len]; omega), List.getElem?_eq_none (by simp [wrow_len]; omega)]
theorem wI_lo (l : List UInt8) (t : Nat) (h : t < 16) : wI l t = wordI l t := by rw [wI, dif_pos h]
theorem wI_hi (l : List UInt8) (t : Nat) (h : ¬ t < 16) : wI l t = (movedI (wI l (t - 2)) 17 19 10 + wI l (t - 7) + movedI (wI l (t - 15)) 7 18 3 + wI l (t - 16)) % 4294967296 := by rw [wI, dif_neg h]
theorem wrow_info (l : List UInt8) (k : Nat) : (Tryd.prog.info? 114).map (·.size) = some (wrow l k).toArray.size := by
  rw [List.size_toArray, wrow_len]
  kernel_rfl
theorem wrow_one (l : List UInt8) (k : Nat) : (wrow l k).toArray.all (·.oneCell') = true := by
  simp [wrow, Value.oneCell']
theorem wrow_size (l : List UInt8) (k : Nat) : (wrow l k).toArray.size = 64 := by simp [wrow_len]
def schedRel (l : List UInt8) (w : World) (i : Value) (wr : World) : Prop :=
  ∃ k : Nat, k ≤ 64 ∧ i = .int .i64 k ∧ Blk wr (w.heap.size + 1) (wrow l k) 114 ∧ Blk wr w.heap.size (wrow l 0) 114 ∧ Below w.heap.size w wr

set_option maxHeartbeats 400000 in
set_option maxRecDepth 100000 in
theorem sched_any (b off cap : Nat) (l : List UInt8) (w : World) (hl : ∀ i, i < 64 → w.cell? ⟨b, off + i, none⟩ = some (.int .u8 (byteI l i))) :
    Calls Tryd.prog 66 #[.slice (some ⟨b, off, none⟩) 64 cap] w fun e w' => e = .returned (.agg (wrow l 64).toArray) ∧ Below w.heap.size w w' := by
  have hbs : b < w.heap.size := World.block_lt_of_cell? _ _ (hl 0 (by omega))
  have HL := Lib.hid hl
  clear hl
  go_enter Tryd.func66, Tryd.ntmps66
  go_wp2_with fail
  go_loopw [5] (fun i wr => schedRel l w i wr) (fun i _ => 64 - (intOf i).toNat)
  case atStart =>
    refine ⟨0, by omega, rfl, ?_, ?_, ?_⟩
    · have := Blk.new (w.alloc (.cells (wrow l 0).toArray 114)) (wrow l 0).toArray 114
      rw [World.size_alloc] at this
      exact this
    · exact (Blk.new w (wrow l 0).toArray 114).alloc _
    · exact ((Below.refl _ w).alloc (Nat.le_refl _) _).alloc (by simp) _
  case round =>
    obtain ⟨k, hk, rfl, hB, hZ, hb⟩ := hrel
    have HB := Lib.hid hB
    clear hB
    by_cases h16 : k < 16
    · have c0 : wr.cell? ⟨b, off + 4 * k, none⟩ = some (.int .u8 (byteI l (4 * k))) := (hb.cell (p := ⟨b, _, none⟩) hbs).trans (HL.out (4 * k) (by omega))
      have c1 : wr.cell? ⟨b, off + (4 * k + 1), none⟩ = some (.int .u8 (byteI l (4 * k + 1))) := (hb.cell (p := ⟨b, _, none⟩) hbs).trans (HL.out (4 * k + 1) (by omega))
      have c2 : wr.cell? ⟨b, off + (4 * k + 2), none⟩ = some (.int .u8 (byteI l (4 * k + 2))) := (hb.cell (p := ⟨b, _, none⟩) hbs).trans (HL.out (4 * k + 2) (by omega))
      have c3 : wr.cell? ⟨b, off + (4 * k + 3), none⟩ = some (.int .u8 (byteI l (4 * k + 3))) := (hb.cell (p := ⟨b, _, none⟩) hbs).trans (HL.out (4 * k + 3) (by omega))
      have d : wr.cell? ⟨w.heap.size + 1, k, none⟩ = some (.int .u32 0) := by rw [HB.out.cell?, wrow_at _ _ _ (by omega), if_neg (by omega)]
      have f : wr.frozen? ⟨w.heap.size + 1, k, none⟩ = false := HB.out.frozen k
      have a0 := byteI_0 l (4 * k)
      have a1 := byteI_0 l (4 * k + 1)
      have a2 := byteI_0 l (4 * k + 2)
      have a3 := byteI_0 l (4 * k + 3)
      have e0 := byteI_1 l (4 * k)
      have e1 := byteI_1 l (4 * k + 1)
      have e2 := byteI_1 l (4 * k + 2)
      have e3 := byteI_1 l (4 * k + 3)
      go_wp2_with fail
      refine wp_region_quiet_tail 35 (by kernel_rfl) (by kernel_rfl) ?_
      simp only [List.take_succ_cons, List.take_zero, List.drop_succ_cons, List.drop_zero]
      repeat (go_big_quiet_step (fail))
      refine wpQuiet_nil ?_
      intro _ hw'
      obtain ⟨nq, hw''⟩ := hw'
      subst hw''
      go_wp2
      go_roundw
      case rel =>
        refine ⟨k + 1, by omega, by go_num, ?_, (hZ.drewN nq).set_other (by simp) _, (below_drewN hb nq).setCell (by simp) _⟩
        rw [← wrow_set, wI_lo l k h16]
        exact (HB.out.drewN nq).set k _
      case measure => simp [intOf]; omega
    · by_cases h64 : k < 64
      · have d0 : wr.cell? ⟨w.heap.size + 1, k - 2, none⟩ = some (.int .u32 (wI l (k - 2))) := by rw [HB.out.cell?, wrow_at _ _ _ (by omega), if_pos (by omega)]
        have d1 : wr.cell? ⟨w.heap.size + 1, k - 7, none⟩ = some (.int .u32 (wI l (k - 7))) := by rw [HB.out.cell?, wrow_at _ _ _ (by omega), if_pos (by omega)]
        have d2 : wr.cell? ⟨w.heap.size + 1, k - 15, none⟩ = some (.int .u32 (wI l (k - 15))) := by rw [HB.out.cell?, wrow_at _ _ _ (by omega), if_pos (by omega)]
        have d3 : wr.cell? ⟨w.heap.size + 1, k - 16, none⟩ = some (.int .u32 (wI l (k - 16))) := by rw [HB.out.cell?, wrow_at _ _ _ (by omega), if_pos (by omega)]
        have d : wr.cell? ⟨w.heap.size + 1, k, none⟩ = some (.int .u32 0) := by rw [HB.out.cell?, wrow_at _ _ _ (by omega), if_neg (by omega)]
        have f : wr.frozen? ⟨w.heap.size + 1, k, none⟩ = false := HB.out.frozen k
        go_wp2_with fail
        refine wp_region_quiet_tail 23 (by kernel_rfl) (by kernel_rfl) ?_
        simp only [List.take_succ_cons, List.take_zero, List.drop_succ_cons, List.drop_zero]
        repeat (go_big_quiet_step ((go_at_call 77; exact Calls.quiet_of (moved_any _ _ _ _ _ (by omega) (by omega) (by omega) (by omega) (by omega) (by omega)))))
        refine wpQuiet_nil ?_
        intro _ hw'
        obtain ⟨nq, hw''⟩ := hw'
        subst hw''
        go_wp2
        go_roundw
        case rel =>
          refine ⟨k + 1, by omega, by go_num, ?_, (hZ.drewN nq).set_other (by simp) _, (below_drewN hb nq).setCell (by simp) _⟩
          rw [← wrow_set, wI_hi l k h16]
          exact (HB.out.drewN nq).set k _
        case measure => simp [intOf]; omega
      · obtain rfl : k = 64 := by omega
        have HZ := Lib.hid hZ
        clear hZ h64 h16
        go_wp2_with (first | (refine wpList_load_row rfl 114 _ rfl (w.heap.size + 1) rfl 114 (wrow l 64).toArray (0, 0) _ HB.out Tryd.underlying114 rfl (wrow_info l 64) ?_) | (refine wpList_store_row rfl 114 _ _ rfl w.heap.size (wrow l 64).toArray rfl rfl 114 (wrow l 0).toArray HZ.out (wrow_info l 64) ((wrow_size l 0).trans (wrow_size l 64).symm) (wrow_one l 64) ?_))
        exact bodyPost_ret (v := .agg (wrow l 64).toArray) (results_cell_row rfl _ _ w.heap.size 114 _ (0, 0) _ rfl (HZ.out.setRow (wrow l 64)) Tryd.underlying114 rfl (wrow_info l 64)) rfl ⟨rfl, below_setRow hb (Nat.le_refl _) _⟩
end Go.Proofs.YtldokkbfahobgaaDoor

/-! ShaC: The walk of sha.Turn: the state behind a block. Conditions: the package's tables read as they are laid; the slice's bytes can be read. -/
namespace Go.Proofs.YtldokkbfahobgaaDoor
open Go.RowKit

def Ktab : List Nat := [1116352408, 1899447441, 3049323471, 3921009573, 961987163, 1508970993, 2453635748, 2870763221, 3624381080, 310598401, 607225278, 1426881987, 1925078388, 2162078206, 2614888103, 3248222580, 3835390401, 4022224774, 264347078, 604807628, 770255983, 1249150122, 1555081692, 1996064986, 2554220882, 2821834349, 2952996808, 3210313671, 3336571891, 3584528711, 113926993, 338241895, 666307205, 773529912, 1294757372, 1396182291, 1695183700, 1986661051, 2177026350, 2456956037, 2730485921, 2820302411, 3259730800, 3345764771, 3516065817, 3600352804, 4094571909, 275423344, 430227734, 506948616, 659060556, 883997877, 958139571, 1322822218, 1537002063, 1747873779, 1955562222, 2024104815, 2227730452, 2361852424, 2428436474, 2756734187, 3204031479, 3329325298]
def Ftab : List Nat := [1779033703, 3144134277, 1013904242, 2773480762, 1359893119, 2600822924, 528734635, 1541459225]
def KI (t : Nat) : Int := ((Ktab[t]?.getD 0 : Nat) : Int)
def kvals : List Value := Ktab.map fun (n : Nat) => .int .u32 (n : Int)
def fvals : List Value := Ftab.map fun (n : Nat) => .int .u32 (n : Int)
def dvals : List Value := [48, 49, 50, 51, 52, 53, 54, 55, 56, 57, 97, 98, 99, 100, 101, 102].map fun (n : Nat) => .int .u8 (n : Int)

/-- The package-level tables read as they are laid. -/
structure Glob (w : World) : Prop where
  k : w.rangeAt 1 0 kvals
  f : w.rangeAt 0 0 fvals
  d : True

theorem Glob.kat {w : World} (h : Glob w) (t : Nat) (ht : t < 64) : w.cell? ⟨1, t, none⟩ = some (.int .u32 (KI t)) := by
  have := h.k t (.int .u32 (KI t)) (by
    unfold kvals KI
    rw [List.getElem?_map]
    have : t < Ktab.length := ht
    simp [this])
  simpa using this
theorem Glob.kblk {w : World} (h : Glob w) : 1 < w.heap.size := World.block_lt_of_cell? _ _ (h.kat 0 (by omega))

theorem Glob.below {w w' : World} (h : Glob w) (hb : Below w.heap.size w w') : Glob w' := by
  have go : ∀ g cs, w.rangeAt g 0 cs → w'.rangeAt g 0 cs := fun g cs hr j u hj => (hb.cell (World.block_lt_of_cell? _ _ (hr j u hj))).trans (hr j u hj)
  exact ⟨go _ _ h.k, go _ _ h.f, trivial⟩

structure S8 where
  a : Int
  b : Int
  c : Int
  d : Int
  e : Int
  f : Int
  g : Int
  h : Int
def S8.vals (s : S8) : List Value := [.int .u32 s.a, .int .u32 s.b, .int .u32 s.c, .int .u32 s.d, .int .u32 s.e, .int .u32 s.f, .int .u32 s.g, .int .u32 s.h]
def zvals : List Value := S8.vals ⟨0, 0, 0, 0, 0, 0, 0, 0⟩
theorem vals_len (s : S8) : s.vals.length = 8 := rfl
theorem vals_info (s : S8) : (Tryd.prog.info? 95).map (·.size) = some s.vals.toArray.size := by
  show _ = some 8
  kernel_rfl
theorem vals_one (s : S8) : s.vals.toArray.all (·.oneCell') = true := by simp [S8.vals, Value.oneCell']
def oneI (s : S8) (k w : Int) : Int := s.h + turnedI s.e 6 11 25 + bits .xor .u32 (bits .and .u32 s.e s.f) (bits .and .u32 (bits .xor .u32 IntKind.u32.max s.e) s.g) + k + w
def twoI (s : S8) : Int := turnedI s.a 2 13 22 + bits .xor .u32 (bits .xor .u32 (bits .and .u32 s.a s.b) (bits .and .u32 s.a s.c)) (bits .and .u32 s.b s.c)
def stepI (s : S8) (k w : Int) : S8 := ⟨(oneI s k w + twoI s) % 4294967296, s.a, s.b, s.c, (s.d + oneI s k w) % 4294967296, s.e, s.f, s.g⟩
def roundsI (l : List UInt8) (s : S8) : Nat → S8
  | 0 => s
  | t + 1 => stepI (roundsI l s t) (KI t) (wI l t)
def addI (s t : S8) : S8 := ⟨(s.a + t.a) % 4294967296, (s.b + t.b) % 4294967296, (s.c + t.c) % 4294967296, (s.d + t.d) % 4294967296, (s.e + t.e) % 4294967296, (s.f + t.f) % 4294967296, (s.g + t.g) % 4294967296, (s.h + t.h) % 4294967296⟩
def turnI (s : S8) (l : List UInt8) : S8 := addI s (roundsI l s 64)

def S8.get (s : S8) (j : Nat) : Int :=
  match j with
  | 0 => s.a
  | 1 => s.b
  | 2 => s.c
  | 3 => s.d
  | 4 => s.e
  | 5 => s.f
  | 6 => s.g
  | _ => s.h
theorem vals_at (s : S8) (j : Nat) (h : j < 8) : s.vals[j]? = some (.int .u32 (s.get j)) := by
  match j, h with
  | 0, _ => rfl
  | 1, _ => rfl
  | 2, _ => rfl
  | 3, _ => rfl
  | 4, _ => rfl
  | 5, _ => rfl
  | 6, _ => rfl
  | 7, _ => rfl
def addGet (s r : S8) (i j : Nat) : Int := if j < i then (s.get j + r.get j) % 4294967296 else s.get j
def addS (s r : S8) (i : Nat) : S8 := ⟨addGet s r i 0, addGet s r i 1, addGet s r i 2, addGet s r i 3, addGet s r i 4, addGet s r i 5, addGet s r i 6, addGet s r i 7⟩
theorem addS_get (s r : S8) (i j : Nat) (h : j < 8) : (addS s r i).get j = addGet s r i j := by
  match j, h with
  | 0, _ => rfl
  | 1, _ => rfl
  | 2, _ => rfl
  | 3, _ => rfl
  | 4, _ => rfl
  | 5, _ => rfl
  | 6, _ => rfl
  | 7, _ => rfl
theorem addS_set (s r : S8) (i : Nat) (hi : i < 8) : (addS s r i).vals.set i (.int .u32 ((s.get i + r.get i) % 4294967296)) = (addS s r (i + 1)).vals := by
  apply List.ext_getElem?
  intro j
  by_cases hj : j < 8
  · rw [List.getElem?_set, vals_len, vals_at _ _ hj, vals_at _ _ hj, addS_get _ _ _ _ hj, addS_get _ _ _ _ hj]
    unfold addGet
    by_cases hk : i = j
    · subst hk; rw [if_pos rfl, if_pos hi, if_pos (by omega)]
    · rw [if_neg hk]
      by_cases h2 : j < i
      · rw [if_pos h2, if_pos (by omega)]
      · rw [if_neg h2, if_neg (by omega)]
  · rw [List.getElem?_eq_none (by simp [vals_len]; omega), List.getElem?_eq_none (by simp [vals_len]; omega)]
theorem addS_0 (s r : S8) : addS s r 0 = s := rfl
theorem addS_8 (s r : S8) : addS s r 8 = addI s r := rfl
def addRel (s r : S8) (w : World) (i : Value) (wr : World) : Prop :=
  ∃ k : Nat, k ≤ 8 ∧ i = .int .i64 k ∧ Blk wr (w.heap.size + 1 + 1) r.vals 95 ∧ Blk wr w.heap.size (addS s r k).vals 95 ∧ Blk wr (w.heap.size + 1) zvals 95 ∧ Below w.heap.size w wr
def turnRel (l : List UInt8) (s : S8) (w : World) (i : Value) (wr : World) : Prop :=
  ∃ k : Nat, k ≤ 64 ∧ i = .int .i64 k ∧ Blk wr (w.heap.size + 1 + 1) (roundsI l s k).vals 95 ∧ Blk wr w.heap.size s.vals 95 ∧ Blk wr (w.heap.size + 1) zvals 95 ∧ Below w.heap.size w wr

set_option maxRecDepth 100000 in
set_option maxHeartbeats 400000 in
theorem turn_any (b off cap : Nat) (l : List UInt8) (s : S8) (w : World) (hl : ∀ i, i < 64 → w.cell? ⟨b, off + i, none⟩ = some (.int .u8 (byteI l i))) (hg : Glob w) :
    Calls Tryd.prog 51 #[.agg s.vals.toArray, .slice (some ⟨b, off, none⟩) 64 cap] w fun e w' => e = .returned (.agg (turnI s l).vals.toArray) ∧ Below w.heap.size w w' := by
  have hbs : b < w.heap.size := World.block_lt_of_cell? _ _ (hl 0 (by omega))
  have HL := Lib.hid hl
  have HG := Lib.hid hg
  clear hl hg
  go_enter Tryd.func51, Tryd.ntmps51
  go_wp2_with (first
    | (go_at_call 66; refine (sched_any b off cap l _ ?hl).mono ?_; rotate_left; rintro e w1 ⟨rfl, hb1⟩)
    | (refine wpList_load_row rfl 95 (.tmp 2) rfl w.heap.size rfl 95 s.vals.toArray (0, 0) _ (by exact heap_alloc2_old _ _ _) Tryd.underlying95 rfl (vals_info s) ?_)
    | (refine wpList_store_row rfl 95 (.tmp 5) (.tmp 15) rfl (w.heap.size + 1 + 1) s.vals.toArray rfl rfl 95 zvals.toArray (by exact heap_alloc3_new _ _ _ _) (vals_info s) rfl (vals_one s) ?_))
  case hl =>
    intro i hi
    refine (Below.cell (B := w.heap.size) ?_ hbs).trans (HL.out i hi)
    (repeat (first | with_reducible assumption | with_reducible exact Below.refl _ _ | ((with_reducible refine Below.setCell ?_ ?_ _); rotate_left; focus (first | omega | (simp; done) | (simp; omega))) | ((with_reducible refine Below.alloc ?_ ?_ _); rotate_left; focus (first | omega | (simp; done) | (simp; omega))) | ((with_reducible refine below_setRow ?_ ?_ _); rotate_left; focus (first | omega | (simp; done) | (simp; omega))) | (with_reducible refine below_drewN ?_ _) | (with_reducible refine Below.drew ?_)))
  have hS : Blk w1 (w.heap.size + 1 + 1) s.vals 95 := Blk.below (Blk.setRow (l := zvals) (Blk.newL2 _ _ _ _ _) s.vals) hb1 (by simp)
  have hH : Blk w1 w.heap.size s.vals 95 := Blk.below (Blk.setRow_other (((Blk.newL w s.vals _).alloc _).alloc _) (by omega) _) hb1 (by simp; omega)
  have hZ : Blk w1 (w.heap.size + 1) zvals 95 := Blk.below (Blk.setRow_other ((Blk.newL1 w _ zvals _).alloc _) (by omega) _) hb1 (by simp)
  have hbW : Below w.heap.size w w1 := by
    refine Below.trans (b := _) ?_ (hb1.mono (by simp; omega))
    (repeat (first | with_reducible assumption | with_reducible exact Below.refl _ _ | ((with_reducible refine Below.setCell ?_ ?_ _); rotate_left; focus (first | omega | (simp; done) | (simp; omega))) | ((with_reducible refine Below.alloc ?_ ?_ _); rotate_left; focus (first | omega | (simp; done) | (simp; omega))) | ((with_reducible refine below_setRow ?_ ?_ _); rotate_left; focus (first | omega | (simp; done) | (simp; omega))) | (with_reducible refine below_drewN ?_ _) | (with_reducible refine Below.drew ?_)))
  clear hb1
  go_loopw [18] (fun i wr => turnRel l s w i wr) (fun i _ => 64 - (intOf i).toNat)
  case atStart => exact ⟨0, by omega, rfl, hS, hH, hZ, hbW⟩
  case round =>
    clear hS hH hZ hbW
    obtain ⟨k, hk, rfl, hS, hH, hZ, hb⟩ := hrel
    have HS := Lib.hid hS
    have HH := Lib.hid hH
    have HZ := Lib.hid hZ
    clear hS hH hZ
    obtain ⟨r, hr⟩ : ∃ r, roundsI l s k = r := ⟨_, rfl⟩
    have HR := Lib.hid hr
    by_cases h64 : k < 64
    · rw [hr] at HS
      clear hr
      have hix : ∀ w', (Instr.index 114 (.agg (wrow l 64).toArray) (.int .i64 (k : Int))).run Tryd.prog w' = .ok (.int .u32 (wI l k)) w' := fun w' =>
        run_index_arr _ _ 64 _ Tryd.underlying114 Tryd.underlying94 rfl (by kernel_rfl) _ k h64 _ (by rw [List.getElem?_toArray, wrow_at _ _ _ h64, if_pos h64]) w'
      have hK : wr.cell? ⟨1, k, none⟩ = some (.int .u32 (KI k)) := (hb.cell (p := ⟨_, _, none⟩) HG.out.kblk).trans (HG.out.kat k h64)
      have c0 : wr.cell? ⟨w.heap.size + 1 + 1, 0, none⟩ = some (.int .u32 r.a) := HS.out.cell rfl
      have c1 : wr.cell? ⟨w.heap.size + 1 + 1, 1, none⟩ = some (.int .u32 r.b) := HS.out.cell rfl
      have c2 : wr.cell? ⟨w.heap.size + 1 + 1, 2, none⟩ = some (.int .u32 r.c) := HS.out.cell rfl
      have c3 : wr.cell? ⟨w.heap.size + 1 + 1, 3, none⟩ = some (.int .u32 r.d) := HS.out.cell rfl
      have c4 : wr.cell? ⟨w.heap.size + 1 + 1, 4, none⟩ = some (.int .u32 r.e) := HS.out.cell rfl
      have c5 : wr.cell? ⟨w.heap.size + 1 + 1, 5, none⟩ = some (.int .u32 r.f) := HS.out.cell rfl
      have c6 : wr.cell? ⟨w.heap.size + 1 + 1, 6, none⟩ = some (.int .u32 r.g) := HS.out.cell rfl
      have c7 : wr.cell? ⟨w.heap.size + 1 + 1, 7, none⟩ = some (.int .u32 r.h) := HS.out.cell rfl
      go_wp2_with fail
      go_quiet ((go_at_call 67; exact Calls.quiet_of_same (turned_any _ _ _ _ _ (by omega) (by omega) (by omega) (by omega) (by omega) (by omega))))
      go_wp2_with fail
      go_quiet ((go_at_call 67; exact quiet_add_same (turned_any _ _ _ _ _ (by omega) (by omega) (by omega) (by omega) (by omega) (by omega))))
      go_wp2_with fail
      (refine wp_region_quiet_tail 2 (by kernel_rfl) (by kernel_rfl) ?_; simp only [List.take_succ_cons, List.take_zero, List.drop_succ_cons, List.drop_zero]; (repeat (go_big_quiet_step (fail))); refine wpQuiet_nil ?_; intro _ hw'; obtain ⟨nq, hw''⟩ := hw'; subst hw'')
      refine wpList_copy_splice rfl (.tmp 68) (.tmp 69) 117 117 rfl 94 Tryd.underlying117 (by kernel_rfl) (some ⟨w.heap.size + 1 + 1, 1, none⟩) (some ⟨w.heap.size + 1 + 1, 0, none⟩) 7 7 7 8 rfl rfl
        (w.heap.size + 1 + 1) 1 r.vals 95 HS.out (r.vals.take 7) rfl (fun _ => ⟨rfl, _, rfl, ?src⟩) (by simp [S8.vals]) (by simp [S8.vals, Value.oneCell']) (w.heap.size + 1 + 1) _ (Below.refl _ _) (Nat.le_refl _) ?_
      case src =>
        intro j v hj
        rw [Addr.add_mid, Nat.zero_add]
        refine HS.out.cell ?_
        rw [List.getElem?_take] at hj
        split at hj
        · exact hj
        · cases hj
      intro w2 hS2 hb2
      have hS3 : Blk w2 (w.heap.size + 1 + 1) [.int .u32 r.a, .int .u32 r.a, .int .u32 r.b, .int .u32 r.c, .int .u32 r.d, .int .u32 r.e, .int .u32 r.f, .int .u32 r.g] 95 := hS2.out
      have HS3 := Lib.hid hS3
      have hH3 : Blk w2 w.heap.size s.vals 95 := Blk.below (by exact HH.out) hb2 (by omega)
      have hZ3 : Blk w2 (w.heap.size + 1) zvals 95 := Blk.below (by exact HZ.out) hb2 (by omega)
      have HH3 := Lib.hid hH3
      have HZ3 := Lib.hid hZ3
      have hb3 : Below w.heap.size w w2 := Below.trans (by (repeat (first | with_reducible assumption | with_reducible exact Below.refl _ _ | ((with_reducible refine Below.setCell ?_ ?_ _); rotate_left; focus (first | omega | (simp; done) | (simp; omega))) | ((with_reducible refine Below.alloc ?_ ?_ _); rotate_left; focus (first | omega | (simp; done) | (simp; omega))) | ((with_reducible refine below_setRow ?_ ?_ _); rotate_left; focus (first | omega | (simp; done) | (simp; omega))) | (with_reducible refine below_drewN ?_ _) | (with_reducible refine Below.drew ?_)))) (hb2.mono (B' := w.heap.size) (by omega))
      clear c0 c1 c2 c3 c4 c5 c6 c7 hK hix hS2 hb2 hb HS HH HZ hS3 hH3 hZ3
      have c4 : w2.cell? ⟨w.heap.size + 1 + 1, 4, none⟩ = some (.int .u32 r.d) := HS3.out.cell rfl
      have c0 : w2.cell? ⟨w.heap.size + 1 + 1, 0, none⟩ = some (.int .u32 r.a) := HS3.out.cell rfl
      have f4 : w2.frozen? ⟨w.heap.size + 1 + 1, 4, none⟩ = false := HS3.out.frozen 4
      have f0 : w2.frozen? ⟨w.heap.size + 1 + 1, 0, none⟩ = false := HS3.out.frozen 0
      go_wp2
      go_roundw
      case rel =>
        refine ⟨k + 1, by omega, by go_num, ?_, (HH3.out.set_other (by simp <;> omega) _).set_other (by simp <;> omega) _, (HZ3.out.set_other (by simp <;> omega) _).set_other (by simp <;> omega) _, by (repeat (first | with_reducible assumption | with_reducible exact Below.refl _ _ | ((with_reducible refine Below.setCell ?_ ?_ _); rotate_left; focus (first | omega | (simp; done) | (simp; omega))) | ((with_reducible refine Below.alloc ?_ ?_ _); rotate_left; focus (first | omega | (simp; done) | (simp; omega))) | ((with_reducible refine below_setRow ?_ ?_ _); rotate_left; focus (first | omega | (simp; done) | (simp; omega))) | (with_reducible refine below_drewN ?_ _) | (with_reducible refine Below.drew ?_)))⟩
        have := (HS3.out.set 4 (.int .u32 ((r.d + oneI r (KI k) (wI l k)) % 4294967296))).set 0 (.int .u32 ((oneI r (KI k) (wI l k) + twoI r) % 4294967296))
        rw [show roundsI l s (k + 1) = stepI r (KI k) (wI l k) by rw [roundsI, HR.out]]
        exact this
      case measure => simp [intOf]; omega
    · obtain rfl : k = 64 := by omega
      rw [hr] at HS
      clear hr h64
      obtain ⟨wo, hwo⟩ : ∃ wo : World, wo = wr := ⟨_, rfl⟩
      subst hwo
      go_wp2_with fail
      go_loopw [81] (fun i wr => addRel s r w i wr) (fun i _ => 8 - (intOf i).toNat)
      case atStart => exact ⟨0, by omega, rfl, HS.out, HH.out, HZ.out, hb⟩
      case round =>
        clear HS HH HZ hb
        obtain ⟨k, hk, rfl, hS, hH, hZ, hb⟩ := hrel
        have HS := Lib.hid hS
        have HH := Lib.hid hH
        have HZ := Lib.hid hZ
        clear hS hH hZ
        by_cases h8 : k < 8
        · have c0 : wr.cell? ⟨w.heap.size, k, none⟩ = some (.int .u32 (s.get k)) := HH.out.cell (by rw [vals_at _ _ h8, addS_get _ _ _ _ h8]; unfold addGet; rw [if_neg (by omega)])
          have c1 : wr.cell? ⟨w.heap.size + 1 + 1, k, none⟩ = some (.int .u32 (r.get k)) := HS.out.cell (vals_at _ _ h8)
          have f0 : wr.frozen? ⟨w.heap.size, k, none⟩ = false := HH.out.frozen k
          go_wp2_with fail
          (refine wp_region_quiet_tail 8 (by kernel_rfl) (by kernel_rfl) ?_; simp only [List.take_succ_cons, List.take_zero, List.drop_succ_cons, List.drop_zero]; (repeat (go_big_quiet_step (fail))); refine wpQuiet_nil ?_; intro _ hw'; obtain ⟨nq, hw''⟩ := hw'; subst hw'')
          go_wp2
          go_roundw
          case rel =>
            refine ⟨k + 1, by omega, by go_num, (HS.out.drewN nq).set_other (by simp <;> omega) _, ?_, (HZ.out.drewN nq).set_other (by simp <;> omega) _, by (repeat (first | with_reducible assumption | with_reducible exact Below.refl _ _ | ((with_reducible refine Below.setCell ?_ ?_ _); rotate_left; focus (first | omega | (simp; done) | (simp; omega))) | ((with_reducible refine Below.alloc ?_ ?_ _); rotate_left; focus (first | omega | (simp; done) | (simp; omega))) | ((with_reducible refine below_setRow ?_ ?_ _); rotate_left; focus (first | omega | (simp; done) | (simp; omega))) | (with_reducible refine below_drewN ?_ _) | (with_reducible refine Below.drew ?_)))⟩
            rw [← addS_set _ _ _ h8]
            exact (HH.out.drewN nq).set k _
          case measure => simp [intOf]; omega
        · obtain rfl : k = 8 := by omega
          clear h8
          go_wp2_with (first
            | (refine wpList_load_row rfl 95 (.tmp 2) rfl w.heap.size rfl 95 (addS s r 8).vals.toArray (0, 0) _ HH.out Tryd.underlying95 rfl (vals_info _) ?_)
            | (refine wpList_store_row rfl 95 (.tmp 4) (.tmp 93) rfl (w.heap.size + 1) (addS s r 8).vals.toArray rfl rfl 95 zvals.toArray HZ.out (vals_info _) rfl (vals_one _) ?_))
          exact bodyPost_ret (v := .agg (addS s r 8).vals.toArray) (results_cell_row rfl _ _ (w.heap.size + 1) 95 _ (0, 0) _ rfl (HZ.out.setRow _) Tryd.underlying95 rfl (vals_info _)) rfl ⟨by rw [addS_8]; unfold turnI; rw [HR.out], by (repeat (first | with_reducible assumption | with_reducible exact Below.refl _ _ | ((with_reducible refine Below.setCell ?_ ?_ _); rotate_left; focus (first | omega | (simp; done) | (simp; omega))) | ((with_reducible refine Below.alloc ?_ ?_ _); rotate_left; focus (first | omega | (simp; done) | (simp; omega))) | ((with_reducible refine below_setRow ?_ ?_ _); rotate_left; focus (first | omega | (simp; done) | (simp; omega))) | (with_reducible refine below_drewN ?_ _) | (with_reducible refine Below.drew ?_)))⟩
end Go.Proofs.YtldokkbfahobgaaDoor

/-! ShaD: The walk of sha.Fill: what fills up a text. Condition: the length is below 2^48. -/
namespace Go.Proofs.YtldokkbfahobgaaDoor
open Go.RowKit

theorem info_u8 : (Tryd.prog.info? 5).map (fun i => (i.zero, i.size, i.bytes)) = some (some (.int .u8 0), 1, 1) := by kernel_rfl

def fillZ (n : Nat) : Nat := (119 - n % 64) % 64
def be64 (n : Nat) (k : Nat) : List UInt8 := (List.range k).map fun j => UInt8.ofNat (n / 2 ^ (8 * (7 - j)))
def fillP (n : Nat) : List UInt8 := 128 :: (List.replicate (fillZ n) 0 ++ be64 (8 * n) 8)
def fillH (j : Nat) : List UInt8 := 128 :: List.replicate j 0
theorem fillH_snoc (j : Nat) : bytesV (fillH j) ++ [.int .u8 0] = bytesV (fillH (j + 1)) := by
  have : fillH (j + 1) = fillH j ++ [0] := by unfold fillH; rw [List.replicate_succ']; rfl
  rw [this, bytesV_app]; rfl
theorem fillH_len (j : Nat) : (fillH j).length = j + 1 := by simp [fillH]
theorem be64_len (n k : Nat) : (be64 n k).length = k := by simp [be64]
theorem be64_snoc (n k : Nat) (_hk : k < 8) : bytesV (be64 n k) ++ [.int .u8 ((n : Int) / 2 ^ (8 * (7 - k)) % 256)] = bytesV (be64 n (k + 1)) := by
  have : be64 n (k + 1) = be64 n k ++ [UInt8.ofNat (n / 2 ^ (8 * (7 - k)))] := by unfold be64; rw [List.range_succ]; simp
  rw [this, bytesV_app]
  simp [bytesV]
theorem fillZ_test (n j : Nat) (hj : j ≤ fillZ n) : (n + (j + 1)) % 64 = 56 ↔ j = fillZ n := by
  unfold fillZ at *
  omega

def fillRel1 (n : Nat) (w : World) (v : Value) (wr : World) : Prop :=
  ∃ (j : Nat) (a : Option Addr) (cap : Nat), j ≤ fillZ n ∧ v = .slice a (j + 1) cap ∧ wr.ownsRow w.heap.size 5 1 (.slice a (j + 1) cap) (j + 1) (bytesV (fillH j)) ∧ Below w.heap.size w wr
def lenOf : Value → Nat | .slice _ n _ => n | _ => 0

def fillRel2 (n : Nat) (w : World) (v i : Value) (wr : World) : Prop :=
  ∃ (k : Nat) (a : Option Addr) (cap : Nat), k ≤ 8 ∧ i = .int .i64 (7 - (k : Int)) ∧ v = .slice a (fillZ n + 1 + k) cap ∧ wr.ownsRow w.heap.size 5 1 (.slice a (fillZ n + 1 + k) cap) (fillZ n + 1 + k) (bytesV (fillH (fillZ n)) ++ bytesV (be64 (8 * n) k)) ∧ Below w.heap.size w wr
theorem fillP_len (n : Nat) : (fillP n).length = fillZ n + 1 + 8 := by simp [fillP, be64_len]
theorem fillP_V (n : Nat) : bytesV (fillP n) = bytesV (fillH (fillZ n)) ++ bytesV (be64 (8 * n) 8) := by
  rw [← bytesV_app]; rfl
theorem fillZ_lt (n : Nat) : fillZ n ≤ 63 := by unfold fillZ; omega

set_option maxRecDepth 100000 in
set_option maxHeartbeats 400000 in
theorem fill_any (n : Nat) (w : World) (hn : n < 281474976710656) :
    Calls Tryd.prog 50 #[.int .i64 n] w fun e w' => (∃ a cap, e = .returned (.slice a (fillP n).length cap) ∧ w'.ownsRow w.heap.size 5 1 (.slice a (fillP n).length cap) (fillP n).length (bytesV (fillP n))) ∧ Below w.heap.size w w' := by
  obtain ⟨i0, hi, hz0, hz1, hz2⟩ := info_parts info_u8
  go_enter Tryd.func50, Tryd.ntmps50
  go_wp2_with fail
  go_loopw [3] (fun v wr => fillRel1 n w v wr) (fun v _ => 100 - lenOf v)
  case atStart =>
    refine ⟨0, _, 1, by omega, rfl, ⟨rfl, .inr ⟨_, 1, #[.int .u8 128], rfl, Nat.le_refl _, Blk.new _ _ _, Nat.le_refl _, by decide, rfl, rfl⟩⟩, by (repeat (first | with_reducible assumption | with_reducible exact Below.refl _ _ | ((with_reducible refine Below.setCell ?_ ?_ _); rotate_left; focus (first | omega | (simp; done) | (simp; omega))) | ((with_reducible refine Below.alloc ?_ ?_ _); rotate_left; focus (first | omega | (simp; done) | (simp; omega))) | ((with_reducible refine below_setRow ?_ ?_ _); rotate_left; focus (first | omega | (simp; done) | (simp; omega))) | (with_reducible refine below_drewN ?_ _) | (with_reducible refine Below.drew ?_)))⟩
  case round =>
    obtain ⟨j, a, cap, hj, rfl, hown, hb⟩ := hrel
    have ht := fillZ_test n j hj
    have HO := Lib.hid hown
    clear hown
    have hj63 : j ≤ 63 := Nat.le_trans hj (fillZ_lt n)
    by_cases hz : j = fillZ n
    · have htt : (((n : Int) + ((j : Int) + 1)) % 64 != 56) = false := by have := ht.2 hz; simp; omega
      clear ht
      have HZ := Lib.hid hz
      clear hz
      go_wp2_with fail
      obtain ⟨wo, hwo⟩ : ∃ wo : World, wo = wr := ⟨_, rfl⟩
      subst hwo
      go_loopw [3, 5] (fun v i wr => fillRel2 n w v i wr) (fun _ i _ => ((intOf i) + 1).toNat)
      case atStart =>
        obtain rfl := HZ.out
        exact ⟨0, a, cap, by omega, by simp, rfl, by simpa [be64, bytesV] using HO.out, hb⟩
      case round =>
        clear HO hb hj
        obtain ⟨k, a2, cap2, hk, rfl, rfl, hown, hb⟩ := hrel
        have hz63 := fillZ_lt n
        have HO := Lib.hid hown
        clear hown
        by_cases h8 : k < 8
        · go_wp2_with (at_builtin; refine wpList_app rfl (.tmp 25) (.tmp 31) 48 rfl w.heap.size 5 i0 (.int .u8 0) 1 1 Tryd.underlying48 hi hz0 hz1 hz2 rfl (by decide) (.slice a2 (fillZ n + 1 + k) cap2) _ _ rfl (by exact HO.out.alloc _) _ 1 [.int .u8 ((n : Int) * 8 / 2 ^ (8 * (7 - k)) % 256)] rfl (by exact isSl_new _ _ _ _ _ rfl (by simp [Value.oneCell'])) (by unfold maxLen; omega) (by omega) (by have := hb.size; simp; omega) ?_; intro a' cap' w1 hown' hgrow _)
          refine ⟨⟨k + 1, a', cap', by omega, by simp; omega, rfl, ?_, (hb.alloc hb.size _).grown hgrow (by have := hb.size; simp; omega) (fun k hk => (HO.out.lt k hk).1)⟩, by simp [intOf]; omega⟩
          have e := be64_snoc (8 * n) k h8
          rw [show ((8 * n : Nat) : Int) = (n : Int) * 8 by omega] at e
          rw [← e, ← List.append_assoc]
          exact hown'
        · obtain rfl : k = 8 := by omega
          go_wp2_with fail
          go_ret
          exact ⟨⟨a2, cap2, by rw [fillP_len]; rfl, by rw [fillP_len, fillP_V]; exact HO.out⟩, hb⟩
    · have htt : (((n : Int) + ((j : Int) + 1)) % 64 != 56) = true := by have : ¬ (n + (j + 1)) % 64 = 56 := fun h => hz (ht.1 h); simp; omega
      clear ht
      go_wp2_with (at_builtin; refine wpList_app rfl (.tmp 15) (.tmp 16) 48 rfl w.heap.size 5 i0 (.int .u8 0) 1 1 Tryd.underlying48 hi hz0 hz1 hz2 rfl (by decide) (.slice a (j + 1) cap) _ _ rfl (by exact HO.out.alloc _) _ 1 [.int .u8 0] rfl (by exact isSl_new _ _ _ _ _ rfl (by simp [Value.oneCell'])) (by unfold maxLen; omega) (by omega) (by have := hb.size; simp; omega) ?_; intro a' cap' w1 hown' hgrow _)
      refine ⟨⟨j + 1, a', cap', by omega, rfl, by rw [← fillH_snoc]; exact hown', (hb.alloc hb.size _).grown hgrow (by have := hb.size; simp; omega) (fun k hk => (HO.out.lt k hk).1)⟩, by simp [lenOf]; omega⟩
end Go.Proofs.YtldokkbfahobgaaDoor

/-! ShaE: The walks of slices.Grow (of nil) and slices.Concat, at byte slices. Conditions: the parts can be read; their lengths add up to less than 2^47. -/
namespace Go.Proofs.YtldokkbfahobgaaDoor
open Go.RowKit

set_option maxRecDepth 100000 in
set_option maxHeartbeats 400000 in
theorem grow_nil (n : Int) (w : World) (h0 : 0 ≤ n) (hn : n ≤ 140737488355328) :
    Calls Tryd.prog 64 #[.slice none 0 0, .int .i64 n] w fun e w' => (∃ a cap, e = .returned (.slice a 0 cap) ∧ w'.ownsRow w.heap.size 5 1 (.slice a 0 cap) 0 []) ∧ Below w.heap.size w w' := by
  obtain ⟨i0, hi, hz0, hz1, hz2⟩ := info_parts info_u8
  obtain ⟨n, rfl⟩ := Int.eq_ofNat_of_zero_le h0
  by_cases hn0 : n = 0
  · subst hn0
    go_enter Tryd.func64, Tryd.ntmps64
    go_wp2_with fail
    go_ret
    exact ⟨⟨none, 0, rfl, World.ownsRow_nil _ _ _ _⟩, Below.refl _ _⟩
  · have hpos : 0 < n := by omega
    have hap := fun w => run_append_nil_zeros (P := Tryd.prog) w 48 3 48 5 .i64 i0 _ Tryd.underlying48 Tryd.underlying3 hi hz0 n hpos (by omega) (by rw [hz2]; omega) (by omega)
    have HA := Lib.hid hap
    clear hap
    go_enter Tryd.func64, Tryd.ntmps64
    go_wp2_with (at_builtin; refine wpList_append_run rfl (.tmp 20) (.tmp 21) 48 3 rfl _ _ _ _ rfl rfl (by exact HA.out w) ?_)
    go_ret
    have hge := grownCap_ge w n 0 5
    refine ⟨⟨_, _, rfl, (World.ownsRow_made w _ _ (Nat.le_refl _) (grownCap_le_maxLen w n 0 5 (by unfold maxLen; omega)) ?_).drew⟩, by (repeat (first | with_reducible assumption | with_reducible exact Below.refl _ _ | ((with_reducible refine Below.setCell ?_ ?_ _); rotate_left; focus (first | omega | (simp; done) | (simp; omega))) | ((with_reducible refine Below.alloc ?_ ?_ _); rotate_left; focus (first | omega | (simp; done) | (simp; omega))) | ((with_reducible refine below_setRow ?_ ?_ _); rotate_left; focus (first | omega | (simp; done) | (simp; omega))) | (with_reducible refine below_drewN ?_ _) | (with_reducible refine Below.drew ?_)))⟩
    rw [Array.size_append, size_zeroCells, size_zeroCells]
    simp
    omega

/-- The first k of some texts, one behind the other. -/
def pre (ls : List (List UInt8)) (k : Nat) : List UInt8 := (ls.take k).flatten
/-- All of them. -/
def cat (ls : List (List UInt8)) : List UInt8 := ls.flatten
theorem pre_0 (ls : List (List UInt8)) : pre ls 0 = [] := rfl
theorem pre_all (ls : List (List UInt8)) : pre ls ls.length = cat ls := by simp [pre, cat]
theorem pre_succ (ls : List (List UInt8)) (k : Nat) (l : List UInt8) (h : ls[k]? = some l) : pre ls (k + 1) = pre ls k ++ l := by
  unfold pre
  rw [List.take_add_one, h]
  simp
theorem pre_le (ls : List (List UInt8)) (k : Nat) : (pre ls k).length ≤ (cat ls).length := by
  have : ls.flatten = (ls.take k).flatten ++ (ls.drop k).flatten := by rw [← List.flatten_append, List.take_append_drop]
  unfold pre cat
  rw [this, List.length_append]
  omega

def concRel1 (ls : List (List UInt8)) (s i : Value) : Prop :=
  ∃ k : Nat, k ≤ ls.length ∧ i = .int .i64 k ∧ s = .int .i64 ((pre ls k).length : Int)
def concRel2 (ls : List (List UInt8)) (w : World) (v i : Value) (wr : World) : Prop :=
  ∃ (k : Nat) (a : Option Addr) (cap : Nat), k ≤ ls.length ∧ i = .int .i64 k ∧ v = .slice a (pre ls k).length cap ∧
    wr.ownsRow w.heap.size 5 1 (.slice a (pre ls k).length cap) (pre ls k).length (bytesV (pre ls k)) ∧ Below w.heap.size w wr

set_option maxRecDepth 100000 in
set_option maxHeartbeats 400000 in
theorem concat_any (v : Value) (ls : List (List UInt8)) (vs : List Value) (w : World) (hp : Parts w v ls vs) (hsz : (cat ls).length ≤ 140737488355328) (hln : ls.length ≤ 140737488355328) :
    Calls Tryd.prog 48 #[v] w fun e w' => (∃ a cap, e = .returned (.slice a (cat ls).length cap) ∧ w'.ownsRow w.heap.size 5 1 (.slice a (cat ls).length cap) (cat ls).length (bytesV (cat ls))) ∧ Below w.heap.size w w' := by
  obtain ⟨i0, hi, hz0, hz1, hz2⟩ := info_parts info_u8
  obtain ⟨a, cap, rfl, hcap⟩ := hp.sl.form
  have HP := Lib.hid hp
  clear hp
  have hbase : 0 < ls.length → ∃ b off, a = some ⟨b, off, none⟩ ∧ w.rangeAt b off vs ∧ b < w.heap.size := by
    intro h
    obtain ⟨b, off, c, e, _, hr, hb⟩ := HP.out.sl.pos h (by decide)
    cases e
    exact ⟨b, off, rfl, hr, hb⟩
  have HB := Lib.hid hbase
  clear hbase
  go_enter Tryd.func48, Tryd.ntmps48
  go_wp2_with fail
  go_loop [3, 11] (fun s i => concRel1 ls s i) (fun _ i => ls.length - (intOf i).toNat)
  case atStart => exact ⟨0, by omega, rfl, rfl⟩
  case round =>
    obtain ⟨k, hk, rfl, rfl⟩ := hrel
    have hpl := pre_le ls k
    by_cases hlt : k < ls.length
    · obtain ⟨b, off, rfl, hr, hb⟩ := HB.out (by omega)
      have hkv : k < vs.length := by rw [HP.out.len]; exact hlt
      obtain ⟨ak, ck, hvk, hck⟩ := (HP.out.each k _ _ (List.getElem?_eq_getElem hkv) (List.getElem?_eq_getElem hlt)).form
      have hcell : w.cell? ⟨b, off + k, none⟩ = some (.slice ak (ls[k]).length ck) := by rw [← hvk]; exact hr k _ (List.getElem?_eq_getElem hkv)
      have hs := pre_succ ls k _ (List.getElem?_eq_getElem hlt)
      have hpl2 := pre_le ls (k + 1)
      have hsl : (pre ls (k + 1)).length = (pre ls k).length + (ls[k]).length := by rw [hs, List.length_append]
      have hpl3 : (pre ls k).length + (ls[k]).length ≤ (cat ls).length := by omega
      have HS := Lib.hid hsl
      clear hs hvk hr hsl hpl2
      go_wp2_with fail
      go_round
      case rel => exact ⟨k + 1, by omega, by go_num, by rw [HS.out]; go_num⟩
      case measure => simp [intOf]; omega
    · obtain rfl : k = ls.length := by omega
      go_wp2_with (go_at_call 64; refine (grow_nil _ _ (by omega) (by omega)).mono ?_; rintro e w1 ⟨⟨a1, cap1, rfl, hown⟩, hb1⟩)
      have HO1 := Lib.hid hown
      clear hown
      clear hlt hpl
      go_loopw [6, 27] (fun v i wr => concRel2 ls w v i wr) (fun _ i _ => ls.length - (intOf i).toNat)
      case atStart => exact ⟨0, a1, cap1, by omega, rfl, rfl, HO1.out, hb1⟩
      case round =>
        clear HO1 hb1
        obtain ⟨k, a2, cap2, hk, rfl, rfl, hown, hb2⟩ := hrel
        have HO := Lib.hid hown
        clear hown
        by_cases hlt : k < ls.length
        · obtain ⟨b, off, rfl, hr, hb⟩ := HB.out (by omega)
          have hkv : k < vs.length := by rw [HP.out.len]; exact hlt
          have hsl := HP.out.each k _ _ (List.getElem?_eq_getElem hkv) (List.getElem?_eq_getElem hlt)
          obtain ⟨ak, ck, hvk, hck⟩ := hsl.form
          have hcell : wr.cell? ⟨b, off + k, none⟩ = some (.slice ak (ls[k]).length ck) := by rw [← hvk]; exact (hb2.cell (p := ⟨b, _, none⟩) hb).trans (hr k _ (List.getElem?_eq_getElem hkv))
          have hs := pre_succ ls k _ (List.getElem?_eq_getElem hlt)
          have hpl2 := pre_le ls (k + 1)
          have hsl2 : (pre ls (k + 1)).length = (pre ls k).length + (ls[k]).length := by rw [hs, List.length_append]
          have hpl3 : (pre ls k).length + (ls[k]).length ≤ (cat ls).length := by omega
          have HS := Lib.hid hsl2
          have HV := Lib.hid hs
          rw [hvk] at hsl
          have HX := Lib.hid (hsl.below hb2)
          clear hs hvk hr hsl hpl2 hsl2
          go_wp2_with (at_builtin; refine wpList_app rfl (.tmp 31) (.tmp 32) 48 rfl w.heap.size 5 i0 (.int .u8 0) 1 1 Tryd.underlying48 hi hz0 hz1 hz2 rfl (by decide) (.slice a2 (pre ls k).length cap2) _ _ rfl (by exact HO.out) (.slice ak (ls[k]).length ck) _ _ rfl (by exact HX.out) (by unfold maxLen; omega) (by omega) (by exact hb2.size) ?_; intro a' cap' w1 hown' hgrow _)
          go_roundw
          case rel => exact ⟨k + 1, a', cap', by omega, by go_num, by rw [HS.out], by rw [HS.out, HV.out, bytesV_app]; exact hown', hb2.grown hgrow hb2.size (fun k hk => (HO.out.lt k hk).1)⟩
          case measure => simp [intOf]; omega
        · obtain rfl : k = ls.length := by omega
          go_wp2_with fail
          go_ret
          exact ⟨⟨a2, cap2, by rw [pre_all]; rfl, by have := HO.out; rw [pre_all] at this; exact this⟩, hb2⟩
end Go.Proofs.YtldokkbfahobgaaDoor

/-! ShaF: The walk of the iterator sha.blocks$1, whatever the loop's body keeps. Condition: the text is whole blocks. -/
namespace Go.Proofs.YtldokkbfahobgaaDoor
open Go.RowKit Go.Shelf

/-- What the iterator's variable holds when i of N blocks have been handed on. -/
def BoxAt (b off cap N Bx i : Nat) (W : World) : Prop :=
  W.frozen? ⟨Bx, 0, none⟩ = false ∧ ∃ a c, W.cell? ⟨Bx, 0, none⟩ = some (.slice a (64 * (N - i)) c) ∧ 64 * (N - i) ≤ c ∧ (i < N → a = some ⟨b, off + 64 * i, none⟩ ∧ c = cap - 64 * i)

def lenAt (Bx : Nat) (W : World) : Nat := match W.cell? ⟨Bx, 0, none⟩ with | some (.slice _ n _) => n | _ => 0
theorem lenAt_of {Bx : Nat} {W : World} {a : Option Addr} {n c : Nat} (h : W.cell? ⟨Bx, 0, none⟩ = some (.slice a n c)) : lenAt Bx W = n := by unfold lenAt; rw [h]
def iterRel (b off cap N Bx : Nat) (J : Nat → World → Prop) (W : World) : Prop := ∃ i, i ≤ N ∧ J i W ∧ BoxAt b off cap N Bx i W

set_option maxRecDepth 100000 in
set_option maxHeartbeats 1000000 in
theorem blocks_iter (m l b off cap N Bx : Nat) (J : Nat → World → Prop) (hcap : 64 * N ≤ cap)
    (hY : ∀ i W, i < N → J i W → YieldAt Fence.wide (m - 1) Tryd.prog l #[.slice (some ⟨b, off + 64 * i, none⟩) 64 (cap - 64 * i)] W fun e W' =>
      e = .returned (.bool true) ∧ J (i + 1) W' ∧ W'.cell? ⟨Bx, 0, none⟩ = W.cell? ⟨Bx, 0, none⟩ ∧ W'.frozen? ⟨Bx, 0, none⟩ = W.frozen? ⟨Bx, 0, none⟩)
    (hJ : ∀ i W v, J i W → J i (W.setCell ⟨Bx, 0, none⟩ v))
    (W : World) (h0 : J 0 W) (hB : BoxAt b off cap N Bx 0 W) :
    CallsIn Fence.wide m Tryd.prog 65 #[.func (.yield l) #[] #[], .pointer (some ⟨Bx, 0, none⟩)] W fun e W' => (∃ v, e = .returned v) ∧ J N W' := by
  have HY := Lib.hid hY
  have HJ := Lib.hid hJ
  clear hY hJ
  refine callsIn_of_wp Tryd.func65 rfl trivial ?_ rfl
  simp only [Tryd.ntmps65, List.size_toArray, List.length_cons, List.length_nil, Nat.reduceAdd, Nat.reduceSub, Array.replicate_succ, Array.replicate_zero, List.push_toArray, List.append_toArray, List.nil_append, List.cons_append]
  gi_wp2
  gi_loopw [3] (fun _ wr => iterRel b off cap N Bx J wr) (fun _ wr => lenAt Bx wr)
  case atStart => exact ⟨0, by omega, h0, hB⟩
  case round =>
    obtain ⟨i, hi, hj, hf, a, c, hc, hcl, hlt⟩ := hrel
    have hla := lenAt_of hc
    by_cases hN : i < N
    · obtain ⟨rfl, rfl⟩ := hlt hN
      clear hlt
      obtain ⟨fn, tmps, assign, body, hy, hR⟩ := HY.out i wr hN hj
      have hHR := Lib.hid hR
      have hLA := Lib.hid hla
      clear hla hR
      gi_wp2
      refine ⟨fun h => by simp [Fence.wide] at h, ?_⟩
      refine hHR.out.mono ?_
      rintro e W3 ⟨rfl, hj3, hc3, hf3⟩
      have hc4 := hc3.trans hc
      have hf4 := hf3.trans hf
      have HJ3 := Lib.hid hj3
      clear hc3 hf3 hj3 hy hHR hc hf hj
      by_cases h64 : cap - 64 * i = 64
      · gi_wp2
        have hc5 : (W3.setCell ⟨Bx, 0, none⟩ (.slice (some ⟨b, off + 64 * i, none⟩) (64 * (N - i) - 64) 0)).cell? ⟨Bx, 0, none⟩ = some (.slice (some ⟨b, off + 64 * i, none⟩) (64 * (N - i) - 64) 0) := World.cell?_setCell_same' _ _ _ (by rw [hc4]; rfl)
        refine ⟨⟨i + 1, by omega, HJ.out _ _ _ HJ3.out, by rw [World.frozen?_setCell]; exact hf4, _, _, by rw [hc5, show 64 * (N - i) - 64 = 64 * (N - (i + 1)) by omega], by omega, fun h => by omega⟩, by rw [lenAt_of hc5, hLA.out]; omega⟩
      · gi_wp2
        have hc5 : (W3.setCell ⟨Bx, 0, none⟩ (.slice (some ⟨b, off + 64 * i + 64, none⟩) (64 * (N - i) - 64) (cap - 64 * i - 64))).cell? ⟨Bx, 0, none⟩ = some (.slice (some ⟨b, off + 64 * i + 64, none⟩) (64 * (N - i) - 64) (cap - 64 * i - 64)) := World.cell?_setCell_same' _ _ _ (by rw [hc4]; rfl)
        refine ⟨⟨i + 1, by omega, HJ.out _ _ _ HJ3.out, by rw [World.frozen?_setCell]; exact hf4, _, _, by rw [hc5, show 64 * (N - i) - 64 = 64 * (N - (i + 1)) by omega], by omega, fun h => ⟨by rw [show off + 64 * i + 64 = off + 64 * (i + 1) by omega], by omega⟩⟩, by rw [lenAt_of hc5, hLA.out]; omega⟩
    · obtain rfl : i = N := by omega
      have hLA := Lib.hid hla
      clear hla hlt
      gi_wp2
      go_end0
      exact ⟨⟨_, rfl⟩, hj⟩
end Go.Proofs.YtldokkbfahobgaaDoor

/-! ShaG: The walk of sha.Sum. Conditions: the parts can be read, their lengths add up to less than 2^46, and the package's tables read as they are laid. -/
namespace Go.Proofs.YtldokkbfahobgaaDoor
open Go.RowKit Go.Shelf
attribute [local go_sem] Oper.semAt_some

def F0 : S8 := ⟨1779033703, 3144134277, 1013904242, 2773480762, 1359893119, 2600822924, 528734635, 1541459225⟩
theorem fvals_eq : fvals = F0.vals := by simp [fvals, Ftab, S8.vals, F0]
/-- The i-th block of a text. -/
def blk (p : List UInt8) (i : Nat) : List UInt8 := (p.drop (64 * i)).take 64
/-- The state behind i blocks. -/
def stateI (p : List UInt8) : Nat → S8
  | 0 => F0
  | i + 1 => turnI (stateI p i) (blk p i)
def padded (t : List UInt8) : List UInt8 := t ++ fillP t.length
def digB (s : S8) (i : Nat) : UInt8 := UInt8.ofNat (s.get (i / 4) / 2 ^ (24 - 8 * (i % 4)) % 256).toNat
def digest (s : S8) : List UInt8 := (List.range 32).map (digB s)
def sumI (t : List UInt8) : List UInt8 := digest (stateI (padded t) ((padded t).length / 64))
theorem digest_len (s : S8) : (digest s).length = 32 := by simp [digest]
theorem sumI_len (t : List UInt8) : (sumI t).length = 32 := digest_len _
theorem blk_byte (p : List UInt8) (i j : Nat) (hj : j < 64) : byteI (blk p i) j = byteI p (64 * i + j) := by
  unfold byteI blk
  rw [List.getElem?_take, if_pos hj, List.getElem?_drop]
theorem padded_len (t : List UInt8) : (padded t).length = t.length + (fillP t.length).length := by simp [padded]
theorem padded_64 (t : List UInt8) : (padded t).length = 64 * ((padded t).length / 64) := by
  rw [padded_len, fillP_len]
  unfold fillZ
  omega

def z32 : List Value := bytesV (List.replicate 32 0)
theorem Glob.fblk {w : World} (h : Glob w) : 0 < w.heap.size := by
  have := h.f 0 (.int .u32 1779033703) rfl
  exact World.block_lt_of_cell? _ _ this
theorem fvals_info : (Tryd.prog.info? 95).map (·.size) = some fvals.length := by
  show _ = some 8
  kernel_rfl
theorem fvals_one : fvals.toArray.all (·.oneCell') = true := by
  rw [fvals_eq]; exact vals_one _
set_option maxHeartbeats 400000 in
theorem blocks_any (v : Value) (w : World) (hv : ∃ a k c, v = .slice a k c) :
    Calls Tryd.prog 49 #[v] w fun e w' => e = .returned (.func (.func 65) #[] #[.pointer (some ⟨w.heap.size, 0, none⟩)]) ∧ w' = w.alloc (.cells #[v] 48) := by
  obtain ⟨a, k, c, rfl⟩ := hv
  go_enter Tryd.func49, Tryd.ntmps49
  go_wp2
  go_ret
  exact ⟨rfl, rfl⟩

theorem range_byte {w : World} {b off : Nat} {p : List UInt8} (h : w.rangeAt b off (bytesV p)) (i : Nat) (hi : i < p.length) : w.cell? ⟨b, off + i, none⟩ = some (.int .u8 (byteI p i)) := by
  have := h i _ (bytesV_at p i p[i] (List.getElem?_eq_getElem hi))
  rw [this]
  unfold byteI
  rw [List.getElem?_eq_getElem hi]
  rfl
theorem digB_val (s : S8) (j : Nat) : ((digB s j).toNat : Int) = s.get (j / 4) / 2 ^ (24 - 8 * (j % 4)) % 256 := by
  unfold digB
  generalize s.get (j / 4) / 2 ^ (24 - 8 * (j % 4)) = x
  rw [UInt8.toNat_ofNat']
  omega
def outRow (s : S8) (k : Nat) : List Value := (List.range 32).map fun j => .int .u8 (if j < k then ((digB s j).toNat : Int) else 0)
theorem outRow_at (s : S8) (k j : Nat) (h : j < 32) : (outRow s k)[j]? = some (.int .u8 (if j < k then ((digB s j).toNat : Int) else 0)) := by
  unfold outRow; simp [h]
theorem outRow_len (s : S8) (k : Nat) : (outRow s k).length = 32 := by unfold outRow; simp
theorem outRow_info (s : S8) (k : Nat) : (Tryd.prog.info? 31).map (·.size) = some (outRow s k).toArray.size := by
  rw [List.size_toArray, outRow_len]
  kernel_rfl
theorem outRow_one (s : S8) (k : Nat) : (outRow s k).toArray.all (·.oneCell') = true := by
  simp [outRow, Value.oneCell']
theorem outRow_set (s : S8) (k : Nat) : (outRow s k).set k (.int .u8 ((digB s k).toNat : Int)) = outRow s (k + 1) := by
  apply List.ext_getElem?
  intro i
  by_cases hi : i < 32
  · rw [List.getElem?_set, outRow_len, outRow_at _ _ _ hi, outRow_at _ _ _ hi]
    by_cases hk : k = i
    · subst hk; rw [if_pos rfl, if_pos hi, if_pos (by omega)]
    · rw [if_neg hk]
      by_cases h2 : i < k
      · rw [if_pos h2, if_pos (by omega)]
      · rw [if_neg h2, if_neg (by omega)]
  · rw [List.getElem?_eq_none (by simp [outRow_len]; omega), List.getElem?_eq_none (by simp [outRow_len]; omega)]
theorem outRow_0 (s : S8) : outRow s 0 = z32 := rfl
theorem outRow_32 (s : S8) : outRow s 32 = bytesV (digest s) := by
  unfold outRow digest bytesV
  rw [List.map_map]
  apply List.map_congr_left
  intro j hj
  rw [if_pos (by simpa using hj)]
  rfl
def sumOut (s : S8) (w W : World) (D Bh : Nat) (i : Value) (wr : World) : Prop :=
  ∃ k : Nat, k ≤ 32 ∧ i = .int .i64 k ∧ Blk wr W.heap.size (outRow s k) 31 ∧ Blk wr Bh s.vals 95 ∧ Blk wr w.heap.size z32 31 ∧ wr.heap[D]? = some (.deferred (some [])) ∧ Below w.heap.size w wr
structure SumJ (p : List UInt8) (w : World) (H Bh l D b off : Nat) (rec : LoopState → Option Code → Loop) (i : Nat) (W : World) : Prop where
  loop : W.heap[l]? = some (.loop (rec .ready none))
  defs : W.heap[D]? = some (.deferred (some []))
  st : Blk W Bh (stateI p i).vals 95
  text : W.rangeAt b off (bytesV p)
  out : Blk W H z32 31
  old : Below w.heap.size w W

set_option maxRecDepth 100000 in
set_option maxHeartbeats 1000000 in
theorem sum_any (v : Value) (ls : List (List UInt8)) (vs : List Value) (w : World) (hp : Parts w v ls vs) (hsz : (cat ls).length ≤ 70368744177664) (hln : ls.length ≤ 140737488355328) (hg : Glob w) :
    Calls Tryd.prog 31 #[v] w fun e w' => e = .returned (.agg (bytesV (sumI (cat ls))).toArray) ∧ Below w.heap.size w w' := by
  obtain ⟨i0, hi, hz0, hz1, hz2⟩ := info_parts info_u8
  have HP := Lib.hid hp
  have HG := Lib.hid hg
  clear hp hg
  refine (callsIn_wide (n := 4)).1 ?_
  refine callsIn_of_wp_marks Tryd.func31 rfl trivial ?_ rfl
  simp only [Tryd.ntmps31, List.size_toArray, List.length_cons, List.length_nil, Nat.reduceAdd, Nat.reduceSub, Array.replicate_succ, Array.replicate_zero, List.push_toArray, List.append_toArray, List.nil_append, List.cons_append]
  gi_wp2_with fail
  have hz31 : Blk (w.alloc (.cells z32.toArray 31)) w.heap.size z32 31 := Blk.newL w z32 _
  have HZ := Lib.hid hz31
  clear hz31
  refine ⟨trivial, callsIn_wide.2 ((concat_any v ls vs _ (HP.out.below (by (repeat (first | with_reducible assumption | with_reducible exact Below.refl _ _ | ((with_reducible refine Below.setCell ?_ ?_ _); rotate_left; focus (first | omega | (simp; done) | (simp; omega))) | ((with_reducible refine Below.alloc ?_ ?_ _); rotate_left; focus (first | omega | (simp; done) | (simp; omega))) | ((with_reducible refine below_setRow ?_ ?_ _); rotate_left; focus (first | omega | (simp; done) | (simp; omega))) | (with_reducible refine below_drewN ?_ _) | (with_reducible refine Below.drew ?_))))) (by omega) hln).mono ?_)⟩
  rintro e w1 ⟨⟨a1, cap1, rfl, hown1⟩, hb1⟩
  rw [World.size_alloc] at hown1
  have hH1 : Blk w1 w.heap.size z32 31 := HZ.out.below hb1 (by simp)
  have hW1 : Below w.heap.size w w1 := Below.trans (by (repeat (first | with_reducible assumption | with_reducible exact Below.refl _ _ | ((with_reducible refine Below.setCell ?_ ?_ _); rotate_left; focus (first | omega | (simp; done) | (simp; omega))) | ((with_reducible refine Below.alloc ?_ ?_ _); rotate_left; focus (first | omega | (simp; done) | (simp; omega))) | ((with_reducible refine below_setRow ?_ ?_ _); rotate_left; focus (first | omega | (simp; done) | (simp; omega))) | (with_reducible refine below_drewN ?_ _) | (with_reducible refine Below.drew ?_)))) (hb1.mono (B' := w.heap.size) (by simp))
  have hs1 : w.heap.size + 1 ≤ w1.heap.size := by have := hb1.size; simpa using this
  have hG1 : w1.rangeAt 0 0 fvals := fun j u hj => (hW1.cell (p := ⟨_, _, none⟩) (HG.out.fblk)).trans (HG.out.f j u hj)
  have HO1 := Lib.hid hown1
  have HH1 := Lib.hid hH1
  have HG1 := Lib.hid hG1
  clear hown1 hH1 hb1 hG1 HZ
  gi_wp2_with (first
    | (refine wpListIn_load_mid rfl 95 (.global 0) rfl 0 0 rfl fvals _ (by exact HG1.out) Tryd.underlying95 rfl (by exact fvals_info) ?_)
    | (refine wpListIn_store_row rfl 95 (.tmp 4) (.tmp 10) rfl w1.heap.size fvals.toArray rfl rfl 95 zvals.toArray (by exact Blk.newL w1 zvals _) (by exact fvals_info) rfl fvals_one ?_)
    | fail)
  refine ⟨trivial, callsIn_wide.2 ((fill_any (cat ls).length _ (by omega)).mono ?_)⟩
  rintro e w2 ⟨⟨a2, cap2, rfl, hown2⟩, hb2⟩
  have hszW : w1.heap.size + 1 ≤ w2.heap.size := by have := hb2.size; simpa using this
  have hB2 : Blk w2 w1.heap.size F0.vals 95 := by
    rw [← fvals_eq]
    exact Blk.below (Blk.setRow (l := zvals) (Blk.newL w1 zvals _) fvals) hb2 (by simp)
  have hH2 : Blk w2 w.heap.size z32 31 := Blk.below (Blk.setRow_other (HH1.out.alloc _) (by omega) _) hb2 (by simp; omega)
  have hW2 : Below w.heap.size w w2 := Below.trans (by (repeat (first | with_reducible assumption | with_reducible exact Below.refl _ _ | ((with_reducible refine Below.setCell ?_ ?_ _); rotate_left; focus (first | omega | (simp; done) | (simp; omega))) | ((with_reducible refine Below.alloc ?_ ?_ _); rotate_left; focus (first | omega | (simp; done) | (simp; omega))) | ((with_reducible refine below_setRow ?_ ?_ _); rotate_left; focus (first | omega | (simp; done) | (simp; omega))) | (with_reducible refine below_drewN ?_ _) | (with_reducible refine Below.drew ?_)))) (hb2.mono (B' := w.heap.size) (by simp; omega))
  have hO2 : w2.ownsRow (w.heap.size + 1) 5 1 (.slice a1 (cat ls).length cap1) (cat ls).length (bytesV (cat ls)) := by
    refine ownsRow_below HO1.out (B := w1.heap.size) ?_ (ownsRow_block HO1.out)
    refine Below.trans (b := _) ?_ (hb2.mono (B' := w1.heap.size) (by simp))
    exact below_setRow ((Below.refl _ _).alloc (Nat.le_refl _) _) (Nat.le_refl _) _
  have HO2 := Lib.hid hO2
  have HS2 := Lib.hid (ownsRow_isSl hown2 (bytesV_one _))
  have HB2 := Lib.hid hB2
  have HH2 := Lib.hid hH2
  have hfl := fillP_len (cat ls).length
  have hfz := fillZ_lt (cat ls).length
  have hfl2 : (fillP (cat ls).length).length ≤ 100 := by omega
  clear hO2 hown2 hB2 hH2 hb2 HH1 HG1 hfl hfz
  gi_wp2_with (gi_at_builtin; refine wpListIn_app rfl (.tmp 11) (.tmp 14) 48 rfl (w.heap.size + 1) 5 i0 (.int .u8 0) 1 1 Tryd.underlying48 hi hz0 hz1 hz2 rfl (by decide) (.slice a1 (cat ls).length cap1) _ _ rfl (by exact HO2.out) (.slice a2 (fillP (cat ls).length).length cap2) _ _ rfl (by exact HS2.out) (by unfold maxLen; omega) (by omega) (by omega) ?_; intro a3 cap3 w3 hown3 hgrow _)
  obtain ⟨p, hp⟩ : ∃ p, p = padded (cat ls) := ⟨_, rfl⟩
  obtain ⟨N, hN⟩ : ∃ N, N = p.length / 64 := ⟨_, rfl⟩
  have hpl : (cat ls).length + (fillP (cat ls).length).length = 64 * N := by
    rw [hN, hp, ← padded_64, padded_len]
  rw [hpl, ← bytesV_app, show cat ls ++ fillP (cat ls).length = p by rw [hp]; rfl] at hown3
  rw [hpl]
  have hplen : p.length = 64 * N := by rw [hN, hp]; exact padded_64 _
  have hNpos : 0 < N := by have := fillP_len (cat ls).length; omega
  obtain ⟨b, off, cap, hsv, hcap, htext, hbw⟩ := (ownsRow_isSl hown3 (bytesV_one _)).pos (by omega) (by decide)
  cases hsv
  have hlt3 := hown3.lt b rfl
  have hne : b ≠ w1.heap.size := by
    intro e
    rcases hown3.2 with ⟨h, _⟩ | ⟨g, cap, cur, h, _, hg, _⟩
    · cases h
    · cases h
      have hB3 : Blk w3 w1.heap.size F0.vals 95 := HB2.out.grown hgrow (fun e => by have := ownsRow_block HO1.out _ e.symm; omega)
      unfold Blk at hB3
      rw [← e, hg] at hB3
      simp at hB3
  have hB3 : Blk w3 w1.heap.size F0.vals 95 := HB2.out.grown hgrow (fun e => by have := ownsRow_block HO1.out _ e.symm; omega)
  have hH3 : Blk w3 w.heap.size z32 31 := HH2.out.grown hgrow (fun e => by have := (HO1.out.lt _ e.symm).1; omega)
  have hW3 : Below w.heap.size w w3 := hW2.grown hgrow hW2.size (fun k hk => by have := (HO1.out.lt k hk).1; omega)
  have hs3 := hgrow.size
  have HB3 := Lib.hid hB3
  have HH3 := Lib.hid hH3
  have HT3 := Lib.hid htext
  have HPP := Lib.hid hp
  have HPL := Lib.hid hplen
  have HNN := Lib.hid hN
  have hbase := hlt3.1
  clear hB3 hH3 htext hp hplen hN hpl hown3 hgrow HO1 HB2 HH2 HO2 HS2 hW2 hfl2 hlt3
  refine ⟨trivial, callsIn_wide.2 ((blocks_any _ _ ⟨_, _, _, rfl⟩).mono ?_)⟩
  rintro e w4 ⟨rfl, rfl⟩
  gi_wp2
  refine rangeFunc_plain (m := 3) rfl (enters_of Tryd.func65 (by kernel_rfl) rfl) ?_
  intro fn rec hrec
  rw [World.size_alloc]
  simp only [List.append_toArray, List.cons_append, List.nil_append]
  refine (blocks_iter 3 (w3.heap.size + 1 + 1) b off cap3 N w3.heap.size (SumJ p w w.heap.size w1.heap.size (w3.heap.size + 1 + 1) (w3.heap.size + 1) b off rec) hcap ?hY ?hJ _ ?h0 ?hB).mono ?_
  case hJ =>
    intro i W u hj
    exact ⟨(Below.heap_setCell _ _ _ _ (by simp <;> omega)).trans hj.loop, (Below.heap_setCell _ _ _ _ (by simp <;> omega)).trans hj.defs, hj.st.set_other (by simp <;> omega) _,
      fun j u' hu => (World.cell?_setCell_other _ _ _ _ (by simp <;> omega)).trans (hj.text j u' hu), hj.out.set_other (by simp <;> omega) _, hj.old.setCell (by simp <;> omega) _⟩
  case h0 =>
    refine ⟨?_, ?_, ((HB3.out.alloc _).alloc _).alloc _, ?_, ((HH3.out.alloc _).alloc _).alloc _, by (repeat (first | with_reducible assumption | with_reducible exact Below.refl _ _ | ((with_reducible refine Below.setCell ?_ ?_ _); rotate_left; focus (first | omega | (simp; done) | (simp; omega))) | ((with_reducible refine Below.alloc ?_ ?_ _); rotate_left; focus (first | omega | (simp; done) | (simp; omega))) | ((with_reducible refine below_setRow ?_ ?_ _); rotate_left; focus (first | omega | (simp; done) | (simp; omega))) | (with_reducible refine below_drewN ?_ _) | (with_reducible refine Below.drew ?_)))⟩
    · have := heap_alloc_new ((w3.alloc (.cells #[.slice (some ⟨b, off, none⟩) (64 * N) cap3] 48)).alloc (.deferred (some []))) (.loop (rec .ready none))
      simpa using this
    · have := heap_alloc2_old (w3.alloc (.cells #[.slice (some ⟨b, off, none⟩) (64 * N) cap3] 48)) (.deferred (some [])) (.loop (rec .ready none))
      simpa using this
    · intro j u hu
      refine (Below.cell (B := w3.heap.size) ?_ hbw).trans (HT3.out j u hu)
      (repeat (first | with_reducible assumption | with_reducible exact Below.refl _ _ | ((with_reducible refine Below.setCell ?_ ?_ _); rotate_left; focus (first | omega | (simp; done) | (simp; omega))) | ((with_reducible refine Below.alloc ?_ ?_ _); rotate_left; focus (first | omega | (simp; done) | (simp; omega))) | ((with_reducible refine below_setRow ?_ ?_ _); rotate_left; focus (first | omega | (simp; done) | (simp; omega))) | (with_reducible refine below_drewN ?_ _) | (with_reducible refine Below.drew ?_)))
  case hB =>
    have h := (((Blk.newL w3 [.slice (some ⟨b, off, none⟩) (64 * N) cap3] 48).alloc (.deferred (some []))).alloc (.loop (rec .ready none)))
    exact ⟨h.frozen 0, _, _, h.cell rfl, by omega, fun _ => ⟨rfl, rfl⟩⟩
  case hY =>
    intro i W hi hj
    refine yield_plain hrec hj.loop rfl ?_
    clear hrec
    have hlW : w3.heap.size + 1 + 1 < W.heap.size := (Array.getElem?_eq_some_iff.1 hj.loop).1
    gi_wp2
    refine ⟨hj.loop, ?_⟩
    have HJ := Lib.hid hj
    obtain ⟨Wb, hWb⟩ : ∃ Wb, Wb = W.putObj (w3.heap.size + 1 + 1) (.loop (rec .busy none)) := ⟨_, rfl⟩
    have hB : Blk Wb w1.heap.size (stateI p i).vals 95 := by rw [hWb]; exact hj.st.putObj (by omega) _
    have hW : Below w.heap.size w Wb := by rw [hWb]; exact below_putObj hj.old (by omega) _
    have hT : Wb.rangeAt b off (bytesV p) := by rw [hWb]; exact fun j u hu => (cell_putObj (by show b ≠ _; omega) _).trans (hj.text j u hu)
    have hl : Wb.heap[w3.heap.size + 1 + 1]? = some (.loop (rec .busy none)) := by rw [hWb]; exact World.putObj_heap_same hlW
    have hD : Wb.heap[w3.heap.size + 1]? = some (.deferred (some [])) := by rw [hWb]; exact (World.putObj_heap_other (by omega)).trans hj.defs
    have hO : Blk Wb w.heap.size z32 31 := by rw [hWb]; exact hj.out.putObj (by omega) _
    have hX : ∀ q : Addr, q.block = w3.heap.size → W.cell? q = Wb.cell? q ∧ W.frozen? q = Wb.frozen? q := fun q hq => by
      rw [hWb]
      have := World.putObj_heap_other (w := W) (r := w3.heap.size + 1 + 1) (k := q.block) (o := .loop (rec .busy none)) (by omega)
      exact ⟨(World.cell?_of_block this).symm, (World.frozen?_of_block this).symm⟩
    rw [← hWb]
    have HB := Lib.hid hB
    have HT := Lib.hid hT
    have HL := Lib.hid hl
    have HD := Lib.hid hD
    have HO := Lib.hid hO
    have HX := Lib.hid hX
    have hszb : w3.heap.size + 1 + 1 < Wb.heap.size := (Array.getElem?_eq_some_iff.1 hl).1
    clear hj HJ hWb hB hT hl hD hO hX hlW
    gi_wp2_with (first
      | (refine wpListIn_load_row rfl 95 (.tmp 4) rfl w1.heap.size rfl 95 (stateI p i).vals.toArray (0, 0) _ (by exact HB.out) Tryd.underlying95 rfl (by exact vals_info _) ?_)
      | fail)
    refine ⟨trivial, CallsIn.inRound _ (callsIn_wide.2 ((turn_any b (off + 64 * i) (cap3 - 64 * i) (blk p i) (stateI p i) Wb ?hl (HG.out.below hW)).mono ?_))⟩
    case hl =>
      intro j hj
      rw [blk_byte _ _ _ hj, Nat.add_assoc]
      exact range_byte HT.out _ (by have := HPL.out; omega)
    rintro e W5 ⟨rfl, hb5⟩
    have HB5 := Lib.hid (HB.out.below hb5 HB.out.lt)
    gi_wp2_with (refine wpListIn_store_row rfl 95 (.tmp 4) (.tmp 20) rfl w1.heap.size (turnI (stateI p i) (blk p i)).vals.toArray rfl rfl 95 (stateI p i).vals.toArray (by exact HB5.out) (by exact vals_info _) rfl (vals_one _) ?_)
    have hL5 : (W5.setRow w1.heap.size (turnI (stateI p i) (blk p i)).vals.toArray).heap[w3.heap.size + 1 + 1]? = some (.loop (rec .busy none)) := (Go.setRow_other _ _ _ _ (by omega)).trans ((hb5.block _ (by omega)).trans HL.out)
    refine ⟨hL5, trivial, ⟨World.putObj_heap_same (Array.getElem?_eq_some_iff.1 hL5).1, ?_, ?_, ?_, ?_, ?_⟩, ?_, ?_⟩
    · exact (World.putObj_heap_other (by omega)).trans ((Go.setRow_other _ _ _ _ (by omega)).trans ((hb5.block _ (by omega)).trans HD.out))
    · exact (HB5.out.setRow _).putObj (by omega) _
    · intro j u hu
      have h1 := HT.out j u hu
      refine (cell_putObj (by show b ≠ _; omega) _).trans (Eq.trans (World.cell?_of_block (Go.setRow_other _ _ _ _ hne)) ((hb5.cell (p := ⟨b, _, none⟩) (World.block_lt_of_cell? _ _ h1)).trans h1))
    · exact ((HO.out.below hb5 HO.out.lt).setRow_other (by omega) _).putObj (by omega) _
    · exact below_putObj (below_setRow (hW.trans (hb5.mono hW.size)) (by omega) _) (by omega) _
    · rw [(HX.out ⟨w3.heap.size, 0, none⟩ rfl).1]
      exact (cell_putObj (by simp <;> omega) _).trans ((World.cell?_of_block (Go.setRow_other _ _ _ _ (by simp <;> omega))).trans (hb5.cell (by simp <;> omega)))
    · rw [(HX.out ⟨w3.heap.size, 0, none⟩ rfl).2]
      exact (World.frozen?_of_block (World.putObj_heap_other (by simp <;> omega))).trans ((World.frozen?_of_block (Go.setRow_other _ _ _ _ (by simp <;> omega))).trans (hb5.frozen (by simp <;> omega)))
  · rintro e W2 ⟨hv, hj⟩
    refine ⟨hv, hj.loop, ?_⟩
    clear hrec
    have hlW : w3.heap.size + 1 + 1 < W2.heap.size := (Array.getElem?_eq_some_iff.1 hj.loop).1
    obtain ⟨W, hWe⟩ : ∃ W, W = W2.putObj (w3.heap.size + 1 + 1) (.loop (rec .exhausted none)) := ⟨_, rfl⟩
    have hB : Blk W w1.heap.size (stateI p N).vals 95 := by rw [hWe]; exact hj.st.putObj (by omega) _
    have hW : Below w.heap.size w W := by rw [hWe]; exact below_putObj hj.old (by omega) _
    have hD : W.heap[w3.heap.size + 1]? = some (.deferred (some [])) := by rw [hWe]; exact (World.putObj_heap_other (by omega)).trans hj.defs
    have hO : Blk W w.heap.size z32 31 := by rw [hWe]; exact hj.out.putObj (by omega) _
    have hsW : w3.heap.size + 1 + 1 < W.heap.size := by rw [hWe]; simpa using hlW
    rw [← hWe]
    clear hWe hj hlW
    have HB := Lib.hid hB
    have HD := Lib.hid hD
    have HO := Lib.hid hO
    clear hB hD hO
    gi_wp2
    gi_loopw [21] (fun i wr => sumOut (stateI p N) w W (w3.heap.size + 1) w1.heap.size i wr) (fun i _ => 32 - (intOf i).toNat)
    case atStart =>
      exact ⟨0, by omega, rfl, Blk.newL W z32 _, HB.out.alloc _, HO.out.alloc _, (Below.heap_alloc _ _ _ (by omega)).trans HD.out, by (repeat (first | with_reducible assumption | with_reducible exact Below.refl _ _ | ((with_reducible refine Below.setCell ?_ ?_ _); rotate_left; focus (first | omega | (simp; done) | (simp; omega))) | ((with_reducible refine Below.alloc ?_ ?_ _); rotate_left; focus (first | omega | (simp; done) | (simp; omega))) | ((with_reducible refine below_setRow ?_ ?_ _); rotate_left; focus (first | omega | (simp; done) | (simp; omega))) | (with_reducible refine below_drewN ?_ _) | (with_reducible refine Below.drew ?_)))⟩
    case round =>
      clear HB HD HO
      obtain ⟨k, hk, rfl, hR, hB, hO, hD, hW⟩ := hrel
      have HR := Lib.hid hR
      have HB := Lib.hid hB
      have HO := Lib.hid hO
      have HD := Lib.hid hD
      clear hR hB hO hD
      by_cases h32 : k < 32
      · have c0 : wr.cell? ⟨w1.heap.size, k / 4, none⟩ = some (.int .u32 ((stateI p N).get (k / 4))) := HB.out.cell (vals_at _ _ (by omega))
        have c1 : wr.cell? ⟨W.heap.size, k, none⟩ = some (.int .u8 0) := HR.out.cell (by rw [outRow_at _ _ _ h32, if_neg (by omega)])
        have f1 : wr.frozen? ⟨W.heap.size, k, none⟩ = false := HR.out.frozen k
        gi_wp2
        refine ⟨⟨k + 1, by omega, by go_num, ?_, HB.out.set_other (by simp <;> omega) _, HO.out.set_other (by simp <;> omega) _, (Below.heap_setCell _ _ _ _ (by simp <;> omega)).trans HD.out, by (repeat (first | with_reducible assumption | with_reducible exact Below.refl _ _ | ((with_reducible refine Below.setCell ?_ ?_ _); rotate_left; focus (first | omega | (simp; done) | (simp; omega))) | ((with_reducible refine Below.alloc ?_ ?_ _); rotate_left; focus (first | omega | (simp; done) | (simp; omega))) | ((with_reducible refine below_setRow ?_ ?_ _); rotate_left; focus (first | omega | (simp; done) | (simp; omega))) | (with_reducible refine below_drewN ?_ _) | (with_reducible refine Below.drew ?_)))⟩, by simp [intOf]; omega⟩
        rw [← outRow_set, digB_val]
        exact HR.out.set k _
      · obtain rfl : k = 32 := by omega
        gi_wp2_with (first
          | (refine wpListIn_load_row rfl 31 (.tmp 6) rfl W.heap.size rfl 31 (outRow (stateI p N) 32).toArray (0, 0) _ (by exact HR.out) Tryd.underlying31 rfl (by exact outRow_info _ _) ?_)
          | (refine wpListIn_store_row rfl 31 (.tmp 2) (.tmp 37) rfl w.heap.size (outRow (stateI p N) 32).toArray rfl rfl 31 z32.toArray (by exact HO.out) (by exact outRow_info _ _) (by simp [outRow_len, z32, bytesV]) (by exact outRow_one _ _) ?_))
        have hK : (wr.setRow w.heap.size (outRow (stateI p N) 32).toArray).heap[w3.heap.size + 1]? = some (.deferred (some [])) := (Go.setRow_other _ _ _ _ (by omega)).trans HD.out
        refine ⟨by simp, .inl ⟨_, _, rfl, run_takeDeferred hK, ?_⟩⟩
        refine ⟨_, results_cell_row rfl _ _ w.heap.size 31 (outRow (stateI p N) 32).toArray (0, 0) _ rfl ((HO.out.setRow _).putObj (by omega) _) Tryd.underlying31 rfl (outRow_info _ _), ?_, ?_⟩
        · unfold sumI
          rw [outRow_32, HNN.out, HPP.out]
        · exact below_putObj (below_setRow hW (Nat.le_refl _) _) (by omega) _
end Go.Proofs.YtldokkbfahobgaaDoor

/-! ShaH: A digest's digits, in plain Lean. No condition. -/
namespace Go.Proofs.YtldokkbfahobgaaDoor
open Go.RowKit

def digT : List UInt8 := [48, 49, 50, 51, 52, 53, 54, 55, 56, 57, 97, 98, 99, 100, 101, 102]
def dgt (n : Nat) : UInt8 := digT[n]?.getD 0
def hexP (l : List UInt8) : List UInt8 := l.flatMap fun c => [dgt (c.toNat / 16), dgt (c.toNat % 16)]
def hash32 (l : List UInt8) : Value := .agg (bytesV l).toArray

theorem byte_and15 (c : UInt8) : bits .and .u8 (c.toNat : Int) 15 = ((c.toNat % 16 : Nat) : Int) := by
  have : ∀ c : Fin 256, bits .and .u8 (c.val : Int) 15 = ((c.val % 16 : Nat) : Int) := by decide +kernel
  exact this ⟨c.toNat, c.toNat_lt⟩

theorem hash_info (l : List UInt8) (hl : l.length = 32) : (Tryd.prog.info? 31).map (·.size) = some (bytesV l).toArray.size := by
  rw [List.size_toArray, bytesV_len, hl]
  kernel_rfl
end Go.Proofs.YtldokkbfahobgaaDoor

/-! ShaN: Plain arithmetic: what sha.Sum's walk computes, in natural numbers; the digests of the document's examples. No condition. -/
namespace Go.Proofs.YtldokkbfahobgaaDoor
open Go.RowKit

theorem ofInt_nat (n x : Nat) : BitVec.ofInt n (x : Int) = BitVec.ofNat n x := by
  apply BitVec.eq_of_toNat_eq
  simp
theorem wrap_u32_nat (x : Nat) : IntKind.u32.wrap (x : Int) = ((x % 4294967296 : Nat) : Int) := by
  simp [IntKind.wrap, IntKind.bits, IntKind.signed]
theorem bits_or (x y : Nat) (hx : x < 4294967296) (hy : y < 4294967296) : bits .or .u32 (x : Int) (y : Int) = ((x ||| y : Nat) : Int) := by
  have h := Nat.or_lt_two_pow (n := 32) hx hy
  simp only [bits, ofInt_nat]
  rw [wrap_u32_nat]
  congr 1
  show (BitVec.ofNat 32 x ||| BitVec.ofNat 32 y).toNat % 4294967296 = _
  rw [BitVec.toNat_or, BitVec.toNat_ofNat, BitVec.toNat_ofNat]
  rw [Nat.mod_eq_of_lt hx, Nat.mod_eq_of_lt hy, Nat.mod_eq_of_lt h]
theorem bits_and (x y : Nat) (hx : x < 4294967296) (hy : y < 4294967296) : bits .and .u32 (x : Int) (y : Int) = ((x &&& y : Nat) : Int) := by
  have h := Nat.and_lt_two_pow (n := 32) x hy
  simp only [bits, ofInt_nat]
  rw [wrap_u32_nat]
  congr 1
  show (BitVec.ofNat 32 x &&& BitVec.ofNat 32 y).toNat % 4294967296 = _
  rw [BitVec.toNat_and, BitVec.toNat_ofNat, BitVec.toNat_ofNat]
  rw [Nat.mod_eq_of_lt hx, Nat.mod_eq_of_lt hy, Nat.mod_eq_of_lt h]
theorem bits_xor (x y : Nat) (hx : x < 4294967296) (hy : y < 4294967296) : bits .xor .u32 (x : Int) (y : Int) = ((x ^^^ y : Nat) : Int) := by
  have h := Nat.xor_lt_two_pow (n := 32) hx hy
  simp only [bits, ofInt_nat]
  rw [wrap_u32_nat]
  congr 1
  show (BitVec.ofNat 32 x ^^^ BitVec.ofNat 32 y).toNat % 4294967296 = _
  rw [BitVec.toNat_xor, BitVec.toNat_ofNat, BitVec.toNat_ofNat]
  rw [Nat.mod_eq_of_lt hx, Nat.mod_eq_of_lt hy, Nat.mod_eq_of_lt h]

theorem wrap_u64_nat (x : Nat) : IntKind.u64.wrap (x : Int) = ((x % 18446744073709551616 : Nat) : Int) := by
  simp [IntKind.wrap, IntKind.bits, IntKind.signed]
theorem bits64_or (x y : Nat) (hx : x < 18446744073709551616) (hy : y < 18446744073709551616) : bits .or .u64 (x : Int) (y : Int) = ((x ||| y : Nat) : Int) := by
  have h := Nat.or_lt_two_pow (n := 64) hx hy
  simp only [bits, ofInt_nat]
  rw [wrap_u64_nat]
  congr 1
  show (BitVec.ofNat 64 x ||| BitVec.ofNat 64 y).toNat % 18446744073709551616 = _
  rw [BitVec.toNat_or, BitVec.toNat_ofNat, BitVec.toNat_ofNat]
  rw [Nat.mod_eq_of_lt hx, Nat.mod_eq_of_lt hy, Nat.mod_eq_of_lt h]
theorem bits64_and (x y : Nat) (hx : x < 18446744073709551616) (hy : y < 18446744073709551616) : bits .and .u64 (x : Int) (y : Int) = ((x &&& y : Nat) : Int) := by
  have h := Nat.and_lt_two_pow (n := 64) x hy
  simp only [bits, ofInt_nat]
  rw [wrap_u64_nat]
  congr 1
  show (BitVec.ofNat 64 x &&& BitVec.ofNat 64 y).toNat % 18446744073709551616 = _
  rw [BitVec.toNat_and, BitVec.toNat_ofNat, BitVec.toNat_ofNat]
  rw [Nat.mod_eq_of_lt hx, Nat.mod_eq_of_lt hy, Nat.mod_eq_of_lt h]
theorem bits64_xor (x y : Nat) (hx : x < 18446744073709551616) (hy : y < 18446744073709551616) : bits .xor .u64 (x : Int) (y : Int) = ((x ^^^ y : Nat) : Int) := by
  have h := Nat.xor_lt_two_pow (n := 64) hx hy
  simp only [bits, ofInt_nat]
  rw [wrap_u64_nat]
  congr 1
  show (BitVec.ofNat 64 x ^^^ BitVec.ofNat 64 y).toNat % 18446744073709551616 = _
  rw [BitVec.toNat_xor, BitVec.toNat_ofNat, BitVec.toNat_ofNat]
  rw [Nat.mod_eq_of_lt hx, Nat.mod_eq_of_lt hy, Nat.mod_eq_of_lt h]

def rrN (x a : Nat) : Nat := (x * 2 ^ (32 - a) % 4294967296) ||| (x / 2 ^ a)
theorem rrN_lt (x a : Nat) (hx : x < 4294967296) : rrN x a < 4294967296 :=
  Nat.or_lt_two_pow (n := 32) (Nat.mod_lt _ (by decide)) (Nat.lt_of_le_of_lt (Nat.div_le_self _ _) hx)
theorem rr_nat (x a : Nat) (hx : x < 4294967296) : rr (x : Int) a = (rrN x a : Int) := by
  unfold rr rrN
  have e1 : (x : Int) * 2 ^ (32 - a) % 4294967296 = ((x * 2 ^ (32 - a) % 4294967296 : Nat) : Int) := by simp
  have e2 : (x : Int) / 2 ^ a = ((x / 2 ^ a : Nat) : Int) := by simp
  rw [e1, e2, bits_or _ _ (Nat.mod_lt _ (by decide)) (Nat.lt_of_le_of_lt (Nat.div_le_self _ _) hx)]
def turnedN (x a b c : Nat) : Nat := rrN x a ^^^ rrN x b ^^^ rrN x c
def movedN (x a b c : Nat) : Nat := rrN x a ^^^ rrN x b ^^^ (x / 2 ^ c)
theorem turnedN_lt (x a b c : Nat) (hx : x < 4294967296) : turnedN x a b c < 4294967296 :=
  Nat.xor_lt_two_pow (n := 32) (Nat.xor_lt_two_pow (n := 32) (rrN_lt x a hx) (rrN_lt x b hx)) (rrN_lt x c hx)
theorem turned_nat (x a b c : Nat) (hx : x < 4294967296) : turnedI (x : Int) a b c = (turnedN x a b c : Int) := by
  unfold turnedI turnedN
  rw [rr_nat _ _ hx, rr_nat _ _ hx, rr_nat _ _ hx, bits_xor _ _ (rrN_lt x a hx) (rrN_lt x b hx), bits_xor _ _ (Nat.xor_lt_two_pow (n := 32) (rrN_lt x a hx) (rrN_lt x b hx)) (rrN_lt x c hx)]
theorem moved_nat (x a b c : Nat) (hx : x < 4294967296) : movedI (x : Int) a b c = (movedN x a b c : Int) := by
  unfold movedI movedN
  have e2 : (x : Int) / 2 ^ c = ((x / 2 ^ c : Nat) : Int) := by simp
  rw [rr_nat _ _ hx, rr_nat _ _ hx, e2, bits_xor _ _ (rrN_lt x a hx) (rrN_lt x b hx), bits_xor _ _ (Nat.xor_lt_two_pow (n := 32) (rrN_lt x a hx) (rrN_lt x b hx)) (Nat.lt_of_le_of_lt (Nat.div_le_self _ _) hx)]

theorem not_sub (e : Nat) (h : e < 4294967296) : 4294967295 ^^^ e = 4294967295 - e := by
  have := BitVec.toNat_not (x := BitVec.ofNat 32 e)
  have h2 : (~~~ BitVec.ofNat 32 e) = BitVec.allOnes 32 ^^^ BitVec.ofNat 32 e := by
    rw [BitVec.allOnes_xor]
  rw [h2, BitVec.toNat_xor, BitVec.toNat_allOnes, BitVec.toNat_ofNat, Nat.mod_eq_of_lt h] at this
  exact this
theorem right_nat (x a : Nat) (hx : x < 4294967296) (ha : a ≤ 31) :
    (bits .or .u64 ((x : Int) / 2 ^ a) (IntKind.u64.wrap ((x : Int) * 2 ^ (32 - a)))).tmod 4294967296 = (rrN x a : Int) := by
  have hp : 2 ^ (32 - a) ≤ 2 ^ 32 := Nat.pow_le_pow_right (by decide) (by omega)
  have hm : x * 2 ^ (32 - a) < 18446744073709551616 := by
    have := Nat.mul_le_mul (Nat.le_of_lt_succ (Nat.lt_of_lt_of_le hx (by decide : 4294967296 ≤ 4294967295 + 1))) hp
    omega
  have e1 : (x : Int) * 2 ^ (32 - a) = ((x * 2 ^ (32 - a) : Nat) : Int) := by simp
  have e2 : (x : Int) / 2 ^ a = ((x / 2 ^ a : Nat) : Int) := by simp
  have hd : x / 2 ^ a < 4294967296 := Nat.lt_of_le_of_lt (Nat.div_le_self _ _) hx
  rw [e1, e2, wrap_u64_nat, Nat.mod_eq_of_lt hm, bits64_or _ _ (by omega) hm]
  rw [Int.tmod_eq_emod_of_nonneg (by omega)]
  have : ((x / 2 ^ a ||| x * 2 ^ (32 - a)) % 2 ^ 32 : Nat) = rrN x a := by
    rw [Nat.or_mod_two_pow, Nat.mod_eq_of_lt (show x / 2 ^ a < 2 ^ 32 from hd), Nat.or_comm]
    rfl
  rw [← this]
  simp

def byteN (l : List UInt8) (i : Nat) : Nat := (l[i]?.getD 0).toNat
theorem byteN_lt (l : List UInt8) (i : Nat) : byteN l i < 256 := by unfold byteN; have := (l[i]?.getD 0).toNat_lt; omega
def wordN (l : List UInt8) (t : Nat) : Nat := byteN l (4 * t) * 16777216 ||| byteN l (4 * t + 1) * 65536 ||| byteN l (4 * t + 2) * 256 ||| byteN l (4 * t + 3)
theorem wordN_lt (l : List UInt8) (t : Nat) : wordN l t < 4294967296 := by
  have h0 := byteN_lt l (4 * t)
  have h1 := byteN_lt l (4 * t + 1)
  have h2 := byteN_lt l (4 * t + 2)
  have h3 := byteN_lt l (4 * t + 3)
  exact Nat.or_lt_two_pow (n := 32) (Nat.or_lt_two_pow (n := 32) (Nat.or_lt_two_pow (n := 32) (by omega) (by omega)) (by omega)) (by omega)
theorem word_nat (l : List UInt8) (t : Nat) : wordI l t = (wordN l t : Int) := by
  have h0 := byteN_lt l (4 * t)
  have h1 := byteN_lt l (4 * t + 1)
  have h2 := byteN_lt l (4 * t + 2)
  have h3 := byteN_lt l (4 * t + 3)
  unfold wordI wordN
  have e : ∀ i, byteI l i = (byteN l i : Int) := fun _ => rfl
  rw [e, e, e, e]
  rw [show (byteN l (4 * t) : Int) * 16777216 = ((byteN l (4 * t) * 16777216 : Nat) : Int) by omega, show (byteN l (4 * t + 1) : Int) * 65536 = ((byteN l (4 * t + 1) * 65536 : Nat) : Int) by omega, show (byteN l (4 * t + 2) : Int) * 256 = ((byteN l (4 * t + 2) * 256 : Nat) : Int) by omega]
  have g1 := Nat.or_lt_two_pow (n := 32) (x := byteN l (4 * t) * 16777216) (y := byteN l (4 * t + 1) * 65536) (by omega) (by omega)
  have g2 := Nat.or_lt_two_pow (n := 32) (y := byteN l (4 * t + 2) * 256) g1 (by omega)
  rw [bits_or _ _ (by omega) (by omega), bits_or _ _ g1 (by omega), bits_or _ _ g2 (by omega)]
theorem or_sum (a b k : Nat) (h : b < 2 ^ k) : a * 2 ^ k ||| b = a * 2 ^ k + b := by
  have := Nat.shiftLeft_add_eq_or_of_lt h a
  rw [Nat.shiftLeft_eq] at this
  exact this.symm
theorem wordN_sum (l : List UInt8) (t : Nat) : wordN l t = ((byteN l (4 * t) * 256 + byteN l (4 * t + 1)) * 256 + byteN l (4 * t + 2)) * 256 + byteN l (4 * t + 3) := by
  have h0 := byteN_lt l (4 * t)
  have h1 := byteN_lt l (4 * t + 1)
  have h2 := byteN_lt l (4 * t + 2)
  have h3 := byteN_lt l (4 * t + 3)
  unfold wordN
  generalize byteN l (4 * t) = a at *
  generalize byteN l (4 * t + 1) = b at *
  generalize byteN l (4 * t + 2) = c at *
  generalize byteN l (4 * t + 3) = d at *
  have e1 := or_sum a (b * 65536) 24 (by omega)
  rw [show a * 2 ^ 24 = a * 16777216 by omega] at e1
  have e2 := or_sum (a * 256 + b) (c * 256) 16 (by omega)
  rw [show (a * 256 + b) * 2 ^ 16 = a * 16777216 + b * 65536 by omega] at e2
  have e3 := or_sum (a * 65536 + b * 256 + c) d 8 (by omega)
  rw [show (a * 65536 + b * 256 + c) * 2 ^ 8 = a * 16777216 + b * 65536 + c * 256 by omega] at e3
  rw [e1, e2, e3]
  omega
/-- The first k numbers of the rounds, the newest first. -/
def wlN (l : List UInt8) : Nat → List Nat
  | 0 => []
  | k + 1 => (if k < 16 then wordN l k else (movedN ((wlN l k)[1]?.getD 0) 17 19 10 + (wlN l k)[6]?.getD 0 + movedN ((wlN l k)[14]?.getD 0) 7 18 3 + (wlN l k)[15]?.getD 0) % 4294967296) :: wlN l k
def wN (l : List UInt8) (t : Nat) : Nat := (wlN l (t + 1)).headD 0
theorem wlN_len (l : List UInt8) (k : Nat) : (wlN l k).length = k := by
  induction k with
  | zero => rfl
  | succ k ih => rw [wlN, List.length_cons, ih]
theorem wlN_at (l : List UInt8) (k j : Nat) (h : j < k) : (wlN l k)[j]?.getD 0 = wN l (k - 1 - j) := by
  induction k generalizing j with
  | zero => omega
  | succ k ih =>
    cases j with
    | zero => rw [wN, show k + 1 - 1 - 0 + 1 = k + 1 by omega, wlN, List.headD_cons, List.getElem?_cons_zero, Option.getD_some]
    | succ j =>
      rw [wlN, List.getElem?_cons_succ, ih j (by omega), show k + 1 - 1 - (j + 1) = k - 1 - j by omega]
theorem wN_lo (l : List UInt8) (t : Nat) (h : t < 16) : wN l t = wordN l t := by
  rw [wN, wlN, if_pos h, List.headD_cons]
theorem wN_hi (l : List UInt8) (t : Nat) (h : ¬ t < 16) : wN l t = (movedN (wN l (t - 2)) 17 19 10 + wN l (t - 7) + movedN (wN l (t - 15)) 7 18 3 + wN l (t - 16)) % 4294967296 := by
  rw [wN, wlN, if_neg h, List.headD_cons, wlN_at _ _ _ (by omega), wlN_at _ _ _ (by omega), wlN_at _ _ _ (by omega), wlN_at _ _ _ (by omega)]
  rw [show t - 1 - 1 = t - 2 by omega, show t - 1 - 6 = t - 7 by omega, show t - 1 - 14 = t - 15 by omega, show t - 1 - 15 = t - 16 by omega]
theorem wN_lt (l : List UInt8) (t : Nat) : wN l t < 4294967296 := by
  by_cases h : t < 16
  · rw [wN_lo l t h]; exact wordN_lt l t
  · rw [wN_hi l t h]; exact Nat.mod_lt _ (by decide)
theorem w_nat (l : List UInt8) (t : Nat) : wI l t = (wN l t : Int) := by
  induction t using Nat.strongRecOn with
  | _ t ih =>
    by_cases h : t < 16
    · rw [wI_lo l t h, wN_lo l t h, word_nat]
    · rw [wI_hi l t h, wN_hi l t h, ih (t - 2) (by omega), ih (t - 7) (by omega), ih (t - 15) (by omega), ih (t - 16) (by omega), moved_nat _ _ _ _ (wN_lt _ _), moved_nat _ _ _ _ (wN_lt _ _)]
      simp

structure N8 where
  a : Nat
  b : Nat
  c : Nat
  d : Nat
  e : Nat
  f : Nat
  g : Nat
  h : Nat
def N8.cast (s : N8) : S8 := ⟨s.a, s.b, s.c, s.d, s.e, s.f, s.g, s.h⟩
structure N8.Ok (s : N8) : Prop where
  a : s.a < 4294967296
  b : s.b < 4294967296
  c : s.c < 4294967296
  d : s.d < 4294967296
  e : s.e < 4294967296
  f : s.f < 4294967296
  g : s.g < 4294967296
  h : s.h < 4294967296
def oneN (s : N8) (k w : Nat) : Nat := s.h + turnedN s.e 6 11 25 + ((s.e &&& s.f) ^^^ ((4294967295 ^^^ s.e) &&& s.g)) + k + w
def twoN (s : N8) : Nat := turnedN s.a 2 13 22 + ((s.a &&& s.b) ^^^ (s.a &&& s.c) ^^^ (s.b &&& s.c))
def stepN (s : N8) (k w : Nat) : N8 := ⟨(oneN s k w + twoN s) % 4294967296, s.a, s.b, s.c, (s.d + oneN s k w) % 4294967296, s.e, s.f, s.g⟩
theorem mod_lt32 (x : Nat) : x % 4294967296 < 4294967296 := Nat.mod_lt _ (by decide)
theorem stepN_ok (s : N8) (k w : Nat) (h : s.Ok) : (stepN s k w).Ok := ⟨mod_lt32 _, h.a, h.b, h.c, mod_lt32 _, h.e, h.f, h.g⟩
theorem one_nat (s : N8) (k w : Nat) (h : s.Ok) : oneI s.cast (k : Int) (w : Int) = (oneN s k w : Int) := by
  unfold oneI oneN N8.cast
  have hm : IntKind.u32.max = ((4294967295 : Nat) : Int) := by decide
  have hx : 4294967295 ^^^ s.e < 4294967296 := Nat.xor_lt_two_pow (n := 32) (by decide) h.e
  rw [hm, turned_nat _ _ _ _ h.e, bits_xor _ _ (by decide) h.e, bits_and _ _ h.e h.f, bits_and _ _ hx h.g, bits_xor _ _ (Nat.and_lt_two_pow (n := 32) _ h.f) (Nat.and_lt_two_pow (n := 32) _ h.g)]
  simp
theorem two_nat (s : N8) (h : s.Ok) : twoI s.cast = (twoN s : Int) := by
  unfold twoI twoN N8.cast
  rw [turned_nat _ _ _ _ h.a, bits_and _ _ h.a h.b, bits_and _ _ h.a h.c, bits_and _ _ h.b h.c, bits_xor _ _ (Nat.and_lt_two_pow (n := 32) _ h.b) (Nat.and_lt_two_pow (n := 32) _ h.c), bits_xor _ _ (Nat.xor_lt_two_pow (n := 32) (Nat.and_lt_two_pow (n := 32) _ h.b) (Nat.and_lt_two_pow (n := 32) _ h.c)) (Nat.and_lt_two_pow (n := 32) _ h.c)]
  simp
theorem step_nat (s : N8) (k w : Nat) (h : s.Ok) : stepI s.cast (k : Int) (w : Int) = (stepN s k w).cast := by
  unfold stepI
  rw [one_nat s k w h, two_nat s h]
  simp [stepN, N8.cast]
def KN (t : Nat) : Nat := Ktab[t]?.getD 0
def roundsN (l : List UInt8) (s : N8) : Nat → N8
  | 0 => s
  | t + 1 => stepN (roundsN l s t) (KN t) (wN l t)
theorem roundsN_ok (l : List UInt8) (s : N8) (h : s.Ok) (t : Nat) : (roundsN l s t).Ok := by
  induction t with
  | zero => exact h
  | succ t ih => exact stepN_ok _ _ _ ih
theorem rounds_nat (l : List UInt8) (s : N8) (h : s.Ok) (t : Nat) : roundsI l s.cast t = (roundsN l s t).cast := by
  induction t with
  | zero => rfl
  | succ t ih => rw [roundsI, roundsN, ih, w_nat, show KI t = (KN t : Int) from rfl, step_nat _ _ _ (roundsN_ok l s h t)]
def addN (s t : N8) : N8 := ⟨(s.a + t.a) % 4294967296, (s.b + t.b) % 4294967296, (s.c + t.c) % 4294967296, (s.d + t.d) % 4294967296, (s.e + t.e) % 4294967296, (s.f + t.f) % 4294967296, (s.g + t.g) % 4294967296, (s.h + t.h) % 4294967296⟩
theorem add_nat (s t : N8) : addI s.cast t.cast = (addN s t).cast := by simp [addI, addN, N8.cast]
theorem addN_ok (s t : N8) : (addN s t).Ok := ⟨mod_lt32 _, mod_lt32 _, mod_lt32 _, mod_lt32 _, mod_lt32 _, mod_lt32 _, mod_lt32 _, mod_lt32 _⟩
def turnN (s : N8) (l : List UInt8) : N8 := addN s (roundsN l s 64)
theorem turn_nat (s : N8) (l : List UInt8) (h : s.Ok) : turnI s.cast l = (turnN s l).cast := by
  unfold turnI turnN
  rw [rounds_nat l s h, add_nat]
def F0N : N8 := ⟨1779033703, 3144134277, 1013904242, 2773480762, 1359893119, 2600822924, 528734635, 1541459225⟩
theorem F0_nat : F0 = F0N.cast := rfl
theorem F0_ok : F0N.Ok := by constructor <;> decide
def stateN (p : List UInt8) : Nat → N8
  | 0 => F0N
  | i + 1 => turnN (stateN p i) (blk p i)
theorem stateN_ok (p : List UInt8) (i : Nat) : (stateN p i).Ok := by
  cases i with
  | zero => exact F0_ok
  | succ i => exact addN_ok _ _
theorem state_nat (p : List UInt8) (i : Nat) : stateI p i = (stateN p i).cast := by
  induction i with
  | zero => exact F0_nat
  | succ i ih => rw [stateI, stateN, ih, turn_nat _ _ (stateN_ok p i)]
def N8.get (s : N8) (j : Nat) : Nat :=
  match j with
  | 0 => s.a
  | 1 => s.b
  | 2 => s.c
  | 3 => s.d
  | 4 => s.e
  | 5 => s.f
  | 6 => s.g
  | _ => s.h
theorem get_nat (s : N8) (j : Nat) : s.cast.get j = (s.get j : Int) := by
  match j with
  | 0 => rfl
  | 1 => rfl
  | 2 => rfl
  | 3 => rfl
  | 4 => rfl
  | 5 => rfl
  | 6 => rfl
  | j + 7 => rfl
def digBN (s : N8) (i : Nat) : UInt8 := UInt8.ofNat (s.get (i / 4) / 2 ^ (24 - 8 * (i % 4)))
theorem digB_nat (s : N8) (i : Nat) : digB s.cast i = digBN s i := by
  apply UInt8.toNat_inj.1
  have h := digB_val s.cast i
  rw [get_nat] at h
  unfold digBN
  rw [UInt8.toNat_ofNat']
  have e2 : (s.get (i / 4) : Int) / 2 ^ (24 - 8 * (i % 4)) = ((s.get (i / 4) / 2 ^ (24 - 8 * (i % 4)) : Nat) : Int) := by simp
  rw [e2] at h
  omega
def sumN (t : List UInt8) : List UInt8 := (List.range 32).map (digBN (stateN (padded t) ((padded t).length / 64)))
theorem sumN_len (t : List UInt8) : (sumN t).length = 32 := by simp [sumN]
theorem sum_nat (t : List UInt8) : sumI t = sumN t := by
  unfold sumI sumN digest
  rw [state_nat]
  exact List.map_congr_left fun i _ => digB_nat _ i

theorem hex_abc : hexP (sumN [97, 98, 99]) = [98, 97, 55, 56, 49, 54, 98, 102, 56, 102, 48, 49, 99, 102, 101, 97, 52, 49, 52, 49, 52, 48, 100, 101, 53, 100, 97, 101, 50, 50, 50, 51, 98, 48, 48, 51, 54, 49, 97, 51, 57, 54, 49, 55, 55, 97, 57, 99, 98, 52, 49, 48, 102, 102, 54, 49, 102, 50, 48, 48, 49, 53, 97, 100] := by
  decide +kernel
end Go.Proofs.YtldokkbfahobgaaDoor
