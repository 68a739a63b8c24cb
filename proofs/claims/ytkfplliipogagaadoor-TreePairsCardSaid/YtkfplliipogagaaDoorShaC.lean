/- The walk of sha.Turn: the state behind a block. Conditions: the package's tables read as they are laid; the slice's bytes can be read. -/
import Derived.Test.YtkfplliipogagaaDoorShaB
namespace Go.Proofs.YtkfplliipogagaaDoor
open Go.RowKit

def Ktab : List Nat := [1116352408, 1899447441, 3049323471, 3921009573, 961987163, 1508970993, 2453635748, 2870763221, 3624381080, 310598401, 607225278, 1426881987, 1925078388, 2162078206, 2614888103, 3248222580, 3835390401, 4022224774, 264347078, 604807628, 770255983, 1249150122, 1555081692, 1996064986, 2554220882, 2821834349, 2952996808, 3210313671, 3336571891, 3584528711, 113926993, 338241895, 666307205, 773529912, 1294757372, 1396182291, 1695183700, 1986661051, 2177026350, 2456956037, 2730485921, 2820302411, 3259730800, 3345764771, 3516065817, 3600352804, 4094571909, 275423344, 430227734, 506948616, 659060556, 883997877, 958139571, 1322822218, 1537002063, 1747873779, 1955562222, 2024104815, 2227730452, 2361852424, 2428436474, 2756734187, 3204031479, 3329325298]
def Ftab : List Nat := [1779033703, 3144134277, 1013904242, 2773480762, 1359893119, 2600822924, 528734635, 1541459225]
def KI (t : Nat) : Int := ((Ktab[t]?.getD 0 : Nat) : Int)
def kvals : List Value := Ktab.map fun (n : Nat) => .int .u32 (n : Int)
def fvals : List Value := Ftab.map fun (n : Nat) => .int .u32 (n : Int)
def dvals : List Value := [48, 49, 50, 51, 52, 53, 54, 55, 56, 57, 97, 98, 99, 100, 101, 102].map fun (n : Nat) => .int .u8 (n : Int)

/-- The package-level tables read as they are laid. -/
structure Glob (w : World) : Prop where
  k : w.rangeAt 2 0 kvals
  f : w.rangeAt 0 0 fvals
  d : w.rangeAt 1 0 dvals

theorem Glob.kat {w : World} (h : Glob w) (t : Nat) (ht : t < 64) : w.cell? ⟨2, t, none⟩ = some (.int .u32 (KI t)) := by
  have := h.k t (.int .u32 (KI t)) (by
    unfold kvals KI
    rw [List.getElem?_map]
    have : t < Ktab.length := ht
    simp [this])
  simpa using this
theorem Glob.kblk {w : World} (h : Glob w) : 2 < w.heap.size := World.block_lt_of_cell? _ _ (h.kat 0 (by omega))

theorem Glob.below {w w' : World} (h : Glob w) (hb : Below w.heap.size w w') : Glob w' := by
  have go : ∀ g cs, w.rangeAt g 0 cs → w'.rangeAt g 0 cs := fun g cs hr j u hj => (hb.cell (World.block_lt_of_cell? _ _ (hr j u hj))).trans (hr j u hj)
  exact ⟨go _ _ h.k, go _ _ h.f, go _ _ h.d⟩

structure S8 where
  a : Int
  b : Int
  c : Int
  d : Int
  e : Int
  f : Int
  g : Int
  h : Int
def S8.vals (s : S8) : List Value := [.int .u32 s.a, .int .u32 s.b, .int .u32 s.c, .int .u32 s.d, .int .u32 s.e, .int .u32 s.f, .int .u32 s.g, .int .u32 s.h]
def zvals : List Value := S8.vals ⟨0, 0, 0, 0, 0, 0, 0, 0⟩
theorem vals_len (s : S8) : s.vals.length = 8 := rfl
theorem vals_info (s : S8) : (Tryd.prog.info? 62).map (·.size) = some s.vals.toArray.size := by
  show _ = some 8
  kernel_rfl
theorem vals_one (s : S8) : s.vals.toArray.all (·.oneCell') = true := by simp [S8.vals, Value.oneCell']
def oneI (s : S8) (k w : Int) : Int := s.h + turnedI s.e 6 11 25 + bits .xor .u32 (bits .and .u32 s.e s.f) (bits .and .u32 (bits .xor .u32 IntKind.u32.max s.e) s.g) + k + w
def twoI (s : S8) : Int := turnedI s.a 2 13 22 + bits .xor .u32 (bits .xor .u32 (bits .and .u32 s.a s.b) (bits .and .u32 s.a s.c)) (bits .and .u32 s.b s.c)
def stepI (s : S8) (k w : Int) : S8 := ⟨(oneI s k w + twoI s) % 4294967296, s.a, s.b, s.c, (s.d + oneI s k w) % 4294967296, s.e, s.f, s.g⟩
def roundsI (l : List UInt8) (s : S8) : Nat → S8
  | 0 => s
  | t + 1 => stepI (roundsI l s t) (KI t) (wI l t)
def addI (s t : S8) : S8 := ⟨(s.a + t.a) % 4294967296, (s.b + t.b) % 4294967296, (s.c + t.c) % 4294967296, (s.d + t.d) % 4294967296, (s.e + t.e) % 4294967296, (s.f + t.f) % 4294967296, (s.g + t.g) % 4294967296, (s.h + t.h) % 4294967296⟩
def turnI (s : S8) (l : List UInt8) : S8 := addI s (roundsI l s 64)

def S8.get (s : S8) (j : Nat) : Int :=
  match j with
  | 0 => s.a
  | 1 => s.b
  | 2 => s.c
  | 3 => s.d
  | 4 => s.e
  | 5 => s.f
  | 6 => s.g
  | _ => s.h
theorem vals_at (s : S8) (j : Nat) (h : j < 8) : s.vals[j]? = some (.int .u32 (s.get j)) := by
  match j, h with
  | 0, _ => rfl
  | 1, _ => rfl
  | 2, _ => rfl
  | 3, _ => rfl
  | 4, _ => rfl
  | 5, _ => rfl
  | 6, _ => rfl
  | 7, _ => rfl
def addGet (s r : S8) (i j : Nat) : Int := if j < i then (s.get j + r.get j) % 4294967296 else s.get j
def addS (s r : S8) (i : Nat) : S8 := ⟨addGet s r i 0, addGet s r i 1, addGet s r i 2, addGet s r i 3, addGet s r i 4, addGet s r i 5, addGet s r i 6, addGet s r i 7⟩
theorem addS_get (s r : S8) (i j : Nat) (h : j < 8) : (addS s r i).get j = addGet s r i j := by
  match j, h with
  | 0, _ => rfl
  | 1, _ => rfl
  | 2, _ => rfl
  | 3, _ => rfl
  | 4, _ => rfl
  | 5, _ => rfl
  | 6, _ => rfl
  | 7, _ => rfl
theorem addS_set (s r : S8) (i : Nat) (hi : i < 8) : (addS s r i).vals.set i (.int .u32 ((s.get i + r.get i) % 4294967296)) = (addS s r (i + 1)).vals := by
  apply List.ext_getElem?
  intro j
  by_cases hj : j < 8
  · rw [List.getElem?_set, vals_len, vals_at _ _ hj, vals_at _ _ hj, addS_get _ _ _ _ hj, addS_get _ _ _ _ hj]
    unfold addGet
    by_cases hk : i = j
    · subst hk; rw [if_pos rfl, if_pos hi, if_pos (by omega)]
    · rw [if_neg hk]
      by_cases h2 : j < i
      · rw [if_pos h2, if_pos (by omega)]
      · rw [if_neg h2, if_neg (by omega)]
  · rw [List.getElem?_eq_none (by simp [vals_len]; omega), List.getElem?_eq_none (by simp [vals_len]; omega)]
theorem addS_0 (s r : S8) : addS s r 0 = s := rfl
theorem addS_8 (s r : S8) : addS s r 8 = addI s r := rfl
def addRel (s r : S8) (w : World) (i : Value) (wr : World) : Prop :=
  ∃ k : Nat, k ≤ 8 ∧ i = .int .i64 k ∧ Blk wr (w.heap.size + 1 + 1) r.vals 62 ∧ Blk wr w.heap.size (addS s r k).vals 62 ∧ Blk wr (w.heap.size + 1) zvals 62 ∧ Below w.heap.size w wr
def turnRel (l : List UInt8) (s : S8) (w : World) (i : Value) (wr : World) : Prop :=
  ∃ k : Nat, k ≤ 64 ∧ i = .int .i64 k ∧ Blk wr (w.heap.size + 1 + 1) (roundsI l s k).vals 62 ∧ Blk wr w.heap.size s.vals 62 ∧ Blk wr (w.heap.size + 1) zvals 62 ∧ Below w.heap.size w wr

set_option maxRecDepth 100000 in
set_option maxHeartbeats 400000 in
theorem turn_any (b off cap : Nat) (l : List UInt8) (s : S8) (w : World) (hl : ∀ i, i < 64 → w.cell? ⟨b, off + i, none⟩ = some (.int .u8 (byteI l i))) (hg : Glob w) :
    Calls Tryd.prog 55 #[.agg s.vals.toArray, .slice (some ⟨b, off, none⟩) 64 cap] w fun e w' => e = .returned (.agg (turnI s l).vals.toArray) ∧ Below w.heap.size w w' := by
  have hbs : b < w.heap.size := World.block_lt_of_cell? _ _ (hl 0 (by omega))
  have HL := Lib.hid hl
  have HG := Lib.hid hg
  clear hl hg
  go_enter Tryd.func55, Tryd.ntmps55
  go_wp2_with (first
    | (go_at_call 69; refine (sched_any b off cap l _ ?hl).mono ?_; rotate_left; rintro e w1 ⟨rfl, hb1⟩)
    | (refine wpList_load_row rfl 62 (.tmp 2) rfl w.heap.size rfl 62 s.vals.toArray (0, 0) _ (by exact heap_alloc2_old _ _ _) Tryd.underlying62 rfl (vals_info s) ?_)
    | (refine wpList_store_row rfl 62 (.tmp 5) (.tmp 15) rfl (w.heap.size + 1 + 1) s.vals.toArray rfl rfl 62 zvals.toArray (by exact heap_alloc3_new _ _ _ _) (vals_info s) rfl (vals_one s) ?_))
  case hl =>
    intro i hi
    refine (Below.cell (B := w.heap.size) ?_ hbs).trans (HL.out i hi)
    (repeat (first | with_reducible assumption | with_reducible exact Below.refl _ _ | ((with_reducible refine Below.setCell ?_ ?_ _); rotate_left; focus (first | omega | (simp; done) | (simp; omega))) | ((with_reducible refine Below.alloc ?_ ?_ _); rotate_left; focus (first | omega | (simp; done) | (simp; omega))) | ((with_reducible refine below_setRow ?_ ?_ _); rotate_left; focus (first | omega | (simp; done) | (simp; omega))) | (with_reducible refine below_drewN ?_ _) | (with_reducible refine Below.drew ?_)))
  have hS : Blk w1 (w.heap.size + 1 + 1) s.vals 62 := Blk.below (Blk.setRow (l := zvals) (Blk.newL2 _ _ _ _ _) s.vals) hb1 (by simp)
  have hH : Blk w1 w.heap.size s.vals 62 := Blk.below (Blk.setRow_other (((Blk.newL w s.vals _).alloc _).alloc _) (by omega) _) hb1 (by simp; omega)
  have hZ : Blk w1 (w.heap.size + 1) zvals 62 := Blk.below (Blk.setRow_other ((Blk.newL1 w _ zvals _).alloc _) (by omega) _) hb1 (by simp)
  have hbW : Below w.heap.size w w1 := by
    refine Below.trans (b := _) ?_ (hb1.mono (by simp; omega))
    (repeat (first | with_reducible assumption | with_reducible exact Below.refl _ _ | ((with_reducible refine Below.setCell ?_ ?_ _); rotate_left; focus (first | omega | (simp; done) | (simp; omega))) | ((with_reducible refine Below.alloc ?_ ?_ _); rotate_left; focus (first | omega | (simp; done) | (simp; omega))) | ((with_reducible refine below_setRow ?_ ?_ _); rotate_left; focus (first | omega | (simp; done) | (simp; omega))) | (with_reducible refine below_drewN ?_ _) | (with_reducible refine Below.drew ?_)))
  clear hb1
  go_loopw [18] (fun i wr => turnRel l s w i wr) (fun i _ => 64 - (intOf i).toNat)
  case atStart => exact ⟨0, by omega, rfl, hS, hH, hZ, hbW⟩
  case round =>
    clear hS hH hZ hbW
    obtain ⟨k, hk, rfl, hS, hH, hZ, hb⟩ := hrel
    have HS := Lib.hid hS
    have HH := Lib.hid hH
    have HZ := Lib.hid hZ
    clear hS hH hZ
    obtain ⟨r, hr⟩ : ∃ r, roundsI l s k = r := ⟨_, rfl⟩
    have HR := Lib.hid hr
    by_cases h64 : k < 64
    · rw [hr] at HS
      clear hr
      have hix : ∀ w', (Instr.index 87 (.agg (wrow l 64).toArray) (.int .i64 (k : Int))).run Tryd.prog w' = .ok (.int .u32 (wI l k)) w' := fun w' =>
        run_index_arr _ _ 64 _ Tryd.underlying87 Tryd.underlying61 rfl (by kernel_rfl) _ k h64 _ (by rw [List.getElem?_toArray, wrow_at _ _ _ h64, if_pos h64]) w'
      have hK : wr.cell? ⟨2, k, none⟩ = some (.int .u32 (KI k)) := (hb.cell (p := ⟨_, _, none⟩) HG.out.kblk).trans (HG.out.kat k h64)
      have c0 : wr.cell? ⟨w.heap.size + 1 + 1, 0, none⟩ = some (.int .u32 r.a) := HS.out.cell rfl
      have c1 : wr.cell? ⟨w.heap.size + 1 + 1, 1, none⟩ = some (.int .u32 r.b) := HS.out.cell rfl
      have c2 : wr.cell? ⟨w.heap.size + 1 + 1, 2, none⟩ = some (.int .u32 r.c) := HS.out.cell rfl
      have c3 : wr.cell? ⟨w.heap.size + 1 + 1, 3, none⟩ = some (.int .u32 r.d) := HS.out.cell rfl
      have c4 : wr.cell? ⟨w.heap.size + 1 + 1, 4, none⟩ = some (.int .u32 r.e) := HS.out.cell rfl
      have c5 : wr.cell? ⟨w.heap.size + 1 + 1, 5, none⟩ = some (.int .u32 r.f) := HS.out.cell rfl
      have c6 : wr.cell? ⟨w.heap.size + 1 + 1, 6, none⟩ = some (.int .u32 r.g) := HS.out.cell rfl
      have c7 : wr.cell? ⟨w.heap.size + 1 + 1, 7, none⟩ = some (.int .u32 r.h) := HS.out.cell rfl
      go_wp2_with fail
      go_quiet ((go_at_call 70; exact Calls.quiet_of_same (turned_any _ _ _ _ _ (by omega) (by omega) (by omega) (by omega) (by omega) (by omega))))
      go_wp2_with fail
      go_quiet ((go_at_call 70; exact quiet_add_same (turned_any _ _ _ _ _ (by omega) (by omega) (by omega) (by omega) (by omega) (by omega))))
      go_wp2_with fail
      (refine wp_region_quiet_tail 2 (by kernel_rfl) (by kernel_rfl) ?_; simp only [List.take_succ_cons, List.take_zero, List.drop_succ_cons, List.drop_zero]; (repeat (go_big_quiet_step (fail))); refine wpQuiet_nil ?_; intro _ hw'; obtain ⟨nq, hw''⟩ := hw'; subst hw'')
      refine wpList_copy_splice rfl (.tmp 68) (.tmp 69) 94 94 rfl 61 Tryd.underlying94 (by kernel_rfl) (some ⟨w.heap.size + 1 + 1, 1, none⟩) (some ⟨w.heap.size + 1 + 1, 0, none⟩) 7 7 7 8 rfl rfl
        (w.heap.size + 1 + 1) 1 r.vals 62 HS.out (r.vals.take 7) rfl (fun _ => ⟨rfl, _, rfl, ?src⟩) (by simp [S8.vals]) (by simp [S8.vals, Value.oneCell']) (w.heap.size + 1 + 1) _ (Below.refl _ _) (Nat.le_refl _) ?_
      case src =>
        intro j v hj
        rw [Addr.add_mid, Nat.zero_add]
        refine HS.out.cell ?_
        rw [List.getElem?_take] at hj
        split at hj
        · exact hj
        · cases hj
      intro w2 hS2 hb2
      have hS3 : Blk w2 (w.heap.size + 1 + 1) [.int .u32 r.a, .int .u32 r.a, .int .u32 r.b, .int .u32 r.c, .int .u32 r.d, .int .u32 r.e, .int .u32 r.f, .int .u32 r.g] 62 := hS2.out
      have HS3 := Lib.hid hS3
      have hH3 : Blk w2 w.heap.size s.vals 62 := Blk.below (by exact HH.out) hb2 (by omega)
      have hZ3 : Blk w2 (w.heap.size + 1) zvals 62 := Blk.below (by exact HZ.out) hb2 (by omega)
      have HH3 := Lib.hid hH3
      have HZ3 := Lib.hid hZ3
      have hb3 : Below w.heap.size w w2 := Below.trans (by (repeat (first | with_reducible assumption | with_reducible exact Below.refl _ _ | ((with_reducible refine Below.setCell ?_ ?_ _); rotate_left; focus (first | omega | (simp; done) | (simp; omega))) | ((with_reducible refine Below.alloc ?_ ?_ _); rotate_left; focus (first | omega | (simp; done) | (simp; omega))) | ((with_reducible refine below_setRow ?_ ?_ _); rotate_left; focus (first | omega | (simp; done) | (simp; omega))) | (with_reducible refine below_drewN ?_ _) | (with_reducible refine Below.drew ?_)))) (hb2.mono (B' := w.heap.size) (by omega))
      clear c0 c1 c2 c3 c4 c5 c6 c7 hK hix hS2 hb2 hb HS HH HZ hS3 hH3 hZ3
      have c4 : w2.cell? ⟨w.heap.size + 1 + 1, 4, none⟩ = some (.int .u32 r.d) := HS3.out.cell rfl
      have c0 : w2.cell? ⟨w.heap.size + 1 + 1, 0, none⟩ = some (.int .u32 r.a) := HS3.out.cell rfl
      have f4 : w2.frozen? ⟨w.heap.size + 1 + 1, 4, none⟩ = false := HS3.out.frozen 4
      have f0 : w2.frozen? ⟨w.heap.size + 1 + 1, 0, none⟩ = false := HS3.out.frozen 0
      go_wp2
      go_roundw
      case rel =>
        refine ⟨k + 1, by omega, by go_num, ?_, (HH3.out.set_other (by simp <;> omega) _).set_other (by simp <;> omega) _, (HZ3.out.set_other (by simp <;> omega) _).set_other (by simp <;> omega) _, by (repeat (first | with_reducible assumption | with_reducible exact Below.refl _ _ | ((with_reducible refine Below.setCell ?_ ?_ _); rotate_left; focus (first | omega | (simp; done) | (simp; omega))) | ((with_reducible refine Below.alloc ?_ ?_ _); rotate_left; focus (first | omega | (simp; done) | (simp; omega))) | ((with_reducible refine below_setRow ?_ ?_ _); rotate_left; focus (first | omega | (simp; done) | (simp; omega))) | (with_reducible refine below_drewN ?_ _) | (with_reducible refine Below.drew ?_)))⟩
        have := (HS3.out.set 4 (.int .u32 ((r.d + oneI r (KI k) (wI l k)) % 4294967296))).set 0 (.int .u32 ((oneI r (KI k) (wI l k) + twoI r) % 4294967296))
        rw [show roundsI l s (k + 1) = stepI r (KI k) (wI l k) by rw [roundsI, HR.out]]
        exact this
      case measure => simp [intOf]; omega
    · obtain rfl : k = 64 := by omega
      rw [hr] at HS
      clear hr h64
      obtain ⟨wo, hwo⟩ : ∃ wo : World, wo = wr := ⟨_, rfl⟩
      subst hwo
      go_wp2_with fail
      go_loopw [81] (fun i wr => addRel s r w i wr) (fun i _ => 8 - (intOf i).toNat)
      case atStart => exact ⟨0, by omega, rfl, HS.out, HH.out, HZ.out, hb⟩
      case round =>
        clear HS HH HZ hb
        obtain ⟨k, hk, rfl, hS, hH, hZ, hb⟩ := hrel
        have HS := Lib.hid hS
        have HH := Lib.hid hH
        have HZ := Lib.hid hZ
        clear hS hH hZ
        by_cases h8 : k < 8
        · have c0 : wr.cell? ⟨w.heap.size, k, none⟩ = some (.int .u32 (s.get k)) := HH.out.cell (by rw [vals_at _ _ h8, addS_get _ _ _ _ h8]; unfold addGet; rw [if_neg (by omega)])
          have c1 : wr.cell? ⟨w.heap.size + 1 + 1, k, none⟩ = some (.int .u32 (r.get k)) := HS.out.cell (vals_at _ _ h8)
          have f0 : wr.frozen? ⟨w.heap.size, k, none⟩ = false := HH.out.frozen k
          go_wp2_with fail
          (refine wp_region_quiet_tail 8 (by kernel_rfl) (by kernel_rfl) ?_; simp only [List.take_succ_cons, List.take_zero, List.drop_succ_cons, List.drop_zero]; (repeat (go_big_quiet_step (fail))); refine wpQuiet_nil ?_; intro _ hw'; obtain ⟨nq, hw''⟩ := hw'; subst hw'')
          go_wp2
          go_roundw
          case rel =>
            refine ⟨k + 1, by omega, by go_num, (HS.out.drewN nq).set_other (by simp <;> omega) _, ?_, (HZ.out.drewN nq).set_other (by simp <;> omega) _, by (repeat (first | with_reducible assumption | with_reducible exact Below.refl _ _ | ((with_reducible refine Below.setCell ?_ ?_ _); rotate_left; focus (first | omega | (simp; done) | (simp; omega))) | ((with_reducible refine Below.alloc ?_ ?_ _); rotate_left; focus (first | omega | (simp; done) | (simp; omega))) | ((with_reducible refine below_setRow ?_ ?_ _); rotate_left; focus (first | omega | (simp; done) | (simp; omega))) | (with_reducible refine below_drewN ?_ _) | (with_reducible refine Below.drew ?_)))⟩
            rw [← addS_set _ _ _ h8]
            exact (HH.out.drewN nq).set k _
          case measure => simp [intOf]; omega
        · obtain rfl : k = 8 := by omega
          clear h8
          go_wp2_with (first
            | (refine wpList_load_row rfl 62 (.tmp 2) rfl w.heap.size rfl 62 (addS s r 8).vals.toArray (0, 0) _ HH.out Tryd.underlying62 rfl (vals_info _) ?_)
            | (refine wpList_store_row rfl 62 (.tmp 4) (.tmp 93) rfl (w.heap.size + 1) (addS s r 8).vals.toArray rfl rfl 62 zvals.toArray HZ.out (vals_info _) rfl (vals_one _) ?_))
          exact bodyPost_ret (v := .agg (addS s r 8).vals.toArray) (results_cell_row rfl _ _ (w.heap.size + 1) 62 _ (0, 0) _ rfl (HZ.out.setRow _) Tryd.underlying62 rfl (vals_info _)) rfl ⟨by rw [addS_8]; unfold turnI; rw [HR.out], by (repeat (first | with_reducible assumption | with_reducible exact Below.refl _ _ | ((with_reducible refine Below.setCell ?_ ?_ _); rotate_left; focus (first | omega | (simp; done) | (simp; omega))) | ((with_reducible refine Below.alloc ?_ ?_ _); rotate_left; focus (first | omega | (simp; done) | (simp; omega))) | ((with_reducible refine below_setRow ?_ ?_ _); rotate_left; focus (first | omega | (simp; done) | (simp; omega))) | (with_reducible refine below_drewN ?_ _) | (with_reducible refine Below.drew ?_)))⟩
end Go.Proofs.YtkfplliipogagaaDoor
