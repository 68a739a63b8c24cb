/- The walk of sha.Sum. Conditions: the parts can be read, their lengths add up to less than 2^46, and the package's tables read as they are laid. -/
import Derived.Test.YtkfplliipogagaaDoorShaF
import Derived.Test.YtkfplliipogagaaDoorRange
namespace Go.Proofs.YtkfplliipogagaaDoor
open Go.RowKit Go.Shelf
attribute [local go_sem] Oper.semAt_some

def F0 : S8 := ⟨1779033703, 3144134277, 1013904242, 2773480762, 1359893119, 2600822924, 528734635, 1541459225⟩
theorem fvals_eq : fvals = F0.vals := by simp [fvals, Ftab, S8.vals, F0]
/-- The i-th block of a text. -/
def blk (p : List UInt8) (i : Nat) : List UInt8 := (p.drop (64 * i)).take 64
/-- The state behind i blocks. -/
def stateI (p : List UInt8) : Nat → S8
  | 0 => F0
  | i + 1 => turnI (stateI p i) (blk p i)
def padded (t : List UInt8) : List UInt8 := t ++ fillP t.length
def digB (s : S8) (i : Nat) : UInt8 := UInt8.ofNat (s.get (i / 4) / 2 ^ (24 - 8 * (i % 4)) % 256).toNat
def digest (s : S8) : List UInt8 := (List.range 32).map (digB s)
def sumI (t : List UInt8) : List UInt8 := digest (stateI (padded t) ((padded t).length / 64))
theorem digest_len (s : S8) : (digest s).length = 32 := by simp [digest]
theorem sumI_len (t : List UInt8) : (sumI t).length = 32 := digest_len _
theorem blk_byte (p : List UInt8) (i j : Nat) (hj : j < 64) : byteI (blk p i) j = byteI p (64 * i + j) := by
  unfold byteI blk
  rw [List.getElem?_take, if_pos hj, List.getElem?_drop]
theorem padded_len (t : List UInt8) : (padded t).length = t.length + (fillP t.length).length := by simp [padded]
theorem padded_64 (t : List UInt8) : (padded t).length = 64 * ((padded t).length / 64) := by
  rw [padded_len, fillP_len]
  unfold fillZ
  omega

def z32 : List Value := bytesV (List.replicate 32 0)
theorem Glob.fblk {w : World} (h : Glob w) : 0 < w.heap.size := by
  have := h.f 0 (.int .u32 1779033703) rfl
  exact World.block_lt_of_cell? _ _ this
theorem fvals_info : (Tryd.prog.info? 62).map (·.size) = some fvals.length := by
  show _ = some 8
  kernel_rfl
theorem fvals_one : fvals.toArray.all (·.oneCell') = true := by
  rw [fvals_eq]; exact vals_one _
set_option maxHeartbeats 400000 in
theorem blocks_any (v : Value) (w : World) (hv : ∃ a k c, v = .slice a k c) :
    Calls Tryd.prog 53 #[v] w fun e w' => e = .returned (.func (.func 68) #[] #[.pointer (some ⟨w.heap.size, 0, none⟩)]) ∧ w' = w.alloc (.cells #[v] 22) := by
  obtain ⟨a, k, c, rfl⟩ := hv
  go_enter Tryd.func53, Tryd.ntmps53
  go_wp2
  go_ret
  exact ⟨rfl, rfl⟩

theorem range_byte {w : World} {b off : Nat} {p : List UInt8} (h : w.rangeAt b off (bytesV p)) (i : Nat) (hi : i < p.length) : w.cell? ⟨b, off + i, none⟩ = some (.int .u8 (byteI p i)) := by
  have := h i _ (bytesV_at p i p[i] (List.getElem?_eq_getElem hi))
  rw [this]
  unfold byteI
  rw [List.getElem?_eq_getElem hi]
  rfl
theorem digB_val (s : S8) (j : Nat) : ((digB s j).toNat : Int) = s.get (j / 4) / 2 ^ (24 - 8 * (j % 4)) % 256 := by
  unfold digB
  generalize s.get (j / 4) / 2 ^ (24 - 8 * (j % 4)) = x
  rw [UInt8.toNat_ofNat']
  omega
def outRow (s : S8) (k : Nat) : List Value := (List.range 32).map fun j => .int .u8 (if j < k then ((digB s j).toNat : Int) else 0)
theorem outRow_at (s : S8) (k j : Nat) (h : j < 32) : (outRow s k)[j]? = some (.int .u8 (if j < k then ((digB s j).toNat : Int) else 0)) := by
  unfold outRow; simp [h]
theorem outRow_len (s : S8) (k : Nat) : (outRow s k).length = 32 := by unfold outRow; simp
theorem outRow_info (s : S8) (k : Nat) : (Tryd.prog.info? 24).map (·.size) = some (outRow s k).toArray.size := by
  rw [List.size_toArray, outRow_len]
  kernel_rfl
theorem outRow_one (s : S8) (k : Nat) : (outRow s k).toArray.all (·.oneCell') = true := by
  simp [outRow, Value.oneCell']
theorem outRow_set (s : S8) (k : Nat) : (outRow s k).set k (.int .u8 ((digB s k).toNat : Int)) = outRow s (k + 1) := by
  apply List.ext_getElem?
  intro i
  by_cases hi : i < 32
  · rw [List.getElem?_set, outRow_len, outRow_at _ _ _ hi, outRow_at _ _ _ hi]
    by_cases hk : k = i
    · subst hk; rw [if_pos rfl, if_pos hi, if_pos (by omega)]
    · rw [if_neg hk]
      by_cases h2 : i < k
      · rw [if_pos h2, if_pos (by omega)]
      · rw [if_neg h2, if_neg (by omega)]
  · rw [List.getElem?_eq_none (by simp [outRow_len]; omega), List.getElem?_eq_none (by simp [outRow_len]; omega)]
theorem outRow_0 (s : S8) : outRow s 0 = z32 := rfl
theorem outRow_32 (s : S8) : outRow s 32 = bytesV (digest s) := by
  unfold outRow digest bytesV
  rw [List.map_map]
  apply List.map_congr_left
  intro j hj
  rw [if_pos (by simpa using hj)]
  rfl
def sumOut (s : S8) (w W : World) (D Bh : Nat) (i : Value) (wr : World) : Prop :=
  ∃ k : Nat, k ≤ 32 ∧ i = .int .i64 k ∧ Blk wr W.heap.size (outRow s k) 24 ∧ Blk wr Bh s.vals 62 ∧ Blk wr w.heap.size z32 24 ∧ wr.heap[D]? = some (.deferred (some [])) ∧ Below w.heap.size w wr
structure SumJ (p : List UInt8) (w : World) (H Bh l D b off : Nat) (rec : LoopState → Option Code → Loop) (i : Nat) (W : World) : Prop where
  loop : W.heap[l]? = some (.loop (rec .ready none))
  defs : W.heap[D]? = some (.deferred (some []))
  st : Blk W Bh (stateI p i).vals 62
  text : W.rangeAt b off (bytesV p)
  out : Blk W H z32 24
  old : Below w.heap.size w W

set_option maxRecDepth 100000 in
set_option maxHeartbeats 1000000 in
theorem sum_any (v : Value) (ls : List (List UInt8)) (vs : List Value) (w : World) (hp : Parts w v ls vs) (hsz : (cat ls).length ≤ 70368744177664) (hln : ls.length ≤ 140737488355328) (hg : Glob w) :
    Calls Tryd.prog 27 #[v] w fun e w' => e = .returned (.agg (bytesV (sumI (cat ls))).toArray) ∧ Below w.heap.size w w' := by
  obtain ⟨i0, hi, hz0, hz1, hz2⟩ := info_parts info_u8
  have HP := Lib.hid hp
  have HG := Lib.hid hg
  clear hp hg
  refine (callsIn_wide (n := 4)).1 ?_
  refine callsIn_of_wp_marks Tryd.func27 rfl trivial ?_ rfl
  simp only [Tryd.ntmps27, List.size_toArray, List.length_cons, List.length_nil, Nat.reduceAdd, Nat.reduceSub, Array.replicate_succ, Array.replicate_zero, List.push_toArray, List.append_toArray, List.nil_append, List.cons_append]
  gi_wp2_with fail
  have hz31 : Blk (w.alloc (.cells z32.toArray 24)) w.heap.size z32 24 := Blk.newL w z32 _
  have HZ := Lib.hid hz31
  clear hz31
  refine ⟨trivial, callsIn_wide.2 ((concat_any v ls vs _ (HP.out.below (by (repeat (first | with_reducible assumption | with_reducible exact Below.refl _ _ | ((with_reducible refine Below.setCell ?_ ?_ _); rotate_left; focus (first | omega | (simp; done) | (simp; omega))) | ((with_reducible refine Below.alloc ?_ ?_ _); rotate_left; focus (first | omega | (simp; done) | (simp; omega))) | ((with_reducible refine below_setRow ?_ ?_ _); rotate_left; focus (first | omega | (simp; done) | (simp; omega))) | (with_reducible refine below_drewN ?_ _) | (with_reducible refine Below.drew ?_))))) (by omega) hln).mono ?_)⟩
  rintro e w1 ⟨⟨a1, cap1, rfl, hown1⟩, hb1⟩
  rw [World.size_alloc] at hown1
  have hH1 : Blk w1 w.heap.size z32 24 := HZ.out.below hb1 (by simp)
  have hW1 : Below w.heap.size w w1 := Below.trans (by (repeat (first | with_reducible assumption | with_reducible exact Below.refl _ _ | ((with_reducible refine Below.setCell ?_ ?_ _); rotate_left; focus (first | omega | (simp; done) | (simp; omega))) | ((with_reducible refine Below.alloc ?_ ?_ _); rotate_left; focus (first | omega | (simp; done) | (simp; omega))) | ((with_reducible refine below_setRow ?_ ?_ _); rotate_left; focus (first | omega | (simp; done) | (simp; omega))) | (with_reducible refine below_drewN ?_ _) | (with_reducible refine Below.drew ?_)))) (hb1.mono (B' := w.heap.size) (by simp))
  have hs1 : w.heap.size + 1 ≤ w1.heap.size := by have := hb1.size; simpa using this
  have hG1 : w1.rangeAt 0 0 fvals := fun j u hj => (hW1.cell (p := ⟨_, _, none⟩) (HG.out.fblk)).trans (HG.out.f j u hj)
  have HO1 := Lib.hid hown1
  have HH1 := Lib.hid hH1
  have HG1 := Lib.hid hG1
  clear hown1 hH1 hb1 hG1 HZ
  gi_wp2_with (first
    | (refine wpListIn_load_mid rfl 62 (.global 0) rfl 0 0 rfl fvals _ (by exact HG1.out) Tryd.underlying62 rfl (by exact fvals_info) ?_)
    | (refine wpListIn_store_row rfl 62 (.tmp 4) (.tmp 10) rfl w1.heap.size fvals.toArray rfl rfl 62 zvals.toArray (by exact Blk.newL w1 zvals _) (by exact fvals_info) rfl fvals_one ?_)
    | fail)
  refine ⟨trivial, callsIn_wide.2 ((fill_any (cat ls).length _ (by omega)).mono ?_)⟩
  rintro e w2 ⟨⟨a2, cap2, rfl, hown2⟩, hb2⟩
  have hszW : w1.heap.size + 1 ≤ w2.heap.size := by have := hb2.size; simpa using this
  have hB2 : Blk w2 w1.heap.size F0.vals 62 := by
    rw [← fvals_eq]
    exact Blk.below (Blk.setRow (l := zvals) (Blk.newL w1 zvals _) fvals) hb2 (by simp)
  have hH2 : Blk w2 w.heap.size z32 24 := Blk.below (Blk.setRow_other (HH1.out.alloc _) (by omega) _) hb2 (by simp; omega)
  have hW2 : Below w.heap.size w w2 := Below.trans (by (repeat (first | with_reducible assumption | with_reducible exact Below.refl _ _ | ((with_reducible refine Below.setCell ?_ ?_ _); rotate_left; focus (first | omega | (simp; done) | (simp; omega))) | ((with_reducible refine Below.alloc ?_ ?_ _); rotate_left; focus (first | omega | (simp; done) | (simp; omega))) | ((with_reducible refine below_setRow ?_ ?_ _); rotate_left; focus (first | omega | (simp; done) | (simp; omega))) | (with_reducible refine below_drewN ?_ _) | (with_reducible refine Below.drew ?_)))) (hb2.mono (B' := w.heap.size) (by simp; omega))
  have hO2 : w2.ownsRow (w.heap.size + 1) 5 1 (.slice a1 (cat ls).length cap1) (cat ls).length (bytesV (cat ls)) := by
    refine ownsRow_below HO1.out (B := w1.heap.size) ?_ (ownsRow_block HO1.out)
    refine Below.trans (b := _) ?_ (hb2.mono (B' := w1.heap.size) (by simp))
    exact below_setRow ((Below.refl _ _).alloc (Nat.le_refl _) _) (Nat.le_refl _) _
  have HO2 := Lib.hid hO2
  have HS2 := Lib.hid (ownsRow_isSl hown2 (bytesV_one _))
  have HB2 := Lib.hid hB2
  have HH2 := Lib.hid hH2
  have hfl := fillP_len (cat ls).length
  have hfz := fillZ_lt (cat ls).length
  have hfl2 : (fillP (cat ls).length).length ≤ 100 := by omega
  clear hO2 hown2 hB2 hH2 hb2 HH1 HG1 hfl hfz
  gi_wp2_with (gi_at_builtin; refine wpListIn_app rfl (.tmp 11) (.tmp 14) 22 rfl (w.heap.size + 1) 5 i0 (.int .u8 0) 1 1 Tryd.underlying22 hi hz0 hz1 hz2 rfl (by decide) (.slice a1 (cat ls).length cap1) _ _ rfl (by exact HO2.out) (.slice a2 (fillP (cat ls).length).length cap2) _ _ rfl (by exact HS2.out) (by unfold maxLen; omega) (by omega) (by omega) ?_; intro a3 cap3 w3 hown3 hgrow _)
  obtain ⟨p, hp⟩ : ∃ p, p = padded (cat ls) := ⟨_, rfl⟩
  obtain ⟨N, hN⟩ : ∃ N, N = p.length / 64 := ⟨_, rfl⟩
  have hpl : (cat ls).length + (fillP (cat ls).length).length = 64 * N := by
    rw [hN, hp, ← padded_64, padded_len]
  rw [hpl, ← bytesV_app, show cat ls ++ fillP (cat ls).length = p by rw [hp]; rfl] at hown3
  rw [hpl]
  have hplen : p.length = 64 * N := by rw [hN, hp]; exact padded_64 _
  have hNpos : 0 < N := by have := fillP_len (cat ls).length; omega
  obtain ⟨b, off, cap, hsv, hcap, htext, hbw⟩ := (ownsRow_isSl hown3 (bytesV_one _)).pos (by omega) (by decide)
  cases hsv
  have hlt3 := hown3.lt b rfl
  have hne : b ≠ w1.heap.size := by
    intro e
    rcases hown3.2 with ⟨h, _⟩ | ⟨g, cap, cur, h, _, hg, _⟩
    · cases h
    · cases h
      have hB3 : Blk w3 w1.heap.size F0.vals 62 := HB2.out.grown hgrow (fun e => by have := ownsRow_block HO1.out _ e.symm; omega)
      unfold Blk at hB3
      rw [← e, hg] at hB3
      simp at hB3
  have hB3 : Blk w3 w1.heap.size F0.vals 62 := HB2.out.grown hgrow (fun e => by have := ownsRow_block HO1.out _ e.symm; omega)
  have hH3 : Blk w3 w.heap.size z32 24 := HH2.out.grown hgrow (fun e => by have := (HO1.out.lt _ e.symm).1; omega)
  have hW3 : Below w.heap.size w w3 := hW2.grown hgrow hW2.size (fun k hk => by have := (HO1.out.lt k hk).1; omega)
  have hs3 := hgrow.size
  have HB3 := Lib.hid hB3
  have HH3 := Lib.hid hH3
  have HT3 := Lib.hid htext
  have HPP := Lib.hid hp
  have HPL := Lib.hid hplen
  have HNN := Lib.hid hN
  have hbase := hlt3.1
  clear hB3 hH3 htext hp hplen hN hpl hown3 hgrow HO1 HB2 HH2 HO2 HS2 hW2 hfl2 hlt3
  refine ⟨trivial, callsIn_wide.2 ((blocks_any _ _ ⟨_, _, _, rfl⟩).mono ?_)⟩
  rintro e w4 ⟨rfl, rfl⟩
  gi_wp2
  refine rangeFunc_plain (m := 3) rfl (enters_of Tryd.func68 (by kernel_rfl) rfl) ?_
  intro fn rec hrec
  rw [World.size_alloc]
  simp only [List.append_toArray, List.cons_append, List.nil_append]
  refine (blocks_iter 3 (w3.heap.size + 1 + 1) b off cap3 N w3.heap.size (SumJ p w w.heap.size w1.heap.size (w3.heap.size + 1 + 1) (w3.heap.size + 1) b off rec) hcap ?hY ?hJ _ ?h0 ?hB).mono ?_
  case hJ =>
    intro i W u hj
    exact ⟨(Below.heap_setCell _ _ _ _ (by simp <;> omega)).trans hj.loop, (Below.heap_setCell _ _ _ _ (by simp <;> omega)).trans hj.defs, hj.st.set_other (by simp <;> omega) _,
      fun j u' hu => (World.cell?_setCell_other _ _ _ _ (by simp <;> omega)).trans (hj.text j u' hu), hj.out.set_other (by simp <;> omega) _, hj.old.setCell (by simp <;> omega) _⟩
  case h0 =>
    refine ⟨?_, ?_, ((HB3.out.alloc _).alloc _).alloc _, ?_, ((HH3.out.alloc _).alloc _).alloc _, by (repeat (first | with_reducible assumption | with_reducible exact Below.refl _ _ | ((with_reducible refine Below.setCell ?_ ?_ _); rotate_left; focus (first | omega | (simp; done) | (simp; omega))) | ((with_reducible refine Below.alloc ?_ ?_ _); rotate_left; focus (first | omega | (simp; done) | (simp; omega))) | ((with_reducible refine below_setRow ?_ ?_ _); rotate_left; focus (first | omega | (simp; done) | (simp; omega))) | (with_reducible refine below_drewN ?_ _) | (with_reducible refine Below.drew ?_)))⟩
    · have := heap_alloc_new ((w3.alloc (.cells #[.slice (some ⟨b, off, none⟩) (64 * N) cap3] 22)).alloc (.deferred (some []))) (.loop (rec .ready none))
      simpa using this
    · have := heap_alloc2_old (w3.alloc (.cells #[.slice (some ⟨b, off, none⟩) (64 * N) cap3] 22)) (.deferred (some [])) (.loop (rec .ready none))
      simpa using this
    · intro j u hu
      refine (Below.cell (B := w3.heap.size) ?_ hbw).trans (HT3.out j u hu)
      (repeat (first | with_reducible assumption | with_reducible exact Below.refl _ _ | ((with_reducible refine Below.setCell ?_ ?_ _); rotate_left; focus (first | omega | (simp; done) | (simp; omega))) | ((with_reducible refine Below.alloc ?_ ?_ _); rotate_left; focus (first | omega | (simp; done) | (simp; omega))) | ((with_reducible refine below_setRow ?_ ?_ _); rotate_left; focus (first | omega | (simp; done) | (simp; omega))) | (with_reducible refine below_drewN ?_ _) | (with_reducible refine Below.drew ?_)))
  case hB =>
    have h := (((Blk.newL w3 [.slice (some ⟨b, off, none⟩) (64 * N) cap3] 22).alloc (.deferred (some []))).alloc (.loop (rec .ready none)))
    exact ⟨h.frozen 0, _, _, h.cell rfl, by omega, fun _ => ⟨rfl, rfl⟩⟩
  case hY =>
    intro i W hi hj
    refine yield_plain hrec hj.loop rfl ?_
    clear hrec
    have hlW : w3.heap.size + 1 + 1 < W.heap.size := (Array.getElem?_eq_some_iff.1 hj.loop).1
    gi_wp2
    refine ⟨hj.loop, ?_⟩
    have HJ := Lib.hid hj
    obtain ⟨Wb, hWb⟩ : ∃ Wb, Wb = W.putObj (w3.heap.size + 1 + 1) (.loop (rec .busy none)) := ⟨_, rfl⟩
    have hB : Blk Wb w1.heap.size (stateI p i).vals 62 := by rw [hWb]; exact hj.st.putObj (by omega) _
    have hW : Below w.heap.size w Wb := by rw [hWb]; exact below_putObj hj.old (by omega) _
    have hT : Wb.rangeAt b off (bytesV p) := by rw [hWb]; exact fun j u hu => (cell_putObj (by show b ≠ _; omega) _).trans (hj.text j u hu)
    have hl : Wb.heap[w3.heap.size + 1 + 1]? = some (.loop (rec .busy none)) := by rw [hWb]; exact World.putObj_heap_same hlW
    have hD : Wb.heap[w3.heap.size + 1]? = some (.deferred (some [])) := by rw [hWb]; exact (World.putObj_heap_other (by omega)).trans hj.defs
    have hO : Blk Wb w.heap.size z32 24 := by rw [hWb]; exact hj.out.putObj (by omega) _
    have hX : ∀ q : Addr, q.block = w3.heap.size → W.cell? q = Wb.cell? q ∧ W.frozen? q = Wb.frozen? q := fun q hq => by
      rw [hWb]
      have := World.putObj_heap_other (w := W) (r := w3.heap.size + 1 + 1) (k := q.block) (o := .loop (rec .busy none)) (by omega)
      exact ⟨(World.cell?_of_block this).symm, (World.frozen?_of_block this).symm⟩
    rw [← hWb]
    have HB := Lib.hid hB
    have HT := Lib.hid hT
    have HL := Lib.hid hl
    have HD := Lib.hid hD
    have HO := Lib.hid hO
    have HX := Lib.hid hX
    have hszb : w3.heap.size + 1 + 1 < Wb.heap.size := (Array.getElem?_eq_some_iff.1 hl).1
    clear hj HJ hWb hB hT hl hD hO hX hlW
    gi_wp2_with (first
      | (refine wpListIn_load_row rfl 62 (.tmp 4) rfl w1.heap.size rfl 62 (stateI p i).vals.toArray (0, 0) _ (by exact HB.out) Tryd.underlying62 rfl (by exact vals_info _) ?_)
      | fail)
    refine ⟨trivial, CallsIn.inRound _ (callsIn_wide.2 ((turn_any b (off + 64 * i) (cap3 - 64 * i) (blk p i) (stateI p i) Wb ?hl (HG.out.below hW)).mono ?_))⟩
    case hl =>
      intro j hj
      rw [blk_byte _ _ _ hj, Nat.add_assoc]
      exact range_byte HT.out _ (by have := HPL.out; omega)
    rintro e W5 ⟨rfl, hb5⟩
    have HB5 := Lib.hid (HB.out.below hb5 HB.out.lt)
    gi_wp2_with (refine wpListIn_store_row rfl 62 (.tmp 4) (.tmp 20) rfl w1.heap.size (turnI (stateI p i) (blk p i)).vals.toArray rfl rfl 62 (stateI p i).vals.toArray (by exact HB5.out) (by exact vals_info _) rfl (vals_one _) ?_)
    have hL5 : (W5.setRow w1.heap.size (turnI (stateI p i) (blk p i)).vals.toArray).heap[w3.heap.size + 1 + 1]? = some (.loop (rec .busy none)) := (Go.setRow_other _ _ _ _ (by omega)).trans ((hb5.block _ (by omega)).trans HL.out)
    refine ⟨hL5, trivial, ⟨World.putObj_heap_same (Array.getElem?_eq_some_iff.1 hL5).1, ?_, ?_, ?_, ?_, ?_⟩, ?_, ?_⟩
    · exact (World.putObj_heap_other (by omega)).trans ((Go.setRow_other _ _ _ _ (by omega)).trans ((hb5.block _ (by omega)).trans HD.out))
    · exact (HB5.out.setRow _).putObj (by omega) _
    · intro j u hu
      have h1 := HT.out j u hu
      refine (cell_putObj (by show b ≠ _; omega) _).trans (Eq.trans (World.cell?_of_block (Go.setRow_other _ _ _ _ hne)) ((hb5.cell (p := ⟨b, _, none⟩) (World.block_lt_of_cell? _ _ h1)).trans h1))
    · exact ((HO.out.below hb5 HO.out.lt).setRow_other (by omega) _).putObj (by omega) _
    · exact below_putObj (below_setRow (hW.trans (hb5.mono hW.size)) (by omega) _) (by omega) _
    · rw [(HX.out ⟨w3.heap.size, 0, none⟩ rfl).1]
      exact (cell_putObj (by simp <;> omega) _).trans ((World.cell?_of_block (Go.setRow_other _ _ _ _ (by simp <;> omega))).trans (hb5.cell (by simp <;> omega)))
    · rw [(HX.out ⟨w3.heap.size, 0, none⟩ rfl).2]
      exact (World.frozen?_of_block (World.putObj_heap_other (by simp <;> omega))).trans ((World.frozen?_of_block (Go.setRow_other _ _ _ _ (by simp <;> omega))).trans (hb5.frozen (by simp <;> omega)))
  · rintro e W2 ⟨hv, hj⟩
    refine ⟨hv, hj.loop, ?_⟩
    clear hrec
    have hlW : w3.heap.size + 1 + 1 < W2.heap.size := (Array.getElem?_eq_some_iff.1 hj.loop).1
    obtain ⟨W, hWe⟩ : ∃ W, W = W2.putObj (w3.heap.size + 1 + 1) (.loop (rec .exhausted none)) := ⟨_, rfl⟩
    have hB : Blk W w1.heap.size (stateI p N).vals 62 := by rw [hWe]; exact hj.st.putObj (by omega) _
    have hW : Below w.heap.size w W := by rw [hWe]; exact below_putObj hj.old (by omega) _
    have hD : W.heap[w3.heap.size + 1]? = some (.deferred (some [])) := by rw [hWe]; exact (World.putObj_heap_other (by omega)).trans hj.defs
    have hO : Blk W w.heap.size z32 24 := by rw [hWe]; exact hj.out.putObj (by omega) _
    have hsW : w3.heap.size + 1 + 1 < W.heap.size := by rw [hWe]; simpa using hlW
    rw [← hWe]
    clear hWe hj hlW
    have HB := Lib.hid hB
    have HD := Lib.hid hD
    have HO := Lib.hid hO
    clear hB hD hO
    gi_wp2
    gi_loopw [21] (fun i wr => sumOut (stateI p N) w W (w3.heap.size + 1) w1.heap.size i wr) (fun i _ => 32 - (intOf i).toNat)
    case atStart =>
      exact ⟨0, by omega, rfl, Blk.newL W z32 _, HB.out.alloc _, HO.out.alloc _, (Below.heap_alloc _ _ _ (by omega)).trans HD.out, by (repeat (first | with_reducible assumption | with_reducible exact Below.refl _ _ | ((with_reducible refine Below.setCell ?_ ?_ _); rotate_left; focus (first | omega | (simp; done) | (simp; omega))) | ((with_reducible refine Below.alloc ?_ ?_ _); rotate_left; focus (first | omega | (simp; done) | (simp; omega))) | ((with_reducible refine below_setRow ?_ ?_ _); rotate_left; focus (first | omega | (simp; done) | (simp; omega))) | (with_reducible refine below_drewN ?_ _) | (with_reducible refine Below.drew ?_)))⟩
    case round =>
      clear HB HD HO
      obtain ⟨k, hk, rfl, hR, hB, hO, hD, hW⟩ := hrel
      have HR := Lib.hid hR
      have HB := Lib.hid hB
      have HO := Lib.hid hO
      have HD := Lib.hid hD
      clear hR hB hO hD
      by_cases h32 : k < 32
      · have c0 : wr.cell? ⟨w1.heap.size, k / 4, none⟩ = some (.int .u32 ((stateI p N).get (k / 4))) := HB.out.cell (vals_at _ _ (by omega))
        have c1 : wr.cell? ⟨W.heap.size, k, none⟩ = some (.int .u8 0) := HR.out.cell (by rw [outRow_at _ _ _ h32, if_neg (by omega)])
        have f1 : wr.frozen? ⟨W.heap.size, k, none⟩ = false := HR.out.frozen k
        gi_wp2
        refine ⟨⟨k + 1, by omega, by go_num, ?_, HB.out.set_other (by simp <;> omega) _, HO.out.set_other (by simp <;> omega) _, (Below.heap_setCell _ _ _ _ (by simp <;> omega)).trans HD.out, by (repeat (first | with_reducible assumption | with_reducible exact Below.refl _ _ | ((with_reducible refine Below.setCell ?_ ?_ _); rotate_left; focus (first | omega | (simp; done) | (simp; omega))) | ((with_reducible refine Below.alloc ?_ ?_ _); rotate_left; focus (first | omega | (simp; done) | (simp; omega))) | ((with_reducible refine below_setRow ?_ ?_ _); rotate_left; focus (first | omega | (simp; done) | (simp; omega))) | (with_reducible refine below_drewN ?_ _) | (with_reducible refine Below.drew ?_)))⟩, by simp [intOf]; omega⟩
        rw [← outRow_set, digB_val]
        exact HR.out.set k _
      · obtain rfl : k = 32 := by omega
        gi_wp2_with (first
          | (refine wpListIn_load_row rfl 24 (.tmp 6) rfl W.heap.size rfl 24 (outRow (stateI p N) 32).toArray (0, 0) _ (by exact HR.out) Tryd.underlying24 rfl (by exact outRow_info _ _) ?_)
          | (refine wpListIn_store_row rfl 24 (.tmp 2) (.tmp 37) rfl w.heap.size (outRow (stateI p N) 32).toArray rfl rfl 24 z32.toArray (by exact HO.out) (by exact outRow_info _ _) (by simp [outRow_len, z32, bytesV]) (by exact outRow_one _ _) ?_))
        have hK : (wr.setRow w.heap.size (outRow (stateI p N) 32).toArray).heap[w3.heap.size + 1]? = some (.deferred (some [])) := (Go.setRow_other _ _ _ _ (by omega)).trans HD.out
        refine ⟨by simp, .inl ⟨_, _, rfl, run_takeDeferred hK, ?_⟩⟩
        refine ⟨_, results_cell_row rfl _ _ w.heap.size 24 (outRow (stateI p N) 32).toArray (0, 0) _ rfl ((HO.out.setRow _).putObj (by omega) _) Tryd.underlying24 rfl (outRow_info _ _), ?_, ?_⟩
        · unfold sumI
          rw [outRow_32, HNN.out, HPP.out]
        · exact below_putObj (below_setRow hW (Nat.le_refl _) _) (by omega) _
end Go.Proofs.YtkfplliipogagaaDoor
