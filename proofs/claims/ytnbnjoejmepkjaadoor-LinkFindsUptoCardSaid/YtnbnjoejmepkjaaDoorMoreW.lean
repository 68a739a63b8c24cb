/- The walk of law 20's great where what it adds up is small. A list of texts with one text more: laid in memory of the call's own, read as a list. Plain facts: what begins it. No condition. Conditions: what each part says. -/
import Derived.Test.YtnbnjoejmepkjaaDoorClashW
import Derived.Test.YtnbnjoejmepkjaaDoorLinkW
/-! GreatE: The walk of law 20's great where what it adds up is small. Condition: the lists can be read; the sum is at most 2^60. -/
namespace Go.Proofs.YtnbnjoejmepkjaaDoor
open Go.RowKit

def great20B (a b : List (List UInt8)) (P : List H) : Bool := decide (100 < P.length + gN a a.length + gN b b.length)
set_option maxRecDepth 100000 in
set_option maxHeartbeats 800000 in
theorem great20_any (va vb vl : Value) (a b : List (List UInt8)) (xs ys : List Value) (P : List H) (w : World) (ha : Parts w va a xs) (hb : Parts w vb b ys) (hs : Hs w vl P) (hsm : P.length + gN a a.length + gN b b.length ≤ 1152921504606846976) :
    Calls Tryd.prog 9 #[va, vb, vl] w fun e w' => e = .returned (.bool (great20B a b P)) ∧ w' = w := by
  have hla := gN_few a
  have hlb := gN_few b
  obtain ⟨xa, ca, rfl, _⟩ := ha.sl.form
  obtain ⟨xb, cb, rfl, _⟩ := hb.sl.form
  obtain ⟨xl, cl, rfl, _⟩ := hs.form
  have HA := Lib.hid ha
  have HB := Lib.hid hb
  clear ha hb hs
  go_enter Tryd.func9, Tryd.ntmps9
  go_wp2_with fail
  go_loopw [7, 8] (fun n i wr => ∃ k z : Nat, k ≤ a.length ∧ i = .int .i64 k ∧ n = .int .i64 z ∧ z = P.length + gN a k ∧ wr = w) (fun _ i _ => a.length - (intOf i).toNat)
  case atStart => exact ⟨0, P.length, by omega, rfl, rfl, rfl, rfl⟩
  case round =>
    obtain ⟨k, z, hk, rfl, rfl, hz, rfl⟩ := hrel
    have hle := gN_le a k
    by_cases hlt : k < a.length
    · obtain ⟨b1, o1, x, s, rfl, _, c1, _, hs, hbs⟩ := HA.out.at hlt
      obtain ⟨q1, q2, rfl, _⟩ := hbs.form
      have HS := Lib.hid (gN_succ a k s hs)
      have hle2 := gN_le a (k + 1)
      rw [HS.out] at hle2
      obtain ⟨d, hd⟩ : ∃ d, d = s.length / 50 := ⟨_, rfl⟩
      have hq : Int.tdiv (s.length : Int) 50 = (d : Int) := by rw [hd]; rfl
      have i1 : (0 : Int) ≤ k ∧ (k : Int) < a.length := ⟨by omega, by omega⟩
      have hlt' : (k : Int) < a.length := by omega
      have HZ := Lib.hid (show z + 1 + d = P.length + gN a (k + 1) by rw [HS.out]; omega)
      have hz1 : z + 1 + d ≤ 1152921504606846976 := by omega
      clear hs hbs hle hle2 hz hd
      go_wp2_with fail
      exact ⟨⟨k + 1, z + 1 + d, by omega, by go_num, by go_num, HZ.out, by trivial⟩, by simp [intOf]; omega⟩
    · have hlt' : ¬ (k : Int) < a.length := by omega
      obtain rfl : k = a.length := by omega
      subst hz
      go_wp2_with fail
      go_loopw [7, 9] (fun n i wq => ∃ k z : Nat, k ≤ b.length ∧ i = .int .i64 k ∧ n = .int .i64 z ∧ z = P.length + gN a a.length + gN b k ∧ wq = wr) (fun _ i _ => b.length - (intOf i).toNat)
      case atStart => exact ⟨0, _, by omega, rfl, rfl, rfl, rfl⟩
      case round =>
        obtain ⟨k2, z2, hk2, rfl, rfl, hz2, rfl⟩ := hrel
        have hleb := gN_le b k2
        by_cases hlt2 : k2 < b.length
        · obtain ⟨b1, o1, x, s, rfl, _, c1, _, hs, hbs⟩ := HB.out.at hlt2
          obtain ⟨q1, q2, rfl, _⟩ := hbs.form
          have HS := Lib.hid (gN_succ b k2 s hs)
          have hle2 := gN_le b (k2 + 1)
          rw [HS.out] at hle2
          obtain ⟨d, hd⟩ : ∃ d, d = s.length / 50 := ⟨_, rfl⟩
          have hq : Int.tdiv (s.length : Int) 50 = (d : Int) := by rw [hd]; rfl
          have i1 : (0 : Int) ≤ k2 ∧ (k2 : Int) < b.length := ⟨by omega, by omega⟩
          have hlt2' : (k2 : Int) < b.length := by omega
          have HZ := Lib.hid (show z2 + 1 + d = P.length + gN a a.length + gN b (k2 + 1) by rw [HS.out]; omega)
          have hz1 : z2 + 1 + d ≤ 1152921504606846976 := by omega
          clear hs hbs hleb hle2 hz2 hd
          go_wp2_with fail
          exact ⟨⟨k2 + 1, z2 + 1 + d, by omega, by go_num, by go_num, HZ.out, by trivial⟩, by simp [intOf]; omega⟩
        · have hlt2' : ¬ (k2 : Int) < b.length := by omega
          obtain rfl : k2 = b.length := by omega
          have HQ := Lib.hid hz2
          go_wp2_with fail
          go_ret
          refine ⟨?_, rfl⟩
          unfold great20B
          rw [← HQ.out]
          simp
          omega
theorem not_great20 {a b : List (List UInt8)} {P : List H} (h : great20B a b P = false) : P.length ≤ 100 ∧ a.length ≤ 100 ∧ b.length ≤ 100 ∧ (∀ l ∈ a, l.length ≤ 5050) ∧ (∀ l ∈ b, l.length ≤ 5050) := by
  have h1 : ¬ 100 < P.length + gN a a.length + gN b b.length := by simpa [great20B] using h
  have ha := gN_few a
  have hb := gN_few b
  refine ⟨by omega, by omega, by omega, fun l hl => ?_, fun l hl => ?_⟩
  · have := gN_mem hl
    omega
  · have := gN_mem hl
    omega
end Go.Proofs.YtnbnjoejmepkjaaDoor

/-! More: A list of texts with one text more: laid in memory of the call's own, read as a list. Plain facts: what begins it. No condition. -/
namespace Go.Proofs.YtnbnjoejmepkjaaDoor
open Go.RowKit

theorem own_empty (w : World) (e : TypeId) {B : Nat} (hB : w.heap.size = B) : (w.alloc (.cells #[] e)).ownsRow B e 1 (.slice (some ⟨B, 0, none⟩) 0 0) 0 [] := by
  subst hB
  exact ⟨rfl, .inr ⟨w.heap.size, 0, #[], rfl, Nat.le_refl _, heap_alloc_new w _, Nat.le_refl _, by decide, rfl, rfl⟩⟩
theorem parts_more {w : World} {base : Nat} {e : TypeId} {v v0 vx : Value} {a : List (List UInt8)} {xs : List Value} {s : List UInt8} {n : Nat} (ho : w.ownsRow base e 1 v n (xs ++ [vx])) (hn : n = a.length + 1) (ha : Parts w v0 a xs) (hx : Bytes w vx s) : Parts w v (a ++ [s]) (xs ++ [vx]) := by
  subst hn
  refine ⟨by rw [List.length_append, List.length_append, ha.len]; rfl, ?_, fun i x l h1 h2 => ?_⟩
  · rw [List.length_append, List.length_singleton]
    refine ownsRow_isSl ho fun u hu => ?_
    rcases List.mem_append.1 hu with hu | hu
    · exact ha.sl.2.1 u hu
    · rw [List.mem_singleton] at hu
      rw [hu]; exact hx.one
  · by_cases hi : i < a.length
    · rw [List.getElem?_append_left (by rw [ha.len]; exact hi)] at h1
      rw [List.getElem?_append_left hi] at h2
      exact ha.each i x l h1 h2
    · rw [List.getElem?_append_right (by rw [ha.len]; omega), ha.len] at h1
      rw [List.getElem?_append_right (by omega)] at h2
      have h0 : i - a.length = 0 := by
        have := (List.getElem?_eq_some_iff.1 h2).1
        rw [List.length_singleton] at this
        omega
      rw [h0] at h1 h2
      cases h1
      cases h2
      exact hx
theorem alloc_below (w : World) (o : Obj) : Below w.heap.size w (w.alloc o) := (Below.refl _ _).alloc (Nat.le_refl _) _
theorem begins_self (a : List (List UInt8)) : beginsB a a = true := by
  have := begins_take a a.length
  rwa [List.take_length] at this
theorem begins_more (a : List (List UInt8)) (s : List UInt8) (k : Nat) (hk : k ≤ a.length) : beginsB (a.take k) (a ++ [s]) = true := by
  have := begins_take (a ++ [s]) k
  rwa [List.take_append_of_le_length hk] at this
theorem begins_all (a : List (List UInt8)) (s : List UInt8) : beginsB a (a ++ [s]) = true := by
  have := begins_more a s a.length (Nat.le_refl _)
  rwa [List.take_length] at this
theorem begins_less (a : List (List UInt8)) (s : List UInt8) : beginsB (a ++ [s]) a = false := by
  unfold beginsB
  rw [decide_eq_false (by simp), Bool.false_and]
theorem link_self (a : List (List UInt8)) (h : 1 ≤ a.length) : linkB a a [] = true := by
  have := link_own a a.length h (Nat.le_refl _)
  rw [List.take_length, subN_end (a.map lfH) a.length true (by simp)] at this
  simpa using this
theorem link_nothing (b : List (List UInt8)) : linkB [] b [] = true := by
  unfold linkB provesB rootB
  rw [if_pos (show ([] : List (List UInt8)).length = 0 from rfl), List.map_nil]
  have h : rootN ndH e0H [] = e0H := by rw [rootN]; rfl
  rw [h]
  simp
theorem link_own_i (b : List (List UInt8)) (m : Nat) (h2 : m ≤ b.length) : linkB (b.take m) b (subR (b.map lfH) m) = true := by
  unfold subR
  rw [List.length_map]
  by_cases h1 : 1 ≤ m
  · rw [if_pos (by omega)]
    exact link_own b m h1 h2
  · obtain rfl : m = 0 := by omega
    rw [if_neg (by omega), List.take_zero]
    exact link_nothing b
theorem bytes_grown {w w' : World} {x : Value} {l : List UInt8} {row : Option Nat} (h : Bytes w x l) (hg : w.grownBy w' row) (hn : ∀ ad k c, x = .slice (some ad) k c → some ad.block ≠ row) : Bytes w' x l :=
  IsSl.of_cells h fun p _ hu ⟨ad, k, c, e, he⟩ => (World.cell?_of_block (hg.block p.block (World.block_lt_of_cell? _ _ hu) (by rw [← he]; exact hn ad k c e))).trans hu
theorem gN_bulk {ls : List (List UInt8)} (h : ∀ l ∈ ls, l.length ≤ 1048576) (hl : ls.length ≤ 1048576) : gN ls ls.length ≤ 22000000000 := by
  have h1 : ∀ ls : List (List UInt8), (∀ l ∈ ls, l.length ≤ 1048576) → (ls.map fun l => 1 + l.length / 50).sum ≤ ls.length * 20972 := by
    intro ls
    induction ls with
    | nil => intro _; simp
    | cons x r ih =>
      intro h
      have h2 := ih (fun l hl => h l (List.mem_cons_of_mem _ hl))
      have h3 := h x List.mem_cons_self
      simp only [List.map_cons, List.sum_cons, List.length_cons]
      omega
  unfold gN
  rw [List.take_length]
  have h2 := h1 ls h
  have h3 : ls.length * 20972 ≤ 1048576 * 20972 := Nat.mul_le_mul_right _ hl
  omega
theorem isSl_newB (w : World) (l : List Value) (e : TypeId) (size n : Nat) {B : Nat} (hB : w.heap.size = B) (hl : l.length = n * size) (h1 : ∀ u ∈ l, u.oneCell' = true) : IsSl (w.alloc (.cells l.toArray e)) (.slice (some ⟨B, 0, none⟩) n n) size n l := by
  subst hB
  exact isSl_new w l e size n hl h1
theorem prove_k (v : Value) (l : List H) (m : Int) (P : List H) (hP : P = subR l m) (w : World) (hle : l.length ≤ 1099511627776) (hs : Hs w v l) (hg : Glob w) :
    Calls Tryd.prog 19 #[v, .int .i64 m] w fun e w' => (∃ a c q, e = .returned (.tuple #[.slice a P.length c, .bool q]) ∧ Hs w' (.slice a P.length c) P) ∧ Below w.heap.size w w' := by
  subst hP
  exact (prove_i v l m w hle hs hg).mono fun e w' ⟨⟨v', h1, h2⟩, h3⟩ => by
    obtain ⟨a, c, rfl, _⟩ := h2.form
    exact ⟨⟨a, c, _, h1, h2⟩, h3⟩
end Go.Proofs.YtnbnjoejmepkjaaDoor
