/- The tag of parts that the caller has just laid in a new block. Conditions: the key and each part can be read; the package's tables read as they are laid. -/
import Derived.Test.YtjjoiefngoghpaaDoorMacB
import Derived.Test.YtjjoiefngoghpaaDoorSumAt
namespace Go.Proofs.YtjjoiefngoghpaaDoor
open Go.RowKit

theorem wp_world {P : Program} {c : Code} {Q : Exit → Act → World → Prop} {a : Act} {w w' : World} (h : w' = w) (hc : c.wp P Q a w') : c.wp P Q a w := h ▸ hc
theorem tag_at (w : World) (vk : Value) (k : List UInt8) (vs : List Value) (ls : List (List UInt8)) (e : TypeId) {n : Nat} (hk : Bytes w vk k) (h : Texts w vs ls) (hn : ls.length = n) (t : List UInt8) (ht : cat ls = t) (hk2 : k.length ≤ 70368744177664) (hsz : t.length ≤ 35184372088832) (hln : n ≤ 1000000000000) (hg : Glob w) :
    Calls Tryd.prog 27 #[vk, .slice (some ⟨w.heap.size, 0, none⟩) n n] (w.alloc (.cells vs.toArray e)) fun e w' => e = .returned (.agg (bytesV (tagN k t)).toArray) ∧ Below w.heap.size w w' := by
  subst ht
  have ha : Below w.heap.size w (w.alloc (.cells vs.toArray e)) := (Below.refl _ _).alloc (Nat.le_refl _) _
  refine (tag_any _ _ k ls vs _ (hk.below ha) (h.parts e hn) hk2 hsz (by omega) (hg.below ha)).mono ?_
  rintro e w' ⟨rfl, hb⟩
  exact ⟨rfl, Below.trans ha (hb.mono (by simp))⟩
theorem tagN_long (k t : List UInt8) (h : 64 < k.length) : tagN (sumN k) t = tagN k t := by
  unfold tagN
  have h1 : keyN (sumN k) = sumN k := by unfold keyN; rw [if_neg (by rw [sumN_len]; decide)]
  have h2 : keyN k = sumN k := by unfold keyN; rw [if_pos h]
  rw [h1, h2]
theorem tagN_filled (k t : List UInt8) (h : k.length ≤ 64) : tagN (k ++ List.replicate (64 - k.length) 0) t = tagN k t := by
  unfold tagN
  have hl : (k ++ List.replicate (64 - k.length) (0 : UInt8)).length = 64 := by simp; omega
  have h1 : keyN (k ++ List.replicate (64 - k.length) 0) = k ++ List.replicate (64 - k.length) 0 := by unfold keyN; rw [if_neg (by rw [hl]; decide)]
  have h2 : keyN k = k := by unfold keyN; rw [if_neg (by omega)]
  have hp : ∀ b, padN (k ++ List.replicate (64 - k.length) 0) b = padN k b := fun b => by
    unfold padN
    refine List.map_congr_left fun i hi => ?_
    have hi' := List.mem_range.1 hi
    congr 1
    unfold keyAt
    by_cases hk : i < k.length
    · rw [List.getElem?_append_left hk]
    · rw [List.getElem?_append_right (by omega), List.getElem?_replicate, if_pos (by omega), List.getElem?_eq_none (by omega)]
      rfl
  rw [h1, h2, hp, hp]
end Go.Proofs.YtjjoiefngoghpaaDoor
