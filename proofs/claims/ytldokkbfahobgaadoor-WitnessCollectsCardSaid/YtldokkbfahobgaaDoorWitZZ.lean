/- Witnesses that have signed beginnings of a list, asked to sign it; what stays so behind a Collect. No program. Conditions: what each part says. -/
import Derived.Test.YtldokkbfahobgaaDoorWitX
/-! WitZ: Witnesses that have signed beginnings of a list, asked to sign it; what stays so behind a Collect. No program. -/
namespace Go.Proofs.YtldokkbfahobgaaDoor
open Go.RowKit

theorem blk_ne {W : World} {a b : Nat} {l l' : List Value} {e e' : TypeId} (h : Blk W a l e) (h' : Blk W b l' e') (hne : e ≠ e') : a ≠ b := by
  rintro rfl
  unfold Blk at h h'
  rw [h] at h'
  injection h' with h'
  injection h' with _ h' _
  exact hne h'
section
variable {w0 W W' : World} {pv wv : Value} {need : Int} {eP eW : TypeId} {lv : Value} {gs : List Nat}
theorem Made.behind (h : Made w0 W pv wv need eP eW lv gs) (hb : ButS gs W W') : Below w0.heap.size w0 W' :=
  h.old.trans ⟨hb.os, hb.tape, hb.output, hb.size, fun k hk => hb.block k (by have := h.old.size; omega) (fun hm => by have := (h.lt hm).1; omega)⟩
theorem Made.notin {b : Nat} {l : List Value} {e : TypeId} (h : Made w0 W pv wv need eP eW lv gs) (hB : Blk W b l e) (hne : e ≠ eW) : b ∉ gs := fun hm => by
  obtain ⟨j, hj⟩ := List.mem_iff_getElem?.1 hm
  exact blk_ne hB (h.wit j b hj).2 hne rfl
theorem Made.env2 {ps ws hs : List H} {hsv : Value} {st : Nat → Int × H} (h : Made w0 W pv wv need eP eW lv gs) (hb : ButS gs W W') (hst : ∀ g ∈ gs, Blk W' g (witC pv wv need (numOf gs g) (st g).1 (st g).2) eW) (hne : eP ≠ eW) (hp : Hs w0 pv ps) (hw : Hs w0 wv ws) (hh : Hs w0 hsv hs) (hg : Glob w0) (hps : 0 < ps.length) (hws : 0 < ws.length) :
    WEnv W' pv wv hsv lv ps ws hs need gs (numOf gs) st eW :=
  { pk := hp.below (h.behind hb), wk := hw.below (h.behind hb), hk := hh.below (h.behind hb), sl := hb.isSl h.sl (fun _ => h.apart hne)
    wit := hst
    glob := hg.below (h.behind hb)
    pa := apartS_pos hp hps (by decide) (fun _ hm => (h.lt hm).1)
    wa := apartS_pos hw hws (by decide) (fun _ hm => (h.lt hm).1)
    ha := fun h0 => apartS_pos hh h0 (by decide) (fun _ hm => (h.lt hm).1)
    la := h.apart hne }
end
section
variable (h : List H) (k : Nat) (mask : Int) (np : Nat) (nw : List H) (need : Int) (num : Nat → Int) (gs : List Nat) (st : Nat → Int × H)
/-- They have signed beginnings of the list still. -/
theorem coll_upto (hk : k ≤ h.length) (hst : ∀ g ∈ gs, ∃ m, m ≤ k ∧ st g = upto h m) : ∀ i, ∀ g ∈ gs, ∃ m, m ≤ k ∧ (collI (h.take k) mask np nw need num gs st i).1 g = upto h m
  | 0, g, hg => hst g hg
  | i + 1, g, hg => by
    obtain ⟨m, hm, hi⟩ := coll_upto hk hst i g hg
    simp only [collI]
    split
    · show ∃ m, m ≤ k ∧ updS _ _ _ g = upto h m
      unfold updS
      split
      · exact ⟨k, Nat.le_refl _, upto_all h k hk⟩
      · exact ⟨m, hm, hi⟩
    · exact ⟨m, hm, hi⟩
/-- All sign, in order. -/
theorem coll_all (hk : k ≤ h.length) (hl : h.length ≤ 400) (hnd : gs.Nodup) (hst : ∀ g ∈ gs, ∃ m, m ≤ k ∧ st g = upto h m) (hbit : ∀ i, i < gs.length → bitB mask i = true) : ∀ i, i ≤ gs.length → (collI (h.take k) mask np nw need (numOf gs) gs st i).2 = (List.range i).map fun (j : Nat) => ((j : Int), signH np nw need j k (rootN ndH e0H (h.take k)))
  | 0, _ => rfl
  | i + 1, hi => by
    have ih := coll_all hk hl hnd hst hbit i (by omega)
    obtain ⟨x, hx⟩ : ∃ x, gs[i]? = some x := ⟨_, List.getElem?_eq_getElem (by omega)⟩
    have hxd : gs.getD i 0 = x := by rw [List.getD_eq_getElem?_getD, hx]; rfl
    obtain ⟨m, hm, hs⟩ := coll_upto h k mask np nw need (numOf gs) gs st hk hst i x (List.mem_of_getElem? hx)
    have hlen : (h.take k).length = k := by rw [List.length_take, Nat.min_eq_left hk]
    simp only [collI, hxd, hbit i (by omega), hs, asked_take h m k hl hk, decide_eq_true hm, Bool.true_and, if_true, numOf_at hnd hx, hlen]
    rw [ih, List.range_succ, List.map_append]
    rfl
end
end Go.Proofs.YtldokkbfahobgaaDoor
