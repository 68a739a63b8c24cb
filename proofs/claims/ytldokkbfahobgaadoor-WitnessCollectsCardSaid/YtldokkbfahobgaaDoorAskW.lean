/- A witness's Ask and its reference's, whatever is asked. Conditions: what each part says. -/
import Derived.Test.YtldokkbfahobgaaDoorAskU
import Derived.Test.YtldokkbfahobgaaDoorAskV
import Derived.Test.YtldokkbfahobgaaDoorPathW
/-! WitS: A witness's Ask and its reference's, whatever is asked. Conditions: the keys and the proof can be read; the package's tables read as they are laid. -/
namespace Go.Proofs.YtldokkbfahobgaaDoor
open Go.RowKit

/-- What a witness answers. -/
def ansN (b : Bool) (n : Int) : Int := if b then n else 0
def ansH (b : Bool) (t : H) : H := if b then t else z0H
def ansV (b : Bool) (n : Int) (t : H) : Value := .tuple #[sigV (ansN b n) (ansH b t), .bool b]
/-- What it has signed last behind it. -/
def nowS (b : Bool) (s size : Int) : Int := if b then s else size
def nowR (b : Bool) (r root : H) : H := if b then r else root
theorem ask_all (g : Nat) (pv wv : Value) (ps ws : List H) (need n size s : Int) (root r : H) (sv lv : Value) (P : List H) (w : World) (hw : Blk w g (witC pv wv need n size root) 67) (hps : Hs w pv ps) (hws : Hs w wv ws) (hwl : ws.length ≤ 1000) (hs : Hs w lv P) (hlp : P.length ≤ 4096) (hg : Glob w) (hpg : ApartV g pv) (hwg : ApartV g wv) :
    Calls Tryd.prog 12 #[.pointer (some ⟨g, 0, none⟩), pointV s r sv, lv] w fun e w' => e = .returned (ansV (askB size s root r P) n (signH ps.length ws need n s r)) ∧ Blk w' g (witC pv wv need n (nowS (askB size s root r P) s size) (nowR (askB size s root r P) r root)) 67 ∧ But g w w' := by
  unfold askB
  by_cases h4 : 400 < s
  · rw [decide_eq_false (show ¬ s ≤ 400 by omega), Bool.false_and]
    refine (ask_great g pv wv ps ws need n size s root r sv lv P w hw hps hws hwl hs hlp hg hpg hwg h4).mono ?_
    rintro e w' ⟨rfl, hb⟩
    exact ⟨rfl, hw.below hb hw.lt, But.of hb⟩
  · rw [decide_eq_true (show s ≤ 400 by omega), Bool.true_and]
    cases hk : begR size s root r P with
    | false =>
      refine (ask_not g pv wv ps ws need n size s root r sv lv P w hw hps hws hwl hs hlp hg hpg hwg h4 hk).mono ?_
      rintro e w' ⟨rfl, hb⟩
      exact ⟨rfl, hw.below hb hw.lt, But.of hb⟩
    | true => exact ask_yes g pv wv ps ws need n size s root r sv lv P w hw hps hws hwl hs hlp hg hpg hwg h4 hk
theorem refask_all (g : Nat) (pv wv : Value) (ps ws : List H) (need n size s : Int) (root r : H) (sv lv : Value) (P : List H) (w : World) (hw : Blk w g (witC pv wv need n size root) 46) (hps : Hs w pv ps) (hws : Hs w wv ws) (hwl : ws.length ≤ 1000) (hs : Hs w lv P) (hlp : P.length ≤ 4096) (hg : Glob w) (hpg : ApartV g pv) (hwg : ApartV g wv) :
    Calls Tryd.prog 14 #[.pointer (some ⟨g, 0, none⟩), pointV s r sv, lv] w fun e w' => e = .returned (ansV (askB size s root r P) n (signH ps.length ws need n s r)) ∧ Blk w' g (witC pv wv need n (nowS (askB size s root r P) s size) (nowR (askB size s root r P) r root)) 46 ∧ But g w w' := by
  unfold askB
  by_cases h4 : 400 < s
  · rw [decide_eq_false (show ¬ s ≤ 400 by omega), Bool.false_and]
    refine (refask_great g pv wv ps ws need n size s root r sv lv P w hw hps hws hwl hs hlp hg hpg hwg h4).mono ?_
    rintro e w' ⟨rfl, hb⟩
    exact ⟨rfl, hw.below hb hw.lt, But.of hb⟩
  · rw [decide_eq_true (show s ≤ 400 by omega), Bool.true_and]
    cases hk : begR size s root r P with
    | false =>
      refine (refask_not g pv wv ps ws need n size s root r sv lv P w hw hps hws hwl hs hlp hg hpg hwg h4 hk).mono ?_
      rintro e w' ⟨rfl, hb⟩
      exact ⟨rfl, hw.below hb hw.lt, But.of hb⟩
    | true => exact refask_yes g pv wv ps ws need n size s root r sv lv P w hw hps hws hwl hs hlp hg hpg hwg h4 hk
end Go.Proofs.YtldokkbfahobgaaDoor
