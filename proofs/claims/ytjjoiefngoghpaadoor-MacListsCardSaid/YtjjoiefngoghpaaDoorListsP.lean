/- Plain law: the text of a domain and parts tells both. Condition: each part has less than 2^32 bytes. -/
import Derived.Test.YtjjoiefngoghpaaDoorRefH
namespace Go.Proofs.YtjjoiefngoghpaaDoor
open Go.RowKit

theorem rowN_four (n : Nat) : rowN n 4 = [UInt8.ofNat (n / 256 ^ 3), UInt8.ofNat (n / 256 ^ 2), UInt8.ofNat (n / 256 ^ 1), UInt8.ofNat (n / 256 ^ 0)] := rfl
theorem ofNat_eq {x y : Nat} (h : UInt8.ofNat x = UInt8.ofNat y) : x % 256 = y % 256 := by
  have := congrArg UInt8.toNat h
  rw [UInt8.toNat_ofNat', UInt8.toNat_ofNat'] at this
  exact this
theorem rowN_inj (n m : Nat) (hn : n < 4294967296) (hm : m < 4294967296) (h : rowN n 4 = rowN m 4) : n = m := by
  rw [rowN_four, rowN_four] at h
  injection h with h0 h
  injection h with h1 h
  injection h with h2 h
  injection h with h3 _
  have e0 := ofNat_eq h0
  have e1 := ofNat_eq h1
  have e2 := ofNat_eq h2
  have e3 := ofNat_eq h3
  omega
theorem joinN_inj : ∀ (a b : List (List UInt8)), (∀ l ∈ a, l.length < 4294967296) → (∀ l ∈ b, l.length < 4294967296) → joinN a = joinN b → a = b
  | [], [], _, _, _ => rfl
  | [], m :: b, _, _, h => by
    have := congrArg List.length h
    simp [joinN, partN, rowN_len] at this
    omega
  | l :: a, [], _, _, h => by
    have := congrArg List.length h
    simp [joinN, partN, rowN_len] at this
  | l :: a, m :: b, ha, hb, h => by
    have h' : rowN l.length 4 ++ (l ++ joinN a) = rowN m.length 4 ++ (m ++ joinN b) := by simpa [joinN, partN] using h
    obtain ⟨h1, h2⟩ := List.append_inj h' (by rw [rowN_len, rowN_len])
    have hl := rowN_inj _ _ (ha l List.mem_cons_self) (hb m List.mem_cons_self) h1
    obtain ⟨h3, h4⟩ := List.append_inj h2 hl
    rw [h3, joinN_inj a b (fun l hl => ha l (List.mem_cons_of_mem _ hl)) (fun l hl => hb l (List.mem_cons_of_mem _ hl)) h4]
theorem domB_nat (d : UInt8) : domB (d.toNat : Int) = d := by
  apply UInt8.toNat_inj.1
  have := domB_val (d.toNat : Int)
  have := d.toNat_lt
  omega
theorem textN_same (d e : UInt8) (a b : List (List UInt8)) (ha : ∀ l ∈ a, l.length < 4294967296) (hb : ∀ l ∈ b, l.length < 4294967296) :
    (textN (d.toNat : Int) a == textN (e.toNat : Int) b) = (d == e && a == b) := by
  unfold textN
  rw [domB_nat, domB_nat]
  by_cases h : d = e ∧ a = b
  · obtain ⟨rfl, rfl⟩ := h
    simp
  · have h1 : (d == e && a == b) = false := by
      rw [Bool.and_eq_false_iff, beq_eq_false_iff_ne, beq_eq_false_iff_ne]
      by_cases hd : d = e
      · exact .inr fun hab => h ⟨hd, hab⟩
      · exact .inl hd
    rw [h1, beq_eq_false_iff_ne]
    intro hc
    rw [List.singleton_append, List.singleton_append] at hc
    injection hc with hd hj
    exact h ⟨hd, joinN_inj a b ha hb hj⟩
end Go.Proofs.YtjjoiefngoghpaaDoor
