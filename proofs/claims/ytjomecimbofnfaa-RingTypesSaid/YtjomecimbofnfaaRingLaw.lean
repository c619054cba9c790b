/- A ring as a list: no program here. -/
import Derived.Test.YtjomecimbofnfaaOwnN
import Derived.IntWalk
namespace Go.Proofs.Ytjomecimbofnfaa
open Go.RowKit
set_option linter.unusedSimpArgs false
set_option linter.unusedVariables false
set_option linter.unusedSectionVars false
abbrev nv (k : Nat) : Value := .int .i64 (k : Int)
section
variable {α : Type} [Inhabited α]
/-- What the places of a ring hold. -/
structure RInv (room : Nat) (arr : List α) (first : Nat) (q : List α) : Prop where
  len : arr.length = room
  le : q.length ≤ room
  lt : first < room
  at_ : ∀ i, i < q.length → nth arr ((first + i) % room) = nth q i
theorem nth_setG (l : List α) (i j : Nat) (v : α) (hi : i < l.length) : nth (l.set i v) j = if j = i then v else nth l j := by
  unfold nth
  simp only [List.getD_eq_getElem?_getD, List.getElem?_set]
  by_cases e : i = j
  · subst e; simp [hi]
  · have e' : ¬ j = i := fun q => e q.symm
    simp [e, e']
theorem mod_ne (f i j m : Nat) (hi : i < m) (hj : j < m) (hne : i ≠ j) : (f + i) % m ≠ (f + j) % m := by
  intro h
  have h1 := Nat.div_add_mod (f + i) m
  have h2 := Nat.div_add_mod (f + j) m
  rw [h] at h1
  have h3 : m * ((f + i) / m) + j = m * ((f + j) / m) + i := by omega
  rcases Nat.lt_trichotomy ((f + i) / m) ((f + j) / m) with q | q | q
  · have := Nat.mul_le_mul_left m (show (f + i) / m + 1 ≤ (f + j) / m from q)
    rw [Nat.mul_add, Nat.mul_one] at this; omega
  · rw [q] at h3; omega
  · have := Nat.mul_le_mul_left m (show (f + j) / m + 1 ≤ (f + i) / m from q)
    rw [Nat.mul_add, Nat.mul_one] at this; omega
theorem RInv.put {room : Nat} {arr : List α} {first : Nat} {q : List α} (h : RInv room arr first q) (x : α) (hq : q.length < room) : RInv room (arr.set ((first + q.length) % room) x) first (q ++ [x]) := by
  obtain ⟨rfl, hle, hlt, hat⟩ := h
  have hm := Nat.mod_lt (first + q.length) (show 0 < arr.length by omega)
  refine ⟨by simp, by simp; omega, hlt, fun i hi => ?_⟩
  rw [nth_setG _ _ _ _ hm]
  rw [List.length_append, List.length_singleton] at hi
  by_cases hlt : i < q.length
  · rw [if_neg (mod_ne first i q.length arr.length (by omega) hq (by omega)), nth_append_left _ _ _ hlt]; exact hat i hlt
  · obtain rfl : i = q.length := by omega
    rw [if_pos rfl, nth_append_right _ _ _ (Nat.le_refl _)]; simp [nth]
theorem RInv.drop1 {room : Nat} {arr : List α} {first : Nat} {z : α} {q : List α} (h : RInv room arr first q) (hne : 0 < q.length) : RInv room (arr.set first z) ((first + 1) % room) (q.drop 1) := by
  obtain ⟨rfl, hle, hl, hat⟩ := h
  refine ⟨by simp, by simp; omega, Nat.mod_lt _ (by omega), fun i hi => ?_⟩
  rw [List.length_drop] at hi
  have h1 := hat (1 + i) (by omega)
  have e : ((first + 1) % arr.length + i) % arr.length = (first + (1 + i)) % arr.length := by rw [Nat.mod_add_mod, Nat.add_assoc]
  rw [nth_drop, e, nth_setG _ _ _ _ hl, if_neg, h1]
  intro he
  have h2 : first % arr.length = first := Nat.mod_eq_of_lt hl
  have h3 := mod_ne first (1 + i) 0 arr.length (by omega) (by omega) (by omega)
  exact h3 (by rw [he]; exact h2.symm)
theorem RInv.new (n : Nat) (z : α) (h : 0 < n) : RInv n (List.replicate n z) 0 [] := ⟨by simp, by simp, h, fun i hi => by simp at hi⟩
theorem mod_fact (first n m : Nat) (h : first + n ≤ 100000) (hm : m ≤ 100000) (h0 : 0 < m) : IntKind.i64.wrap ((first : Int) + (n : Int)) = (first : Int) + (n : Int) ∧ ((first : Int) + (n : Int)).tmod (m : Int) = (((first + n) % m : Nat) : Int) := by
  constructor
  · exact IntWalk.i64_in _ (by omega)
  · rw [← Int.natCast_add, Int.ofNat_tmod]
theorem mod_fact1 (first m : Nat) (h : first + 1 ≤ 100000) (hm : m ≤ 100000) (h0 : 0 < m) : IntKind.i64.wrap ((first : Int) + 1) = (first : Int) + 1 ∧ ((first : Int) + 1).tmod (m : Int) = (((first + 1) % m : Nat) : Int) := mod_fact first 1 m h hm h0
def qAt (q : List α) (z : α) (i : Int) : α × Bool := if 0 ≤ i ∧ i < q.length then (nth q i.toNat, true) else (z, false)
def qN (q : List α) (n : Int) : Nat := min (max n 0).toNat q.length
theorem qAt_ok (q : List α) (z : α) (i : Nat) (h : i < q.length) : qAt q z (i : Int) = (nth q i, true) := by unfold qAt; rw [if_pos (by omega)]; simp
theorem qAt_no (q : List α) (z : α) (i : Int) (h : i < 0 ∨ q.length ≤ i) : qAt q z i = (z, false) := by unfold qAt; rw [if_neg (by omega)]
end
end Go.Proofs.Ytjomecimbofnfaa
