/- A table as a list of rows by rising keys: the plain law. -/
import Derived.Test.YtmhdhnipljonlaaBase
namespace Go.Proofs.Ytmhdhnipljonlaa
open Go.RowKit
set_option linter.unusedSimpArgs false
set_option linter.unusedVariables false
set_option linter.unusedSectionVars false
/-- An order of keys. -/
structure KOrd {κ : Type} (lt : κ → κ → Bool) : Prop where
  irr : ∀ a, lt a a = false
  trans : ∀ a b c, lt a b = true → lt b c = true → lt a c = true
  tot : ∀ a b, lt a b = false → lt b a = false → a = b
section
variable {κ ν : Type} [Inhabited κ] [Inhabited ν] [DecidableEq κ] {lt : κ → κ → Bool}
def below (lt : κ → κ → Bool) (l : List (κ × ν)) (k : κ) : Nat := (l.takeWhile fun p => lt p.1 k).length
def isIn (lt : κ → κ → Bool) (l : List (κ × ν)) (k : κ) : Bool := decide (below lt l k < l.length ∧ (nth l (below lt l k)).1 = k)
def tSet (lt : κ → κ → Bool) (l : List (κ × ν)) (k : κ) (v : ν) : List (κ × ν) := l.take (below lt l k) ++ (k, v) :: l.drop (below lt l k + if isIn lt l k then 1 else 0)
def tDel (lt : κ → κ → Bool) (l : List (κ × ν)) (k : κ) : List (κ × ν) := if isIn lt l k then l.take (below lt l k) ++ l.drop (below lt l k + 1) else l
def Rising (lt : κ → κ → Bool) (l : List (κ × ν)) : Prop := ∀ i j, i < j → j < l.length → lt (nth l i).1 (nth l j).1 = true
theorem below_le (l : List (κ × ν)) (k : κ) : below lt l k ≤ l.length := by
  unfold below
  induction l with
  | nil => simp
  | cons p l ih => rw [List.takeWhile_cons]; split <;> simp; exact ih
theorem below_lt : ∀ (l : List (κ × ν)) (k : κ) (j : Nat), j < below lt l k → lt (nth l j).1 k = true
  | [], k, j, h => by simp [below] at h
  | p :: l, k, j, h => by
    unfold below at h
    rw [List.takeWhile_cons] at h
    split at h
    · rename_i hp
      cases j with
      | zero => rw [nth_cons_zero]; exact hp
      | succ j => rw [nth_cons_succ]; exact below_lt l k j (by simpa [below] using h)
    · simp at h
theorem below_ge : ∀ (l : List (κ × ν)) (k : κ), below lt l k < l.length → lt (nth l (below lt l k)).1 k = false
  | [], k, h => by simp [below] at h
  | p :: l, k, h => by
    cases hp : lt p.1 k with
    | false =>
      have : below lt (p :: l) k = 0 := by unfold below; rw [List.takeWhile_cons]; simp [hp]
      rw [this, nth_cons_zero]; exact hp
    | true =>
      have e : below lt (p :: l) k = below lt l k + 1 := by unfold below; rw [List.takeWhile_cons]; simp [hp]
      rw [e, nth_cons_succ]
      exact below_ge l k (by rw [e] at h; simpa using h)
theorem below_eq (l : List (κ × ν)) (k : κ) (i : Nat) (h1 : i ≤ l.length) (h2 : ∀ j, j < i → lt (nth l j).1 k = true) (h3 : i < l.length → lt (nth l i).1 k = false) : below lt l k = i := by
  rcases Nat.lt_trichotomy (below lt l k) i with h | h | h
  · have a := below_ge l k (Nat.lt_of_lt_of_le h h1)
    rw [h2 _ h] at a; exact absurd a (by simp)
  · exact h
  · have a := below_lt l k i h
    have b := h3 (Nat.lt_of_lt_of_le h (below_le l k))
    rw [a] at b; exact absurd b (by simp)
def tGet (lt : κ → κ → Bool) (z : ν) (l : List (κ × ν)) (k : κ) : ν × Bool := if isIn lt l k then ((nth l (below lt l k)).2, true) else (z, false)
def tAt (zk : κ) (zv : ν) (l : List (κ × ν)) (i : Int) : κ × ν × Bool := if 0 ≤ i ∧ i < l.length then ((nth l i.toNat).1, (nth l i.toNat).2, true) else (zk, zv, false)
theorem tSet_len (l : List (κ × ν)) (k : κ) (v : ν) : (tSet lt l k v).length ≤ l.length + 1 := by
  unfold tSet
  have := below_le (lt := lt) l k
  rw [List.length_append, List.length_take, List.length_cons, List.length_drop]
  split <;> omega
theorem tDel_len (l : List (κ × ν)) (k : κ) : (tDel lt l k).length ≤ l.length := by
  unfold tDel
  split
  · rw [List.length_append, List.length_take, List.length_drop]; omega
  · exact Nat.le_refl _
theorem tSet_in (l : List (κ × ν)) (k : κ) (v : ν) (h : isIn lt l k = true) : tSet lt l k v = l.set (below lt l k) ((nth l (below lt l k)).1, v) := by
  unfold tSet
  rw [h]
  unfold isIn at h
  obtain ⟨h1, h2⟩ := of_decide_eq_true h
  rw [h2, List.set_eq_take_append_cons_drop, if_pos h1]
  rfl
theorem Rising.mono (ho : KOrd lt) {l : List (κ × ν)} (h : Rising lt l) (k : κ) (i j : Nat) (hij : i ≤ j) (hj : j < l.length) (hl : lt (nth l j).1 k = true) : lt (nth l i).1 k = true := by
  rcases Nat.lt_or_eq_of_le hij with e | e
  · exact ho.trans _ _ _ (h i j e hj) hl
  · rw [e]; exact hl
theorem Rising.nil : Rising lt ([] : List (κ × ν)) := fun i j _ h => by simp at h
theorem Rising.take {l : List (κ × ν)} (h : Rising lt l) (n : Nat) : Rising lt (l.take n) := fun i j hij hj => by
  rw [List.length_take] at hj
  rw [nth_take l n i (by omega), nth_take l n j (by omega)]; exact h i j hij (by omega)
theorem Rising.drop {l : List (κ × ν)} (h : Rising lt l) (n : Nat) : Rising lt (l.drop n) := fun i j hij hj => by
  rw [List.length_drop] at hj
  rw [nth_drop, nth_drop]; exact h _ _ (by omega) (by omega)
theorem Rising.app {l m : List (κ × ν)} (hl : Rising lt l) (hm : Rising lt m) (hlm : ∀ i j, i < l.length → j < m.length → lt (nth l i).1 (nth m j).1 = true) : Rising lt (l ++ m) := fun i j hij hj => by
  rw [List.length_append] at hj
  by_cases h1 : j < l.length
  · rw [nth_append_left _ _ _ h1, nth_append_left _ _ _ (by omega)]; exact hl i j hij h1
  · rw [nth_append_right _ _ j (by omega)]
    by_cases h2 : i < l.length
    · rw [nth_append_left _ _ _ h2]; exact hlm _ _ h2 (by omega)
    · rw [nth_append_right _ _ i (by omega)]; exact hm _ _ (by omega) (by omega)
theorem Rising.one (p : κ × ν) : Rising lt [p] := fun i j hij hj => by simp at hj; omega
/-- What stands from a place on is above the key, the key's own row left out. -/
theorem above (ho : KOrd lt) {l : List (κ × ν)} (h : Rising lt l) (k : κ) (j : Nat) (hj : below lt l k + (if isIn lt l k then 1 else 0) ≤ j) (hl : j < l.length) : lt k (nth l j).1 = true := by
  have hb : below lt l k < l.length := by split at hj <;> omega
  have h1 := below_ge l k hb
  by_cases hin : isIn lt l k = true
  · rw [if_pos hin] at hj
    unfold isIn at hin
    have e := (of_decide_eq_true hin).2
    have := h (below lt l k) j (by omega) hl
    rwa [e] at this
  · rw [if_neg hin] at hj
    have hne : (nth l (below lt l k)).1 ≠ k := by
      intro e; apply hin; unfold isIn; exact decide_eq_true ⟨hb, e⟩
    have h2 : lt k (nth l (below lt l k)).1 = true := by
      cases hc : lt k (nth l (below lt l k)).1 with
      | true => rfl
      | false => exact absurd (ho.tot _ _ h1 hc) hne
    rcases Nat.lt_or_eq_of_le hj with q | q
    · exact ho.trans _ _ _ h2 (h _ _ (by simpa using q) hl)
    · rw [Nat.add_zero] at q; rw [← q]; exact h2
theorem Rising.set_ (ho : KOrd lt) {l : List (κ × ν)} (h : Rising lt l) (k : κ) (v : ν) : Rising lt (tSet lt l k v) := by
  unfold tSet
  refine (h.take _).app ?_ ?_
  · have : (k, v) :: l.drop (below lt l k + if isIn lt l k then 1 else 0) = [(k, v)] ++ l.drop (below lt l k + if isIn lt l k then 1 else 0) := rfl
    rw [this]
    refine (Rising.one _).app (h.drop _) ?_
    intro i j hi hj
    simp at hi; subst hi
    rw [List.length_drop] at hj
    rw [nth_drop]
    exact above ho h k _ (by omega) (by omega)
  · intro i j hi hj
    rw [List.length_take] at hi
    rw [nth_take _ _ _ (by omega)]
    have h1 := below_lt (lt := lt) l k i (by omega)
    cases j with
    | zero => rw [nth_cons_zero]; exact h1
    | succ j =>
      rw [nth_cons_succ, nth_drop]
      rw [List.length_cons, List.length_drop] at hj
      exact ho.trans _ _ _ h1 (above ho h k _ (by omega) (by omega))
theorem Rising.del (ho : KOrd lt) {l : List (κ × ν)} (h : Rising lt l) (k : κ) : Rising lt (tDel lt l k) := by
  unfold tDel
  split
  · refine (h.take _).app (h.drop _) ?_
    intro i j hi hj
    rw [List.length_take] at hi
    rw [List.length_drop] at hj
    rw [nth_take _ _ _ (by omega), nth_drop]
    exact h _ _ (by omega) (by omega)
  · exact h
end
theorem intOrd : KOrd (fun a b : Int => decide (a < b)) := ⟨fun a => by simp, fun a b c => by simp; omega, fun a b => by simp; omega⟩
end Go.Proofs.Ytmhdhnipljonlaa
