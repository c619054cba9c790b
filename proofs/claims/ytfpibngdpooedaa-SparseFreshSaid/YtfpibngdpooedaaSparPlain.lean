/- A sparse set as a list of rows: the plain law. -/
import Derived.Test.YtfpibngdpooedaaSparLaw
namespace Go.Proofs.Ytfpibngdpooedaa
open Go.RowKit
set_option linter.unusedSimpArgs false
set_option linter.unusedVariables false
set_option linter.unusedSectionVars false
section
variable {α : Type} [Inhabited α]
def SpInv (pl : List Nat) (it : List (Nat × α)) : Prop := ∀ k, k < it.length → (nth it k).1 < pl.length ∧ nth pl (nth it k).1 = k
def rHas (it : List (Nat × α)) (i : Int) : Bool := it.any fun p => (p.1 : Int) == i
def rGet (it : List (Nat × α)) (z : α) (i : Int) : α × Bool := match it.find? (fun p => (p.1 : Int) == i) with
  | some p => (p.2, true)
  | none => (z, false)
def rCan (n : Nat) (it : List (Nat × α)) (i : Int) : Bool := decide (0 ≤ i ∧ i < n) && !rHas it i
def rAdd (n : Nat) (it : List (Nat × α)) (i : Int) (x : α) : List (Nat × α) := if rCan n it i then it ++ [(i.toNat, x)] else it
def rAt (it : List (Nat × α)) (z : α) (k : Int) : Int × α × Bool := if 0 ≤ k ∧ k < it.length then (((nth it k.toNat).1 : Int), (nth it k.toNat).2, true) else (0, z, false)
theorem rHas_iff (it : List (Nat × α)) (i : Int) : rHas it i = true ↔ ∃ k, k < it.length ∧ ((nth it k).1 : Int) = i := by
  unfold rHas
  rw [List.any_eq_true]
  constructor
  · rintro ⟨p, hp, h⟩
    obtain ⟨k, hk, rfl⟩ := List.mem_iff_getElem.1 hp
    exact ⟨k, hk, by rw [nth_get it k hk]; simpa using h⟩
  · rintro ⟨k, hk, h⟩
    exact ⟨nth it k, by rw [nth_get it k hk]; exact List.getElem_mem hk, by simpa using h⟩
theorem sp_has {pl : List Nat} {it : List (Nat × α)} (h : SpInv pl it) (i : Int) : spHasI pl it i = rHas it i := by
  rw [Bool.eq_iff_iff, rHas_iff]
  unfold spHasI spHas
  rw [Bool.and_eq_true, decide_eq_true_iff, decide_eq_true_iff]
  constructor
  · rintro ⟨h0, h1, h2, h3⟩
    exact ⟨_, h2, by rw [h3]; omega⟩
  · rintro ⟨k, hk, rfl⟩
    obtain ⟨h1, h2⟩ := h k hk
    exact ⟨by omega, by simpa using h1, by simpa [h2] using hk, by simp [h2]⟩
theorem rGet_no {it : List (Nat × α)} {i : Int} (z : α) (h : rHas it i = false) : rGet it z i = (z, false) := by
  unfold rGet
  have : it.find? (fun p => (p.1 : Int) == i) = none := by
    rw [List.find?_eq_none]; intro p hp hq
    unfold rHas at h
    rw [List.any_eq_false] at h
    exact h p hp hq
  rw [this]
theorem sp_get {pl : List Nat} {it : List (Nat × α)} (h : SpInv pl it) (z : α) (i : Nat) (hh : spHas pl it i = true) : rGet it z (i : Int) = ((nth it (nth pl i)).2, true) := by
  unfold rGet
  cases hf : it.find? (fun p => (p.1 : Int) == (i : Int)) with
  | none =>
    exfalso
    rw [List.find?_eq_none] at hf
    unfold spHas at hh
    obtain ⟨h1, h2, h3⟩ := of_decide_eq_true hh
    exact hf (nth it (nth pl i)) (by rw [nth_get it _ h2]; exact List.getElem_mem h2) (by simp [h3])
  | some p =>
    have h1 := List.find?_some hf
    obtain ⟨k, hk, rfl⟩ := List.mem_iff_getElem.1 (List.mem_of_find?_eq_some hf)
    have h3 : (it[k]).1 = i := by
      have : ((it[k]).1 : Int) = i := by simpa using h1
      omega
    have h4 := (h k hk).2
    rw [nth_get it k hk, h3] at h4
    rw [h4, nth_get it k hk]
theorem nth_set (l : List Nat) (i v j : Nat) (hi : i < l.length) : nth (l.set i v) j = if j = i then v else nth l j := by
  unfold nth
  simp only [List.getD_eq_getElem?_getD, List.getElem?_set]
  by_cases e : i = j
  · subst e; simp [hi]
  · have e' : ¬ j = i := fun q => e q.symm
    simp [e, e']
theorem spInv_nil (pl : List Nat) : SpInv pl ([] : List (Nat × α)) := fun k h => by simp at h
theorem spInv_add {pl : List Nat} {it : List (Nat × α)} (h : SpInv pl it) (i : Nat) (x : α) (hi : i < pl.length) (hn : spHas pl it i = false) : SpInv (pl.set i it.length) (it ++ [(i, x)]) := by
  have hne : ∀ k, k < it.length → (nth it k).1 ≠ i := by
    intro k hk e
    obtain ⟨h1, h2⟩ := h k hk
    unfold spHas at hn
    have := of_decide_eq_false hn
    rw [e] at h2
    exact this ⟨hi, by rw [h2]; exact hk, by rw [h2]; exact e⟩
  intro k hk
  rw [List.length_set, nth_set _ _ _ _ hi]
  rw [List.length_append, List.length_singleton] at hk
  by_cases hlt : k < it.length
  · rw [nth_append_left _ _ _ hlt]
    obtain ⟨h1, h2⟩ := h k hlt
    exact ⟨h1, by rw [if_neg (hne k hlt)]; exact h2⟩
  · obtain rfl : k = it.length := by omega
    rw [nth_append_right _ _ _ (Nat.le_refl _), Nat.sub_self]
    exact ⟨hi, by simp [nth]⟩
theorem rAt_ok (it : List (Nat × α)) (z : α) (k : Nat) (h : k < it.length) : rAt it z (k : Int) = (((nth it k).1 : Int), (nth it k).2, true) := by
  unfold rAt; rw [if_pos (by omega)]; simp
theorem rAt_no (it : List (Nat × α)) (z : α) (k : Int) (h : k < 0 ∨ it.length ≤ k) : rAt it z k = (0, z, false) := by
  unfold rAt; rw [if_neg (by omega)]
theorem rAdd_len (n : Nat) (it : List (Nat × α)) (i : Int) (x : α) : (rAdd n it i x).length ≤ it.length + 1 := by
  unfold rAdd; split <;> simp
end
end Go.Proofs.Ytfpibngdpooedaa
