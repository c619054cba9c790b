/- Slices whose elements have several cells. -/
import Derived.Test.YtmhdhnipljonlaaBase
namespace Go.Proofs.Ytmhdhnipljonlaa
open Go.RowKit
set_option linter.unusedSimpArgs false
set_option linter.unusedVariables false

/-- A list that a slice's value shows in a world, an element so many cells. -/
def RdN {α : Type} [Inhabited α] (sz : Nat) (c : α → List Value) (w : World) (v : Value) (l : List α) : Prop :=
  ∃ a cap, v = .slice a l.length cap ∧ l.length ≤ cap ∧ cap ≤ maxLen ∧
    (l ≠ [] → ∃ b off, a = some ⟨b, off, none⟩ ∧ ∀ j, j < l.length → ∀ i, i < sz → w.cell? ⟨b, off + (j * sz + i), none⟩ = (c (nth l j))[i]?)
theorem RdN.upd {α : Type} [Inhabited α] {sz : Nat} {c : α → List Value} {w w' : World} {v : Value} {l : List α} (hsz : ∀ x, (c x).length = sz) (h : RdN sz c w v l) {S : List Nat} (hu : Upd S w w') (hs : ∀ x ∈ blk v, x ∉ S) : RdN sz c w' v l := by
  obtain ⟨a, cap, rfl, h1, h2, h3⟩ := h
  refine ⟨a, cap, rfl, h1, h2, fun hne => ?_⟩
  obtain ⟨b, off, rfl, hc⟩ := h3 hne
  refine ⟨b, off, rfl, fun j hj i hi => ?_⟩
  have hq := hc j hj i hi
  have hlt : i < (c (nth l j)).length := by rw [hsz]; exact hi
  rw [List.getElem?_eq_getElem hlt] at hq ⊢
  exact hu.cell hq (hs b (by simp [blk]))
theorem RdN.upd0 {α : Type} [Inhabited α] {sz : Nat} {c : α → List Value} {w w' : World} {v : Value} {l : List α} (hsz : ∀ x, (c x).length = sz) (h : RdN sz c w v l) (hu : Upd [] w w') : RdN sz c w' v l := h.upd hsz hu (by simp)

theorem Rd.at_ {α : Type} [Inhabited α] {c : α → Value} {w : World} {a : Option Addr} {n cap : Nat} {l : List α} (h : Rd c w (.slice a n cap) l) (k : Nat) (hk : k < l.length) :
    ∃ b off, a = some ⟨b, off, none⟩ ∧ w.cell? ⟨b, off + k, none⟩ = some (c (nth l k)) := by
  obtain ⟨a', cap', he, _, _, h3⟩ := h
  injection he with e1 e2 e3; subst e1
  obtain ⟨b, off, hb, hc⟩ := h3 (fun q => by rw [q] at hk; simp at hk)
  exact ⟨b, off, hb, hc k hk⟩
end Go.Proofs.Ytmhdhnipljonlaa
