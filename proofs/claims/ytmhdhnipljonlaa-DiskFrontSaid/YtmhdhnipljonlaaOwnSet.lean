/- A store into a list of the call's own. -/
import Derived.Test.YtmhdhnipljonlaaBase
namespace Go.Proofs.Ytmhdhnipljonlaa
open Go.RowKit
set_option linter.unusedSimpArgs false
set_option linter.unusedVariables false
theorem Own.set_ {α : Type} {c : α → Value} {base : Nat} {e : TypeId} {w : World} {g n cap : Nat} {l : List α} (h : Own c base e w (.slice (some ⟨g, 0, none⟩) n cap) l) (k : Nat) (hk : k < l.length) (y : α) :
    Own c base e (w.setCell ⟨g, k, none⟩ (c y)) (.slice (some ⟨g, 0, none⟩) n cap) (l.set k y) := by
  obtain ⟨h1, h2⟩ := h
  rcases h2 with ⟨he, _⟩ | ⟨g', cap', cur, he, hb, hg, hc, hm, hs, ht⟩
  · simp at he
  · injection he with e1 e2 e3
    injection e1 with e1; injection e1 with e1
    subst e1; subst e2; subst e3
    refine ⟨by simp, .inr ⟨g, cap, cur.setIfInBounds k (c y), by simp, hb, ?_, by simpa using hc, hm, by simpa using hs, ?_⟩⟩
    · exact heap_setCell_same w g k cur e (c y) hg
    · rw [List.length_set, Array.toList_setIfInBounds, List.take_set, ht, List.map_set]
theorem Own.form0 {α : Type} {c : α → Value} {base : Nat} {e : TypeId} {w : World} {v : Value} {l : List α} (h : Own c base e w v l) (hne : l ≠ []) : ∃ g cap, v = .slice (some ⟨g, 0, none⟩) l.length cap ∧ base ≤ g ∧ l.length ≤ cap ∧ cap ≤ maxLen := by
  obtain ⟨g, k, ys, h1, h2, h3, h4, h5⟩ := h.form hne
  exact ⟨g, k, h1, h2, h4, h5⟩
theorem Own.cell {α : Type} [Inhabited α] {c : α → Value} {base : Nat} {e : TypeId} {w : World} {g n cap : Nat} {l : List α} (h : Own c base e w (.slice (some ⟨g, 0, none⟩) n cap) l) (k : Nat) (hk : k < l.length) : w.cell? ⟨g, k, none⟩ = some (c (nth l k)) := by
  obtain ⟨a', cap', he, _, _, h3⟩ := h.rd
  injection he with e1 e2 e3
  obtain ⟨b, off, hb, hc⟩ := h3 (fun q => by rw [q] at hk; simp at hk)
  rw [← e1] at hb; injection hb with hb; injection hb with hb1 hb2
  subst hb1; subst hb2
  have := hc k hk
  rwa [Nat.zero_add] at this
theorem Own.frozen {α : Type} [Inhabited α] {c : α → Value} {base : Nat} {e : TypeId} {w : World} {g n cap : Nat} {l : List α} (h : Own c base e w (.slice (some ⟨g, 0, none⟩) n cap) l) (k : Nat) : w.frozen? ⟨g, k, none⟩ = false := by
  obtain ⟨h1, h2⟩ := h
  rcases h2 with ⟨he, _⟩ | ⟨g', cap', cur, he, hb, hg, hc, hm, hs, ht⟩
  · simp at he
  · injection he with e1 e2 e3
    injection e1 with e1; injection e1 with e1
    subst e1
    exact frozen_of_row w g k cur e hg
end Go.Proofs.Ytmhdhnipljonlaa
