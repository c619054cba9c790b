/- A store into one cell of a row of several cells, the list the call's own. -/
import Derived.Test.YtmhdhnipljonlaaOwnN
import Derived.Test.YtmhdhnipljonlaaOwnSet
namespace Go.Proofs.Ytmhdhnipljonlaa
open Go.RowKit
set_option linter.unusedSimpArgs false
set_option linter.unusedVariables false
theorem flatMap_set {α : Type} {sz : Nat} {c : α → List Value} (hsz : ∀ x, (c x).length = sz) (i : Nat) (hi : i < sz) (u : Value) (y : α) : ∀ (l : List α) (k : Nat) (hk : k < l.length), c y = (c l[k]).set i u → (l.set k y).flatMap c = (l.flatMap c).set (k * sz + i) u
  | x :: l, 0, _, h => by
    simp only [List.set_cons_zero, List.flatMap_cons, Nat.zero_mul, Nat.zero_add]
    rw [List.set_append_left _ _ (by rw [hsz]; exact hi)]
    simp only [List.getElem_cons_zero] at h
    rw [h]
  | x :: l, k + 1, hk, h => by
    simp only [List.set_cons_succ, List.flatMap_cons]
    have e : (k + 1) * sz + i = (c x).length + (k * sz + i) := by rw [hsz, Nat.add_mul]; omega
    rw [e, List.set_append_right _ _ (by omega), Nat.add_sub_cancel_left]
    rw [flatMap_set hsz i hi u y l k (by simpa using hk) (by simpa using h)]
theorem OwnN.set_ {α : Type} {sz : Nat} {c : α → List Value} {base : Nat} {e : TypeId} {w : World} {g n cap : Nat} {l : List α} (hsz : ∀ x, (c x).length = sz) (h : OwnN sz c base e w (.slice (some ⟨g, 0, none⟩) n cap) l) (k i : Nat) (hk : k < l.length) (hi : i < sz) (u : Value) (y : α) (hy : c y = (c l[k]).set i u) :
    OwnN sz c base e (w.setCell ⟨g, k * sz + i, none⟩ u) (.slice (some ⟨g, 0, none⟩) n cap) (l.set k y) := by
  obtain ⟨h1, h2⟩ := h
  rcases h2 with ⟨he, _⟩ | ⟨g', cap', cur, he, hb, hg, hc, hm, hs, ht⟩
  · simp at he
  · injection he with e1 e2 e3
    injection e1 with e1; injection e1 with e1
    subst e1; subst e2; subst e3
    refine ⟨by rw [flatMap_len hsz], .inr ⟨g, cap, cur.setIfInBounds (k * sz + i) u, by simp, hb, ?_, by simpa using hc, hm, by simpa using hs, ?_⟩⟩
    · exact heap_setCell_same w g (k * sz + i) cur e u hg
    · rw [List.length_set, Array.toList_setIfInBounds, List.take_set, ht, flatMap_set hsz i hi u y l k hk hy]
end Go.Proofs.Ytmhdhnipljonlaa
