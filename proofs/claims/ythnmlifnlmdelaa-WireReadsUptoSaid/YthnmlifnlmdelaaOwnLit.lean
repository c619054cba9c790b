/- A list of the call's own just laid; its forms. -/
import Derived.Test.YthnmlifnlmdelaaOwnSet
namespace Go.Proofs.Ythnmlifnlmdelaa
open Go.RowKit
set_option linter.unusedSimpArgs false
set_option linter.unusedVariables false
theorem Own.lit {α : Type} {c : α → Value} {w : World} {base : Nat} (l : List α) {C : Array Value} {e : TypeId} {g n k : Nat} (hb : base ≤ w.heap.size) (hg : g = w.heap.size) (hC : C = (l.map c).toArray) (hn : n = l.length) (hk : k = n) (hm : k ≤ maxLen) :
    Own c base e (w.alloc (.cells C e)) (.slice (some ⟨g, 0, none⟩) n k) l := by
  subst hg; subst hC; subst hn; subst hk
  exact ⟨by simp, .inr ⟨_, _, _, rfl, hb, heap_alloc_new w _, Nat.le_refl _, hm, by simp, by simp [List.take_of_length_le]⟩⟩
theorem Own.room {α : Type} {c : α → Value} {w : World} {base : Nat} {C : Array Value} {e : TypeId} {g k : Nat} (hb : base ≤ w.heap.size) (hg : g = w.heap.size) (hC : C.size = k) (hm : k ≤ maxLen) :
    Own c base e (w.alloc (.cells C e)) (.slice (some ⟨g, 0, none⟩) 0 k) ([] : List α) := by
  subst hg
  exact World.ownsRow_made w C k hb hm (by omega)
theorem Own.nil {α : Type} {c : α → Value} (base : Nat) (e : TypeId) (w : World) : Own c base e w (.slice none 0 0) ([] : List α) := World.ownsRow_nil _ _ _ _
end Go.Proofs.Ythnmlifnlmdelaa
