/- What the book's Roomy gives. (The same two laws stand in SumLaws; seats that have SumLaws don't take this one.) -/
import Derived.Test.YtmhdhnipljonlaaBookByte
namespace Go.Proofs.Ytmhdhnipljonlaa
open Go.RowKit
set_option linter.unusedSimpArgs false
set_option linter.unusedVariables false
theorem Roomed.rd {α : Type} [Inhabited α] {c : α → Value} {e : TypeId} {w w' : World} {v : Value} {l : List α} {m : α} (h : Roomed c e w w' v l m) (hl : l.length + 80 ≤ maxLen) : Rd c w' v (l ++ List.replicate 80 m) := by
  obtain ⟨rfl, hb, _⟩ := h
  rw [← List.append_nil ((l ++ List.replicate 80 m).map c)] at hb
  exact hb.rd_pre _ _ _ (by simp) (by omega) hl
theorem Roomed.pre {α : Type} [Inhabited α] {c : α → Value} {e : TypeId} {w w' : World} {v : Value} {l : List α} {m : α} (h : Roomed c e w w' v l m) (hl : l.length + 80 ≤ maxLen) : Rd c w' (.slice (some ⟨w.heap.size, 0, none⟩) l.length (l.length + 80)) l := by
  have h1 := h.rd hl
  obtain ⟨rfl, hb, _⟩ := h
  have h2 := h1.take l.length (by simp)
  simpa using h2
end Go.Proofs.Ytmhdhnipljonlaa
