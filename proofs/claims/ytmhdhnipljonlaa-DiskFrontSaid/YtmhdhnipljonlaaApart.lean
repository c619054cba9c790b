/- Footprints that share no block. -/
import Derived.Test.YtmhdhnipljonlaaOwnN
namespace Go.Proofs.Ytmhdhnipljonlaa
open Go.RowKit
set_option linter.unusedSimpArgs false
set_option linter.unusedVariables false
def Ap (F G : List Nat) : Prop := ∀ x ∈ F, x ∉ G
theorem Ap.symm {F G : List Nat} (h : Ap F G) : Ap G F := fun x hx hF => h x hF hx
theorem Ap.nil {G : List Nat} : Ap [] G := fun x hx => by simp at hx
theorem Ap.new {F G : List Nat} {n : Nat} (hf : ∀ y ∈ F, n ≤ y) (hg : ∀ x ∈ G, x < n) : Ap F G := fun x hx hG => by have := hf x hx; have := hg x hG; omega
theorem Ap.next {F F' G : List Nat} {n : Nat} (h : Ap F G) (hf : ∀ y ∈ F', y ∈ F ∨ n ≤ y) (hg : ∀ x ∈ G, x < n) : Ap F' G := fun x hx hG => by
  rcases hf x hx with q | q
  · exact h x q hG
  · have := hg x hG; omega
end Go.Proofs.Ytmhdhnipljonlaa
