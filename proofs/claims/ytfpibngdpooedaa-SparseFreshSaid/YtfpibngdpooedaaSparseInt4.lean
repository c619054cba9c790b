/- Chapter 5's functions at int, with the answers given. -/
import Derived.Test.YtfpibngdpooedaaSparseInt3
namespace Go.Proofs.Ytfpibngdpooedaa
open Go.RowKit
set_option linter.unusedSimpArgs false
set_option linter.unusedVariables false
section
variable {base : Nat} {g n : Nat} {F : List Nat} {it : List (Nat × Int)} {w w' : World}
theorem RowsInt.next {W : World} (hu : Upd [] W w) (hs : RowsInt W.heap.size w g F n it) (h : Upd F w w') : Upd [] W w' := hu.trans h (by simp) (fun x hx => .inr (hs.lt x hx).1)
theorem rNewInt_eq (w : World) (n : Nat) (m : Int) (hm : m = n) (h : n ≤ 4096) :
    Calls Try.prog 19 #[.int .i64 m] w fun e w' => ∃ g F, e = .returned (.tuple #[.pointer (some ⟨g, 0, none⟩), .int .i64 0]) ∧ RowsInt w.heap.size w' g F n [] ∧ Upd [] w w' := by
  subst hm; exact rNewInt_ok w n h
theorem rAddInt_eq (w : World) (i : Int) (x : Int) (r : Bool) (it' : List (Nat × Int)) (hi : I64 i) (hs : RowsInt base w g F n it) (hit : it.length ≤ 5000) (h : rCan n it i = r ∧ rAdd n it i x = it') :
    Calls Try.prog 25 #[.pointer (some ⟨g, 0, none⟩), .int .i64 i, iv x] w fun e w' => e = .returned (.bool r) ∧
      ∃ F', RowsInt base w' g F' n it' ∧ Upd F w w' ∧ (∀ y ∈ F', y ∈ F ∨ w.heap.size ≤ y) := by
  have := rAddInt_any w i x hi hs hit
  rwa [h.1, h.2] at this
theorem rHasInt_eq (w : World) (i : Int) (r : Bool) (hi : I64 i) (hs : RowsInt base w g F n it) (hit : it.length ≤ 5000) (h : rHas it i = r) :
    Calls Try.prog 27 #[.pointer (some ⟨g, 0, none⟩), .int .i64 i] w fun e w' => e = .returned (.bool r) ∧ w = w' := by
  have := rHasInt_any w i hi hs hit
  rwa [h] at this
theorem rGetInt_eq (w : World) (i : Int) (x : Int) (r : Bool) (hi : I64 i) (hs : RowsInt base w g F n it) (hit : it.length ≤ 5000) (h : rGet it 0 i = (x, r)) :
    Calls Try.prog 28 #[.pointer (some ⟨g, 0, none⟩), .int .i64 i] w fun e w' => e = .returned (.tuple #[iv x, .bool r]) ∧ Upd [] w w' := by
  have := rGetInt_any w i hi hs hit
  rwa [h] at this
theorem rAtInt_eq (w : World) (k : Int) (m : Int) (x : Int) (r : Bool) (hk : I64 k) (hs : RowsInt base w g F n it) (hit : it.length ≤ 5000) (h : rAt it 0 k = (m, x, r)) :
    Calls Try.prog 29 #[.pointer (some ⟨g, 0, none⟩), .int .i64 k] w fun e w' => e = .returned (.tuple #[.int .i64 m, iv x, .bool r]) ∧ Upd [] w w' := by
  have := rAtInt_any w k hk hs hit
  rwa [h] at this
theorem rLenInt_eq (w : World) (m : Int) (hs : RowsInt base w g F n it) (h : (it.length : Int) = m) :
    Calls Try.prog 22 #[.pointer (some ⟨g, 0, none⟩)] w fun e w' => e = .returned (.int .i64 m) ∧ w = w' := by
  subst h; exact rLenInt_any w hs
theorem rSizeInt_eq (w : World) (m : Int) (hs : RowsInt base w g F n it) (h : (n : Int) = m) :
    Calls Try.prog 23 #[.pointer (some ⟨g, 0, none⟩)] w fun e w' => e = .returned (.int .i64 m) ∧ w = w' := by
  subst h; exact rSizeInt_any w hs
end
end Go.Proofs.Ytfpibngdpooedaa
