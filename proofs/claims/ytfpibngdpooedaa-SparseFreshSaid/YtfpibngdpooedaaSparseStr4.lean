/- Chapter 5's functions at string, with the answers given. -/
import Derived.Test.YtfpibngdpooedaaSparseStr3
namespace Go.Proofs.Ytfpibngdpooedaa
open Go.RowKit
set_option linter.unusedSimpArgs false
set_option linter.unusedVariables false
section
variable {base : Nat} {g n : Nat} {F : List Nat} {it : List (Nat × ByteArray)} {w w' : World}
theorem RowsStr.next {W : World} (hu : Upd [] W w) (hs : RowsStr W.heap.size w g F n it) (h : Upd F w w') : Upd [] W w' := hu.trans h (by simp) (fun x hx => .inr (hs.lt x hx).1)
theorem rNewStr_eq (w : World) (n : Nat) (m : Int) (hm : m = n) (h : n ≤ 4096) :
    Calls Try.prog 12 #[.int .i64 m] w fun e w' => ∃ g F, e = .returned (.tuple #[.pointer (some ⟨g, 0, none⟩), .int .i64 0]) ∧ RowsStr w.heap.size w' g F n [] ∧ Upd [] w w' := by
  subst hm; exact rNewStr_ok w n h
theorem rAddStr_eq (w : World) (i : Int) (x : ByteArray) (r : Bool) (it' : List (Nat × ByteArray)) (hi : I64 i) (hs : RowsStr base w g F n it) (hit : it.length ≤ 5000) (h : rCan n it i = r ∧ rAdd n it i x = it') :
    Calls Try.prog 13 #[.pointer (some ⟨g, 0, none⟩), .int .i64 i, sv x] w fun e w' => e = .returned (.bool r) ∧
      ∃ F', RowsStr base w' g F' n it' ∧ Upd F w w' ∧ (∀ y ∈ F', y ∈ F ∨ w.heap.size ≤ y) := by
  have := rAddStr_any w i x hi hs hit
  rwa [h.1, h.2] at this
theorem rHasStr_eq (w : World) (i : Int) (r : Bool) (hi : I64 i) (hs : RowsStr base w g F n it) (hit : it.length ≤ 5000) (h : rHas it i = r) :
    Calls Try.prog 16 #[.pointer (some ⟨g, 0, none⟩), .int .i64 i] w fun e w' => e = .returned (.bool r) ∧ w = w' := by
  have := rHasStr_any w i hi hs hit
  rwa [h] at this
theorem rGetStr_eq (w : World) (i : Int) (x : ByteArray) (r : Bool) (hi : I64 i) (hs : RowsStr base w g F n it) (hit : it.length ≤ 5000) (h : rGet it ByteArray.empty i = (x, r)) :
    Calls Try.prog 18 #[.pointer (some ⟨g, 0, none⟩), .int .i64 i] w fun e w' => e = .returned (.tuple #[sv x, .bool r]) ∧ Upd [] w w' := by
  have := rGetStr_any w i hi hs hit
  rwa [h] at this
theorem rAtStr_eq (w : World) (k : Int) (m : Int) (x : ByteArray) (r : Bool) (hk : I64 k) (hs : RowsStr base w g F n it) (hit : it.length ≤ 5000) (h : rAt it ByteArray.empty k = (m, x, r)) :
    Calls Try.prog 14 #[.pointer (some ⟨g, 0, none⟩), .int .i64 k] w fun e w' => e = .returned (.tuple #[.int .i64 m, sv x, .bool r]) ∧ Upd [] w w' := by
  have := rAtStr_any w k hk hs hit
  rwa [h] at this
theorem rLenStr_eq (w : World) (m : Int) (hs : RowsStr base w g F n it) (h : (it.length : Int) = m) :
    Calls Try.prog 17 #[.pointer (some ⟨g, 0, none⟩)] w fun e w' => e = .returned (.int .i64 m) ∧ w = w' := by
  subst h; exact rLenStr_any w hs
theorem rSizeStr_eq (w : World) (m : Int) (hs : RowsStr base w g F n it) (h : (n : Int) = m) :
    Calls Try.prog 20 #[.pointer (some ⟨g, 0, none⟩)] w fun e w' => e = .returned (.int .i64 m) ∧ w = w' := by
  subst h; exact rSizeStr_any w hs
end
end Go.Proofs.Ytfpibngdpooedaa
