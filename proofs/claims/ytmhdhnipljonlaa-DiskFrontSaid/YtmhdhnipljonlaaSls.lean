/- Slices' values. -/
import Derived.Test.YtmhdhnipljonlaaBase
namespace Go.Proofs.Ytmhdhnipljonlaa
/-- A slice's value. -/
structure Sl where
  a : Option Addr
  n : Nat
  k : Nat
instance : Inhabited Sl := ⟨⟨none, 0, 0⟩⟩
abbrev slv (s : Sl) : Value := .slice s.a s.n s.k
theorem slv_one (s : Sl) : (slv s).oneCell' = true := rfl
end Go.Proofs.Ytmhdhnipljonlaa
