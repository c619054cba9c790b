/- slices.Delete of one row, and chapter 4's Del, at int,int. -/
import Derived.Test.YtmhdhnipljonlaaTabIJ
import Derived.Test.YtmhdhnipljonlaaRowRun
namespace Go.Proofs.Ytmhdhnipljonlaa
open Go.RowKit
set_option linter.unusedSimpArgs false
set_option linter.unusedVariables false
theorem rcIJ_one : ∀ p, ∀ u ∈ rcIJ p, u.oneCell' = true := by intro p u hu; simp [rcIJ] at hu; rcases hu with rfl | rfl <;> rfl
theorem undIJ : Try.prog.underlying 128 = some (.slice 136) := by kernel_rfl
section
variable {base : Nat} {g : Nat} {lv : Value} {l : List (Int × Int)} {w w' : World}
end
section
variable {base : Nat} {g : Nat} {lv : Value} {l : List (Int × Int)} {w w' : World}
end
end Go.Proofs.Ytmhdhnipljonlaa
