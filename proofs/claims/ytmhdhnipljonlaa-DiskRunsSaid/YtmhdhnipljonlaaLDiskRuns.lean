/- DiskRuns: the law returns true, whatever it is given. -/
import Derived.Test.YtmhdhnipljonlaaOpen
import Derived.Test.YtmhdhnipljonlaaDiskRuns
namespace Go.Proofs.Ytmhdhnipljonlaa.lDiskRuns
open Go.ChangeShapes Go.WideShapes Go.ChangeAt Go.RowKit Go.Deep
open Go.ChangeMaps (open_string shut_string)
set_option linter.unusedSimpArgs false
set_option linter.unusedVariables false
theorem own : ownKnob Try.prog.godebug = none := by kernel_rfl
theorem laidOut : laidOutB Try.prog = true := by kernel_rfl
set_option maxRecDepth 100000 in
theorem walk (H : Type) (enc : TypeId × Value → H) : LawCalls Try.prog 6 Try.f6 H enc (fun ds => True) := by
  intro W base args ds ps hval hA hsz hk
  rw [Try.params6] at hA hval hsz
  obtain ⟨hargs, rfl, rfl⟩ := trodAll_nil hA
  obtain rfl : args = #[] := by cases args; simp_all
  exact diskRuns_any W 
set_option maxRecDepth 100000 in
theorem lifted (os : Os) (started : os.Started) (H : Type) (enc : TypeId × Value → H) :
    ReturnsInHanded {} Try.checked os 6 .any (Rows.diskRunsSpec.pre6 enc Try.prog Try.f6 Rows.diskRunsRow.domain false) (Rows.diskRunsSpec.post enc Try.prog Try.f6 false true false false) :=
  law_said (C := Try.checked) own started (by kernel_rfl) Try.func6
    (ChangeSpec.witness6 (enc := enc) (C := Try.checked) false ⟨#[], #[], []⟩ 8 (by kernel_rfl) (by kernel_rfl) (by kernel_rfl) (by kernel_rfl))
    laidOut (by rw [Try.params6]; intro t ht; simp at ht) rfl 4 (by kernel_rfl) Try.underlying4 (by intro ds h; match ds, h with | [], _ => exact ⟨rfl, rfl, rfl⟩) (walk H enc)
theorem proved : Rows.DiskRunsSaid :=
  OpenClaim.holds_of_wide 6 Try.f6 rfl rfl rfl rfl rfl rfl rfl ⟨rfl, rfl, rfl, rfl, rfl⟩ rfl rfl rfl rfl rfl (by kernel_rfl) Try.func6 (by kernel_rfl)
    (of_decide_eq_true (by kernel_rfl)) (by unfold Func.isWrapper; rw [if_neg (of_decide_eq_false (by kernel_rfl))]; exact ⟨rfl, rfl⟩)
    (fun os started H enc _ => lifted os started H enc)
end Go.Proofs.Ytmhdhnipljonlaa.lDiskRuns
