/- TableRuns: the law returns true, whatever it is given. -/
import Derived.Test.YtjomecimbofnfaaOpen
import Derived.Test.YtjomecimbofnfaaTableRuns
namespace Go.Proofs.Ytjomecimbofnfaa.lTableRuns
open Go.ChangeShapes Go.WideShapes Go.ChangeAt Go.RowKit Go.Deep
open Go.ChangeMaps (open_string shut_string)
set_option linter.unusedSimpArgs false
set_option linter.unusedVariables false
theorem own : ownKnob Try.prog.godebug = none := by kernel_rfl
theorem laidOut : laidOutB Try.prog = true := by kernel_rfl
set_option maxRecDepth 100000 in
theorem walk (H : Type) (enc : TypeId × Value → H) : LawCalls Try.prog 8 Try.f8 H enc (fun ds => True) := by
  intro W base args ds ps hval hA hsz hk
  rw [Try.params8] at hA hval hsz
  obtain ⟨hargs, rfl, rfl⟩ := trodAll_nil hA
  obtain rfl : args = #[] := by cases args; simp_all
  exact tableRuns_any W 
set_option maxRecDepth 100000 in
theorem lifted (os : Os) (started : os.Started) (H : Type) (enc : TypeId × Value → H) :
    ReturnsInHanded {} Try.checked os 8 .any (Rows.tableRunsSpec.pre6 enc Try.prog Try.f8 Rows.tableRunsRow.domain false) (Rows.tableRunsSpec.post enc Try.prog Try.f8 false true false false) :=
  law_said (C := Try.checked) own started (by kernel_rfl) Try.func8
    (ChangeSpec.witness6 (enc := enc) (C := Try.checked) false ⟨#[], #[], []⟩ 8 (by kernel_rfl) (by kernel_rfl) (by kernel_rfl) (by kernel_rfl))
    laidOut (by rw [Try.params8]; intro t ht; simp at ht) rfl 4 (by kernel_rfl) Try.underlying4 (by intro ds h; match ds, h with | [], _ => exact ⟨rfl, rfl, rfl⟩) (walk H enc)
theorem proved : Rows.TableRunsSaid :=
  OpenClaim.holds_of_wide 8 Try.f8 rfl rfl rfl rfl rfl rfl rfl ⟨rfl, rfl, rfl, rfl, rfl⟩ rfl rfl rfl rfl rfl (by kernel_rfl) Try.func8 (by kernel_rfl)
    (of_decide_eq_true (by kernel_rfl)) (by unfold Func.isWrapper; rw [if_neg (of_decide_eq_false (by kernel_rfl))]; exact ⟨rfl, rfl⟩)
    (fun os started H enc _ => lifted os started H enc)
end Go.Proofs.Ytjomecimbofnfaa.lTableRuns
