/- JournalRuns: the law returns true, whatever it is given. -/
import Derived.Test.YtmhojaiajhdlcaaMj1
import Derived.Test.YtmhojaiajhdlcaaMj8
namespace Go.Proofs.Ytmhojaiajhdlcaa.lJournalRuns
open Go.ChangeShapes Go.WideShapes Go.ChangeAt Go.RowKit Go.Deep
open Go.ChangeMaps (open_string shut_string)
set_option linter.unusedSimpArgs false
set_option linter.unusedVariables false
theorem own : ownKnob Try.prog.godebug = none := by kernel_rfl
theorem laidOut : laidOutB Try.prog = true := by kernel_rfl
set_option maxRecDepth 100000 in
theorem walk (H : Type) (enc : TypeId × Value → H) : LawCalls Try.prog 5 Try.f5 H enc (fun ds => True) := by
  intro W base args ds ps hval hA hsz hk
  rw [Try.params5] at hA hval hsz
  obtain ⟨hargs, rfl, rfl⟩ := trodAll_nil hA
  obtain rfl : args = #[] := by cases args; simp_all
  exact journalRuns_any W 
set_option maxRecDepth 100000 in
theorem lifted (os : Os) (started : os.Started) (H : Type) (enc : TypeId × Value → H) :
    ReturnsInHanded {} Try.checked os 5 .any (Rows.journalRunsSpec.pre6 enc Try.prog Try.f5 Rows.journalRunsRow.domain false) (Rows.journalRunsSpec.post enc Try.prog Try.f5 false true false false) :=
  law_said (C := Try.checked) own started (by kernel_rfl) Try.func5
    (ChangeSpec.witness6 (enc := enc) (C := Try.checked) false ⟨#[], #[], []⟩ 8 (by kernel_rfl) (by kernel_rfl) (by kernel_rfl) (by kernel_rfl))
    laidOut (by rw [Try.params5]; intro t ht; simp at ht) rfl 4 (by kernel_rfl) Try.underlying4 (by intro ds h; match ds, h with | [], _ => exact ⟨rfl, rfl, rfl⟩) (walk H enc)
theorem proved : Rows.JournalRunsSaid :=
  OpenClaim.holds_of_wide 5 Try.f5 rfl rfl rfl rfl rfl rfl rfl ⟨rfl, rfl, rfl, rfl, rfl⟩ rfl rfl rfl rfl rfl (by kernel_rfl) Try.func5 (by kernel_rfl)
    (of_decide_eq_true (by kernel_rfl)) (by unfold Func.isWrapper; rw [if_neg (of_decide_eq_false (by kernel_rfl))]; exact ⟨rfl, rfl⟩)
    (fun os started H enc _ => lifted os started H enc)
end Go.Proofs.Ytmhojaiajhdlcaa.lJournalRuns
