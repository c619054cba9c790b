/- DiskFront: the law returns true, whatever it is given. -/
import Derived.Test.YtmhdhnipljonlaaOpen
import Derived.Test.YtmhdhnipljonlaaDiskFront
namespace Go.Proofs.Ytmhdhnipljonlaa.lDiskFront
open Go.ChangeShapes Go.WideShapes Go.ChangeAt Go.RowKit Go.Deep
open Go.ChangeMaps (open_string shut_string)
set_option linter.unusedSimpArgs false
set_option linter.unusedVariables false
theorem own : ownKnob Try.prog.godebug = none := by kernel_rfl
theorem laidOut : laidOutB Try.prog = true := by kernel_rfl
theorem cells_pb : Try.checked.prog.cellsOf 5 = 1 := by kernel_rfl
theorem cells_pp : Try.checked.prog.cellsOf 27 = 1 := by kernel_rfl
set_option maxRecDepth 100000 in
theorem walk (H : Type) (enc : TypeId × Value → H) : LawCalls Try.prog 9 Try.f9 H enc (fun ds => True) := by
  intro W base args ds ps hval hA hsz hk
  rw [Try.params9] at hA hval hsz
  obtain ⟨v0, vs0, d0, ds0, p0, q0, hargs, rfl, rfl, h0, r0⟩ := trodAll_cons hA
  obtain ⟨v1, vs1, d1, ds1, p1, q1, rfl, rfl, rfl, h1, r1⟩ := trodAll_cons r0
  obtain ⟨rfl, rfl, rfl⟩ := trodAll_nil r1
  obtain rfl : args = #[v0, v1] := by cases args; simp_all
  obtain ⟨vs0, ls0, n0, w0, b0⟩ := open_parts Try.underlying43 cells_pp Try.underlying27 Try.underlying5 cells_pb (hval 0 _ v0 rfl rfl) h0
  obtain ⟨a1, rfl, w1⟩ := open_num Try.underlying3 (hval 1 _ v1 rfl rfl) h1
  exact diskFront_any W v0 ls0 ⟨vs0, n0, w0, b0⟩ a1 w1
set_option maxRecDepth 100000 in
theorem lifted (os : Os) (started : os.Started) (H : Type) (enc : TypeId × Value → H) :
    ReturnsInHanded {} Try.checked os 9 .any (Rows.diskFrontSpec.pre6 enc Try.prog Try.f9 Rows.diskFrontRow.domain false) (Rows.diskFrontSpec.post enc Try.prog Try.f9 false true false false) :=
  law_said (C := Try.checked) own started (by kernel_rfl) Try.func9
    (ChangeSpec.witness6 (enc := enc) (C := Try.checked) false ⟨#[], #[.slice none 0 0, .int .i64 0], []⟩ 8 (by kernel_rfl) (by kernel_rfl) (by kernel_rfl) (by kernel_rfl))
    laidOut (by rw [Try.params9]; intro t ht; simp only [List.mem_cons, List.not_mem_nil, or_false] at ht; rcases ht with rfl | rfl <;> exact ⟨by kernel_rfl, of_decide_eq_true (by kernel_rfl)⟩) rfl 4 (by kernel_rfl) Try.underlying4 (by intro ds h; match ds, h with | [d0, d1], _ => exact ⟨rfl, rfl, rfl⟩) (walk H enc)
theorem proved : Rows.DiskFrontSaid :=
  OpenClaim.holds_of_wide 9 Try.f9 rfl rfl rfl rfl rfl rfl rfl ⟨rfl, rfl, rfl, rfl, rfl⟩ rfl rfl rfl rfl rfl (by kernel_rfl) Try.func9 (by kernel_rfl)
    (of_decide_eq_true (by kernel_rfl)) (by unfold Func.isWrapper; rw [if_neg (of_decide_eq_false (by kernel_rfl))]; exact ⟨rfl, rfl⟩)
    (fun os started H enc _ => lifted os started H enc)
end Go.Proofs.Ytmhdhnipljonlaa.lDiskFront
