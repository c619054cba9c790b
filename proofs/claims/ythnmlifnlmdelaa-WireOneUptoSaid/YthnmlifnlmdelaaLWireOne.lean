/- WireOne: the law returns true, whatever it is given (within the bound of the second form). -/
import Derived.Test.YthnmlifnlmdelaaUpto
import Derived.Test.YthnmlifnlmdelaaWireOne
namespace Go.Proofs.Ythnmlifnlmdelaa.lWireOne
open Go.ChangeShapes Go.WideShapes Go.ChangeAt Go.RowKit Go.Deep
open Go.ChangeMaps (open_string shut_string)
set_option linter.unusedSimpArgs false
set_option linter.unusedVariables false
theorem own : ownKnob Try.prog.godebug = none := by kernel_rfl
theorem laidOut : laidOutB Try.prog = true := by kernel_rfl
theorem cells_bytes : Try.checked.prog.cellsOf 5 = 1 := by kernel_rfl
theorem size_bytes : Try.checked.prog.bytesOf 5 = 1 := by kernel_rfl
set_option maxRecDepth 100000 in
theorem walk (H : Type) (enc : TypeId × Value → H) : LawCalls Try.prog 11 Try.f11 H enc (fun ds => Rows.uptoSmall H ds = true) := by
  intro W base args ds ps hval hA hsz hk
  rw [Try.params11] at hA hval hsz
  obtain ⟨v0, vs0, d0, ds0, p0, q0, hargs, rfl, rfl, h0, r0⟩ := trodAll_cons hA
  obtain ⟨rfl, rfl, rfl⟩ := trodAll_nil r0
  obtain rfl : args = #[v0] := by cases args; simp_all
  obtain ⟨l0, w0, z0, u0⟩ := open_bytes Try.underlying22 Try.underlying5 cells_bytes size_bytes (hval 0 _ v0 rfl rfl) h0
  have z0 := upto_len hk (by simp) u0
  exact wireOne_any W v0 l0 w0 z0
set_option maxRecDepth 100000 in
theorem lifted (os : Os) (started : os.Started) (H : Type) (enc : TypeId × Value → H) (F : Stop.Interp) :
    ReturnsInHanded {} Try.checked os 11 .any ((Rows.OpenSpec.upto Rows.wireOneSpec).pre6 enc Try.prog Try.f11 Rows.wireOneUptoRow.domain false) (((Rows.OpenSpec.upto Rows.wireOneSpec).at F).post enc Try.prog Try.f11 false true false false) :=
  law_upto (C := Try.checked) (s := Rows.OpenSpec.upto Rows.wireOneSpec) (k := Rows.uptoSmall) rfl own started (by kernel_rfl) Try.func11
    (OpenSpec.witness (enc := enc) (C := Try.checked) (s := Rows.OpenSpec.upto Rows.wireOneSpec) (k := Rows.uptoSmall) rfl false ⟨#[], #[.slice none 0 0], []⟩ 8 (by kernel_rfl) (by kernel_rfl) (by kernel_rfl)
      (x := ([.nil], [], [])) (by kernel_rfl) rfl (by kernel_rfl))
    laidOut (by rw [Try.params11]; intro t ht; simp only [List.mem_cons, List.not_mem_nil, or_false] at ht; rcases ht with rfl <;> exact ⟨by kernel_rfl, of_decide_eq_true (by kernel_rfl)⟩) rfl rfl rfl 4 (by kernel_rfl) Try.underlying4 (by intro ds h; match ds, h with | [d0], _ => exact ⟨rfl, rfl, rfl⟩) (walk H enc)
theorem proved : Rows.WireOneUptoSaid :=
  OpenClaim.holds_of_cond 11 Try.f11 rfl rfl rfl rfl rfl rfl rfl ⟨rfl, rfl, rfl, rfl, rfl⟩ rfl rfl rfl rfl rfl (by kernel_rfl) Try.func11 (by kernel_rfl)
    (of_decide_eq_true (by kernel_rfl)) (by unfold Func.isWrapper; rw [if_neg (of_decide_eq_false (by kernel_rfl))]; exact ⟨rfl, rfl⟩)
    (fun os started H enc _ F => lifted os started H enc F)
end Go.Proofs.Ythnmlifnlmdelaa.lWireOne
