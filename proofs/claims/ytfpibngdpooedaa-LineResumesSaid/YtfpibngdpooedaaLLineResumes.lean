/- LineResumes: the law returns true, whatever it is given. -/
import Derived.Test.YtfpibngdpooedaaOpen
import Derived.Test.YtfpibngdpooedaaLineResumes
import Derived.Test.YtfpibngdpooedaaOpenN
namespace Go.Proofs.Ytfpibngdpooedaa.lLineResumes
open Go.ChangeShapes Go.WideShapes Go.ChangeAt Go.RowKit Go.Deep
open Go.ChangeMaps (open_string shut_string)
set_option linter.unusedSimpArgs false
set_option linter.unusedVariables false
theorem own : ownKnob Try.prog.godebug = none := by kernel_rfl
theorem laidOut : laidOutB Try.prog = true := by kernel_rfl
theorem cells_run : Try.checked.prog.cellsOf 89 = 2 := by kernel_rfl
theorem el_run {H : Type} {enc : TypeId × Value → H} {w : World} (n : Nat) (cs : List Value) (y : DataW H × List MemPlace) (hl : cs.length = 2) (h : DataW.trod enc Try.prog w 0 (fun _ => true) true n 89 cs = some y) : ∃ x : UInt8 × Int, cs = runCells x ∧ I64 x.2 := by
  obtain ⟨_, v0, _, h0, t0⟩ := el_fields Try.underlying89 (by kernel_rfl) hl h 0 _ rfl
  obtain ⟨_, v1, _, h1, t1⟩ := el_fields Try.underlying89 (by kernel_rfl) hl h 1 _ rfl
  obtain ⟨c, rfl, _⟩ := el_byte Try.underlying5 _ _ _ t0
  obtain ⟨m, rfl, hm⟩ := el_int Try.underlying3 _ _ _ t1
  match cs, hl with
  | [a, b], _ =>
    simp at h0 h1
    exact ⟨(c, m), by rw [h0, h1], i64_of hm⟩
theorem walk (H : Type) (enc : TypeId × Value → H) : LawCalls Try.prog 9 Try.f9 H enc (fun ds => True) := by
  intro W base args ds ps hval hA hsz hk
  rw [Try.params9] at hA hval hsz
  obtain ⟨v0, vs0, d0, ds0, p0, q0, hargs, rfl, rfl, h0, r0⟩ := trodAll_cons hA
  obtain ⟨v1, vs1, d1, ds1, p1, q1, rfl, rfl, rfl, h1, r1⟩ := trodAll_cons r0
  obtain ⟨v2, vs2, d2, ds2, p2, q2, rfl, rfl, rfl, h2, r2⟩ := trodAll_cons r1
  obtain ⟨v3, vs3, d3, ds3, p3, q3, rfl, rfl, rfl, h3, r3⟩ := trodAll_cons r2
  obtain ⟨rfl, rfl, rfl⟩ := trodAll_nil r3
  obtain rfl : args = #[v0, v1, v2, v3] := by cases args; simp_all
  obtain ⟨l0, w0, g0, z0, u0⟩ := open_rdN 2 runCells (fun x => I64 x.2) Try.underlying62 cells_run (by omega) (fun n cs y hl h => el_run n cs y hl h) (hval 0 _ v0 rfl rfl) h0
  obtain ⟨a1, rfl, w1⟩ := open_num Try.underlying3 (hval 1 _ v1 rfl rfl) h1
  obtain ⟨a2, rfl, w2⟩ := open_num Try.underlying3 (hval 2 _ v2 rfl rfl) h2
  obtain ⟨a3, rfl, rfl, rfl⟩ := open_bool Try.underlying4 (hval 3 _ v3 rfl rfl) h3
  exact lineResumes_any W v0 l0 g0 w0 a1 w1 a2 w2 a3
set_option maxRecDepth 100000 in
theorem lifted (os : Os) (started : os.Started) (H : Type) (enc : TypeId × Value → H) :
    ReturnsInHanded {} Try.checked os 9 .any (Rows.lineResumesSpec.pre6 enc Try.prog Try.f9 Rows.lineResumesRow.domain false) (Rows.lineResumesSpec.post enc Try.prog Try.f9 false true false false) :=
  law_said (C := Try.checked) own started (by kernel_rfl) Try.func9
    (ChangeSpec.witness6 (enc := enc) (C := Try.checked) false ⟨#[], #[.slice none 0 0, .int .i64 0, .int .i64 0, .bool false], []⟩ 8 (by kernel_rfl) (by kernel_rfl) (by kernel_rfl) (by kernel_rfl))
    laidOut (by rw [Try.params9]; intro t ht; simp only [List.mem_cons, List.not_mem_nil, or_false] at ht; rcases ht with rfl | rfl | rfl | rfl <;> exact ⟨by kernel_rfl, of_decide_eq_true (by kernel_rfl)⟩) rfl 4 (by kernel_rfl) Try.underlying4 (by intro ds h; match ds, h with | [d0, d1, d2, d3], _ => exact ⟨rfl, rfl, rfl⟩) (walk H enc)
theorem proved : Rows.LineResumesSaid :=
  OpenClaim.holds_of_wide 9 Try.f9 rfl rfl rfl rfl rfl rfl rfl ⟨rfl, rfl, rfl, rfl, rfl⟩ rfl rfl rfl rfl rfl (by kernel_rfl) Try.func9 (by kernel_rfl)
    (of_decide_eq_true (by kernel_rfl)) (by unfold Func.isWrapper; rw [if_neg (of_decide_eq_false (by kernel_rfl))]; exact ⟨rfl, rfl⟩)
    (fun os started H enc _ => lifted os started H enc)
end Go.Proofs.Ytfpibngdpooedaa.lLineResumes
