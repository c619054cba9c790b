/- IdentGrows: the law returns true, whatever it is given (within the bound of the second form). -/
import Derived.Test.YtamoeipifpilgaaUpto
import Derived.Test.YtamoeipifpilgaaIdentGrows
namespace Go.Proofs.Ytamoeipifpilgaa.lIdentGrows
open Go.ChangeShapes Go.WideShapes Go.ChangeAt Go.RowKit Go.Deep
open Go.ChangeMaps (open_string shut_string)
set_option linter.unusedSimpArgs false
set_option linter.unusedVariables false
theorem own : ownKnob Try.prog.godebug = none := by kernel_rfl
theorem laidOut : laidOutB Try.prog = true := by kernel_rfl
theorem cells_bytes : Try.checked.prog.cellsOf 5 = 1 := by kernel_rfl
theorem size_bytes : Try.checked.prog.bytesOf 5 = 1 := by kernel_rfl
theorem walk (H : Type) (enc : TypeId × Value → H) : LawCalls Try.prog 5 Try.f5 H enc (fun ds => Rows.uptoSmall H ds = true) := by
  intro W base args ds ps hval hA hsz hk
  rw [Try.params5] at hA hval hsz
  obtain ⟨v0, vs0, d0, ds0, p0, q0, hargs, rfl, rfl, h0, r0⟩ := trodAll_cons hA
  obtain ⟨v1, vs1, d1, ds1, p1, q1, rfl, rfl, rfl, h1, r1⟩ := trodAll_cons r0
  obtain ⟨v2, vs2, d2, ds2, p2, q2, rfl, rfl, rfl, h2, r2⟩ := trodAll_cons r1
  obtain ⟨v3, vs3, d3, ds3, p3, q3, rfl, rfl, rfl, h3, r3⟩ := trodAll_cons r2
  obtain ⟨v4, vs4, d4, ds4, p4, q4, rfl, rfl, rfl, h4, r4⟩ := trodAll_cons r3
  obtain ⟨rfl, rfl, rfl⟩ := trodAll_nil r4
  obtain rfl : args = #[v0, v1, v2, v3, v4] := by cases args; simp_all
  obtain ⟨l0, w0, z0, u0⟩ := open_bytes Try.underlying26 Try.underlying5 cells_bytes size_bytes (hval 0 _ v0 rfl rfl) h0
  have z0 := upto_len hk (by simp) u0
  obtain ⟨l1, w1, z1, u1⟩ := open_bytes Try.underlying26 Try.underlying5 cells_bytes size_bytes (hval 1 _ v1 rfl rfl) h1
  have z1 := upto_len hk (by simp) u1
  obtain ⟨a2, rfl, w2⟩ := open_num Try.underlying3 (hval 2 _ v2 rfl rfl) h2
  obtain ⟨a3, rfl, w3⟩ := open_num Try.underlying3 (hval 3 _ v3 rfl rfl) h3
  obtain ⟨a4, rfl, w4⟩ := open_num Try.underlying3 (hval 4 _ v4 rfl rfl) h4
  exact identGrows_any W v0 l0 w0 z0 v1 l1 w1 z1 a2 w2 a3 w3 a4 w4
set_option maxRecDepth 100000 in
theorem lifted (os : Os) (started : os.Started) (H : Type) (enc : TypeId × Value → H) (F : Stop.Interp) :
    ReturnsInHanded {} Try.checked os 5 .any ((Rows.OpenSpec.upto Rows.identGrowsSpec).pre6 enc Try.prog Try.f5 Rows.identGrowsUptoRow.domain false) (((Rows.OpenSpec.upto Rows.identGrowsSpec).at F).post enc Try.prog Try.f5 false true false false) :=
  law_upto (C := Try.checked) (s := Rows.OpenSpec.upto Rows.identGrowsSpec) (k := Rows.uptoSmall) rfl own started (by kernel_rfl) Try.func5
    (OpenSpec.witness (enc := enc) (C := Try.checked) (s := Rows.OpenSpec.upto Rows.identGrowsSpec) (k := Rows.uptoSmall) rfl false ⟨#[], #[.slice none 0 0, .slice none 0 0, .int .i64 0, .int .i64 0, .int .i64 0], []⟩ 8 (by kernel_rfl) (by kernel_rfl) (by kernel_rfl)
      (x := ([.nil, .nil, .lit (.int .i64 0), .lit (.int .i64 0), .lit (.int .i64 0)], [], [])) (by kernel_rfl) rfl (by kernel_rfl))
    laidOut (by rw [Try.params5]; intro t ht; simp only [List.mem_cons, List.not_mem_nil, or_false] at ht; rcases ht with rfl | rfl | rfl | rfl | rfl <;> exact ⟨by kernel_rfl, of_decide_eq_true (by kernel_rfl)⟩) rfl rfl rfl 4 (by kernel_rfl) Try.underlying4 (by intro ds h; match ds, h with | [d0, d1, d2, d3, d4], _ => exact ⟨rfl, rfl, rfl⟩) (walk H enc)
theorem proved : Rows.IdentGrowsUptoSaid :=
  OpenClaim.holds_of_cond 5 Try.f5 rfl rfl rfl rfl rfl rfl rfl ⟨rfl, rfl, rfl, rfl, rfl⟩ rfl rfl rfl rfl rfl (by kernel_rfl) Try.func5 (by kernel_rfl)
    (of_decide_eq_true (by kernel_rfl)) (by unfold Func.isWrapper; rw [if_neg (of_decide_eq_false (by kernel_rfl))]; exact ⟨rfl, rfl⟩)
    (fun os started H enc _ F => lifted os started H enc F)
end Go.Proofs.Ytamoeipifpilgaa.lIdentGrows
