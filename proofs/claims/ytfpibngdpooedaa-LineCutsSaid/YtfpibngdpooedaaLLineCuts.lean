/- LineCuts: the law returns true, whatever it is given. -/
import Derived.Test.YtfpibngdpooedaaOpen
import Derived.Test.YtfpibngdpooedaaLineCuts
namespace Go.Proofs.Ytfpibngdpooedaa.lLineCuts
open Go.ChangeShapes Go.WideShapes Go.ChangeAt Go.RowKit Go.Deep
open Go.ChangeMaps (open_string shut_string)
set_option linter.unusedSimpArgs false
set_option linter.unusedVariables false
theorem own : ownKnob Try.prog.godebug = none := by kernel_rfl
theorem laidOut : laidOutB Try.prog = true := by kernel_rfl
theorem cells_str : Try.checked.prog.cellsOf 9 = 1 := by kernel_rfl
theorem el_str {H : Type} {enc : TypeId × Value → H} {w : World} (n : Nat) (v : Value) (y : DataW H × List MemPlace) (h : DataW.trod enc Try.prog w 0 (fun _ => true) true n 9 [v] = some y) : ∃ x : ByteArray, v = sv x ∧ x.size ≤ maxLen := by
  obtain ⟨s, h, _, hs⟩ := DataW.trod_string Try.underlying9 h
  simp at h
  exact ⟨s, h, hs⟩
theorem walk (H : Type) (enc : TypeId × Value → H) : LawCalls Try.prog 10 Try.f10 H enc (fun ds => True) := by
  intro W base args ds ps hval hA hsz hk
  rw [Try.params10] at hA hval hsz
  obtain ⟨v0, vs0, d0, ds0, p0, q0, hargs, rfl, rfl, h0, r0⟩ := trodAll_cons hA
  obtain ⟨v1, vs1, d1, ds1, p1, q1, rfl, rfl, rfl, h1, r1⟩ := trodAll_cons r0
  obtain ⟨rfl, rfl, rfl⟩ := trodAll_nil r1
  obtain rfl : args = #[v0, v1] := by cases args; simp_all
  obtain ⟨l0, w0, g0, z0, u0⟩ := open_rd sv (fun x => x.size ≤ maxLen) Try.underlying60 cells_str (fun n v y h => el_str n v y h) (hval 0 _ v0 rfl rfl) h0
  obtain ⟨a1, rfl, rfl, rfl, w1⟩ := open_string Try.underlying9 (hval 1 _ v1 rfl rfl) h1
  exact lineCuts_any W v0 l0 w0 g0 a1 w1
set_option maxRecDepth 100000 in
theorem lifted (os : Os) (started : os.Started) (H : Type) (enc : TypeId × Value → H) :
    ReturnsInHanded {} Try.checked os 10 .any (Rows.lineCutsSpec.pre6 enc Try.prog Try.f10 Rows.lineCutsRow.domain false) (Rows.lineCutsSpec.post enc Try.prog Try.f10 false true false false) :=
  law_said (C := Try.checked) own started (by kernel_rfl) Try.func10
    (ChangeSpec.witness6 (enc := enc) (C := Try.checked) false ⟨#[], #[.slice none 0 0, .string .empty], []⟩ 8 (by kernel_rfl) (by kernel_rfl) (by kernel_rfl) (by kernel_rfl))
    laidOut (by rw [Try.params10]; intro t ht; simp only [List.mem_cons, List.not_mem_nil, or_false] at ht; rcases ht with rfl | rfl <;> exact ⟨by kernel_rfl, of_decide_eq_true (by kernel_rfl)⟩) rfl 4 (by kernel_rfl) Try.underlying4 (by intro ds h; match ds, h with | [d0, d1], _ => exact ⟨rfl, rfl, rfl⟩) (walk H enc)
theorem proved : Rows.LineCutsSaid :=
  OpenClaim.holds_of_wide 10 Try.f10 rfl rfl rfl rfl rfl rfl rfl ⟨rfl, rfl, rfl, rfl, rfl⟩ rfl rfl rfl rfl rfl (by kernel_rfl) Try.func10 (by kernel_rfl)
    (of_decide_eq_true (by kernel_rfl)) (by unfold Func.isWrapper; rw [if_neg (of_decide_eq_false (by kernel_rfl))]; exact ⟨rfl, rfl⟩)
    (fun os started H enc _ => lifted os started H enc)
end Go.Proofs.Ytfpibngdpooedaa.lLineCuts
