/- YardKeeps: the law returns true, whatever it is given. -/
import Derived.Test.YtmhdhnipljonlaaOpen
import Derived.Test.YtmhdhnipljonlaaYardKeeps
import Derived.Test.YtmhdhnipljonlaaOpenAsk21
namespace Go.Proofs.Ytmhdhnipljonlaa.lYardKeeps
open Go.ChangeShapes Go.WideShapes Go.ChangeAt Go.RowKit Go.Deep
open Go.ChangeMaps (open_string shut_string)
set_option linter.unusedSimpArgs false
set_option linter.unusedVariables false
theorem own : ownKnob Try.prog.godebug = none := by kernel_rfl
theorem laidOut : laidOutB Try.prog = true := by kernel_rfl
theorem cells_str : Try.checked.prog.cellsOf 9 = 1 := by kernel_rfl
theorem el_str {H : Type} {enc : TypeId × Value → H} {w : World} (n : Nat) (v : Value) (y : DataW H × List MemPlace) (h : DataW.trod enc Try.prog w 0 (fun _ => true) true n 9 [v] = some y) : ∃ x : ByteArray, v = sv x ∧ x.size ≤ maxLen := by
  obtain ⟨s, h, _, hs⟩ := DataW.trod_string Try.underlying9 h
  simp at h
  exact ⟨s, h, hs⟩
theorem cells_bytes : Try.checked.prog.cellsOf 5 = 1 := by kernel_rfl
theorem size_bytes : Try.checked.prog.bytesOf 5 = 1 := by kernel_rfl
set_option maxRecDepth 100000 in
theorem walk (H : Type) (enc : TypeId × Value → H) : LawCalls Try.prog 12 Try.f12 H enc (fun ds => True) := by
  intro W base args ds ps hval hA hsz hk
  rw [Try.params12] at hA hval hsz
  obtain ⟨v0, vs0, d0, ds0, p0, q0, hargs, rfl, rfl, h0, r0⟩ := trodAll_cons hA
  obtain ⟨v1, vs1, d1, ds1, p1, q1, rfl, rfl, rfl, h1, r1⟩ := trodAll_cons r0
  obtain ⟨v2, vs2, d2, ds2, p2, q2, rfl, rfl, rfl, h2, r2⟩ := trodAll_cons r1
  obtain ⟨rfl, rfl, rfl⟩ := trodAll_nil r2
  obtain rfl : args = #[v0, v1, v2] := by cases args; simp_all
  obtain ⟨l0, w0, g0⟩ := open_asks21 (hval 0 _ v0 rfl rfl) h0
  obtain ⟨l1, w1, g1, z1, u1⟩ := open_rd sv (fun x => x.size ≤ maxLen) Try.underlying56 cells_str (fun n v y h => el_str n v y h) (hval 1 _ v1 rfl rfl) h1
  obtain ⟨l2, w2, z2, u2⟩ := open_bytes Try.underlying27 Try.underlying5 cells_bytes size_bytes (hval 2 _ v2 rfl rfl) h2
  have z2 := z2 _ _ 2 hsz rfl rfl
  exact yardKeeps_any W v0 l0 w0 g0 v1 l1 w1 g1 v2 l2 w2 z2
set_option maxRecDepth 100000 in
theorem lifted (os : Os) (started : os.Started) (H : Type) (enc : TypeId × Value → H) :
    ReturnsInHanded {} Try.checked os 12 .any (Rows.yardKeepsSpec.pre6 enc Try.prog Try.f12 Rows.yardKeepsRow.domain false) (Rows.yardKeepsSpec.post enc Try.prog Try.f12 false true false false) :=
  law_said (C := Try.checked) own started (by kernel_rfl) Try.func12
    (ChangeSpec.witness6 (enc := enc) (C := Try.checked) false ⟨#[], #[.slice none 0 0, .slice none 0 0, .slice none 0 0], []⟩ 8 (by kernel_rfl) (by kernel_rfl) (by kernel_rfl) (by kernel_rfl))
    laidOut (by rw [Try.params12]; intro t ht; simp only [List.mem_cons, List.not_mem_nil, or_false] at ht; rcases ht with rfl | rfl | rfl <;> exact ⟨by kernel_rfl, of_decide_eq_true (by kernel_rfl)⟩) rfl 4 (by kernel_rfl) Try.underlying4 (by intro ds h; match ds, h with | [d0, d1, d2], _ => exact ⟨rfl, rfl, rfl⟩) (walk H enc)
theorem proved : Rows.YardKeepsSaid :=
  OpenClaim.holds_of_wide 12 Try.f12 rfl rfl rfl rfl rfl rfl rfl ⟨rfl, rfl, rfl, rfl, rfl⟩ rfl rfl rfl rfl rfl (by kernel_rfl) Try.func12 (by kernel_rfl)
    (of_decide_eq_true (by kernel_rfl)) (by unfold Func.isWrapper; rw [if_neg (of_decide_eq_false (by kernel_rfl))]; exact ⟨rfl, rfl⟩)
    (fun os started H enc _ => lifted os started H enc)
end Go.Proofs.Ytmhdhnipljonlaa.lYardKeeps
