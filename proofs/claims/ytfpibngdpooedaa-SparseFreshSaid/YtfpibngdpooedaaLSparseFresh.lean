/- SparseFresh: the law returns true, whatever it is given. -/
import Derived.Test.YtfpibngdpooedaaOpen
import Derived.Test.YtfpibngdpooedaaSparseFresh
import Derived.Test.YtfpibngdpooedaaOpenN
namespace Go.Proofs.Ytfpibngdpooedaa.lSparseFresh
open Go.ChangeShapes Go.WideShapes Go.ChangeAt Go.RowKit Go.Deep
open Go.ChangeMaps (open_string shut_string)
set_option linter.unusedSimpArgs false
set_option linter.unusedVariables false
theorem own : ownKnob Try.prog.godebug = none := by kernel_rfl
theorem laidOut : laidOutB Try.prog = true := by kernel_rfl
theorem cells_ask : Try.checked.prog.cellsOf 42 = 3 := by kernel_rfl
theorem el_ask {H : Type} {enc : TypeId × Value → H} {w : World} (n : Nat) (cs : List Value) (y : DataW H × List MemPlace) (hl : cs.length = 3) (h : DataW.trod enc Try.prog w 0 (fun _ => true) true n 42 cs = some y) : ∃ x : Int × Int × Int, cs = askCells x ∧ Ask64 x := by
  obtain ⟨_, v0, _, h0, t0⟩ := el_fields Try.underlying42 (by kernel_rfl) hl h 0 _ rfl
  obtain ⟨_, v1, _, h1, t1⟩ := el_fields Try.underlying42 (by kernel_rfl) hl h 1 _ rfl
  obtain ⟨_, v2, _, h2, t2⟩ := el_fields Try.underlying42 (by kernel_rfl) hl h 2 _ rfl
  obtain ⟨m0, rfl, hm0⟩ := el_int Try.underlying3 _ _ _ t0
  obtain ⟨m1, rfl, hm1⟩ := el_int Try.underlying3 _ _ _ t1
  obtain ⟨m2, rfl, hm2⟩ := el_int Try.underlying3 _ _ _ t2
  match cs, hl with
  | [a, b, c], _ =>
    simp at h0 h1 h2
    exact ⟨(m0, m1, m2), by rw [h0, h1, h2], i64_of hm0, i64_of hm1, i64_of hm2⟩
theorem walk (H : Type) (enc : TypeId × Value → H) : LawCalls Try.prog 5 Try.f5 H enc (fun ds => True) := by
  intro W base args ds ps hval hA hsz hk
  rw [Try.params5] at hA hval hsz
  obtain ⟨v0, vs0, d0, ds0, p0, q0, hargs, rfl, rfl, h0, r0⟩ := trodAll_cons hA
  obtain ⟨v1, vs1, d1, ds1, p1, q1, rfl, rfl, rfl, h1, r1⟩ := trodAll_cons r0
  obtain ⟨v2, vs2, d2, ds2, p2, q2, rfl, rfl, rfl, h2, r2⟩ := trodAll_cons r1
  obtain ⟨rfl, rfl, rfl⟩ := trodAll_nil r2
  obtain rfl : args = #[v0, v1, v2] := by cases args; simp_all
  obtain ⟨a0, rfl, w0⟩ := open_num Try.underlying3 (hval 0 _ v0 rfl rfl) h0
  obtain ⟨l1, w1, g1, z1, u1⟩ := open_rdN 3 askCells Ask64 Try.underlying37 cells_ask (by omega) (fun n cs y hl h => el_ask n cs y hl h) (hval 1 _ v1 rfl rfl) h1
  obtain ⟨l2, w2, g2, z2, u2⟩ := open_rdN 3 askCells Ask64 Try.underlying37 cells_ask (by omega) (fun n cs y hl h => el_ask n cs y hl h) (hval 2 _ v2 rfl rfl) h2
  exact sparseFresh_any W a0 w0 v1 l1 g1 w1 v2 l2 g2 w2
set_option maxRecDepth 100000 in
theorem lifted (os : Os) (started : os.Started) (H : Type) (enc : TypeId × Value → H) :
    ReturnsInHanded {} Try.checked os 5 .any (Rows.sparseFreshSpec.pre6 enc Try.prog Try.f5 Rows.sparseFreshRow.domain false) (Rows.sparseFreshSpec.post enc Try.prog Try.f5 false true false false) :=
  law_said (C := Try.checked) own started (by kernel_rfl) Try.func5
    (ChangeSpec.witness6 (enc := enc) (C := Try.checked) false ⟨#[], #[.int .i64 0, .slice none 0 0, .slice none 0 0], []⟩ 8 (by kernel_rfl) (by kernel_rfl) (by kernel_rfl) (by kernel_rfl))
    laidOut (by rw [Try.params5]; intro t ht; simp only [List.mem_cons, List.not_mem_nil, or_false] at ht; rcases ht with rfl | rfl | rfl <;> exact ⟨by kernel_rfl, of_decide_eq_true (by kernel_rfl)⟩) rfl 4 (by kernel_rfl) Try.underlying4 (by intro ds h; match ds, h with | [d0, d1, d2], _ => exact ⟨rfl, rfl, rfl⟩) (walk H enc)
theorem proved : Rows.SparseFreshSaid :=
  OpenClaim.holds_of_wide 5 Try.f5 rfl rfl rfl rfl rfl rfl rfl ⟨rfl, rfl, rfl, rfl, rfl⟩ rfl rfl rfl rfl rfl (by kernel_rfl) Try.func5 (by kernel_rfl)
    (of_decide_eq_true (by kernel_rfl)) (by unfold Func.isWrapper; rw [if_neg (of_decide_eq_false (by kernel_rfl))]; exact ⟨rfl, rfl⟩)
    (fun os started H enc _ => lifted os started H enc)
end Go.Proofs.Ytfpibngdpooedaa.lSparseFresh
