/- TableCopies: the law returns true, whatever it is given. -/
import Derived.Test.YtjomecimbofnfaaOpen
import Derived.Test.YtjomecimbofnfaaTableCopies
import Derived.Test.YtjomecimbofnfaaOpenN
namespace Go.Proofs.Ytjomecimbofnfaa.lTableCopies
open Go.ChangeShapes Go.WideShapes Go.ChangeAt Go.RowKit Go.Deep
open Go.ChangeMaps (open_string shut_string)
set_option linter.unusedSimpArgs false
set_option linter.unusedVariables false
theorem own : ownKnob Try.prog.godebug = none := by kernel_rfl
theorem laidOut : laidOutB Try.prog = true := by kernel_rfl
theorem cells_ask : Try.checked.prog.cellsOf 79 = 3 := by kernel_rfl
theorem el_ask {H : Type} {enc : TypeId × Value → H} {w : World} (n : Nat) (cs : List Value) (y : DataW H × List MemPlace) (hl : cs.length = 3) (h : DataW.trod enc Try.prog w 0 (fun _ => true) true n 79 cs = some y) : ∃ x : Int × Int × Int, cs = ask4Cells x ∧ Ask464 x := by
  obtain ⟨_, v0, _, h0, t0⟩ := el_fields Try.underlying79 (by kernel_rfl) hl h 0 _ rfl
  obtain ⟨_, v1, _, h1, t1⟩ := el_fields Try.underlying79 (by kernel_rfl) hl h 1 _ rfl
  obtain ⟨_, v2, _, h2, t2⟩ := el_fields Try.underlying79 (by kernel_rfl) hl h 2 _ rfl
  obtain ⟨m0, rfl, hm0⟩ := el_int Try.underlying3 _ _ _ t0
  obtain ⟨m1, rfl, hm1⟩ := el_int Try.underlying3 _ _ _ t1
  obtain ⟨m2, rfl, hm2⟩ := el_int Try.underlying3 _ _ _ t2
  match cs, hl with
  | [a, b, c], _ =>
    simp at h0 h1 h2
    exact ⟨(m0, m1, m2), by rw [h0, h1, h2], i64_of hm0, i64_of hm1, i64_of hm2⟩
set_option maxRecDepth 100000 in
theorem walk (H : Type) (enc : TypeId × Value → H) : LawCalls Try.prog 12 Try.f12 H enc (fun ds => True) := by
  intro W base args ds ps hval hA hsz hk
  rw [Try.params12] at hA hval hsz
  obtain ⟨v0, vs0, d0, ds0, p0, q0, hargs, rfl, rfl, h0, r0⟩ := trodAll_cons hA
  obtain ⟨v1, vs1, d1, ds1, p1, q1, rfl, rfl, rfl, h1, r1⟩ := trodAll_cons r0
  obtain ⟨rfl, rfl, rfl⟩ := trodAll_nil r1
  obtain rfl : args = #[v0, v1] := by cases args; simp_all
  obtain ⟨l0, w0, g0, z0, u0⟩ := open_rdN 3 ask4Cells Ask464 Try.underlying72 cells_ask (by omega) (fun n cs y hl h => el_ask n cs y hl h) (hval 0 _ v0 rfl rfl) h0
  obtain ⟨l1, w1, g1, z1, u1⟩ := open_rdN 3 ask4Cells Ask464 Try.underlying72 cells_ask (by omega) (fun n cs y hl h => el_ask n cs y hl h) (hval 1 _ v1 rfl rfl) h1
  exact tableCopies_any W v0 l0 g0 w0 v1 l1 g1 w1
set_option maxRecDepth 100000 in
theorem lifted (os : Os) (started : os.Started) (H : Type) (enc : TypeId × Value → H) :
    ReturnsInHanded {} Try.checked os 12 .any (Rows.tableCopiesSpec.pre6 enc Try.prog Try.f12 Rows.tableCopiesRow.domain false) (Rows.tableCopiesSpec.post enc Try.prog Try.f12 false true false false) :=
  law_said (C := Try.checked) own started (by kernel_rfl) Try.func12
    (ChangeSpec.witness6 (enc := enc) (C := Try.checked) false ⟨#[], #[.slice none 0 0, .slice none 0 0], []⟩ 8 (by kernel_rfl) (by kernel_rfl) (by kernel_rfl) (by kernel_rfl))
    laidOut (by rw [Try.params12]; intro t ht; simp only [List.mem_cons, List.not_mem_nil, or_false] at ht; rcases ht with rfl | rfl <;> exact ⟨by kernel_rfl, of_decide_eq_true (by kernel_rfl)⟩) rfl 4 (by kernel_rfl) Try.underlying4 (by intro ds h; match ds, h with | [d0, d1], _ => exact ⟨rfl, rfl, rfl⟩) (walk H enc)
theorem proved : Rows.TableCopiesSaid :=
  OpenClaim.holds_of_wide 12 Try.f12 rfl rfl rfl rfl rfl rfl rfl ⟨rfl, rfl, rfl, rfl, rfl⟩ rfl rfl rfl rfl rfl (by kernel_rfl) Try.func12 (by kernel_rfl)
    (of_decide_eq_true (by kernel_rfl)) (by unfold Func.isWrapper; rw [if_neg (of_decide_eq_false (by kernel_rfl))]; exact ⟨rfl, rfl⟩)
    (fun os started H enc _ => lifted os started H enc)
end Go.Proofs.Ytjomecimbofnfaa.lTableCopies
