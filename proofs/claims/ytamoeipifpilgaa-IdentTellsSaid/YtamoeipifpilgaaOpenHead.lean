/- An argument that is a struct of a number and a sum. -/
import Derived.Test.YtamoeipifpilgaaOpen
import Derived.Lib.SmallJoins
namespace Go.Proofs.Ytamoeipifpilgaa
open Go.ChangeShapes Go.WideShapes Go.ChangeAt Go.RowKit Go.Deep Go.Joins
set_option linter.unusedSimpArgs false
set_option linter.unusedVariables false
theorem open_head {H : Type} {enc : TypeId × Value → H} {P : Program} {w : World} {b0 : Nat} {held : Bool} {t : TypeId} {f0 f1 : Field} {v : Value} {d : DataW H} {p : List MemPlace} (hs : P.underlying t = some (.struct #[f0, f1])) (hone : oneCellFields P #[f0, f1] = true) (hC : P.cellsOf t = 2)
    (t0 : P.underlying f0.type = some (.int .i64)) (t1 : P.underlying f1.type = some (.int .u32))
    (hval : Value.okWide P w .any b0 t v) (h : DataW.Trod enc P w 0 (fun _ => true) held t v d p) :
    ∃ (n : Int) (s : BitVec 32), v = .agg #[.int .i64 n, .int .u32 (s.toNat : Int)] := by
  obtain ⟨v0, v1, y0, y1, n, rfl, _, _, h0, h1⟩ := open_agg2 hs hone hC hval h
  obtain ⟨x, rfl, hx⟩ := el_int t0 n v0 y0 h0
  obtain ⟨z, rfl, hz⟩ := el_int t1 n v1 y1 h1
  have hb : 0 ≤ z ∧ z ≤ 4294967295 := by simpa [Lit.wf, IntKind.min, IntKind.max, IntKind.signed, IntKind.bits] using hz
  refine ⟨x, BitVec.ofNat 32 z.toNat, ?_⟩
  rw [BitVec.toNat_ofNat, Nat.mod_eq_of_lt (by omega), Int.toNat_of_nonneg hb.1]
end Go.Proofs.Ytamoeipifpilgaa
