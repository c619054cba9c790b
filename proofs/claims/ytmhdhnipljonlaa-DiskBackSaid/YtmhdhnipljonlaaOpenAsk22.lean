/- Arguments that are asks of chapter 22. -/
import Derived.Test.YtmhdhnipljonlaaWithin
import Derived.Test.YtmhdhnipljonlaaOpenN
import Derived.Test.YtmhdhnipljonlaaSls
namespace Go.Proofs.Ytmhdhnipljonlaa
open Go.ChangeShapes Go.WideShapes Go.ChangeAt Go.RowKit Go.Deep
set_option linter.unusedSimpArgs false
set_option linter.unusedVariables false
/-- An ask. -/
structure Ask22 where
  kd : Int
  n : Int
  nm : ByteArray
  tn : ByteArray
  dv : Sl
  d : List UInt8
instance : Inhabited Ask22 := ⟨⟨0, 0, .empty, .empty, default, []⟩⟩
abbrev ask22Cells (x : Ask22) : List Value := [.int .i64 x.kd, .int .i64 x.n, .string x.nm, .string x.tn, slv x.dv]
structure Ask22Good (w : World) (x : Ask22) : Prop where
  kd : I64 x.kd
  n : I64 x.n
  rd : Bytes w (slv x.dv) x.d
theorem cells_byte22 : Try.checked.prog.cellsOf 5 = 1 := by kernel_rfl
theorem cells_ask22 : Try.checked.prog.cellsOf 65 = 5 := by kernel_rfl
set_option maxRecDepth 100000 in
theorem el_ask22 {H : Type} {enc : TypeId × Value → H} {w : World} (n : Nat) (cs : List Value) (y : DataW H × List MemPlace) (hl : cs.length = 5) (h : DataW.trod enc Try.prog w 0 (fun _ => true) true n 65 cs = some y) :
    ∃ x : Ask22, cs = ask22Cells x ∧ Ask22Good w x := by
  obtain ⟨_, v0, _, h0, t0⟩ := el_fields Try.underlying65 (by kernel_rfl) hl h 0 _ rfl
  obtain ⟨_, v1, _, h1, t1⟩ := el_fields Try.underlying65 (by kernel_rfl) hl h 1 _ rfl
  obtain ⟨_, v2, _, h2, t2⟩ := el_fields Try.underlying65 (by kernel_rfl) hl h 2 _ rfl
  obtain ⟨_, v3, _, h3, t3⟩ := el_fields Try.underlying65 (by kernel_rfl) hl h 3 _ rfl
  obtain ⟨_, v4, _, h4, t4⟩ := el_fields Try.underlying65 (by kernel_rfl) hl h 4 _ rfl
  obtain ⟨k0, rfl, g0⟩ := el_int Try.underlying3 _ _ _ t0
  obtain ⟨k1, rfl, g1⟩ := el_int Try.underlying3 _ _ _ t1
  obtain ⟨s, hs1, _⟩ := DataW.trod_string Try.underlying9 t2
  obtain ⟨s', hs2, _⟩ := DataW.trod_string Try.underlying9 t3
  obtain ⟨a0, len0, cap0, rfl⟩ := trod_slice_form Try.underlying27 t4
  obtain ⟨x, hx, l, hb⟩ := el_bytes Try.underlying27 Try.underlying5 cells_byte22 _ _ _ t4
  have hx : .slice a0 len0 cap0 = x := hx
  subst hx
  simp at hs1 hs2
  subst hs1 hs2
  match cs, hl with
  | [c0, c1, c2, c3, c4], _ =>
    simp at h0 h1 h2 h3 h4
    exact ⟨⟨k0, k1, s, s', ⟨a0, len0, cap0⟩, l⟩, by rw [h0, h1, h2, h3, h4], ⟨i64_of g0, i64_of g1, hb⟩⟩
set_option maxRecDepth 100000 in
/-- Asks that are handed in. -/
theorem open_asks22 {H : Type} {enc : TypeId × Value → H} {w : World} {b0 : Nat} {v : Value} {d : DataW H} {p : List MemPlace} (hval : Value.okWide Try.prog w .any b0 58 v) (h : DataW.Trod enc Try.prog w 0 (fun _ => true) true 58 v d p) :
    ∃ l : List Ask22, RdN 5 ask22Cells w v l ∧ ∀ x ∈ l, Ask22Good w x := by
  obtain ⟨l, h1, h2, -⟩ := open_rdN 5 ask22Cells (Ask22Good w) Try.underlying58 cells_ask22 (by omega) (fun n cs y hl h => el_ask22 n cs y hl h) hval h
  exact ⟨l, h1, h2⟩
end Go.Proofs.Ytmhdhnipljonlaa
