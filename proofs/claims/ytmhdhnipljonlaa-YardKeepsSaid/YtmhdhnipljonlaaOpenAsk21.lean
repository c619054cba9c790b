/- Arguments that are asks of chapter 21. -/
import Derived.Test.YtmhdhnipljonlaaWithin
import Derived.Test.YtmhdhnipljonlaaOpenN
import Derived.Test.YtmhdhnipljonlaaSls
namespace Go.Proofs.Ytmhdhnipljonlaa
open Go.ChangeShapes Go.WideShapes Go.ChangeAt Go.RowKit Go.Deep
set_option linter.unusedSimpArgs false
set_option linter.unusedVariables false
/-- An ask. -/
structure Ask21 where
  kd : Int
  n : Int
  pos : Int
  ino : Int
  nm : ByteArray
  to : ByteArray
  dv : Sl
  d : List UInt8
instance : Inhabited Ask21 := ⟨⟨0, 0, 0, 0, .empty, .empty, default, []⟩⟩
abbrev ask21Cells (x : Ask21) : List Value := [.int .i64 x.kd, .int .i64 x.n, .int .i64 x.pos, .int .i64 x.ino, .string x.nm, .string x.to, slv x.dv]
structure Ask21Good (w : World) (x : Ask21) : Prop where
  kd : I64 x.kd
  n : I64 x.n
  pos : I64 x.pos
  ino : I64 x.ino
  rd : Bytes w (slv x.dv) x.d
theorem cells_byte21 : Try.checked.prog.cellsOf 5 = 1 := by kernel_rfl
theorem cells_ask21 : Try.checked.prog.cellsOf 81 = 7 := by kernel_rfl
set_option maxRecDepth 100000 in
theorem el_ask21 {H : Type} {enc : TypeId × Value → H} {w : World} (n : Nat) (cs : List Value) (y : DataW H × List MemPlace) (hl : cs.length = 7) (h : DataW.trod enc Try.prog w 0 (fun _ => true) true n 81 cs = some y) :
    ∃ x : Ask21, cs = ask21Cells x ∧ Ask21Good w x := by
  obtain ⟨_, v0, _, h0, t0⟩ := el_fields Try.underlying81 (by kernel_rfl) hl h 0 _ rfl
  obtain ⟨_, v1, _, h1, t1⟩ := el_fields Try.underlying81 (by kernel_rfl) hl h 1 _ rfl
  obtain ⟨_, v2, _, h2, t2⟩ := el_fields Try.underlying81 (by kernel_rfl) hl h 2 _ rfl
  obtain ⟨_, v3, _, h3, t3⟩ := el_fields Try.underlying81 (by kernel_rfl) hl h 3 _ rfl
  obtain ⟨_, v4, _, h4, t4⟩ := el_fields Try.underlying81 (by kernel_rfl) hl h 4 _ rfl
  obtain ⟨_, v5, _, h5, t5⟩ := el_fields Try.underlying81 (by kernel_rfl) hl h 5 _ rfl
  obtain ⟨_, v6, _, h6, t6⟩ := el_fields Try.underlying81 (by kernel_rfl) hl h 6 _ rfl
  obtain ⟨k0, rfl, g0⟩ := el_int Try.underlying3 _ _ _ t0
  obtain ⟨k1, rfl, g1⟩ := el_int Try.underlying3 _ _ _ t1
  obtain ⟨k2, rfl, g2⟩ := el_int Try.underlying3 _ _ _ t2
  obtain ⟨k3, rfl, g3⟩ := el_int Try.underlying3 _ _ _ t3
  obtain ⟨s, hs1, _⟩ := DataW.trod_string Try.underlying9 t4
  obtain ⟨s', hs2, _⟩ := DataW.trod_string Try.underlying9 t5
  obtain ⟨a0, len0, cap0, rfl⟩ := trod_slice_form Try.underlying27 t6
  obtain ⟨x, hx, l, hb⟩ := el_bytes Try.underlying27 Try.underlying5 cells_byte21 _ _ _ t6
  have hx : .slice a0 len0 cap0 = x := hx
  subst hx
  simp at hs1 hs2
  subst hs1 hs2
  match cs, hl with
  | [c0, c1, c2, c3, c4, c5, c6], _ =>
    simp at h0 h1 h2 h3 h4 h5 h6
    exact ⟨⟨k0, k1, k2, k3, s, s', ⟨a0, len0, cap0⟩, l⟩, by rw [h0, h1, h2, h3, h4, h5, h6], ⟨i64_of g0, i64_of g1, i64_of g2, i64_of g3, hb⟩⟩
set_option maxRecDepth 100000 in
/-- Asks that are handed in. -/
theorem open_asks21 {H : Type} {enc : TypeId × Value → H} {w : World} {b0 : Nat} {v : Value} {d : DataW H} {p : List MemPlace} (hval : Value.okWide Try.prog w .any b0 75 v) (h : DataW.Trod enc Try.prog w 0 (fun _ => true) true 75 v d p) :
    ∃ l : List Ask21, RdN 7 ask21Cells w v l ∧ ∀ x ∈ l, Ask21Good w x := by
  obtain ⟨l, h1, h2, -⟩ := open_rdN 7 ask21Cells (Ask21Good w) Try.underlying75 cells_ask21 (by omega) (fun n cs y hl h => el_ask21 n cs y hl h) hval h
  exact ⟨l, h1, h2⟩
end Go.Proofs.Ytmhdhnipljonlaa
