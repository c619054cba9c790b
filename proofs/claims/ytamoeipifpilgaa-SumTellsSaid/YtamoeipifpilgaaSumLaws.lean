/- The walks of chapter 1's laws. -/
import Derived.Test.YtamoeipifpilgaaSumRuns
import Derived.Test.YtamoeipifpilgaaBookByte
import Derived.Test.YtamoeipifpilgaaOpen
namespace Go.Proofs.Ytamoeipifpilgaa
open Go.RowKit
set_option linter.unusedSimpArgs false
set_option linter.unusedVariables false

theorem Roomed.rd {α : Type} [Inhabited α] {c : α → Value} {e : TypeId} {w w' : World} {v : Value} {l : List α} {m : α} (h : Roomed c e w w' v l m) (hl : l.length + 80 ≤ maxLen) : Rd c w' v (l ++ List.replicate 80 m) := by
  obtain ⟨rfl, hb, _⟩ := h
  rw [← List.append_nil ((l ++ List.replicate 80 m).map c)] at hb
  exact hb.rd_pre _ _ _ (by simp) (by omega) hl
theorem Roomed.pre {α : Type} [Inhabited α] {c : α → Value} {e : TypeId} {w w' : World} {v : Value} {l : List α} {m : α} (h : Roomed c e w w' v l m) (hl : l.length + 80 ≤ maxLen) : Rd c w' (.slice (some ⟨w.heap.size, 0, none⟩) l.length (l.length + 80)) l := by
  have h1 := h.rd hl
  obtain ⟨rfl, hb, _⟩ := h
  have h2 := h1.take l.length (by simp)
  simpa using h2

set_option maxHeartbeats 1000000 in
theorem sumTells_any (w : World) (c : BitVec 32) (v : Value) (l : List UInt8) (h : Bytes w v l) (hz : l.length ≤ 140737488351232) (u : Value) (m : List UInt8) (h2 : Bytes w u m) (hz2 : m.length ≤ 140737488351232) :
    Calls Try.prog 8 #[.int .u32 (c.toNat : Int), v, u] w fun e w' => e = .returned (.bool true) ∧ Upd [] w w' := by
  have e1 : (((sumOf [l]).toNat : Int) == ((sumOn 0#32 l).toNat : Int)) = true := beq_self_eq_true _
  have e2 : (((sumOf [l, m]).toNat : Int) == ((sumOn (sumOn 0#32 l) m).toNat : Int)) = true := beq_self_eq_true _
  have hlen : ∃ a cap, v = .slice a l.length cap := by obtain ⟨a, cap, h, _⟩ := h; exact ⟨a, cap, h⟩
  obtain ⟨a, cap, rfl⟩ := hlen
  have hlen : ∃ a cap, u = .slice a m.length cap := by obtain ⟨a, cap, h, _⟩ := h2; exact ⟨a, cap, h⟩
  obtain ⟨a2, cap2, rfl⟩ := hlen
  have hmx : l.length + 80 ≤ maxLen := by unfold maxLen; omega
  have H := Lib.hid h
  have H2 := Lib.hid h2
  have HM := Lib.hid hmx
  clear h h2 hmx
  go_enter Try.func8, Try.ntmps8
  go_wp2_with fail
  refine (roomyByte_any _ l 99 w H.out hz).mono ?_
  rintro e w1 ⟨u1, rfl, hr⟩
  have R1 := Lib.hid (hr.rd HM.out)
  have R2 := Lib.hid (hr.pre HM.out)
  obtain ⟨rfl, hb, hu⟩ := hr
  have HL := Lib.hid (H.out.upd0 hu)
  have HL2 := Lib.hid (H2.out.upd0 hu)
  have HU := Lib.hid hu
  clear hb hu H H2
  go_wp2_with fail
  refine (refOn_any 0 _ l _ HL.out).mono ?_
  rintro e w' ⟨rfl, rfl⟩
  go_wp2_with fail
  refine (on_any c _ l _ R2.out).mono ?_
  rintro e w' ⟨rfl, rfl⟩
  go_wp2_with fail
  refine (refOn_any c _ l _ HL.out).mono ?_
  rintro e w' ⟨rfl, rfl⟩
  go_wp2_with fail
  refine (of_any _ [l] _ (Parts.one _ _ (by simp) rfl rfl rfl R2.out)).mono ?_
  rintro e w' ⟨rfl, rfl⟩
  go_wp2_with fail
  refine (of_any _ [l, m] _ (Parts.two _ _ _ _ (by simp) rfl rfl rfl (R2.out.alloc _) (HL2.out.alloc _))).mono ?_
  rintro e w' ⟨rfl, rfl⟩
  go_wp2_with fail
  refine (refOn_any (sumOn 0 l) _ m _ ((HL2.out.alloc _).alloc _)).mono ?_
  rintro e w' ⟨rfl, rfl⟩
  go_wp2_with fail
  refine (intactByte_ok _ _ l 99 _ ((R1.out.alloc _).alloc _) ((HL.out.alloc _).alloc _) hz).mono ?_
  rintro e w' ⟨rfl, n0, rfl⟩
  go_wp2_with fail
  refine (sumRuns_any _).mono ?_
  rintro e w9 ⟨rfl, hu9⟩
  have HU9 := Lib.hid (((((HU.out).alloc _).alloc _).drewN n0).seq hu9)
  clear hu9
  go_wp2_with fail
  go_ret
  exact ⟨rfl, HU9.out⟩
end Go.Proofs.Ytamoeipifpilgaa
