/- Chapter 4's Get, At and Least at string,[]uint8. -/
import Derived.Test.YtmhdhnipljonlaaTabSL
namespace Go.Proofs.Ytmhdhnipljonlaa
open Go.RowKit
set_option linter.unusedSimpArgs false
set_option linter.unusedVariables false
section
variable {base : Nat} {g : Nat} {lv : Value} {l : List (ByteArray × Sl)} {w w' : World}
set_option maxRecDepth 20000 in
set_option maxHeartbeats 400000 in
theorem tGetSL_no (w : World) (k : ByteArray) (hs : TBSL base w g lv l) (hr : Rising ltSL l) (hlen : l.length ≤ 100000) (hk : True) (hn : isIn ltSL l k = false) :
    Calls Try.prog 60 #[.pointer (some ⟨g, 0, none⟩), sv k] w fun e w' => e = .returned (.tuple #[.slice none 0 0, .bool false]) ∧ Upd [] w w' := by
  have hc := tFindSL_any w k hs hr hlen hk
  rw [hn] at hc
  have HC := Lib.hid hc
  clear hs hr hlen hk hc hn
  go_enter Try.func60, Try.ntmps60
  go_wp2_with fail
  refine HC.out.mono ?_
  rintro e w1 ⟨rfl, hu1⟩
  go_wp2_with fail
  go_ret2
  exact ⟨rfl, hu1⟩
set_option maxRecDepth 20000 in
set_option maxHeartbeats 400000 in
theorem tGetSL_ok (w : World) (k : ByteArray) (hs : TBSL base w g lv l) (hr : Rising ltSL l) (hlen : l.length ≤ 100000) (hk : True) (hn : isIn ltSL l k = true) :
    Calls Try.prog 60 #[.pointer (some ⟨g, 0, none⟩), sv k] w fun e w' => e = .returned (.tuple #[slv (nth l (below ltSL l k)).2, .bool true]) ∧ Upd [] w w' := by
  have hc := tFindSL_any w k hs hr hlen hk
  rw [hn] at hc
  have HC := Lib.hid hc
  unfold isIn at hn
  have hlt := (of_decide_eq_true hn).1
  obtain ⟨ao, co, rfl, hlc, hcm, hcell⟩ := hs.rows.rd rcSL_len
  obtain ⟨b, off, rfl, hc'⟩ := hcell (by intro h; simp [h] at hlt)
  have D0 := Lib.hid (show w.cell? ⟨g, 0, none⟩ = some (.slice (some ⟨b, off, none⟩) l.length co) from hs.tab.cell 0)
  have D1 := Lib.hid (show w.cell? ⟨b, off + below ltSL l k * 2 + 1, none⟩ = some (slv (nth l (below ltSL l k)).2) from hc' _ hlt 1 (by omega))
  clear hs hr hk hc hn hcell hc' hcm
  generalize (nth l (below ltSL l k)).2 = x at *
  generalize below ltSL l k = i at *
  have q1 : (0 : Int) ≤ i := by omega
  have q2 : (i : Int) < l.length := by omega
  go_enter Try.func60, Try.ntmps60
  go_wp2_with fail
  refine HC.out.mono ?_
  rintro e w1 ⟨rfl, hu1⟩
  have d0 := hu1.cell D0.out (by simp)
  have d1 := hu1.cell D1.out (by simp)
  go_wp2_with fail
  go_ret2
  exact ⟨rfl, hu1⟩
set_option maxRecDepth 20000 in
set_option maxHeartbeats 400000 in
theorem tAtSL_ok (w : World) (i : Nat) (hs : TBSL base w g lv l) (hlen : l.length ≤ 100000) (hi : i < l.length) :
    Calls Try.prog 75 #[.pointer (some ⟨g, 0, none⟩), .int .i64 (i : Int)] w fun e w' => e = .returned (.tuple #[sv (nth l i).1, slv (nth l i).2, .bool true]) ∧ Upd [] w w' := by
  obtain ⟨ao, co, rfl, hlc, hcm, hcell⟩ := hs.rows.rd rcSL_len
  obtain ⟨b, off, rfl, hc'⟩ := hcell (by intro h; simp [h] at hi)
  have d0 : w.cell? ⟨g, 0, none⟩ = some (.slice (some ⟨b, off, none⟩) l.length co) := hs.tab.cell 0
  have d1 : w.cell? ⟨b, off + i * 2, none⟩ = some (sv (nth l i).1) := hc' _ hi 0 (by omega)
  have d2 : w.cell? ⟨b, off + i * 2 + 1, none⟩ = some (slv (nth l i).2) := hc' _ hi 1 (by omega)
  clear hs hcell hc' hcm
  generalize (nth l i).1 = x at *
  generalize (nth l i).2 = y at *
  have q1 : (0 : Int) ≤ i := by omega
  have q2 : (i : Int) < l.length := by omega
  go_enter Try.func75, Try.ntmps75
  go_wp2_with fail
  go_quiet (fail)
  go_wp2_with fail
  go_ret3
  exact ⟨rfl, by first | exact (Upd.refl [] _).drewN _ | exact (Upd.refl [] _).drew⟩
end
end Go.Proofs.Ytmhdhnipljonlaa
