/- Chapter 4's Get, At and Least at int,int. -/
import Derived.Test.YtmhdhnipljonlaaTabIJ
namespace Go.Proofs.Ytmhdhnipljonlaa
open Go.RowKit
set_option linter.unusedSimpArgs false
set_option linter.unusedVariables false
section
variable {base : Nat} {g : Nat} {lv : Value} {l : List (Int × Int)} {w w' : World}
set_option maxRecDepth 20000 in
set_option maxHeartbeats 400000 in
theorem tGetIJ_no (w : World) (k : Int) (hs : TBIJ base w g lv l) (hr : Rising ltIJ l) (hlen : l.length ≤ 100000) (hk : I64 k) (hn : isIn ltIJ l k = false) :
    Calls Try.prog 57 #[.pointer (some ⟨g, 0, none⟩), iv k] w fun e w' => e = .returned (.tuple #[.int .i64 0, .bool false]) ∧ Upd [] w w' := by
  have hc := tFindIJ_any w k hs hr hlen hk
  rw [hn] at hc
  have HC := Lib.hid hc
  clear hs hr hlen hk hc hn
  go_enter Try.func57, Try.ntmps57
  go_wp2_with fail
  refine HC.out.mono ?_
  rintro e w1 ⟨rfl, hu1⟩
  go_wp2_with fail
  go_ret2
  exact ⟨rfl, hu1⟩
set_option maxRecDepth 20000 in
set_option maxHeartbeats 400000 in
theorem tGetIJ_ok (w : World) (k : Int) (hs : TBIJ base w g lv l) (hr : Rising ltIJ l) (hlen : l.length ≤ 100000) (hk : I64 k) (hn : isIn ltIJ l k = true) :
    Calls Try.prog 57 #[.pointer (some ⟨g, 0, none⟩), iv k] w fun e w' => e = .returned (.tuple #[iv (nth l (below ltIJ l k)).2, .bool true]) ∧ Upd [] w w' := by
  have hc := tFindIJ_any w k hs hr hlen hk
  rw [hn] at hc
  have HC := Lib.hid hc
  unfold isIn at hn
  have hlt := (of_decide_eq_true hn).1
  obtain ⟨ao, co, rfl, hlc, hcm, hcell⟩ := hs.rows.rd rcIJ_len
  obtain ⟨b, off, rfl, hc'⟩ := hcell (by intro h; simp [h] at hlt)
  have D0 := Lib.hid (show w.cell? ⟨g, 0, none⟩ = some (.slice (some ⟨b, off, none⟩) l.length co) from hs.tab.cell 0)
  have D1 := Lib.hid (show w.cell? ⟨b, off + below ltIJ l k * 2 + 1, none⟩ = some (iv (nth l (below ltIJ l k)).2) from hc' _ hlt 1 (by omega))
  clear hs hr hk hc hn hcell hc' hcm
  generalize (nth l (below ltIJ l k)).2 = x at *
  generalize below ltIJ l k = i at *
  have q1 : (0 : Int) ≤ i := by omega
  have q2 : (i : Int) < l.length := by omega
  go_enter Try.func57, Try.ntmps57
  go_wp2_with fail
  refine HC.out.mono ?_
  rintro e w1 ⟨rfl, hu1⟩
  have d0 := hu1.cell D0.out (by simp)
  have d1 := hu1.cell D1.out (by simp)
  go_wp2_with fail
  go_ret2
  exact ⟨rfl, hu1⟩
end
end Go.Proofs.Ytmhdhnipljonlaa
