/- Chapter 4's Get, At and Set at int,file. -/
import Derived.Test.YtmhdhnipljonlaaTabIF6
import Derived.Test.YtmhdhnipljonlaaOwnNSet
import Derived.StillTailTactics
namespace Go.Proofs.Ytmhdhnipljonlaa
open Go.RowKit
set_option linter.unusedSimpArgs false
set_option linter.unusedVariables false
/-- A result's own block of two cells, written. -/
theorem blk_two {w : World} {b : Nat} {e : TypeId} {x0 y0 : Value} (h : Blk w b e [x0, y0]) (x y : Value) : Blk ((w.setCell ⟨b, 0, none⟩ x).setCell ⟨b, 1, none⟩ y) b e [x, y] := by
  have := (h.set_ 0 x).set_ 1 y
  simpa using this
abbrev zF : ByteArray × Sl := (⟨#[]⟩, ⟨none, 0, 0⟩)
section
variable {base : Nat} {g : Nat} {lv : Value} {l : List (Int × (ByteArray × Sl))} {w w' : World}
set_option maxRecDepth 20000 in
set_option maxHeartbeats 400000 in
theorem tGetIF_no (w : World) (k : Int) (hs : TBIF base w g lv l) (hr : Rising ltIF l) (hlen : l.length ≤ 100000) (hk : I64 k) (hn : isIn ltIF l k = false) :
    Calls Try.prog 52 #[.pointer (some ⟨g, 0, none⟩), iv k] w fun e w' => e = .returned (.tuple #[fv zF, .bool false]) ∧ Upd [] w w' := by
  have hu0 := (Upd.refl [] w).alloc (.cells #[.string ⟨#[]⟩, .slice none 0 0] 91)
  have hc := tFindIF_any _ k (hs.upd0 hu0) hr hlen hk
  rw [hn] at hc
  have HC := Lib.hid hc
  have HU0 := Lib.hid hu0
  clear hs hr hlen hk hc hn hu0
  go_enter Try.func52, Try.ntmps52
  go_wp2_with fail
  (with_reducible refine HC.out.mono ?_)
  rintro e w1 ⟨rfl, hu1⟩
  have d0 : w1.cell? ⟨w.heap.size, 0, none⟩ = some (.string ⟨#[]⟩) := hu1.cell (by go_simp) (by simp)
  have d1 : w1.cell? ⟨w.heap.size, 1, none⟩ = some (.slice none 0 0) := hu1.cell (by go_simp) (by simp)
  have hB := (Blk.new w 91 [.string ⟨#[]⟩, .slice none 0 0]).upd hu1 (by simp)
  have f0 := hB.frozen 0
  have f1 := hB.frozen 1
  have HB := Lib.hid ((blk_two hB (.string ⟨#[]⟩) (.slice none 0 0)).upd ((Upd.refl [] _).alloc (.cells #[.string ⟨#[]⟩, .slice none 0 0] 91)) (by simp))
  have HU : Hid (Upd [] w (((w1.setCell ⟨w.heap.size, 0, none⟩ (.string ⟨#[]⟩)).setCell ⟨w.heap.size, 1, none⟩ (.slice none 0 0)).alloc (.cells #[.string ⟨#[]⟩, .slice none 0 0] 91))) :=
    (((HU0.out.seq hu1).setCell _ _ (.inr (Nat.le_refl _))).setCell _ _ (.inr (Nat.le_refl _))).alloc _
  have hlt : w.heap.size < w1.heap.size := hB.lt
  clear hB
  go_wp2_with fail
  have e0 := HB.out.cell 0
  have e1 := HB.out.cell 1
  have hU := HU.out
  clear HB HU
  generalize World.alloc _ _ = W at *
  exact bodyPost_ret (v := .tuple #[fv zF, .bool false]) (by simp [results, Try.results52, go_sem, e0, e1]; try rfl) rfl ⟨rfl, hU⟩
set_option maxRecDepth 20000 in
set_option maxHeartbeats 400000 in
theorem tGetIF_ok (w : World) (k : Int) (hs : TBIF base w g lv l) (hr : Rising ltIF l) (hlen : l.length ≤ 100000) (hk : I64 k) (hn : isIn ltIF l k = true) :
    Calls Try.prog 52 #[.pointer (some ⟨g, 0, none⟩), iv k] w fun e w' => e = .returned (.tuple #[fv (nth l (below ltIF l k)).2, .bool true]) ∧ Upd [] w w' := by
  have hu0 := (Upd.refl [] w).alloc (.cells #[.string ⟨#[]⟩, .slice none 0 0] 91)
  have hc := tFindIF_any _ k (hs.upd0 hu0) hr hlen hk
  rw [hn] at hc
  have HC := Lib.hid hc
  have HU0 := Lib.hid hu0
  unfold isIn at hn
  have hlt := (of_decide_eq_true hn).1
  obtain ⟨ao, co, rfl, hlc, hcm, hcell⟩ := hs.rows.rd rcIF_len
  obtain ⟨b, off, rfl, hc'⟩ := hcell (by intro h; simp [h] at hlt)
  have D0 := Lib.hid (show w.cell? ⟨g, 0, none⟩ = some (.slice (some ⟨b, off, none⟩) l.length co) from hs.tab.cell 0)
  have D1 := Lib.hid (show w.cell? ⟨b, off + below ltIF l k * 3 + 1, none⟩ = some (sv (nth l (below ltIF l k)).2.1) from hc' _ hlt 1 (by omega))
  have D2 := Lib.hid (show w.cell? ⟨b, off + below ltIF l k * 3 + 2, none⟩ = some (slv (nth l (below ltIF l k)).2.2) from hc' _ hlt 2 (by omega))
  clear hs hr hk hc hn hcell hc' hcm hu0
  generalize (nth l (below ltIF l k)).2 = x at *
  obtain ⟨nm, sl⟩ := x
  generalize below ltIF l k = i at *
  have q1 : (0 : Int) ≤ i := by omega
  have q2 : (i : Int) < l.length := by omega
  go_enter Try.func52, Try.ntmps52
  go_wp2_with fail
  (with_reducible refine HC.out.mono ?_)
  rintro e w1 ⟨rfl, hu1⟩
  have dd0 := (HU0.out.seq hu1).cell D0.out (by simp)
  have dd1 := (HU0.out.seq hu1).cell D1.out (by simp)
  have dd2 := (HU0.out.seq hu1).cell D2.out (by simp)
  have d0 : w1.cell? ⟨w.heap.size, 0, none⟩ = some (.string ⟨#[]⟩) := hu1.cell (by go_simp) (by simp)
  have d1 : w1.cell? ⟨w.heap.size, 1, none⟩ = some (.slice none 0 0) := hu1.cell (by go_simp) (by simp)
  have hB := (Blk.new w 91 [.string ⟨#[]⟩, .slice none 0 0]).upd hu1 (by simp)
  have f0 := hB.frozen 0
  have f1 := hB.frozen 1
  have HB := Lib.hid (blk_two hB (sv nm) (slv sl))
  have HU : Hid (Upd [] w ((w1.setCell ⟨w.heap.size, 0, none⟩ (sv nm)).setCell ⟨w.heap.size, 1, none⟩ (slv sl))) :=
    ((HU0.out.seq hu1).setCell _ _ (.inr (Nat.le_refl _))).setCell _ _ (.inr (Nat.le_refl _))
  clear hB
  go_wp2_with fail
  have e0 := HB.out.cell 0
  have e1 := HB.out.cell 1
  have hU := HU.out
  clear HB HU
  generalize World.setCell _ _ _ = W at *
  exact bodyPost_ret (v := .tuple #[fv (nm, sl), .bool true]) (by simp [results, Try.results52, go_sem, e0, e1]; try rfl) rfl ⟨rfl, hU⟩
end
end Go.Proofs.Ytmhdhnipljonlaa
