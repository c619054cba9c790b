/- Chapter 4's At at int,file. -/
import Derived.Test.YtmhdhnipljonlaaTabIFG
namespace Go.Proofs.Ytmhdhnipljonlaa
open Go.RowKit
set_option linter.unusedSimpArgs false
set_option linter.unusedVariables false
section
variable {base : Nat} {g : Nat} {lv : Value} {l : List (Int × (ByteArray × Sl))} {w w' : World}
set_option maxRecDepth 20000 in
set_option maxHeartbeats 400000 in
theorem tAtIF_ok (w : World) (i : Nat) (hs : TBIF base w g lv l) (hlen : l.length ≤ 100000) (hi : i < l.length) :
    Calls Try.prog 55 #[.pointer (some ⟨g, 0, none⟩), .int .i64 (i : Int)] w fun e w' => e = .returned (.tuple #[iv (nth l i).1, fv (nth l i).2, .bool true]) ∧ Upd [] w w' := by
  obtain ⟨ao, co, rfl, hlc, hcm, hcell⟩ := hs.rows.rd rcIF_len
  obtain ⟨b, off, rfl, hc'⟩ := hcell (by intro h; simp [h] at hi)
  have D0 := Lib.hid (show w.cell? ⟨g, 0, none⟩ = some (.slice (some ⟨b, off, none⟩) l.length co) from hs.tab.cell 0)
  have D1 := Lib.hid (show w.cell? ⟨b, off + i * 3, none⟩ = some (iv (nth l i).1) from hc' _ hi 0 (by omega))
  have D2 := Lib.hid (show w.cell? ⟨b, off + i * 3 + 1, none⟩ = some (sv (nth l i).2.1) from hc' _ hi 1 (by omega))
  have D3 := Lib.hid (show w.cell? ⟨b, off + i * 3 + 2, none⟩ = some (slv (nth l i).2.2) from hc' _ hi 2 (by omega))
  clear hs hcell hc' hcm
  generalize (nth l i).1 = x at *
  generalize (nth l i).2 = y at *
  obtain ⟨nm, sl⟩ := y
  have q1 : (0 : Int) ≤ i := by omega
  have q2 : (i : Int) < l.length := by omega
  have HU0 := Lib.hid ((Upd.refl [] w).alloc (.cells #[.string ⟨#[]⟩, .slice none 0 0] 91))
  have hB := Blk.new w 91 [.string ⟨#[]⟩, .slice none 0 0]
  have c0 := HU0.out.cell D0.out (by simp)
  go_enter Try.func55, Try.ntmps55
  go_wp2_with fail
  generalize w.alloc (.cells #[.string ⟨#[]⟩, .slice none 0 0] 91) = v at *
  have c1 := HU0.out.cell D1.out (by simp)
  have c2 := HU0.out.cell D2.out (by simp)
  have c3 := HU0.out.cell D3.out (by simp)
  have hB' : Blk v w.heap.size 91 [.string ⟨#[]⟩, .slice none 0 0] := hB
  have d0 := hB'.cell 0
  have d1 := hB'.cell 1
  have f0 := hB'.frozen 0
  have f1 := hB'.frozen 1
  have HB : Hid (Blk ((v.setCell ⟨w.heap.size, 0, none⟩ (sv nm)).setCell ⟨w.heap.size, 1, none⟩ (slv sl)).drew w.heap.size 91 [sv nm, slv sl]) := blk_two hB' (sv nm) (slv sl)
  have HU : Hid (Upd [] w ((v.setCell ⟨w.heap.size, 0, none⟩ (sv nm)).setCell ⟨w.heap.size, 1, none⟩ (slv sl)).drew) :=
    ((HU0.out.setCell _ _ (.inr (Nat.le_refl _))).setCell _ _ (.inr (Nat.le_refl _))).drew
  clear hB hB'
  go_region
  all_goals (go_wp2_with fail)
  have e0 := HB.out.cell 0
  have e1 := HB.out.cell 1
  have hU := HU.out
  clear HB HU
  generalize World.drew _ = W at *
  exact bodyPost_ret (v := .tuple #[iv x, fv (nm, sl), .bool true]) (by simp [results, Try.results55, go_sem, e0, e1]; try rfl) rfl ⟨rfl, hU⟩
set_option maxRecDepth 20000 in
set_option maxHeartbeats 400000 in
theorem tAtIF_neg (w : World) (i : Int) (hi64 : I64 i) (hs : TBIF base w g lv l) (hi : i < 0) :
    Calls Try.prog 55 #[.pointer (some ⟨g, 0, none⟩), .int .i64 i] w fun e w' => e = .returned (.tuple #[iv 0, fv zF, .bool false]) ∧ Upd [] w w' := by
  obtain ⟨ao, co, rfl, hlc, hcm, hcell⟩ := hs.rows.rd rcIF_len
  have D0 := Lib.hid (show w.cell? ⟨g, 0, none⟩ = some (.slice ao l.length co) from hs.tab.cell 0)
  clear hs hcell hcm
  have HU0 := Lib.hid ((Upd.refl [] w).alloc (.cells #[.string ⟨#[]⟩, .slice none 0 0] 91))
  have hB0 := Blk.new w 91 [.string ⟨#[]⟩, .slice none 0 0]
  have c0 := HU0.out.cell D0.out (by simp)
  go_enter Try.func55, Try.ntmps55
  go_wp2_with fail
  have HUa := Lib.hid (HU0.out.alloc (.cells #[.int .i64 0, .string ⟨#[]⟩, .slice none 0 0] 132))
  have hB := hB0.upd ((Upd.refl [] _).alloc (.cells #[.int .i64 0, .string ⟨#[]⟩, .slice none 0 0] 132)) (by simp)
  have hR := Blk.new (w.alloc (.cells #[.string ⟨#[]⟩, .slice none 0 0] 91)) 132 [.int .i64 0, .string ⟨#[]⟩, .slice none 0 0]
  have hne : w.heap.size ≠ w.heap.size + 1 := by omega
  have hsz : (w.alloc (.cells #[.string ⟨#[]⟩, .slice none 0 0] 91)).heap.size = w.heap.size + 1 := by simp
  rw [hsz] at hR
  clear hB0 HU0 c0 hsz
  change Blk ((w.alloc (.cells #[.string ⟨#[]⟩, .slice none 0 0] 91)).alloc (.cells #[.int .i64 0, .string ⟨#[]⟩, .slice none 0 0] 132)) _ _ _ at hR
  generalize (w.alloc (.cells #[.string ⟨#[]⟩, .slice none 0 0] 91)).alloc (.cells #[.int .i64 0, .string ⟨#[]⟩, .slice none 0 0] 132) = v at *
  have d0 := hB.cell 0
  have d1 := hB.cell 1
  have f0 := hB.frozen 0
  have f1 := hB.frozen 1
  have r0 := hR.cell 0
  have r1 := hR.cell 1
  have r2 := hR.cell 2
  simp only [List.getElem?_cons_zero, List.getElem?_cons_succ] at d0 d1 r0 r1 r2
  have HB : Hid (Blk ((v.setCell ⟨w.heap.size, 0, none⟩ (.string ⟨#[]⟩)).setCell ⟨w.heap.size, 1, none⟩ (.slice none 0 0)).drew w.heap.size 91 [.string ⟨#[]⟩, .slice none 0 0]) := blk_two hB _ _
  have HU : Hid (Upd [] w ((v.setCell ⟨w.heap.size, 0, none⟩ (.string ⟨#[]⟩)).setCell ⟨w.heap.size, 1, none⟩ (.slice none 0 0)).drew) :=
    ((HUa.out.setCell _ _ (.inr (Nat.le_refl _))).setCell _ _ (.inr (Nat.le_refl _))).drew
  clear hB hR HUa
  go_region
  all_goals (go_wp2_with fail)
  all_goals
    have e0 := HB.out.cell 0
    have e1 := HB.out.cell 1
    have hU := HU.out
    clear HB HU
    generalize World.drew _ = W at *
    exact bodyPost_ret (v := .tuple #[iv 0, fv zF, .bool false]) (by simp [results, Try.results55, go_sem, e0, e1]; try rfl) rfl ⟨rfl, hU⟩
set_option maxRecDepth 20000 in
set_option maxHeartbeats 400000 in
theorem tAtIF_high (w : World) (i : Int) (hi64 : I64 i) (hs : TBIF base w g lv l) (hlen : l.length ≤ 100000) (hi : (l.length : Int) ≤ i) :
    Calls Try.prog 55 #[.pointer (some ⟨g, 0, none⟩), .int .i64 i] w fun e w' => e = .returned (.tuple #[iv 0, fv zF, .bool false]) ∧ Upd [] w w' := by
  obtain ⟨ao, co, rfl, hlc, hcm, hcell⟩ := hs.rows.rd rcIF_len
  have D0 := Lib.hid (show w.cell? ⟨g, 0, none⟩ = some (.slice ao l.length co) from hs.tab.cell 0)
  have q1 : (0 : Int) ≤ i := by omega
  clear hs hcell hcm
  have HU0 := Lib.hid ((Upd.refl [] w).alloc (.cells #[.string ⟨#[]⟩, .slice none 0 0] 91))
  have hB0 := Blk.new w 91 [.string ⟨#[]⟩, .slice none 0 0]
  have c0 := HU0.out.cell D0.out (by simp)
  go_enter Try.func55, Try.ntmps55
  go_wp2_with fail
  have HUa := Lib.hid (HU0.out.alloc (.cells #[.int .i64 0, .string ⟨#[]⟩, .slice none 0 0] 132))
  have hB := hB0.upd ((Upd.refl [] _).alloc (.cells #[.int .i64 0, .string ⟨#[]⟩, .slice none 0 0] 132)) (by simp)
  have hR := Blk.new (w.alloc (.cells #[.string ⟨#[]⟩, .slice none 0 0] 91)) 132 [.int .i64 0, .string ⟨#[]⟩, .slice none 0 0]
  have hne : w.heap.size ≠ w.heap.size + 1 := by omega
  have hsz : (w.alloc (.cells #[.string ⟨#[]⟩, .slice none 0 0] 91)).heap.size = w.heap.size + 1 := by simp
  rw [hsz] at hR
  clear hB0 HU0 c0 hsz
  change Blk ((w.alloc (.cells #[.string ⟨#[]⟩, .slice none 0 0] 91)).alloc (.cells #[.int .i64 0, .string ⟨#[]⟩, .slice none 0 0] 132)) _ _ _ at hR
  generalize (w.alloc (.cells #[.string ⟨#[]⟩, .slice none 0 0] 91)).alloc (.cells #[.int .i64 0, .string ⟨#[]⟩, .slice none 0 0] 132) = v at *
  have d0 := hB.cell 0
  have d1 := hB.cell 1
  have f0 := hB.frozen 0
  have f1 := hB.frozen 1
  have r0 := hR.cell 0
  have r1 := hR.cell 1
  have r2 := hR.cell 2
  simp only [List.getElem?_cons_zero, List.getElem?_cons_succ] at d0 d1 r0 r1 r2
  have HB : Hid (Blk ((v.setCell ⟨w.heap.size, 0, none⟩ (.string ⟨#[]⟩)).setCell ⟨w.heap.size, 1, none⟩ (.slice none 0 0)).drew w.heap.size 91 [.string ⟨#[]⟩, .slice none 0 0]) := blk_two hB _ _
  have HU : Hid (Upd [] w ((v.setCell ⟨w.heap.size, 0, none⟩ (.string ⟨#[]⟩)).setCell ⟨w.heap.size, 1, none⟩ (.slice none 0 0)).drew) :=
    ((HUa.out.setCell _ _ (.inr (Nat.le_refl _))).setCell _ _ (.inr (Nat.le_refl _))).drew
  clear hB hR HUa
  go_region
  all_goals (go_wp2_with fail)
  all_goals
    have e0 := HB.out.cell 0
    have e1 := HB.out.cell 1
    have hU := HU.out
    clear HB HU
    generalize World.drew _ = W at *
    exact bodyPost_ret (v := .tuple #[iv 0, fv zF, .bool false]) (by simp [results, Try.results55, go_sem, e0, e1]; try rfl) rfl ⟨rfl, hU⟩
end
end Go.Proofs.Ytmhdhnipljonlaa
