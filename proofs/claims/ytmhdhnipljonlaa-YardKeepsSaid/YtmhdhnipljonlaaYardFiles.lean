/- Chapter 21: Find and Files. -/
import Derived.Test.YtmhdhnipljonlaaYardRead
namespace Go.Proofs.Ytmhdhnipljonlaa
open Go.RowKit
set_option linter.unusedSimpArgs false
set_option linter.unusedVariables false
/-- A file as the yard tells it: its ino, its name, its size. -/
abbrev AF := Int × ByteArray × Int
abbrev afCells (p : AF) : List Value := [iv p.1, sv p.2.1, iv p.2.2]
abbrev af (p : AF) : Value := .agg #[iv p.1, sv p.2.1, iv p.2.2]
def tellF (p : Int × (ByteArray × List UInt8)) : AF := (p.1, p.2.1, (p.2.2.length : Int))
def yFindF (fl : FL) (s : ByteArray) : AF × Bool := if hasN fl s then (tellF (nth fl (findN fl s)), true) else ((0, ⟨#[]⟩, 0), false)
def yFiles (fl : FL) : List AF := fl.map tellF
/-- A result's own block of three cells, written. -/
theorem blk_three {w : World} {b : Nat} {e : TypeId} {x0 y0 z0 : Value} (h : Blk w b e [x0, y0, z0]) (x y z : Value) : Blk (((w.setCell ⟨b, 0, none⟩ x).setCell ⟨b, 1, none⟩ y).setCell ⟨b, 2, none⟩ z) b e [x, y, z] := by
  have := ((h.set_ 0 x).set_ 1 y).set_ 2 z
  simpa using this
section
variable {w0 w : World} {gy : Nat} {G : List Nat} {fl : FL} {tk : List (Int × Int)}
set_option maxRecDepth 20000 in
set_option maxHeartbeats 1000000 in
theorem yFindF_any (s : ByteArray) (h : YD w0 w gy G fl tk) :
    Calls Try.prog 20 #[.pointer (some ⟨gy, 0, none⟩), sv s] w fun e w' => e = .returned (.tuple #[af (yFindF fl s).1, .bool (yFindF fl s).2]) ∧ Upd [] w w' := by
  obtain ⟨gf, gt, F, T, cs, hc, rfl, hlen, hin, rfl⟩ := h.ex
  have hu0 := (Upd.refl [] w).alloc (.cells #[.int .i64 0, .string ⟨#[]⟩, .int .i64 0] 31)
  have HC := Lib.hid (hc.upd0 hu0)
  have HU0 := Lib.hid hu0
  have hB0 := Lib.hid (Blk.new w 31 [.int .i64 0, .string ⟨#[]⟩, .int .i64 0])
  have hlen1 : cs.length ≤ 1000 := by omega
  cases hh : hasN (filesOf cs) s with
  | false =>
    have HY : Hid (yFindF (filesOf cs) s = ((0, ⟨#[]⟩, 0), false)) := by unfold Hid yFindF; rw [hh]; rfl
    have HF := Lib.hid (yFind_no s HC.out hlen1 hh)
    clear hc h hin hh hu0
    go_enter Try.func20, Try.ntmps20
    go_wp2_with fail
    (with_reducible refine HF.out.mono ?_)
    rintro e w1 ⟨rfl, hu1⟩
    have hB1 := hB0.out.upd hu1 (by simp)
    have hB := hB1.upd ((Upd.refl [] _).alloc (.cells #[.string ⟨#[]⟩, .slice none 0 0] 91)) (by simp)
    have HU1 := Lib.hid ((HU0.out.seq hu1).alloc (.cells #[.string ⟨#[]⟩, .slice none 0 0] 91))
    have hlt : w.heap.size < w1.heap.size := hB1.lt
    have d0 := hB1.cell 0
    have d1 := hB1.cell 1
    have d2 := hB1.cell 2
    have f0 := hB1.frozen 0
    have f1 := hB1.frozen 1
    have f2 := hB1.frozen 2
    simp only [List.getElem?_cons_zero, List.getElem?_cons_succ] at d0 d1 d2
    have HB := Lib.hid ((blk_three hB1 (.int .i64 0) (.string ⟨#[]⟩) (.int .i64 0)).upd ((Upd.refl [] _).alloc (.cells #[.string ⟨#[]⟩, .slice none 0 0] 91)) (by simp))
    have HU := Lib.hid (((((HU0.out.seq hu1).setCell ⟨w.heap.size, 0, none⟩ (.int .i64 0) (.inr (Nat.le_refl _))).setCell ⟨w.heap.size, 1, none⟩ (.string ⟨#[]⟩) (.inr (Nat.le_refl _))).setCell ⟨w.heap.size, 2, none⟩ (.int .i64 0) (.inr (Nat.le_refl _))).alloc (.cells #[.string ⟨#[]⟩, .slice none 0 0] 91))
    clear hu1 hB hB1
    go_wp2_with fail
    have e0 := HB.out.cell 0
    have e1 := HB.out.cell 1
    have e2 := HB.out.cell 2
    have hU := HU.out
    clear HB HU
    generalize World.alloc _ _ = W at *
    rw [HY.out]
    exact bodyPost_ret (v := .tuple #[af (0, ⟨#[]⟩, 0), .bool false]) (by simp [results, Try.results20, go_sem, e0, e1, e2]; try rfl) rfl ⟨rfl, hU⟩
  | true =>
    have HF := Lib.hid (yFind_yes s _ HC.out hlen1 hh rfl)
    have hlt : findN (filesOf cs) s < cs.length := by unfold hasN at hh; have := of_decide_eq_true hh; rwa [files_len] at this
    have hat := findN_at (filesOf cs) s (by rw [files_len]; exact hlt)
    rw [nth_files cs _ hlt] at hat
    have hmem : nth cs (findN (filesOf cs) s) ∈ cs := nth_mem _ hlt
    have HY : Hid (yFindF (filesOf cs) s = (((nth cs (findN (filesOf cs) s)).1, (nth cs (findN (filesOf cs) s)).2.1.1, ((nth cs (findN (filesOf cs) s)).2.2.length : Int)), true)) := by unfold Hid yFindF tellF; rw [hh, nth_files cs _ hlt]; rfl
    have hx := hin _ hmem
    have ho := hc.own _ hmem
    generalize nth cs (findN (filesOf cs) s) = c0 at *
    obtain ⟨x, ⟨nm, sl⟩, bs⟩ := c0
    have hat : nm = s := hat
    subst hat
    have hx0 : (x == 0) = false := by rw [beq_eq_false_iff_ne]; have := hx.1; simp at this; omega
    have hsn : sl.n = bs.length := by
      rcases ho.2 with ⟨he, h0⟩ | ⟨g', cap', cur, he, -⟩
      · injection he with e1 e2 e3; rw [e2]; exact h0.symm
      · injection he with e1 e2 e3
    obtain ⟨sa, sn, sk⟩ := sl
    have hsn : sn = bs.length := hsn
    subst hsn
    have HY : Hid (yFindF (filesOf cs) nm = ((x, nm, (bs.length : Int)), true)) := HY
    clear hc h hin hh hu0 hlt hmem ho hx
    go_enter Try.func20, Try.ntmps20
    go_wp2_with fail
    (with_reducible refine HF.out.mono ?_)
    rintro e w1 ⟨rfl, hu1⟩
    have hB1 := hB0.out.upd hu1 (by simp)
    have hlt : w.heap.size < w1.heap.size := hB1.lt
    have d0 := hB1.cell 0
    have d1 := hB1.cell 1
    have d2 := hB1.cell 2
    have f0 := hB1.frozen 0
    have f1 := hB1.frozen 1
    have f2 := hB1.frozen 2
    simp only [List.getElem?_cons_zero, List.getElem?_cons_succ] at d0 d1 d2
    have HB := Lib.hid ((blk_three hB1 (iv x) (sv nm) (.int .i64 (bs.length : Int))).upd ((Upd.refl [] _).alloc (.cells #[sv nm, .slice sa bs.length sk] 91)) (by simp))
    have HU := Lib.hid (((((HU0.out.seq hu1).setCell ⟨w.heap.size, 0, none⟩ (iv x) (.inr (Nat.le_refl _))).setCell ⟨w.heap.size, 1, none⟩ (sv nm) (.inr (Nat.le_refl _))).setCell ⟨w.heap.size, 2, none⟩ (.int .i64 (bs.length : Int)) (.inr (Nat.le_refl _))).alloc (.cells #[sv nm, .slice sa bs.length sk] 91))
    clear hu1 hB1
    go_wp2_with fail
    have e0 := HB.out.cell 0
    have e1 := HB.out.cell 1
    have e2 := HB.out.cell 2
    have hU := HU.out
    clear HB HU
    generalize World.alloc _ _ = W at *
    rw [HY.out]
    exact bodyPost_ret (v := .tuple #[af (x, nm, (bs.length : Int)), .bool true]) (by simp [results, Try.results20, go_sem, e0, e1, e2]; try rfl) rfl ⟨rfl, hU⟩
end
end Go.Proofs.Ytmhdhnipljonlaa
