/- Chapter 8's functions. -/
import Derived.Test.YtfpibngdpooedaaRows
import Derived.Test.YtfpibngdpooedaaBase
import Derived.Test.YtfpibngdpooedaaQuiet
import Derived.Laws.ResultCell
namespace Go.Proofs.Ytfpibngdpooedaa
open Go.RowKit
set_option linter.unusedSimpArgs false
set_option linter.unusedVariables false

/-- What a byte is, and the state behind it. -/
def lineStep (n : Nat) (long : Bool) (c : UInt8) : Nat × Nat × Bool :=
  if c = 10 then (if long then 5 else 2, 0, false)
  else if long then (4, n, long)
  else if 200 ≤ n then (3, 0, true)
  else (1, n + 1, false)
def SplBlk (w : World) (g : Nat) (n : Nat) (long : Bool) : Prop := Blk w g 87 [.int .i64 (n : Int), .bool long]

set_option maxRecDepth 20000 in
set_option maxHeartbeats 400000 in
theorem lineByte_any (w : World) (g n : Nat) (long : Bool) (c : UInt8) (hb : SplBlk w g n long) (hn : n ≤ 200) :
    Calls Try.prog 31 #[.pointer (some ⟨g, 0, none⟩), bv c] w fun e w' =>
      e = .returned (.int .i64 ((lineStep n long c).1 : Int)) ∧ SplBlk w' g (lineStep n long c).2.1 (lineStep n long c).2.2 ∧ Upd [g] w w' := by
  have HB := Lib.hid hb
  have c0 : w.cell? ⟨g, 0, none⟩ = some (.int .i64 (n : Int)) := hb.cell 0
  have c1 : w.cell? ⟨g, 1, none⟩ = some (.bool long) := hb.cell 1
  have f0 : w.frozen? ⟨g, 0, none⟩ = false := hb.frozen 0
  have f1 : w.frozen? ⟨g, 1, none⟩ = false := hb.frozen 1
  clear hb
  by_cases hc : c = 10
  · have t1 : ((c.toNat : Int) == 10) = true := by rw [hc]; decide
    have HC : Hid (lineStep n long c = (if long then 5 else 2, 0, false)) := if_pos hc
    clear hc
    cases long
    all_goals
      go_enter Try.func31, Try.ntmps31
      go_wp2
      go_ret
      rw [HC.out]
      exact ⟨rfl, (HB.out.set_ 0 (.int .i64 0)).set_ 1 (.bool false), ((Upd.refl [g] w).setCell _ _ (.inl (by simp))).setCell _ _ (.inl (by simp))⟩
  · have t1 : ((c.toNat : Int) == 10) = false := by
      rw [beq_eq_false_iff_ne]; intro e; exact hc (UInt8.toNat_inj.1 (by show c.toNat = 10; omega))
    cases long
    · by_cases h2 : 200 ≤ n
      · have q : (200 : Int) ≤ n := by omega
        have HC : Hid (lineStep n false c = (3, 0, true)) := by unfold Hid lineStep; simp [hc, h2]
        clear hc
        go_enter Try.func31, Try.ntmps31
        go_wp2
        go_ret
        rw [HC.out]
        exact ⟨rfl, (HB.out.set_ 0 (.int .i64 0)).set_ 1 (.bool true), ((Upd.refl [g] w).setCell _ _ (.inl (by simp))).setCell _ _ (.inl (by simp))⟩
      · have q : (n : Int) < 200 := by omega
        have HC : Hid (lineStep n false c = (1, n + 1, false)) := by unfold Hid lineStep; simp [hc, h2]
        clear hc
        go_enter Try.func31, Try.ntmps31
        go_wp2
        go_ret
        rw [HC.out]
        exact ⟨rfl, HB.out.set_ 0 (.int .i64 ((n : Int) + 1)), (Upd.refl [g] w).setCell _ _ (.inl (by simp))⟩
    · have HC : Hid (lineStep n true c = (4, n, true)) := by unfold Hid lineStep; simp [hc]
      clear hc
      go_enter Try.func31, Try.ntmps31
      go_wp2
      go_ret
      rw [HC.out]
      exact ⟨rfl, HB.out, Upd.refl _ _⟩
theorem lineStep_le (n : Nat) (long : Bool) (c : UInt8) (h : n ≤ 200) : (lineStep n long c).2.1 ≤ 200 := by
  unfold lineStep; split
  · simp
  · split
    · exact h
    · split <;> simp; omega
theorem lineLen_any (w : World) (g n : Nat) (long : Bool) (hb : SplBlk w g n long) :
    Calls Try.prog 32 #[.pointer (some ⟨g, 0, none⟩)] w fun e w' => e = .returned (.int .i64 (n : Int)) ∧ w = w' := by
  have c0 : w.cell? ⟨g, 0, none⟩ = some (.int .i64 (n : Int)) := hb.cell 0
  go_enter Try.func32, Try.ntmps32
  go_wp2
  go_ret
  exact ⟨rfl, rfl⟩
theorem lineLong_any (w : World) (g n : Nat) (long : Bool) (hb : SplBlk w g n long) :
    Calls Try.prog 33 #[.pointer (some ⟨g, 0, none⟩)] w fun e w' => e = .returned (.bool long) ∧ w = w' := by
  have c0 : w.cell? ⟨g, 1, none⟩ = some (.bool long) := hb.cell 1
  go_enter Try.func33, Try.ntmps33
  go_wp2
  go_ret
  exact ⟨rfl, rfl⟩
theorem lineNew_any (w : World) :
    Calls Try.prog 30 #[] w fun e w' => e = .returned (.pointer (some ⟨w.heap.size, 0, none⟩)) ∧ SplBlk w' w.heap.size 0 false ∧ Upd [] w w' := by
  go_enter Try.func30, Try.ntmps30
  go_wp2
  go_ret
  exact ⟨rfl, Blk.new w _ [.int .i64 0, .bool false], (Upd.refl [] w).alloc _⟩
theorem lineOf_ok (w : World) (n : Nat) (long : Bool) (hn : n ≤ 200) (hl : long = true → n = 0) :
    Calls Try.prog 34 #[.int .i64 (n : Int), .bool long] w fun e w' => e = .returned (.tuple #[.pointer (some ⟨w.heap.size, 0, none⟩), .int .i64 0]) ∧ SplBlk w' w.heap.size n long ∧ Upd [] w w' := by
  have q : (n : Int) ≤ 200 := by omega
  cases long
  · go_enter Try.func34, Try.ntmps34
    go_wp2
    go_ret2
    exact ⟨rfl, Blk.new w _ [.int .i64 (n : Int), .bool false], (Upd.refl [] w).alloc _⟩
  · obtain rfl : n = 0 := hl rfl
    go_enter Try.func34, Try.ntmps34
    go_wp2
    go_ret2
    exact ⟨rfl, Blk.new w _ [.int .i64 0, .bool true], (Upd.refl [] w).alloc _⟩
theorem lineOf_no (w : World) (n : Int) (long : Bool) (h : n < 0 ∨ 200 < n ∨ (long = true ∧ n ≠ 0)) :
    Calls Try.prog 34 #[.int .i64 n, .bool long] w fun e w' => e = .returned (.tuple #[.pointer none, .int .i64 1]) ∧ w = w' := by
  by_cases h1 : n < 0
  · clear h
    go_enter Try.func34, Try.ntmps34
    go_wp2
    go_ret2
    exact ⟨rfl, rfl⟩
  · by_cases h2 : 200 < n
    · clear h
      go_enter Try.func34, Try.ntmps34
      go_wp2
      go_ret2
      exact ⟨rfl, rfl⟩
    · obtain ⟨rfl, h3⟩ : long = true ∧ n ≠ 0 := by rcases h with h | h | h; exact absurd h h1; exact absurd h h2; exact h
      have t : (n != 0) = true := by rw [bne_iff_ne]; exact h3
      clear h h3
      go_enter Try.func34, Try.ntmps34
      go_wp2
      go_ret2
      exact ⟨rfl, rfl⟩
set_option maxRecDepth 20000 in
set_option maxHeartbeats 400000 in
/-- The reference's step. -/
theorem refLine_any (w : World) (n : Nat) (long : Bool) (c : UInt8) (hn : n ≤ 200) :
    Calls Try.prog 38 #[.agg #[.int .i64 (n : Int), .bool long], bv c] w fun e w' => e = .returned (.tuple #[.agg #[.int .i64 ((lineStep n long c).2.1 : Int), .bool (lineStep n long c).2.2], .int .i64 ((lineStep n long c).1 : Int)]) ∧ Upd [] w w' := by
  by_cases hc : c = 10
  · have t1 : ((c.toNat : Int) == 10) = true := by rw [hc]; decide
    cases long
    · have HC : Hid (lineStep n false c = (2, 0, false)) := if_pos hc
      clear hc
      go_enter Try.func38, Try.ntmps38
      go_wp2
      exact bodyPost_ret (v := .tuple #[.agg #[.int .i64 0, .bool false], .int .i64 2]) (by simp [results, Try.results38, go_sem]; try rfl) rfl ⟨by rw [HC.out]; rfl, by repeat (first | exact Upd.refl _ _ | apply Upd.alloc | apply Upd.drew | (refine Upd.setCell ?_ _ _ (.inr (by simp))))⟩
    · have HC : Hid (lineStep n true c = (5, 0, false)) := if_pos hc
      clear hc
      go_enter Try.func38, Try.ntmps38
      go_wp2
      exact bodyPost_ret (v := .tuple #[.agg #[.int .i64 0, .bool false], .int .i64 5]) (by simp [results, Try.results38, go_sem]; try rfl) rfl ⟨by rw [HC.out]; rfl, by repeat (first | exact Upd.refl _ _ | apply Upd.alloc | apply Upd.drew | (refine Upd.setCell ?_ _ _ (.inr (by simp))))⟩
  · have t1 : ((c.toNat : Int) == 10) = false := by
      rw [beq_eq_false_iff_ne]; intro e; exact hc (UInt8.toNat_inj.1 (by show c.toNat = 10; omega))
    cases long
    · by_cases h2 : 200 ≤ n
      · have q : (200 : Int) ≤ n := by omega
        have HC : Hid (lineStep n false c = (3, 0, true)) := by unfold Hid lineStep; simp [hc, h2]
        clear hc
        go_enter Try.func38, Try.ntmps38
        go_wp2
        exact bodyPost_ret (v := .tuple #[.agg #[.int .i64 0, .bool true], .int .i64 3]) (by simp [results, Try.results38, go_sem]; try rfl) rfl ⟨by rw [HC.out]; rfl, by repeat (first | exact Upd.refl _ _ | apply Upd.alloc | apply Upd.drew | (refine Upd.setCell ?_ _ _ (.inr (by simp))))⟩
      · have q : (n : Int) < 200 := by omega
        have HC : Hid (lineStep n false c = (1, n + 1, false)) := by unfold Hid lineStep; simp [hc, h2]
        clear hc
        go_enter Try.func38, Try.ntmps38
        go_wp2
        exact bodyPost_ret (v := .tuple #[.agg #[.int .i64 ((n : Int) + 1), .bool false], .int .i64 1]) (by simp [results, Try.results38, go_sem]; try rfl) rfl ⟨by rw [HC.out]; rfl, by repeat (first | exact Upd.refl _ _ | apply Upd.alloc | apply Upd.drew | (refine Upd.setCell ?_ _ _ (.inr (by simp))))⟩
    · have HC : Hid (lineStep n true c = (4, n, true)) := by unfold Hid lineStep; simp [hc]
      clear hc
      go_enter Try.func38, Try.ntmps38
      go_wp2
      exact bodyPost_ret (v := .tuple #[.agg #[.int .i64 (n : Int), .bool true], .int .i64 4]) (by simp [results, Try.results38, go_sem]; try rfl) rfl ⟨by rw [HC.out]; rfl, by repeat (first | exact Upd.refl _ _ | apply Upd.alloc | apply Upd.drew | (refine Upd.setCell ?_ _ _ (.inr (by simp))))⟩
end Go.Proofs.Ytfpibngdpooedaa
