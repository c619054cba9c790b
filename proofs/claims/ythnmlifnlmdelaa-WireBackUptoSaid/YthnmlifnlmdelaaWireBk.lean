/- Chapter 2: an item read again: numbers, texts, flags. -/
import Derived.Test.YthnmlifnlmdelaaWireRd3
import Derived.Test.YthnmlifnlmdelaaSls
import Derived.Deep.RegionHeld3
namespace Go.Proofs.Ythnmlifnlmdelaa
open Go.RowKit
set_option linter.unusedSimpArgs false
set_option linter.unusedVariables false
def BackSaid (base : Nat) (w : World) (g : Nat) (v : Value) (B : List UInt8) (r : Bool) (z : RSt) (e : Ending) (w' : World) : Prop :=
  e = .returned (.bool r) ∧ RdrAt 79 base w' g v B z ∧ Upd [g] w w'
section
variable {base : Nat} {g : Nat} {v : Value} {B : List UInt8} {z : RSt}
set_option maxHeartbeats 4000000 in
theorem back1_any (w : World) (n mo : Int) (s : ByteArray) (f : Bool) (lv : Sl) (hn : I64 n)  (h : RdrAt 79 base w g v B z) :
    Calls Try.prog 45 #[.pointer (some ⟨g, 0, none⟩), .agg #[.int .i64 1, .int .i64 n, .int .i64 mo, .string s, .bool f, slv lv]] w fun e w' => BackSaid base w g v B (((rdNum B z).1 : Int) == (n.toNat : Int)) ((rdNum B z).2) e w' := by
  obtain ⟨la, ln, lk⟩ := lv
  dsimp only [slv]
  have H := Lib.hid h
  obtain ⟨P, hP, hPa⟩ : ∃ P : Int, P = (n.toNat : Int) ∧ ((n < 0 ∧ P = 0) ∨ (¬ n < 0 ∧ P = n)) := ⟨(n.toNat : Int), rfl, by omega⟩
  have HP := Lib.hid hP
  have hPi : I64 P := by obtain ⟨q1, q2⟩ := hn; exact ⟨by omega, by omega⟩
  have HPI := Lib.hid hPi
  clear hP hPi hn
  go_enter Try.func45, Try.ntmps45
  obtain ⟨w0, hw0⟩ : ∃ x, x = w.alloc (.cells #[.int .i64 1, .int .i64 n, .int .i64 mo, .string s, .bool f, .slice la ln lk] 58) := ⟨_, rfl⟩
  have HU0 : Hid (Upd [] w w0) := by rw [hw0]; exact (Upd.refl [] w).alloc _
  have HB0 := Lib.hid (Blk.new w 58 [.int .i64 1, .int .i64 n, .int .i64 mo, .string s, .bool f, .slice la ln lk])
  replace HB0 : Hid (Blk w0 w.heap.size 58 [.int .i64 1, .int .i64 n, .int .i64 mo, .string s, .bool f, .slice la ln lk]) := by rw [hw0]; exact HB0.out
  have HR0 := Lib.hid (h.upd HU0.out)
  have hgw := h.cells.lt
  clear h
  rcases hPa with ⟨hn0, rfl⟩ | ⟨hn0, rfl⟩
  all_goals go_wp2_with fail
  all_goals (rw [← hw0]; clear hw0)
  all_goals
    with_reducible refine (rNum_any _ HR0.out).mono ?_
    rintro e w1 ⟨rfl, h1, hu1⟩
  all_goals go_wp2_with fail
  all_goals go_ret
  all_goals exact ⟨by rw [← HP.out]; rfl, h1, HU0.out.trans hu1 (by simp) (fun x hx => .inl hx)⟩
set_option maxHeartbeats 4000000 in
theorem back4_any (w : World) (n mo : Int) (s : ByteArray) (f : Bool) (lv : Sl) (hn : I64 n)  (h : RdrAt 79 base w g v B z) :
    Calls Try.prog 45 #[.pointer (some ⟨g, 0, none⟩), .agg #[.int .i64 4, .int .i64 n, .int .i64 mo, .string s, .bool f, slv lv]] w fun e w' => BackSaid base w g v B (((rdUpto B (n.toNat : Int) z).1 : Int) == (n.toNat : Int)) ((rdUpto B (n.toNat : Int) z).2) e w' := by
  obtain ⟨la, ln, lk⟩ := lv
  dsimp only [slv]
  have H := Lib.hid h
  obtain ⟨P, hP, hPa⟩ : ∃ P : Int, P = (n.toNat : Int) ∧ ((n < 0 ∧ P = 0) ∨ (¬ n < 0 ∧ P = n)) := ⟨(n.toNat : Int), rfl, by omega⟩
  have HP := Lib.hid hP
  have hPi : I64 P := by obtain ⟨q1, q2⟩ := hn; exact ⟨by omega, by omega⟩
  have HPI := Lib.hid hPi
  clear hP hPi hn
  go_enter Try.func45, Try.ntmps45
  obtain ⟨w0, hw0⟩ : ∃ x, x = w.alloc (.cells #[.int .i64 4, .int .i64 n, .int .i64 mo, .string s, .bool f, .slice la ln lk] 58) := ⟨_, rfl⟩
  have HU0 : Hid (Upd [] w w0) := by rw [hw0]; exact (Upd.refl [] w).alloc _
  have HB0 := Lib.hid (Blk.new w 58 [.int .i64 4, .int .i64 n, .int .i64 mo, .string s, .bool f, .slice la ln lk])
  replace HB0 : Hid (Blk w0 w.heap.size 58 [.int .i64 4, .int .i64 n, .int .i64 mo, .string s, .bool f, .slice la ln lk]) := by rw [hw0]; exact HB0.out
  have HR0 := Lib.hid (h.upd HU0.out)
  have hgw := h.cells.lt
  clear h
  rcases hPa with ⟨hn0, rfl⟩ | ⟨hn0, rfl⟩
  all_goals go_wp2_with fail
  all_goals (rw [← hw0]; clear hw0)
  all_goals
    with_reducible refine (rUpto_any _ _ HPI.out HR0.out).mono ?_
    rintro e w1 ⟨rfl, h1, hu1⟩
    rw [HP.out] at h1
  all_goals go_wp2_with fail
  all_goals go_ret
  all_goals exact ⟨by rw [← HP.out]; rfl, h1, HU0.out.trans hu1 (by simp) (fun x hx => .inl hx)⟩
set_option maxHeartbeats 4000000 in
theorem back2_any (w : World) (n mo : Int) (s : ByteArray) (f : Bool) (lv : Sl) (hn : I64 n) (hs : s.size ≤ 10000000000) (h : RdrAt 79 base w g v B z) :
    Calls Try.prog 45 #[.pointer (some ⟨g, 0, none⟩), .agg #[.int .i64 2, .int .i64 n, .int .i64 mo, .string s, .bool f, slv lv]] w fun e w' => BackSaid base w g v B ((strOf (rdText B (s.size : Int) z).1).toList == s.toList) ((rdText B (s.size : Int) z).2) e w' := by
  obtain ⟨la, ln, lk⟩ := lv
  dsimp only [slv]
  have H := Lib.hid h
  obtain ⟨P, hP, hPa⟩ : ∃ P : Int, P = (n.toNat : Int) ∧ ((n < 0 ∧ P = 0) ∨ (¬ n < 0 ∧ P = n)) := ⟨(n.toNat : Int), rfl, by omega⟩
  have HP := Lib.hid hP
  have hPi : I64 P := by obtain ⟨q1, q2⟩ := hn; exact ⟨by omega, by omega⟩
  have HPI := Lib.hid hPi
  clear hP hPi hn
  go_enter Try.func45, Try.ntmps45
  obtain ⟨w0, hw0⟩ : ∃ x, x = w.alloc (.cells #[.int .i64 2, .int .i64 n, .int .i64 mo, .string s, .bool f, .slice la ln lk] 58) := ⟨_, rfl⟩
  have HU0 : Hid (Upd [] w w0) := by rw [hw0]; exact (Upd.refl [] w).alloc _
  have HB0 := Lib.hid (Blk.new w 58 [.int .i64 2, .int .i64 n, .int .i64 mo, .string s, .bool f, .slice la ln lk])
  replace HB0 : Hid (Blk w0 w.heap.size 58 [.int .i64 2, .int .i64 n, .int .i64 mo, .string s, .bool f, .slice la ln lk]) := by rw [hw0]; exact HB0.out
  have HR0 := Lib.hid (h.upd HU0.out)
  have hgw := h.cells.lt
  clear h
  rcases hPa with ⟨hn0, rfl⟩ | ⟨hn0, rfl⟩
  all_goals go_wp2_with fail
  all_goals (rw [← hw0]; clear hw0)
  all_goals
    have c3 : w0.cell? ⟨w.heap.size, 3, none⟩ = some (.string s) := HB0.out.cell 3
    have HC1 : Hid (∀ W, Upd [] w0 W → Calls Try.prog 36 #[.pointer (some ⟨g, 0, none⟩), .int .i64 (s.size : Int)] W fun x w' => x = .returned (.string (strOf (rdText B (s.size : Int) z).1)) ∧ RdrAt 79 base w' g v B (rdText B (s.size : Int) z).2 ∧ Upd [g] W w') := fun W hu => rText_any W _ ⟨by omega, by omega⟩ (HR0.out.upd hu)
  all_goals
    go_region_held3 (fun w' => w'.cell? ⟨w.heap.size, 3, none⟩ = some (.string s)) (first | go_keep | exact c1 | exact c3) (first
      | (go_at_call 36; with_reducible refine (HC1.out _ (by repeat (first | with_reducible exact Upd.refl _ _ | with_reducible apply Upd.drew | with_reducible apply Upd.drewN | with_reducible apply Upd.alloc))).mono ?_; rintro e w1 ⟨rfl, h1, hu1⟩; have hk1 : Upd [g] w0 w1 := Upd.trans (T := [g]) (show Upd [] w0 _ from (by repeat (first | with_reducible exact Upd.refl _ _ | with_reducible apply Upd.drew | with_reducible apply Upd.drewN | with_reducible apply Upd.alloc))) hu1 (by simp) (fun x hx => .inl hx); have c1 := hk1.cell c3 (by simp; omega); dsimp only))
  all_goals go_wp2_with fail
  all_goals go_ret
  all_goals exact ⟨rfl, h1, HU0.out.trans hk1 (by simp) (fun x hx => .inl hx)⟩
set_option maxHeartbeats 4000000 in
theorem back3_any (w : World) (n mo : Int) (s : ByteArray) (f : Bool) (lv : Sl) (hn : I64 n)  (h : RdrAt 79 base w g v B z) :
    Calls Try.prog 45 #[.pointer (some ⟨g, 0, none⟩), .agg #[.int .i64 3, .int .i64 n, .int .i64 mo, .string s, .bool f, slv lv]] w fun e w' => BackSaid base w g v B ((rdFlag B z).1 == f) ((rdFlag B z).2) e w' := by
  obtain ⟨la, ln, lk⟩ := lv
  dsimp only [slv]
  have H := Lib.hid h
  obtain ⟨P, hP, hPa⟩ : ∃ P : Int, P = (n.toNat : Int) ∧ ((n < 0 ∧ P = 0) ∨ (¬ n < 0 ∧ P = n)) := ⟨(n.toNat : Int), rfl, by omega⟩
  have HP := Lib.hid hP
  have hPi : I64 P := by obtain ⟨q1, q2⟩ := hn; exact ⟨by omega, by omega⟩
  have HPI := Lib.hid hPi
  clear hP hPi hn
  go_enter Try.func45, Try.ntmps45
  obtain ⟨w0, hw0⟩ : ∃ x, x = w.alloc (.cells #[.int .i64 3, .int .i64 n, .int .i64 mo, .string s, .bool f, .slice la ln lk] 58) := ⟨_, rfl⟩
  have HU0 : Hid (Upd [] w w0) := by rw [hw0]; exact (Upd.refl [] w).alloc _
  have HB0 := Lib.hid (Blk.new w 58 [.int .i64 3, .int .i64 n, .int .i64 mo, .string s, .bool f, .slice la ln lk])
  replace HB0 : Hid (Blk w0 w.heap.size 58 [.int .i64 3, .int .i64 n, .int .i64 mo, .string s, .bool f, .slice la ln lk]) := by rw [hw0]; exact HB0.out
  have HR0 := Lib.hid (h.upd HU0.out)
  have hgw := h.cells.lt
  clear h
  rcases hPa with ⟨hn0, rfl⟩ | ⟨hn0, rfl⟩
  all_goals go_wp2_with fail
  all_goals (rw [← hw0]; clear hw0)
  all_goals
    have c3 : w0.cell? ⟨w.heap.size, 4, none⟩ = some (.bool f) := HB0.out.cell 4
    have HC1 : Hid (∀ W, Upd [] w0 W → Calls Try.prog 59 #[.pointer (some ⟨g, 0, none⟩)] W fun x w' => x = .returned (.bool (rdFlag B z).1) ∧ RdrAt 79 base w' g v B (rdFlag B z).2 ∧ Upd [g] W w') := fun W hu => rFlag_any W (HR0.out.upd hu)
  all_goals
    go_region_held3 (fun w' => w'.cell? ⟨w.heap.size, 4, none⟩ = some (.bool f)) (first | go_keep | exact c1 | exact c3) (first
      | (go_at_call 59; with_reducible refine (HC1.out _ (by repeat (first | with_reducible exact Upd.refl _ _ | with_reducible apply Upd.drew | with_reducible apply Upd.drewN | with_reducible apply Upd.alloc))).mono ?_; rintro e w1 ⟨rfl, h1, hu1⟩; have hk1 : Upd [g] w0 w1 := Upd.trans (T := [g]) (show Upd [] w0 _ from (by repeat (first | with_reducible exact Upd.refl _ _ | with_reducible apply Upd.drew | with_reducible apply Upd.drewN | with_reducible apply Upd.alloc))) hu1 (by simp) (fun x hx => .inl hx); have c1 := hk1.cell c3 (by simp; omega); dsimp only))
  all_goals go_wp2_with fail
  all_goals go_ret
  all_goals exact ⟨rfl, h1, HU0.out.trans hk1 (by simp) (fun x hx => .inl hx)⟩
end
end Go.Proofs.Ythnmlifnlmdelaa
