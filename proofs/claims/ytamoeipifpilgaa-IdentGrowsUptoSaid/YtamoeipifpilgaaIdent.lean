/- Chapter 26's functions, and the reference's. -/
import Derived.Test.YtamoeipifpilgaaSum
import Derived.Deep.RegionHeld3
import Derived.Laws.ResultCell
namespace Go.Proofs.Ytamoeipifpilgaa
open Go.RowKit
set_option linter.unusedSimpArgs false
set_option linter.unusedVariables false

def headSum (l : List UInt8) : BitVec 32 := sumOn 0 (l.take 16)
def headV (l : List UInt8) : Value := .agg #[.int .i64 ((min l.length 16 : Nat) : Int), .int .u32 ((headSum l).toNat : Int)]
def sameB (n : Int) (s : BitVec 32) (at_ size : Int) (b : List UInt8) : Bool := decide (at_ ≤ size ∧ 0 ≤ n ∧ n ≤ 16 ∧ n ≤ b.length ∧ sumOn 0 (b.take n.toNat) = s)


set_option maxHeartbeats 400000 in
theorem head_any (w : World) (v : Value) (l : List UInt8) (h : Bytes w v l) :
    Calls Try.prog 12 #[v] w fun e w' => e = .returned (headV l) ∧ Upd [] w w' := by
  have h0 := h
  obtain ⟨a, cap, rfl, hlc, hm, hc⟩ := h
  have hm' : cap ≤ 9223372036854775807 := hm
  clear hm hc
  by_cases hl : l.length ≤ 16
  · have q : (l.length : Int) ≤ 16 := by omega
    have H := Lib.hid h0
    have hV : headV l = .agg #[.int .i64 (l.length : Int), .int .u32 ((sumOn 0 l).toNat : Int)] := by
      unfold headV headSum; rw [Nat.min_eq_left hl, List.take_of_length_le hl]
    have HV := Lib.hid hV
    clear h0 hV
    go_enter Try.func12, Try.ntmps12
    go_wp2_with fail
    refine (of_any _ [l] _ (Parts.one _ _ (by simp) rfl rfl rfl (H.out.alloc _))).mono ?_
    rintro e w' ⟨rfl, rfl⟩
    go_wp2_with fail
    exact bodyPost_ret (v := .agg #[.int .i64 (l.length : Int), .int .u32 ((sumOn 0 l).toNat : Int)]) (by simp [results, Try.results12, go_sem]; try rfl) rfl ⟨by rw [HV.out], by exact by repeat (first | exact Upd.refl _ _ | apply Upd.alloc | apply Upd.drew | (refine Upd.setCell ?_ _ _ (.inr (by simp))))⟩
  · have q : (16 : Int) < l.length := by omega
    have q2 : (16 : Int) ≤ cap := by omega
    have H := Lib.hid (h0.take 16 (by omega))
    have hV : headV l = .agg #[.int .i64 16, .int .u32 ((sumOn 0 (l.take 16)).toNat : Int)] := by
      unfold headV headSum; rw [Nat.min_eq_right (by omega)]; rfl
    have HV := Lib.hid hV
    clear h0 hV
    generalize l.take 16 = l2 at *
    go_enter Try.func12, Try.ntmps12
    go_wp2_with fail
    refine (of_any _ [l2] _ (Parts.one _ _ (by simp) rfl rfl rfl (H.out.alloc _))).mono ?_
    rintro e w' ⟨rfl, rfl⟩
    go_wp2_with fail
    exact bodyPost_ret (v := .agg #[.int .i64 16, .int .u32 ((sumOn 0 l2).toNat : Int)]) (by simp [results, Try.results12, go_sem]; try rfl) rfl ⟨by rw [HV.out], by exact by repeat (first | exact Upd.refl _ _ | apply Upd.alloc | apply Upd.drew | (refine Upd.setCell ?_ _ _ (.inr (by simp))))⟩

set_option maxHeartbeats 400000 in
theorem refHead_any (w : World) (v : Value) (l : List UInt8) (h : Bytes w v l) :
    Calls Try.prog 15 #[v] w fun e w' => e = .returned (headV l) ∧ Upd [] w w' := by
  have h0 := h
  obtain ⟨a, cap, rfl, hlc, hm, hc⟩ := h
  have hm' : cap ≤ 9223372036854775807 := hm
  clear hm hc
  by_cases hl : l.length ≤ 16
  · have q : (l.length : Int) ≤ 16 := by omega
    have H := Lib.hid h0
    have hV : headV l = .agg #[.int .i64 (l.length : Int), .int .u32 ((sumOn 0 l).toNat : Int)] := by
      unfold headV headSum; rw [Nat.min_eq_left hl, List.take_of_length_le hl]
    have HV := Lib.hid hV
    clear h0 hV
    go_enter Try.func15, Try.ntmps15
    go_wp2_with fail
    refine (refOn_any 0 _ (l) _ (H.out.alloc _)).mono ?_
    rintro e w' ⟨rfl, rfl⟩
    go_wp2_with fail
    exact bodyPost_ret (v := .agg #[.int .i64 (l.length : Int), .int .u32 ((sumOn 0 l).toNat : Int)]) (by simp [results, Try.results15, go_sem]; try rfl) rfl ⟨by rw [HV.out], by exact by repeat (first | exact Upd.refl _ _ | apply Upd.alloc | apply Upd.drew | (refine Upd.setCell ?_ _ _ (.inr (by simp))))⟩
  · have q : (16 : Int) < l.length := by omega
    have q2 : (16 : Int) ≤ cap := by omega
    have H := Lib.hid (h0.take 16 (by omega))
    have hV : headV l = .agg #[.int .i64 16, .int .u32 ((sumOn 0 (l.take 16)).toNat : Int)] := by
      unfold headV headSum; rw [Nat.min_eq_right (by omega)]; rfl
    have HV := Lib.hid hV
    clear h0 hV
    generalize l.take 16 = l2 at *
    go_enter Try.func15, Try.ntmps15
    go_wp2_with fail
    refine (refOn_any 0 _ (l2) _ (H.out.alloc _)).mono ?_
    rintro e w' ⟨rfl, rfl⟩
    go_wp2_with fail
    exact bodyPost_ret (v := .agg #[.int .i64 16, .int .u32 ((sumOn 0 l2).toNat : Int)]) (by simp [results, Try.results15, go_sem]; try rfl) rfl ⟨by rw [HV.out], by exact by repeat (first | exact Upd.refl _ _ | apply Upd.alloc | apply Upd.drew | (refine Upd.setCell ?_ _ _ (.inr (by simp))))⟩

theorem toNat_beqd (a b : BitVec 32) : ((a.toNat : Int) == (b.toNat : Int)) = decide (a = b) := by
  by_cases h : a = b
  · rw [h]; simp
  · rw [decide_eq_false h, beq_eq_false_iff_ne]; intro e; exact h (BitVec.eq_of_toNat_eq (by omega))
theorem sameB_yes (m : Nat) (s : BitVec 32) (at_ size : Int) (b : List UInt8) (h1 : at_ ≤ size) (h2 : m ≤ 16) (h3 : m ≤ b.length) : sameB m s at_ size b = decide (sumOn 0 (b.take m) = s) := by
  unfold sameB
  rw [Int.toNat_natCast]
  by_cases h : sumOn 0 (b.take m) = s
  · rw [decide_eq_true h]; exact decide_eq_true ⟨h1, by omega, by omega, by omega, h⟩
  · rw [decide_eq_false h]; exact decide_eq_false (fun q => h q.2.2.2.2)
theorem sameB_no (n : Int) (s : BitVec 32) (at_ size : Int) (b : List UInt8) (h : ¬ (at_ ≤ size ∧ 0 ≤ n ∧ n ≤ 16 ∧ n ≤ b.length)) : sameB n s at_ size b = false :=
  decide_eq_false (fun q => h ⟨q.1, q.2.1, q.2.2.1, q.2.2.2.1⟩)

set_option maxHeartbeats 1000000 in
theorem same_any (w : World) (n : Int) (s : BitVec 32) (at_ size : Int) (v : Value) (l : List UInt8) (h : Bytes w v l) :
    Calls Try.prog 13 #[.agg #[.int .i64 n, .int .u32 (s.toNat : Int)], .int .i64 at_, .int .i64 size, v] w fun e w' => e = .returned (.bool (sameB n s at_ size l)) ∧ Upd [] w w' := by
  have h0 := h
  obtain ⟨a, cap, rfl, hlc, hm, hc⟩ := h
  have hm' : cap ≤ 9223372036854775807 := hm
  clear hm hc
  by_cases h1 : at_ ≤ size
  · by_cases h2 : 0 ≤ n
    · by_cases h3 : n ≤ 16
      · by_cases h4 : n ≤ l.length
        · obtain ⟨m, rfl⟩ : ∃ m : Nat, n = m := ⟨n.toNat, by omega⟩
          have HS := Lib.hid (sameB_yes m s at_ size l h1 (by omega) (by omega))
          have HT := Lib.hid (toNat_beqd (sumOf [l.take m]) s)
          have H := Lib.hid (h0.take m (by omega))
          have q5 : (m : Int) ≤ cap := by omega
          clear h0
          generalize l.take m = l2 at *
          go_enter Try.func13, Try.ntmps13
          go_wp2_with fail
          go_region_held3 (fun w' => w'.cell? ⟨w.heap.size, 0, none⟩ = some (.int .i64 (m : Int)) ∧ w'.cell? ⟨w.heap.size, 1, none⟩ = some (.int .u32 (s.toNat : Int))) (go_keep)
            (first | (go_at_call 20; refine (of_any _ [l2] _ (Parts.one _ l2 (by simp) rfl rfl rfl (H.out.alloc _)).drew).mono ?_; rintro e w' ⟨rfl, rfl⟩; dsimp only) | fail)
          go_wp2_with fail
          go_ret
          exact ⟨congrArg (fun b => Ending.returned (.bool b)) (by rw [HT.out, HS.out]; rfl), by repeat (first | exact Upd.refl _ _ | apply Upd.alloc | apply Upd.drew | apply Upd.drewN)⟩
        · have q4 : (l.length : Int) < n := by omega
          have HS := Lib.hid (sameB_no n s at_ size l (by omega))
          clear h0 h4
          go_enter Try.func13, Try.ntmps13
          go_wp2_with fail
          go_ret
          exact ⟨congrArg (fun b => Ending.returned (.bool b)) HS.out.symm, by repeat (first | exact Upd.refl _ _ | apply Upd.alloc | apply Upd.drew | apply Upd.drewN)⟩
      · have q4 : 16 < n := by omega
        have HS := Lib.hid (sameB_no n s at_ size l (by omega))
        clear h0 h3
        go_enter Try.func13, Try.ntmps13
        go_wp2_with fail
        go_ret
        exact ⟨congrArg (fun b => Ending.returned (.bool b)) HS.out.symm, by repeat (first | exact Upd.refl _ _ | apply Upd.alloc | apply Upd.drew | apply Upd.drewN)⟩
    · have q4 : n < 0 := by omega
      have HS := Lib.hid (sameB_no n s at_ size l (by omega))
      clear h0 h2
      go_enter Try.func13, Try.ntmps13
      go_wp2_with fail
      go_ret
      exact ⟨congrArg (fun b => Ending.returned (.bool b)) HS.out.symm, by repeat (first | exact Upd.refl _ _ | apply Upd.alloc | apply Upd.drew | apply Upd.drewN)⟩
  · have q4 : size < at_ := by omega
    have HS := Lib.hid (sameB_no n s at_ size l (by omega))
    clear h0 h1
    go_enter Try.func13, Try.ntmps13
    go_wp2_with fail
    go_ret
    exact ⟨congrArg (fun b => Ending.returned (.bool b)) HS.out.symm, by repeat (first | exact Upd.refl _ _ | apply Upd.alloc | apply Upd.drew | apply Upd.drewN)⟩

set_option maxHeartbeats 1000000 in
theorem refSame_any (w : World) (n : Int) (s : BitVec 32) (at_ size : Int) (v : Value) (l : List UInt8) (h : Bytes w v l) :
    Calls Try.prog 16 #[.agg #[.int .i64 n, .int .u32 (s.toNat : Int)], .int .i64 at_, .int .i64 size, v] w fun e w' => e = .returned (.bool (sameB n s at_ size l)) ∧ Upd [] w w' := by
  have h0 := h
  obtain ⟨a, cap, rfl, hlc, hm, hc⟩ := h
  have hm' : cap ≤ 9223372036854775807 := hm
  clear hm hc
  by_cases h1 : at_ ≤ size
  · by_cases h2 : 0 ≤ n
    · by_cases h4 : n ≤ l.length
      · by_cases h3 : n ≤ 16
        · obtain ⟨m, rfl⟩ : ∃ m : Nat, n = m := ⟨n.toNat, by omega⟩
          have HS := Lib.hid (sameB_yes m s at_ size l h1 (by omega) (by omega))
          have HT := Lib.hid (toNat_beqd (sumOn 0#32 (l.take m)) s)
          have H := Lib.hid (h0.take m (by omega))
          have q5 : (m : Int) ≤ cap := by omega
          clear h0
          generalize l.take m = l2 at *
          go_enter Try.func16, Try.ntmps16
          go_wp2_with fail
          go_quiet ((go_at_call 23; exact Calls.quiet_of_same ((refOn_any 0 _ l2 _ ((H.out.alloc _).drewN _)).mono fun _ _ ⟨x, y⟩ => ⟨x, y.symm⟩)))
          go_wp2_with fail
          go_ret
          exact ⟨congrArg (fun b => Ending.returned (.bool b)) (by rw [HS.out]; exact HT.out), by repeat (first | exact Upd.refl _ _ | apply Upd.alloc | apply Upd.drew | apply Upd.drewN)⟩
        · have q4 : decide (n ≤ 16) = false := by simpa using h3
          have HS := Lib.hid (sameB_no n s at_ size l (by omega))
          clear h0 h3
          go_enter Try.func16, Try.ntmps16
          go_wp2_with fail
          go_quiet (fail)
          go_wp2_with fail
          go_ret
          exact ⟨congrArg (fun b => Ending.returned (.bool b)) HS.out.symm, by repeat (first | exact Upd.refl _ _ | apply Upd.alloc | apply Upd.drew | apply Upd.drewN)⟩
      · have q4 : decide (n ≤ (l.length : Int)) = false := by simpa using h4
        have HS := Lib.hid (sameB_no n s at_ size l (by omega))
        clear h0 h4
        go_enter Try.func16, Try.ntmps16
        go_wp2_with fail
        go_quiet (fail)
        go_wp2_with fail
        go_ret
        exact ⟨congrArg (fun b => Ending.returned (.bool b)) HS.out.symm, by repeat (first | exact Upd.refl _ _ | apply Upd.alloc | apply Upd.drew | apply Upd.drewN)⟩
    · have q4 : decide (0 ≤ n) = false := by simpa using h2
      have HS := Lib.hid (sameB_no n s at_ size l (by omega))
      clear h0 h2
      go_enter Try.func16, Try.ntmps16
      go_wp2_with fail
      go_quiet (fail)
      go_wp2_with fail
      go_ret
      exact ⟨congrArg (fun b => Ending.returned (.bool b)) HS.out.symm, by repeat (first | exact Upd.refl _ _ | apply Upd.alloc | apply Upd.drew | apply Upd.drewN)⟩
  · have q4 : decide (at_ ≤ size) = false := by simpa using h1
    have HS := Lib.hid (sameB_no n s at_ size l (by omega))
    clear h0 h1
    go_enter Try.func16, Try.ntmps16
    go_wp2_with fail
    go_quiet (fail)
    go_wp2_with fail
    go_ret
    exact ⟨congrArg (fun b => Ending.returned (.bool b)) HS.out.symm, by repeat (first | exact Upd.refl _ _ | apply Upd.alloc | apply Upd.drew | apply Upd.drewN)⟩
end Go.Proofs.Ytamoeipifpilgaa
