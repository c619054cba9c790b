/- The walk of RingPlays. -/
import Derived.Test.YtjomecimbofnfaaRingStep
namespace Go.Proofs.Ytjomecimbofnfaa
open Go.RowKit
set_option linter.unusedSimpArgs false
set_option linter.unusedVariables false
abbrev ask3Cells (a : Int × Int) : List Value := [iv a.1, iv a.2]
def Ask364 (a : Int × Int) : Prop := I64 a.1 ∧ I64 a.2
set_option maxRecDepth 20000 in
set_option maxHeartbeats 4000000 in
theorem ringPlays_no (w : World) (v : Value) (n : Int) (h : n < 1 ∨ 4096 < n) :
    Calls Try.prog 7 #[.int .i64 n, v] w fun e w' => e = .returned (.bool true) ∧ Upd [] w w' := by
  have H := Lib.hid h
  rcases h with h | h
  all_goals
    go_enter Try.func7, Try.ntmps7
    go_wp2_with fail
    refine (ringNewInt_no _ n H.out).mono ?_
    rintro e w' ⟨rfl, rfl⟩
    go_wp2_with fail
    refine (ringRuns_any _).mono ?_
    rintro e w9 ⟨rfl, hu9⟩
    go_wp2_with fail
    go_ret
    exact ⟨rfl, hu9⟩
set_option maxRecDepth 20000 in
set_option maxHeartbeats 4000000 in
theorem ringPlays_ok (w : World) (v : Value) (asks : List (Int × Int)) (h : RdN 2 ask3Cells w v asks) (hl : ∀ a ∈ asks, Ask364 a) (n : Nat) (hn1 : 1 ≤ n) (hn : n ≤ 4096) :
    Calls Try.prog 7 #[.int .i64 (n : Int), v] w fun e w' => e = .returned (.bool true) ∧ Upd [] w w' := by
  obtain ⟨a, cap, rfl, hlc, hcm, hcell⟩ := h
  have hm' : asks.length ≤ 9223372036854775807 := by unfold maxLen at hcm; omega
  have HC := Lib.hid hcell
  have HL := Lib.hid hl
  have hn0 : (1 : Int) ≤ n := by omega
  have hn2 : (n : Int) ≤ 4096 := by omega
  clear hlc hcm hcell hl
  go_enter Try.func7, Try.ntmps7
  go_wp2_with fail
  refine (rqNewInt_ok _ n n rfl hn1 hn).mono ?_
  rintro e w1 ⟨g, gl, rfl, hs1, hu1⟩
  have HS1 := Lib.hid hs1
  have HU1 := Lib.hid hu1
  clear hs1 hu1
  go_wp2_with fail
  go_loopw [7, 9] (fun v i wr => ∃ (k : Nat) (q : List Int), k ≤ 200 ∧ k ≤ asks.length ∧ i = .int .i64 k ∧ q.length ≤ k ∧ Hid (Rd iv wr v q) ∧ Hid (∀ x ∈ blk v, w.heap.size ≤ x ∧ x ≠ g ∧ x ≠ gl) ∧ Hid (RQInt w.heap.size wr g gl n q) ∧ Hid (Upd [] w wr)) (fun _ i _ => 200 - (intOf i).toNat)
  case atStart => exact ⟨0, [], by omega, by omega, rfl, by simp, Rd.nil _, by intro x hx; simp [blk] at hx, HS1, HU1⟩
  case round =>
    obtain ⟨k, q, hk, hkl, rfl, hq, ho, hb, hs, hu⟩ := hrel
    clear HS1 HU1
    by_cases hlt : k < asks.length
    · by_cases h2 : k < 200
      · obtain ⟨b, off, rfl, hc⟩ := HC.out (by intro h; simp [h] at hlt)
        have c0 : wr.cell? ⟨b, off + k * 2, none⟩ = some (iv (nth asks k).1) := hu.out.cell (hc k hlt 0 (by omega)) (by simp)
        have c1 : wr.cell? ⟨b, off + k * 2 + 1, none⟩ = some (iv (nth asks k).2) := hu.out.cell (hc k hlt 1 (by omega)) (by simp)
        obtain ⟨k1, k2⟩ := HL.out (nth asks k) (by rw [nth_get asks k hlt]; exact List.getElem_mem hlt)
        have K2 := Lib.hid k2
        generalize (nth asks k).1 = kd at *
        generalize (nth asks k).2 = ai at *
        have q1 : (k : Int) < asks.length := by omega
        have q2 : (k : Int) < 200 := by omega
        clear hc k1 k2
        go_wp2_with fail
        refine (rStep_any _ w.heap.size g gl n _ q hs.out ho.out hb.out (by omega) ai K2.out kd).mono ?_
        rintro e w2 ⟨v2, q2', rfl, ho2, hb2, hs2, hu2, hl2⟩
        have HO2 := Lib.hid ho2
        have HB2 := Lib.hid hb2
        have HS2 := Lib.hid hs2
        have HU2 := Lib.hid (RQInt.next hu.out hs.out hu2)
        obtain ⟨a2, k2, rfl, -⟩ := ho2
        clear hb2 hs2 hu2 c0 c1 hs hu ho hb
        go_wp2_with fail
        refine (rqLenInt_any _ _ HS2.out rfl).mono ?_
        rintro e w' ⟨rfl, rfl⟩
        go_wp2_with fail
        refine (rqRoomInt_any _ HS2.out).mono ?_
        rintro e w' ⟨rfl, rfl⟩
        go_wp2_with fail
        refine (rqListInt_any _ HS2.out).mono ?_
        rintro e w3 ⟨v3, rfl, ho3, hu3⟩
        have HO3 := Lib.hid ho3
        have HO23 := Lib.hid (HO2.out.upd0 hu3)
        have HS3 := Lib.hid (HS2.out.upd0 hu3)
        have HU3 := Lib.hid (HU2.out.seq hu3)
        obtain ⟨a3, k3, rfl, -⟩ := ho3.rd
        clear ho3 hu3
        go_wp2_with fail
        refine (sameInt_ok _ _ q2' q2' _ HO3.out.rd HO23.out rfl).mono ?_
        rintro e w4 ⟨rfl, hu4⟩
        have HO4 := Lib.hid (HO23.out.upd0 hu4)
        have HS4 := Lib.hid (HS3.out.upd0 hu4)
        have HU4 := Lib.hid (HU3.out.seq hu4)
        clear hu4
        go_wp2_with fail
        go_roundw
        case rel => exact ⟨k + 1, q2', by omega, by omega, by go_num, by omega, HO4, HB2, HS4, HU4⟩
        case measure => simp [intOf]; omega
      · obtain rfl : k = 200 := by omega
        go_wp2_with fail
        refine (ringRuns_any _).mono ?_
        rintro e w9 ⟨rfl, hu9⟩
        go_wp2_with fail
        go_ret
        exact ⟨rfl, hu.out.seq hu9⟩
    · obtain rfl : k = asks.length := by omega
      go_wp2_with fail
      refine (ringRuns_any _).mono ?_
      rintro e w9 ⟨rfl, hu9⟩
      go_wp2_with fail
      go_ret
      exact ⟨rfl, hu.out.seq hu9⟩
theorem ringPlays_any (w : World) (n : Int) (hn : I64 n) (v : Value) (asks : List (Int × Int)) (hl : ∀ a ∈ asks, Ask364 a) (h : RdN 2 ask3Cells w v asks) :
    Calls Try.prog 7 #[.int .i64 n, v] w fun e w' => e = .returned (.bool true) ∧ Upd [] w w' := by
  by_cases h1 : n < 1 ∨ 4096 < n
  · exact ringPlays_no w v n h1
  · obtain ⟨m, rfl⟩ := Int.eq_ofNat_of_zero_le (show 0 ≤ n by omega)
    exact ringPlays_ok w v asks h hl m (by omega) (by omega)
end Go.Proofs.Ytjomecimbofnfaa
