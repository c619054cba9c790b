/- The walk of SparsePlays. -/
import Derived.Test.YtfpibngdpooedaaSparseStep2
namespace Go.Proofs.Ytfpibngdpooedaa
open Go.RowKit
set_option linter.unusedSimpArgs false
set_option linter.unusedVariables false
abbrev askCells (a : Int × Int × Int) : List Value := [iv a.1, iv a.2.1, iv a.2.2]
def Ask64 (a : Int × Int × Int) : Prop := I64 a.1 ∧ I64 a.2.1 ∧ I64 a.2.2
theorem askCells_len : ∀ a, (askCells a).length = 3 := fun _ => rfl
set_option maxRecDepth 20000 in
set_option maxHeartbeats 4000000 in
theorem sparsePlays_no (w : World) (v : Value) (n : Int) (h : n < 0 ∨ 4096 < n) :
    Calls Try.prog 4 #[.int .i64 n, v] w fun e w' => e = .returned (.bool true) ∧ Upd [] w w' := by
  have H := Lib.hid h
  rcases h with h | h
  all_goals
    go_enter Try.func4, Try.ntmps4
    go_wp2_with fail
    refine (spNewInt_no _ n H.out).mono ?_
    rintro e w' ⟨rfl, rfl⟩
    go_wp2_with fail
    refine (sparseRuns_any _).mono ?_
    rintro e w9 ⟨rfl, hu9⟩
    go_wp2_with fail
    go_ret
    exact ⟨rfl, hu9⟩
set_option maxRecDepth 20000 in
set_option maxHeartbeats 4000000 in
theorem sparsePlays_ok (w : World) (v : Value) (asks : List (Int × Int × Int)) (h : RdN 3 askCells w v asks) (hl : ∀ a ∈ asks, Ask64 a) (n : Nat) (hn : n ≤ 4096) :
    Calls Try.prog 4 #[.int .i64 (n : Int), v] w fun e w' => e = .returned (.bool true) ∧ Upd [] w w' := by
  obtain ⟨a, cap, rfl, hlc, hcm, hcell⟩ := h
  have hm' : asks.length ≤ 9223372036854775807 := by unfold maxLen at hcm; omega
  have HC := Lib.hid hcell
  have HL := Lib.hid hl
  have hn0 : (0 : Int) ≤ n := by omega
  have hn1 : (n : Int) ≤ 4096 := by omega
  clear hlc hcm hcell hl
  go_enter Try.func4, Try.ntmps4
  go_wp2_with fail
  refine (rNewInt_eq _ n n rfl hn).mono ?_
  rintro e w1 ⟨g, F1, rfl, hs1, hu1⟩
  have HS1 := Lib.hid hs1
  have HU1 := Lib.hid hu1
  have hbase := hs1.base_
  clear hs1 hu1
  go_wp2_with fail
  go_loopw [7, 9] (fun v i wr => ∃ (k : Nat) (it : List (Nat × Int)) (F : List Nat), k ≤ 200 ∧ k ≤ asks.length ∧ i = .int .i64 k ∧ it.length ≤ k ∧ Hid (OwnRows w.heap.size wr v it) ∧ Hid (RowsInt w.heap.size wr g F n it) ∧ Hid (Upd [] w wr)) (fun _ i _ => 200 - (intOf i).toNat)
  case atStart => exact ⟨0, [], F1, by omega, by omega, rfl, by simp, OwnN.nil _ _ _, HS1, HU1⟩
  case round =>
    obtain ⟨k, it, F, hk, hkl, rfl, hit, ho, hs, hu⟩ := hrel
    clear HS1 HU1
    by_cases hlt : k < asks.length
    · by_cases h2 : k < 200
      · obtain ⟨b, off, rfl, hc⟩ := HC.out (by intro h; simp [h] at hlt)
        have c0 : wr.cell? ⟨b, off + k * 3, none⟩ = some (iv (nth asks k).1) := hu.out.cell (hc k hlt 0 (by omega)) (by simp)
        have c1 : wr.cell? ⟨b, off + k * 3 + 1, none⟩ = some (iv (nth asks k).2.1) := hu.out.cell (hc k hlt 1 (by omega)) (by simp)
        have c2 : wr.cell? ⟨b, off + k * 3 + 2, none⟩ = some (iv (nth asks k).2.2) := hu.out.cell (hc k hlt 2 (by omega)) (by simp)
        obtain ⟨k1, k2, k3⟩ := HL.out (nth asks k) (by rw [nth_get asks k hlt]; exact List.getElem_mem hlt)
        have K2 := Lib.hid k2
        have K3 := Lib.hid k3
        generalize (nth asks k).1 = kd at *
        generalize (nth asks k).2.1 = ai at *
        generalize (nth asks k).2.2 = ax at *
        have q1 : (k : Int) < asks.length := by omega
        have q2 : (k : Int) < 200 := by omega
        clear hc k1 k2 k3
        go_wp2_with fail
        refine (spStep_any _ w.heap.size g n F _ it hs.out ho.out (by omega) ai ax K2.out K3.out kd).mono ?_
        rintro e w2 ⟨lv2, it2, F2, rfl, ho2, hs2, hu2, hl2⟩
        obtain ⟨a2, k2, rfl, -⟩ := ho2.rd (itC_len _)
        have HO2 := Lib.hid ho2
        have HS2 := Lib.hid hs2
        have HU2 := Lib.hid (RowsInt.next hu.out hs.out hu2)
        clear ho2 hs2 hu2 c0 c1 c2
        go_wp2_with fail
        refine (rLenInt_any _ HS2.out).mono ?_
        rintro e w' ⟨rfl, rfl⟩
        go_wp2_with fail
        refine (rSizeInt_any _ HS2.out).mono ?_
        rintro e w' ⟨rfl, rfl⟩
        go_wp2_with fail
        go_roundw
        case rel => exact ⟨k + 1, it2, F2, by omega, by omega, by go_num, by omega, HO2, HS2, HU2⟩
        case measure => simp [intOf]; omega
      · obtain rfl : k = 200 := by omega
        go_wp2_with fail
        refine (sparseRuns_any _).mono ?_
        rintro e w9 ⟨rfl, hu9⟩
        go_wp2_with fail
        go_ret
        exact ⟨rfl, hu.out.seq hu9⟩
    · obtain rfl : k = asks.length := by omega
      go_wp2_with fail
      refine (sparseRuns_any _).mono ?_
      rintro e w9 ⟨rfl, hu9⟩
      go_wp2_with fail
      go_ret
      exact ⟨rfl, hu.out.seq hu9⟩
theorem sparsePlays_any (w : World) (n : Int) (hn : I64 n) (v : Value) (asks : List (Int × Int × Int)) (hl : ∀ a ∈ asks, Ask64 a) (h : RdN 3 askCells w v asks) :
    Calls Try.prog 4 #[.int .i64 n, v] w fun e w' => e = .returned (.bool true) ∧ Upd [] w w' := by
  by_cases h1 : n < 0 ∨ 4096 < n
  · exact sparsePlays_no w v n h1
  · obtain ⟨m, rfl⟩ := Int.eq_ofNat_of_zero_le (show 0 ≤ n by omega)
    exact sparsePlays_ok w v asks h hl m (by omega)
end Go.Proofs.Ytfpibngdpooedaa
