/- The law's own place: how many keys of rows are below one; is it there? -/
import Derived.Test.YtjomecimbofnfaaTableRises
namespace Go.Proofs.Ytjomecimbofnfaa
open Go.RowKit
set_option linter.unusedSimpArgs false
set_option linter.unusedVariables false
set_option maxRecDepth 20000 in
set_option maxHeartbeats 1000000 in
theorem place_any (w : World) (v : Value) (l : List (Int × Int)) (h : RdN 2 rcII w v l) (hlen : l.length ≤ 100000) (k : Int) (hk : I64 k) :
    Calls Try.prog 65 #[v, iv k] w fun e w' => e = .returned (.tuple #[.int .i64 (below ltII l k : Int), .bool (isIn ltII l k)]) ∧ Upd [] w w' := by
  obtain ⟨ao, co, rfl, hlc, hcm, hcell⟩ := h
  have HC := Lib.hid hcell
  clear hcell hcm
  go_enter Try.func65, Try.ntmps65
  go_wp2_with fail
  go_loopw [6] (fun i wr => ∃ a : Nat, i = .int .i64 a ∧ a ≤ l.length ∧ Hid (∀ j, j < a → ltII (nth l j).1 k = true) ∧ Hid (Upd [] w wr)) (fun i _ => l.length - (intOf i).toNat)
  case atStart => exact ⟨0, rfl, Nat.zero_le _, fun j h => absurd h (by omega), Upd.refl _ _⟩
  case round =>
    obtain ⟨a, rfl, hal, hlo, hu⟩ := hrel
    by_cases hlt : a < l.length
    · obtain ⟨bl, off, rfl, hc⟩ := HC.out (by intro h; simp [h] at hlt)
      have d0 : wr.cell? ⟨bl, off + a * 2, none⟩ = some (iv (nth l a).1) := hu.out.cell (hc _ hlt 0 (by omega)) (by simp)
      have q1 : (0 : Int) ≤ a := by omega
      have q2 : (a : Int) < l.length := by omega
      clear hc
      cases hcmp : ltII (nth l a).1 k with
      | true =>
        have HLO : Hid (∀ j, j < a + 1 → ltII (nth l j).1 k = true) := fun j hj => by
          rcases Nat.lt_or_eq_of_le (Nat.le_of_lt_succ hj) with h | h
          · exact hlo.out j h
          · rw [h]; exact hcmp
        generalize (nth l a).1 = m at *
        have hc1 : m < k := by simpa using hcmp
        clear hcmp
        go_wp2_with fail
        go_roundw
        case rel => exact ⟨a + 1, by go_num, by omega, HLO, hu⟩
        case measure => simp [intOf]; omega
      | false =>
        have hbel : below ltII l k = a := below_eq l k a hal hlo.out (fun _ => hcmp)
        have HIN : Hid (isIn ltII l k = decide ((nth l a).1 = k)) := by unfold Hid isIn; rw [hbel]; simp [hlt]
        have HBEL := Lib.hid hbel
        clear hbel
        generalize (nth l a).1 = m at *
        have hc1 : ¬ m < k := by simpa using hcmp
        clear hcmp
        by_cases he : m = k
        · have t1 : (m == k) = true := by simpa using he
          have HF : Hid (isIn ltII l k = true) := by unfold Hid; rw [HIN.out]; simp [he]
          clear he
          go_wp2_with fail
          go_quiet (fail)
          go_wp2_with fail
          go_ret2
          exact ⟨by rw [HBEL.out, HF.out]; rfl, by first | exact hu.out.drewN _ | exact hu.out.drew⟩
        · have t1 : (m == k) = false := by simpa using he
          have HF : Hid (isIn ltII l k = false) := by unfold Hid; rw [HIN.out]; simp [he]
          clear he
          go_wp2_with fail
          go_quiet (fail)
          go_wp2_with fail
          go_ret2
          exact ⟨by rw [HBEL.out, HF.out]; rfl, by first | exact hu.out.drewN _ | exact hu.out.drew⟩
    · obtain rfl : a = l.length := by omega
      have HBEL : Hid (below ltII l k = l.length) := below_eq l k _ hal hlo.out (fun h => absurd h (by omega))
      have HF : Hid (isIn ltII l k = false) := by unfold Hid isIn; rw [HBEL.out]; simp
      go_wp2_with fail
      go_quiet (fail)
      go_wp2_with fail
      go_ret2
      exact ⟨by rw [HBEL.out, HF.out]; rfl, by first | exact hu.out.drewN _ | exact hu.out.drew⟩
end Go.Proofs.Ytjomecimbofnfaa
