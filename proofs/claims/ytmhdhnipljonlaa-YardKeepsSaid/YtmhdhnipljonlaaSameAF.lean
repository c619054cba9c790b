/- The book's Same at files, the same list on both sides. -/
import Derived.Test.YtmhdhnipljonlaaYardFiles2
import Derived.Test.YtmhdhnipljonlaaBookPlain
namespace Go.Proofs.Ytmhdhnipljonlaa
open Go.RowKit
set_option linter.unusedSimpArgs false
set_option linter.unusedVariables false
set_option maxHeartbeats 400000 in
theorem sameAF_ok (v u : Value) (l : List AF) (w : World) (h : RdN 3 afCells w v l) (h2 : RdN 3 afCells w u l) :
    Calls Try.prog 18 #[v, u] w fun e w' => e = .returned (.bool true) ∧ Upd [] w w' := by
  obtain ⟨a, cap, rfl, hlc, hm, hc⟩ := h
  obtain ⟨a2, cap2, rfl, hlc2, hm2, hc2⟩ := h2
  have hm' : l.length ≤ 9223372036854775807 := by unfold maxLen at hm; omega
  clear hm hlc hm2 hlc2
  have H1 := Lib.hid hc
  have H2 := Lib.hid hc2
  clear hc hc2
  go_enter Try.func18, Try.ntmps18
  go_wp2
  go_loopw [5] (fun i wr => ∃ k : Nat, k ≤ l.length ∧ i = .int .i64 k ∧ Hid (Upd [] w wr)) (fun i _ => l.length - (intOf i).toNat)
  case atStart => exact ⟨0, Nat.zero_le _, rfl, Upd.refl _ _⟩
  case round =>
    obtain ⟨k, hk, rfl, hu⟩ := hrel
    by_cases hlt : k < l.length
    · obtain ⟨b, off, rfl, hc'⟩ := H1.out (by intro h; simp [h] at hlt)
      obtain ⟨b2, off2, rfl, hc2'⟩ := H2.out (by intro h; simp [h] at hlt)
      have d0 : wr.cell? ⟨b, off + k * 3, none⟩ = some (iv (nth l k).1) := hu.out.cell (hc' k hlt 0 (by omega)) (by simp)
      have d1 : wr.cell? ⟨b, off + k * 3 + 1, none⟩ = some (sv (nth l k).2.1) := hu.out.cell (hc' k hlt 1 (by omega)) (by simp)
      have d2 : wr.cell? ⟨b, off + k * 3 + 2, none⟩ = some (iv (nth l k).2.2) := hu.out.cell (hc' k hlt 2 (by omega)) (by simp)
      have e0 : wr.cell? ⟨b2, off2 + k * 3, none⟩ = some (iv (nth l k).1) := hu.out.cell (hc2' k hlt 0 (by omega)) (by simp)
      have e1 : wr.cell? ⟨b2, off2 + k * 3 + 1, none⟩ = some (sv (nth l k).2.1) := hu.out.cell (hc2' k hlt 1 (by omega)) (by simp)
      have e2 : wr.cell? ⟨b2, off2 + k * 3 + 2, none⟩ = some (iv (nth l k).2.2) := hu.out.cell (hc2' k hlt 2 (by omega)) (by simp)
      clear hc' hc2'
      generalize (nth l k).1 = x at *
      generalize (nth l k).2.1 = y at *
      generalize (nth l k).2.2 = z at *
      have q0 : (0 : Int) ≤ k := by omega
      have q1 : (k : Int) < (l.length : Int) := by omega
      go_wp2_with fail
      go_quiet (fail)
      go_wp2_with fail
      go_roundw
      case rel => exact ⟨k + 1, by omega, by go_num, by first | exact hu.out.drewN _ | exact hu.out.drew⟩
      case measure => simp [intOf]; omega
    · obtain rfl : k = l.length := by omega
      go_wp2_with fail
      go_ret
      exact ⟨rfl, hu.out⟩
end Go.Proofs.Ytmhdhnipljonlaa
