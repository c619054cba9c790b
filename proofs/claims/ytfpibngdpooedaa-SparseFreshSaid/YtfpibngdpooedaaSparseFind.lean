/- The law's own find. -/
import Derived.Test.YtfpibngdpooedaaSparseRuns
namespace Go.Proofs.Ytfpibngdpooedaa
open Go.RowKit
set_option linter.unusedSimpArgs false
set_option linter.unusedVariables false
def FindR (it : List (Nat × Int)) (i r : Int) : Prop :=
  (rHas it i = false ∧ r = -1) ∨ (∃ k : Nat, r = k ∧ k < it.length ∧ ((nth it k).1 : Int) = i ∧ rHas it i = true ∧ rGet it 0 i = ((nth it k).2, true))
theorem findR_no {it : List (Nat × Int)} {i : Int} (h : ∀ j, j < it.length → ((nth it j).1 : Int) ≠ i) : FindR it i (-1) := by
  left
  refine ⟨?_, rfl⟩
  cases hh : rHas it i with
  | false => rfl
  | true => obtain ⟨k, hk, e⟩ := (rHas_iff it i).1 hh; exact absurd e (h k hk)
theorem find_first {α : Type} [Inhabited α] (p : α → Bool) : ∀ (l : List α) (k : Nat), k < l.length → p (nth l k) = true → (∀ j, j < k → p (nth l j) = false) → l.find? p = some (nth l k)
  | [], k, h, _, _ => by simp at h
  | x :: l, 0, _, h, _ => by rw [nth_cons_zero] at h ⊢; rw [List.find?_cons, h]
  | x :: l, k + 1, hk, h, hj => by
    have h0 := hj 0 (by omega)
    rw [nth_cons_zero] at h0
    rw [List.find?_cons, h0]
    exact find_first p l k (by simpa using hk) h (fun j hjk => hj (j + 1) (by omega))
theorem findR_yes {it : List (Nat × Int)} {i : Int} (k : Nat) (hk : k < it.length) (e : ((nth it k).1 : Int) = i) (h : ∀ j, j < k → ((nth it j).1 : Int) ≠ i) : FindR it i k := by
  right
  refine ⟨k, rfl, hk, e, (rHas_iff it i).2 ⟨k, hk, e⟩, ?_⟩
  unfold rGet
  rw [find_first _ it k hk (by simpa using e) (fun j hj => by simpa using h j hj)]
set_option maxRecDepth 20000 in
set_option maxHeartbeats 400000 in
theorem spFind_any (w : World) (v : Value) (it : List (Nat × Int)) (i : Int) (h : RdN 2 (itC iv) w v it) :
    Calls Try.prog 41 #[v, .int .i64 i] w fun e w' => ∃ r, e = .returned (.int .i64 r) ∧ FindR it i r ∧ w = w' := by
  obtain ⟨a, cap, rfl, hlc, hcm, hcell⟩ := h
  have hm' : it.length ≤ 9223372036854775807 := by unfold maxLen at hcm; omega
  have HC := Lib.hid hcell
  clear hlc hcm hcell
  go_enter Try.func41, Try.ntmps41
  go_wp2_with fail
  go_loop [5] (fun s => ∃ k : Nat, k ≤ it.length ∧ s = .int .i64 k ∧ Hid (∀ j, j < k → ((nth it j).1 : Int) ≠ i)) (fun s => it.length - (intOf s).toNat)
  case atStart => exact ⟨0, Nat.zero_le _, rfl, fun j hj => absurd hj (by omega)⟩
  case round =>
    obtain ⟨k, hk, rfl, hn⟩ := hrel
    by_cases hlt : k < it.length
    · obtain ⟨b, off, rfl, hc⟩ := HC.out (by intro h; simp [h] at hlt)
      have c0 : w.cell? ⟨b, off + k * 2, none⟩ = some (.int .i64 ((nth it k).1 : Int)) := hc k hlt 0 (by omega)
      clear hc
      by_cases he : ((nth it k).1 : Int) = i
      · have HY : Hid (FindR it i k) := findR_yes k hlt he hn.out
        have t1 : (((nth it k).1 : Int) == i) = true := by simpa using he
        generalize (nth it k).1 = m at *
        clear he
        go_wp2
        go_ret
        exact ⟨_, rfl, HY.out, rfl⟩
      · have HN : Hid (∀ j, j < k + 1 → ((nth it j).1 : Int) ≠ i) := by
          intro j hj
          by_cases e : j = k
          · rw [e]; exact he
          · exact hn.out j (by omega)
        have t1 : (((nth it k).1 : Int) == i) = false := by simpa using he
        generalize (nth it k).1 = m at *
        clear he
        go_wp2
        go_round
        case rel => exact ⟨k + 1, by omega, by go_num, HN⟩
        case measure => simp [intOf]; omega
    · obtain rfl : k = it.length := by omega
      have HY : Hid (FindR it i (-1)) := findR_no hn.out
      go_wp2
      go_ret
      exact ⟨_, rfl, HY.out, rfl⟩
end Go.Proofs.Ytfpibngdpooedaa
