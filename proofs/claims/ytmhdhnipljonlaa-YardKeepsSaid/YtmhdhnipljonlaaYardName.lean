/- Chapter 21: may a file have that name? -/
import Derived.Test.YtmhdhnipljonlaaRows
import Derived.Test.YtmhdhnipljonlaaTabIF9
import Derived.Test.YtmhdhnipljonlaaTabIJ9
import Derived.Test.YtmhdhnipljonlaaBookByte
namespace Go.Proofs.Ytmhdhnipljonlaa
open Go.RowKit
set_option linter.unusedSimpArgs false
set_option linter.unusedVariables false
/-- A name is 1 to 32 bytes from 33 to 126. -/
def nameOk (s : ByteArray) : Bool := decide (1 ≤ s.size ∧ s.size ≤ 32 ∧ ∀ j (h : j < s.size), 33 ≤ (s[j]).toNat ∧ (s[j]).toNat ≤ 126)
set_option maxRecDepth 20000 in
set_option maxHeartbeats 1000000 in
theorem named_any (w : World) (s : ByteArray) :
    Calls Try.prog 49 #[sv s] w fun e w' => e = .returned (.bool (nameOk s)) ∧ w = w' := by
  by_cases h1 : s.size < 1
  · have HN : Hid (nameOk s = false) := by unfold Hid nameOk; simp; omega
    have q : (s.size : Int) < 1 := by omega
    go_enter Try.func49, Try.ntmps49
    go_wp2_with fail
    go_ret
    exact ⟨by rw [HN.out]; rfl, rfl⟩
  · by_cases h2 : s.size ≤ 32
    · have q : ¬ (s.size : Int) < 1 := by omega
      have q' : ¬ (32 : Int) < s.size := by omega
      go_enter Try.func49, Try.ntmps49
      go_wp2_with fail
      go_loopw [3, 14] (fun x i wr => ∃ k : Nat, k ≤ s.size ∧ i = .int .i64 k ∧ w = wr ∧ Hid (∀ j (h : j < s.size), j < k → 33 ≤ (s[j]).toNat ∧ (s[j]).toNat ≤ 126)) (fun _ i _ => s.size - (intOf i).toNat)
      case atStart => exact ⟨0, Nat.zero_le _, rfl, rfl, fun j _ h => absurd h (by omega)⟩
      case round =>
        obtain ⟨k, hk, rfl, rfl, hh⟩ := hrel
        by_cases hlt : k < s.size
        · have q0 : (0 : Int) ≤ k := by omega
          have q1 : (k : Int) < s.size := by omega
          by_cases hb : 33 ≤ (s[k]).toNat ∧ (s[k]).toNat ≤ 126
          · have hb1 : ¬ ((s[k]).toNat : Int) < 33 := by omega
            have hb2 : ¬ (126 : Int) < ((s[k]).toNat : Int) := by omega
            have HH : Hid (∀ j (h : j < s.size), j < k + 1 → 33 ≤ (s[j]).toNat ∧ (s[j]).toNat ≤ 126) := fun j hj hjk => by
              rcases Nat.lt_or_eq_of_le (Nat.le_of_lt_succ hjk) with h | h
              · exact hh.out j hj h
              · subst h; exact hb
            clear hb
            go_wp2_with fail
            go_roundw
            case rel => exact ⟨k + 1, by omega, by go_num, by first | trivial | rfl, HH⟩
            case measure => simp [intOf]; omega
          · have HN : Hid (nameOk s = false) := by
              unfold Hid nameOk
              exact decide_eq_false (fun h => hb (h.2.2 k hlt))
            have hd : ((s[k]).toNat : Int) < 33 ∨ (¬ ((s[k]).toNat : Int) < 33 ∧ (126 : Int) < ((s[k]).toNat : Int)) := by omega
            clear hb
            rcases hd with hb1 | ⟨hb1, hb2⟩
            all_goals
              go_wp2_with fail
              go_ret
              exact ⟨by rw [HN.out]; rfl, rfl⟩
        · obtain rfl : k = s.size := by omega
          have HN : Hid (nameOk s = true) := by
            unfold Hid nameOk
            exact decide_eq_true ⟨by omega, by omega, fun j hj => hh.out j hj hj⟩
          go_wp2_with fail
          go_ret
          exact ⟨by rw [HN.out]; rfl, rfl⟩
    · have HN : Hid (nameOk s = false) := by unfold Hid nameOk; exact decide_eq_false (fun h => h2 h.2.1)
      have q : ¬ (s.size : Int) < 1 := by omega
      have q' : (32 : Int) < s.size := by omega
      go_enter Try.func49, Try.ntmps49
      go_wp2_with fail
      go_ret
      exact ⟨by rw [HN.out]; rfl, rfl⟩
end Go.Proofs.Ytmhdhnipljonlaa
