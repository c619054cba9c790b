/- Chapter 22: may a file have that name? -/
import Derived.Test.YtmhdhnipljonlaaRows
import Derived.Test.YtmhdhnipljonlaaNameOk
import Derived.Test.YtmhdhnipljonlaaStrPlain
namespace Go.Proofs.Ytmhdhnipljonlaa
open Go.RowKit
set_option linter.unusedSimpArgs false
set_option linter.unusedVariables false
set_option maxRecDepth 20000 in
set_option maxHeartbeats 1000000 in
theorem dnamed_lo (w : World) (s : ByteArray) (h : s.size < 1) :
    Calls Try.prog 59 #[sv s] w fun e w' => e = .returned (.bool (nameOk s)) ∧ w = w' := by
  have q : ¬ (1 : Int) ≤ s.size := by omega
  have HN : Hid (nameOk s = false) := by unfold Hid nameOk; exact decide_eq_false (fun x => by omega)
  go_enter Try.func59, Try.ntmps59
  go_wp2_with fail
  go_loopw [3, 4] (fun x i wr => ∃ (k : Nat) (b : Bool), k ≤ s.size ∧ i = .int .i64 k ∧ x = .bool b ∧ w = wr ∧ Hid (b = true → 1 ≤ s.size ∧ s.size ≤ 32 ∧ ∀ j (h : j < s.size), j < k → 33 ≤ (s[j]).toNat ∧ (s[j]).toNat ≤ 126) ∧ Hid (b = false → nameOk s = false)) (fun _ i _ => s.size - (intOf i).toNat)
  case atStart => exact ⟨0, false, Nat.zero_le _, rfl, rfl, rfl, fun h => absurd h (by simp), fun _ => HN.out⟩
  case round =>
    obtain ⟨k, b, hk, rfl, rfl, rfl, ht, hf⟩ := hrel
    by_cases hlt : k < s.size
    · exact absurd hlt (by omega)
    · obtain rfl : k = s.size := by omega
      have HN : Hid (nameOk s = b) := by
        cases b with
        | false => exact hf.out rfl
        | true => obtain ⟨t1, t2, t3⟩ := ht.out rfl; unfold Hid nameOk; exact decide_eq_true ⟨t1, t2, fun j hj => t3 j hj hj⟩
      clear ht hf
      go_wp2_with fail
      go_ret
      exact ⟨by rw [HN.out]; rfl, rfl⟩
set_option maxRecDepth 20000 in
set_option maxHeartbeats 1000000 in
theorem dnamed_hi (w : World) (s : ByteArray) (h : 32 < s.size) :
    Calls Try.prog 59 #[sv s] w fun e w' => e = .returned (.bool (nameOk s)) ∧ w = w' := by
  have q : (1 : Int) ≤ s.size := by omega
  have q' : ¬ (s.size : Int) ≤ 32 := by omega
  have HN : Hid (nameOk s = false) := by unfold Hid nameOk; exact decide_eq_false (fun x => by omega)
  go_enter Try.func59, Try.ntmps59
  go_wp2_with fail
  go_loopw [3, 4] (fun x i wr => ∃ (k : Nat) (b : Bool), k ≤ s.size ∧ i = .int .i64 k ∧ x = .bool b ∧ w = wr ∧ Hid (b = true → 1 ≤ s.size ∧ s.size ≤ 32 ∧ ∀ j (h : j < s.size), j < k → 33 ≤ (s[j]).toNat ∧ (s[j]).toNat ≤ 126) ∧ Hid (b = false → nameOk s = false)) (fun _ i _ => s.size - (intOf i).toNat)
  case atStart => exact ⟨0, false, Nat.zero_le _, rfl, rfl, rfl, fun h => absurd h (by simp), fun _ => HN.out⟩
  case round =>
    obtain ⟨k, b, hk, rfl, rfl, rfl, ht, hf⟩ := hrel
    by_cases hlt : k < s.size
    · have q1 : (k : Int) < s.size := by omega
      have q0 : (0 : Int) ≤ k := by omega
      cases b with
      | true =>
        exact absurd (ht.out rfl).2.1 (by omega)
      | false =>
        have HN := Lib.hid (hf.out rfl)
        clear ht hf
        go_wp2_with fail
        go_ret
        exact ⟨by rw [HN.out]; rfl, rfl⟩
    · obtain rfl : k = s.size := by omega
      have HN : Hid (nameOk s = b) := by
        cases b with
        | false => exact hf.out rfl
        | true => obtain ⟨t1, t2, t3⟩ := ht.out rfl; unfold Hid nameOk; exact decide_eq_true ⟨t1, t2, fun j hj => t3 j hj hj⟩
      clear ht hf
      go_wp2_with fail
      go_ret
      exact ⟨by rw [HN.out]; rfl, rfl⟩
set_option maxRecDepth 20000 in
set_option maxHeartbeats 1000000 in
theorem dnamed_mid (w : World) (s : ByteArray) (h : 1 ≤ s.size) (h2 : s.size ≤ 32) :
    Calls Try.prog 59 #[sv s] w fun e w' => e = .returned (.bool (nameOk s)) ∧ w = w' := by
  have q : (1 : Int) ≤ s.size := by omega
  have q' : (s.size : Int) ≤ 32 := by omega
  go_enter Try.func59, Try.ntmps59
  go_wp2_with fail
  go_loopw [3, 4] (fun x i wr => ∃ (k : Nat) (b : Bool), k ≤ s.size ∧ i = .int .i64 k ∧ x = .bool b ∧ w = wr ∧ Hid (b = true → 1 ≤ s.size ∧ s.size ≤ 32 ∧ ∀ j (h : j < s.size), j < k → 33 ≤ (s[j]).toNat ∧ (s[j]).toNat ≤ 126) ∧ Hid (b = false → nameOk s = false)) (fun _ i _ => s.size - (intOf i).toNat)
  case atStart => exact ⟨0, true, Nat.zero_le _, rfl, rfl, rfl, fun _ => ⟨by omega, by omega, fun j _ h => absurd h (by omega)⟩, fun h => absurd h (by simp)⟩
  case round =>
    obtain ⟨k, b, hk, rfl, rfl, rfl, ht, hf⟩ := hrel
    by_cases hlt : k < s.size
    · have q1 : (k : Int) < s.size := by omega
      have q0 : (0 : Int) ≤ k := by omega
      cases b with
      | true =>
        obtain ⟨t1, t2, t3⟩ := ht.out rfl
        have HT3 := Lib.hid t3
        clear t3 ht hf
        by_cases b1 : 33 ≤ (s[k]).toNat
        · have c1 : ¬ ((s[k]).toNat : Int) < 33 := by omega
          by_cases b2 : (s[k]).toNat ≤ 126
          · have c2 : ¬ (126 : Int) < ((s[k]).toNat : Int) := by omega
            have HB1 := Lib.hid b1
            have HB2 := Lib.hid b2
            have e1 : decide (33 ≤ (s[k]).toNat) = true := decide_eq_true b1
            have e2 : decide ((s[k]).toNat ≤ 126) = true := decide_eq_true b2
            clear b1 b2
            go_wp2_with fail
            go_roundw
            case rel => exact ⟨k + 1, true, by omega, by go_num, by first | rfl | exact congrArg Value.bool (decide_eq_true (by omega)), by first | trivial | rfl, fun _ => ⟨t1, t2, fun j hj hjk => by
              rcases Nat.lt_or_eq_of_le (Nat.le_of_lt_succ hjk) with h | h
              · exact HT3.out j hj h
              · subst h; exact ⟨HB1.out, HB2.out⟩⟩, fun h => absurd h (by simp)⟩
            case measure => (try simp [intOf]) <;> omega
          · have c2 : (126 : Int) < ((s[k]).toNat : Int) := by omega
            have HN : Hid (nameOk s = false) := by unfold Hid nameOk; exact decide_eq_false (fun h => b2 (h.2.2 k hlt).2)
            have HB1 := Lib.hid b1
            have e1 : decide (33 ≤ (s[k]).toNat) = true := decide_eq_true b1
            have e2 : decide ((s[k]).toNat ≤ 126) = false := decide_eq_false b2
            clear b1 b2
            go_wp2_with fail
            go_roundw
            case rel => exact ⟨k + 1, false, by omega, by go_num, by first | rfl | exact congrArg Value.bool (decide_eq_false (by omega)), by first | trivial | rfl, fun h => absurd h (by simp), fun _ => HN.out⟩
            case measure => (try simp [intOf]) <;> omega
        · have c1 : ((s[k]).toNat : Int) < 33 := by omega
          have HN : Hid (nameOk s = false) := by unfold Hid nameOk; exact decide_eq_false (fun h => b1 (h.2.2 k hlt).1)
          have e1 : decide (33 ≤ (s[k]).toNat) = false := decide_eq_false b1
          clear b1
          go_wp2_with fail
          go_roundw
          case rel => exact ⟨k + 1, false, by omega, by go_num, by first | rfl | exact congrArg Value.bool (decide_eq_false (by omega)), by first | trivial | rfl, fun h => absurd h (by simp), fun _ => HN.out⟩
          case measure => (try simp [intOf]) <;> omega
      | false =>
        have HN := Lib.hid (hf.out rfl)
        clear ht hf
        go_wp2_with fail
        go_ret
        exact ⟨by rw [HN.out]; rfl, rfl⟩
    · obtain rfl : k = s.size := by omega
      have HN : Hid (nameOk s = b) := by
        cases b with
        | false => exact hf.out rfl
        | true => obtain ⟨t1, t2, t3⟩ := ht.out rfl; unfold Hid nameOk; exact decide_eq_true ⟨t1, t2, fun j hj => t3 j hj hj⟩
      clear ht hf
      go_wp2_with fail
      go_ret
      exact ⟨by rw [HN.out]; rfl, rfl⟩
theorem dnamed_any (w : World) (s : ByteArray) :
    Calls Try.prog 59 #[sv s] w fun e w' => e = .returned (.bool (nameOk s)) ∧ w = w' := by
  rcases (show s.size < 1 ∨ 32 < s.size ∨ (1 ≤ s.size ∧ s.size ≤ 32) by omega) with h | h | ⟨h, h2⟩
  · exact dnamed_lo w s h
  · exact dnamed_hi w s h
  · exact dnamed_mid w s h h2
end Go.Proofs.Ytmhdhnipljonlaa
