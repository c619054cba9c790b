/- The book's Same at texts. -/
import Derived.Test.YtmhdhnipljonlaaRows
import Derived.Test.YtmhdhnipljonlaaStrPlain
namespace Go.Proofs.Ytmhdhnipljonlaa
open Go.RowKit
set_option linter.unusedSimpArgs false
set_option linter.unusedVariables false
set_option maxHeartbeats 400000 in
theorem sameStr_any (v u : Value) (l m : List ByteArray) (w : World) (h : Rd sv w v l) (h2 : Rd sv w u m) :
    Calls Try.prog 34 #[v, u] w fun e w' => e = .returned (.bool (decide (l = m))) ∧ ∃ n, w' = w.drewN n := by
  obtain ⟨a, cap, rfl, hlc, hm, hc⟩ := h
  obtain ⟨a2, cap2, rfl, hlc2, hm2, hc2⟩ := h2
  have hm' : l.length ≤ 9223372036854775807 := by unfold maxLen at hm; omega
  have hm2' : m.length ≤ 9223372036854775807 := by unfold maxLen at hm2; omega
  clear hm hlc hm2 hlc2
  by_cases hlen : l.length = m.length
  · have HL := Lib.hid hlen
    have t1 : ((l.length : Int) != (m.length : Int)) = false := by rw [bne_eq_false_iff_eq]; omega
    have H1 := Lib.hid hc
    have H2 := Lib.hid hc2
    clear hlen hc hc2
    go_enter Try.func34, Try.ntmps34
    go_wp2
    go_loopw [5] (fun i wr => ∃ k n : Nat, wr = w.drewN n ∧ k ≤ l.length ∧ i = .int .i64 k ∧ Hid (∀ j, j < k → nth l j = nth m j)) (fun i _ => l.length - (intOf i).toNat)
    case atStart => exact ⟨0, 0, rfl, Nat.zero_le _, rfl, fun j hj => absurd hj (by omega)⟩
    case round =>
      obtain ⟨k, n, rfl, hk, rfl, hs⟩ := hrel
      by_cases hlt : k < l.length
      · obtain ⟨b, off, rfl, hc'⟩ := H1.out (by intro h; simp [h] at hlt)
        have hlt2 : k < m.length := by rw [← HL.out]; exact hlt
        obtain ⟨b2, off2, rfl, hc2'⟩ := H2.out (by intro h; simp [h] at hlt2)
        have hck := hc' k hlt
        have hck2 := hc2' k hlt2
        clear hc' hc2'
        have q1 : (k : Int) < (l.length : Int) := by omega
        have q2 : (k : Int) < (m.length : Int) := by omega
        go_wp2
        go_quiet (fail)
        go_wp2
        · have hne : nth l k ≠ nth m k := str_ne (by assumption)
          go_ret
          exact ⟨congrArg (fun b => Ending.returned (.bool b)) (decide_eq_false (fun e => by rw [e] at hne; exact hne rfl)).symm, _, World.drewN_drewN ..⟩
        · have heq : nth l k = nth m k := str_eq (by assumption)
          have HEQ := Lib.hid heq
          clear heq
          go_roundw
          case rel => exact ⟨k + 1, _, rfl, by omega, by go_num, fun j hj => by
            by_cases e : j = k
            · rw [e]; exact HEQ.out
            · exact hs.out j (by omega)⟩
          case measure => simp [intOf]; omega
      · obtain rfl : k = l.length := by omega
        go_wp2
        go_ret
        exact ⟨congrArg (fun b => Ending.returned (.bool b)) (decide_eq_true (same_ext HL.out hs.out)).symm, _, rfl⟩
  · have t1 : ((l.length : Int) != (m.length : Int)) = true := by rw [bne_iff_ne]; omega
    have t2 : decide (l = m) = false := by simp; intro h; exact hlen (by rw [h])
    have T2 := Lib.hid t2
    clear hlen t2
    go_enter Try.func34, Try.ntmps34
    go_wp2
    go_ret
    exact ⟨congrArg (fun b => Ending.returned (.bool b)) T2.out.symm, 0, rfl⟩

theorem sameStr_ok (v u : Value) (l : List ByteArray) (w : World) (h : Rd sv w v l) (h2 : Rd sv w u l) :
    Calls Try.prog 34 #[v, u] w fun e w' => e = .returned (.bool true) ∧ ∃ n, w' = w.drewN n := by
  have h := sameStr_any v u l l w h h2
  rw [decide_eq_true rfl] at h; exact h
end Go.Proofs.Ytmhdhnipljonlaa
