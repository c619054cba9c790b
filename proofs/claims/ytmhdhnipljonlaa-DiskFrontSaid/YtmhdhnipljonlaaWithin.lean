/- The book's Within. -/
import Derived.Test.YtmhdhnipljonlaaRows
import Derived.Test.YtmhdhnipljonlaaBookPlain
namespace Go.Proofs.Ytmhdhnipljonlaa
open Go.RowKit
set_option linter.unusedSimpArgs false
set_option linter.unusedVariables false
set_option maxHeartbeats 400000 in
theorem within_any (n lo hi : Int) (w : World) (hn : -9223372036854775808 ≤ n ∧ n ≤ 9223372036854775807) (h : lo ≤ hi) (hl : 0 ≤ lo) (hh : hi ≤ 4611686018427387904) :
    Calls Try.prog 24 #[.int .i64 n, .int .i64 lo, .int .i64 hi] w fun e w' => e = .returned (.int .i64 (within n lo hi)) ∧ w = w' := by
  have hp : 0 < hi - lo + 1 := by omega
  obtain ⟨b2, b3⟩ := tmod_bd n (hi - lo + 1) hp
  have hz : ((hi - lo + 1) == 0) = false := by rw [beq_eq_false_iff_ne]; omega
  obtain ⟨hn1, hn2⟩ := hn
  by_cases hs : n.tmod (hi - lo + 1) < 0
  · have HF : Hid (lo + (n.tmod (hi - lo + 1) + hi - lo + 1) = within n lo hi) := by
      unfold Hid within; rw [← within_neg n (hi - lo + 1) hp hs]; omega
    go_enter Try.func24, Try.ntmps24
    go_wp2
    go_ret
    exact ⟨congrArg (fun n => Ending.returned (.int .i64 n)) HF.out, rfl⟩
  · have HF : Hid (lo + n.tmod (hi - lo + 1) = within n lo hi) := by
      unfold Hid within; rw [← within_pos n (hi - lo + 1) hp (by omega)]
    go_enter Try.func24, Try.ntmps24
    go_wp2
    go_ret
    exact ⟨congrArg (fun n => Ending.returned (.int .i64 n)) HF.out, rfl⟩

end Go.Proofs.Ytmhdhnipljonlaa
