/- Numbers as bytes, the highest first, and their order. -/
import Derived.Test.YtjomecimbofnfaaStrOrd
import Derived.Test.YtjomecimbofnfaaConvStr
import Derived.Test.YtjomecimbofnfaaOpen
import Derived.Laws.BitsAllLaws
namespace Go.Proofs.Ytjomecimbofnfaa
open Go.RowKit
set_option linter.unusedSimpArgs false
set_option linter.unusedVariables false
def beB : Nat → Nat → List UInt8
  | 0, _ => []
  | k + 1, n => UInt8.ofNat (n / 256 ^ k) :: beB k n
theorem beB_len : ∀ k n, (beB k n).length = k
  | 0, _ => rfl
  | k + 1, n => by simp [beB, beB_len k n]
theorem beB_nth : ∀ (k n j : Nat), j < k → nth (beB k n) j = UInt8.ofNat (n / 256 ^ (k - 1 - j))
  | 0, _, _, h => absurd h (by omega)
  | k + 1, n, 0, _ => by rw [beB, nth_cons_zero]; rfl
  | k + 1, n, j + 1, h => by
    rw [beB, nth_cons_succ, beB_nth k n j (by omega)]
    congr 3; omega
theorem less_digits : ∀ (k a b : Nat), Op.bytesLess (beB k a) (beB k b) = decide (a % 256 ^ k < b % 256 ^ k)
  | 0, a, b => by simp [beB, Op.bytesLess]; omega
  | k + 1, a, b => by
    have hP : 0 < 256 ^ k := Nat.pow_pos (by decide)
    have e : ∀ n : Nat, n % 256 ^ (k + 1) = (n / 256 ^ k % 256) * 256 ^ k + n % 256 ^ k := fun n => by rw [Nat.pow_succ, Nat.mod_mul, Nat.add_comm, Nat.mul_comm]
    have ha := Nat.mod_lt a hP
    have hb := Nat.mod_lt b hP
    rw [e a, e b]
    apply Bool.eq_iff_iff.2
    rw [beB, beB, bl_cons, less_digits k a b, decide_eq_true_iff, decide_eq_true_iff, UInt8.toNat_ofNat', UInt8.toNat_ofNat']
    have hx : (2 : Nat) ^ 8 = 256 := by decide
    rw [hx]
    generalize hp : a / 256 ^ k % 256 = p
    generalize hq : b / 256 ^ k % 256 = q
    have heq : (UInt8.ofNat (a / 256 ^ k) = UInt8.ofNat (b / 256 ^ k)) ↔ p = q := by
      rw [← UInt8.toNat_inj, UInt8.toNat_ofNat', UInt8.toNat_ofNat', hx, hp, hq]
    rw [heq]
    generalize 256 ^ k = P at *
    constructor
    · rintro (h | ⟨h, h'⟩)
      · have := Nat.mul_le_mul_right P (show p + 1 ≤ q from h)
        rw [Nat.add_mul, Nat.one_mul] at this; omega
      · rw [h]; omega
    · intro h
      rcases Nat.lt_trichotomy p q with h1 | h1 | h1
      · exact .inl h1
      · subst h1; exact .inr ⟨rfl, by omega⟩
      · have := Nat.mul_le_mul_right P (show q + 1 ≤ p from h1)
        rw [Nat.add_mul, Nat.one_mul] at this; omega
theorem strOf_list (l : List UInt8) : (strOf l).toList = l := by rw [strList_eq]; rfl
theorem pow256 (k : Nat) : (256 : Nat) ^ k = 2 ^ (8 * k) := by rw [Nat.pow_mul]
theorem byte_at (m k : Nat) : Value.int .u8 ((m : Int) / 2 ^ (8 * k) % 256) = bv (UInt8.ofNat (m / 256 ^ k)) := by
  have : ((m / 2 ^ (8 * k) : Nat) : Int) = (m : Int) / 2 ^ (8 * k) := by rw [Int.natCast_ediv, Int.natCast_pow]; rfl
  rw [← this, bv, UInt8.toNat_ofNat', pow256]; rfl
theorem xor_top (y : Nat) (h : y < 9223372036854775808) : y ^^^ 9223372036854775808 = y + 9223372036854775808 := by
  have e : (9223372036854775808 : Nat) = 2 ^ 63 := by decide
  rw [e] at h ⊢
  apply Nat.eq_of_testBit_eq
  intro i
  rw [Nat.testBit_xor, Nat.testBit_two_pow, Nat.add_comm]
  rcases Nat.lt_trichotomy i 63 with hi | hi | hi
  · rw [Nat.testBit_two_pow_add_gt hi]
    have : decide (63 = i) = false := by simp; omega
    rw [this]; simp
  · subst hi
    rw [Nat.testBit_two_pow_add_eq]; simp
  · have h1 : y.testBit i = false := Nat.testBit_lt_two_pow (Nat.lt_of_lt_of_le h (Nat.pow_le_pow_right (by decide) (by omega)))
    have h2 : (2 ^ 63 + y).testBit i = false := Nat.testBit_lt_two_pow (Nat.lt_of_lt_of_le (show 2 ^ 63 + y < 2 ^ 64 by omega) (Nat.pow_le_pow_right (by decide) (by omega)))
    have : decide (63 = i) = false := by simp; omega
    rw [h1, h2, this]; rfl
theorem u64_top (n : Int) (h : I64 n) : bits .xor .u64 (IntKind.u64.wrap n) 9223372036854775808 = (((n + 9223372036854775808).toNat : Nat) : Int) := by
  obtain ⟨h1, h2⟩ := h
  have hw : ∃ y : Nat, IntKind.u64.wrap n = (y : Int) ∧ y < 18446744073709551616 ∧ y ^^^ 9223372036854775808 = (n + 9223372036854775808).toNat := by
    rcases Int.le_total 0 n with q | q
    · refine ⟨n.toNat, ?_, by omega, ?_⟩
      · simp [IntKind.wrap, IntKind.bits, IntKind.signed]; omega
      · rw [xor_top _ (by omega)]; omega
    · by_cases q0 : n = 0
      · subst q0; exact ⟨0, by decide, by omega, by decide⟩
      · refine ⟨(n + 18446744073709551616).toNat, ?_, by omega, ?_⟩
        · simp [IntKind.wrap, IntKind.bits, IntKind.signed]; omega
        · have e : (n + 18446744073709551616).toNat = (n + 9223372036854775808).toNat + 9223372036854775808 := by omega
          rw [e, ← xor_top _ (by omega), Nat.xor_assoc, Nat.xor_self, Nat.xor_zero]
  obtain ⟨y, e1, e2, e3⟩ := hw
  rw [e1, ← e3]
  exact u64_xor_nat y 9223372036854775808 e2 (by omega)
/-- A number as eight bytes that are in the order of numbers. -/
def top (n : Int) : Nat := (n + 9223372036854775808).toNat
def txt (n : Int) : ByteArray := strOf (beB 8 (top n))
theorem txt_lt (a b : Int) (ha : I64 a) (hb : I64 b) : strLt (txt a) (txt b) = decide (a < b) := by
  obtain ⟨a1, a2⟩ := ha
  obtain ⟨b1, b2⟩ := hb
  unfold strLt txt
  rw [strOf_list, strOf_list, less_digits]
  have e : (256 : Nat) ^ 8 = 18446744073709551616 := by decide
  rw [e]
  apply decide_eq_decide.2
  unfold top
  omega
theorem txt_inj (a b : Int) (ha : I64 a) (hb : I64 b) (h : txt a = txt b) : a = b := by
  have h1 := txt_lt a b ha hb
  have h2 := txt_lt b a hb ha
  rw [h, strOrd.irr] at h1 h2
  have := of_decide_eq_false h1.symm
  have := of_decide_eq_false h2.symm
  omega
end Go.Proofs.Ytjomecimbofnfaa
