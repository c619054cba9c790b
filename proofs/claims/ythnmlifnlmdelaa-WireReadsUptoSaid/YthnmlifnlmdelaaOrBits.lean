/- Numbers joined out of bytes: or of a high part and a low one is their sum. -/
import Derived.Test.YthnmlifnlmdelaaBase
import Derived.Laws.BitsAllLaws
namespace Go.Proofs.Ythnmlifnlmdelaa
open Go.RowKit
set_option linter.unusedSimpArgs false
set_option linter.unusedVariables false
theorem or_hl (x y j : Nat) (hx : x % 2 ^ j = 0) (hy : y < 2 ^ j) : x ||| y = x + y := by
  have h := Nat.shiftLeft_add_eq_or_of_lt hy (x / 2 ^ j)
  rw [Nat.shiftLeft_eq, Nat.div_mul_cancel (Nat.dvd_of_mod_eq_zero hx)] at h
  exact h.symm
theorem u32_hl (x y j : Nat) (hx : x % 2 ^ j = 0) (hy : y < 2 ^ j) (hs : x + y < 4294967296) : bits .or .u32 (x : Int) (y : Int) = ((x + y : Nat) : Int) := by
  rw [u32_or_nat x y (by omega) (by omega), or_hl x y j hx hy]
theorem i64_or_nat (a b : Nat) (ha : a < 9223372036854775808) (hb : b < 9223372036854775808) : bits .or .i64 (a : Int) (b : Int) = ((a ||| b : Nat) : Int) := by
  have hx : a ||| b < 2 ^ 63 := Nat.or_lt_two_pow (by omega) (by omega)
  show IntKind.i64.wrap ((BitVec.ofInt 64 (a : Int) ||| BitVec.ofInt 64 (b : Int)).toNat : Int) = _
  rw [BitVec.toNat_or, ofInt_u64 a (by omega), ofInt_u64 b (by omega)]
  simp [IntKind.wrap, IntKind.bits, IntKind.signed]
  omega
theorem i64_hl (x y j : Nat) (hx : x % 2 ^ j = 0) (hy : y < 2 ^ j) (hs : x + y < 9223372036854775808) : bits .or .i64 (x : Int) (y : Int) = ((x + y : Nat) : Int) := by
  rw [i64_or_nat x y (by omega) (by omega), or_hl x y j hx hy]
theorem u64_hl (x y j : Nat) (hx : x % 2 ^ j = 0) (hy : y < 2 ^ j) (hs : x + y < 18446744073709551616) : bits .or .u64 (x : Int) (y : Int) = ((x + y : Nat) : Int) := by
  rw [u64_or_nat x y (by omega) (by omega), or_hl x y j hx hy]
/-- Four bytes as a number, the highest first. -/
def num4 (l : List UInt8) : Nat := (nth l 0).toNat * 16777216 + (nth l 1).toNat * 65536 + (nth l 2).toNat * 256 + (nth l 3).toNat
/-- A number in four bytes. -/
def four (n : Nat) : List UInt8 := [UInt8.ofNat (n / 16777216), UInt8.ofNat (n / 65536), UInt8.ofNat (n / 256), UInt8.ofNat n]
theorem num4_lt (l : List UInt8) : num4 l < 4294967296 := by
  have h0 := (nth l 0).toNat_lt; have h1 := (nth l 1).toNat_lt; have h2 := (nth l 2).toNat_lt; have h3 := (nth l 3).toNat_lt
  unfold num4; omega
theorem num4_four (n : Nat) (h : n < 4294967296) (m : List UInt8) : num4 (four n ++ m) = n := by
  simp only [num4, four, List.cons_append, nth_cons_zero, nth_cons_succ, UInt8.toNat_ofNat']
  omega
theorem four_len (n : Nat) : (four n).length = 4 := rfl
theorem num4_u32 (a b c d : UInt8) : bits .or .u32 (bits .or .u32 (bits .or .u32 ((a.toNat * 16777216 : Nat) : Int) ((b.toNat * 65536 : Nat) : Int)) ((c.toNat * 256 : Nat) : Int)) (d.toNat : Int) = ((a.toNat * 16777216 + b.toNat * 65536 + c.toNat * 256 + d.toNat : Nat) : Int) := by
  have h0 := a.toNat_lt; have h1 := b.toNat_lt; have h2 := c.toNat_lt; have h3 := d.toNat_lt
  rw [u32_hl _ _ 24 (by omega) (by omega) (by omega), u32_hl _ _ 16 (by omega) (by omega) (by omega), u32_hl _ _ 8 (by omega) (by omega) (by omega)]
theorem num4_i64 (a b c d : UInt8) : bits .or .i64 (bits .or .i64 (bits .or .i64 ((a.toNat * 16777216 : Nat) : Int) ((b.toNat * 65536 : Nat) : Int)) ((c.toNat * 256 : Nat) : Int)) (d.toNat : Int) = ((a.toNat * 16777216 + b.toNat * 65536 + c.toNat * 256 + d.toNat : Nat) : Int) := by
  have h0 := a.toNat_lt; have h1 := b.toNat_lt; have h2 := c.toNat_lt; have h3 := d.toNat_lt
  rw [i64_hl _ _ 24 (by omega) (by omega) (by omega), i64_hl _ _ 16 (by omega) (by omega) (by omega), i64_hl _ _ 8 (by omega) (by omega) (by omega)]
theorem u8_32 (x : UInt8) : (x.toNat : Int) % 4294967296 = ((x.toNat : Nat) : Int) := by have := x.toNat_lt; omega
theorem u8_sh (x : UInt8) (m : Nat) (hm : m ≤ 16777216) : (x.toNat : Int) % 4294967296 * (m : Int) % 4294967296 = ((x.toNat * m : Nat) : Int) := by
  have := x.toNat_lt
  have h2 : x.toNat * m ≤ 255 * 16777216 := Nat.mul_le_mul (by omega) hm
  rw [u8_32, ← Int.natCast_mul]; omega
theorem num4_walk (a b c d : UInt8) : bits .or .u32 (bits .or .u32 (bits .or .u32 ((a.toNat : Int) % 4294967296 * 16777216 % 4294967296) ((b.toNat : Int) % 4294967296 * 65536 % 4294967296)) ((c.toNat : Int) % 4294967296 * 256 % 4294967296)) ((d.toNat : Int) % 4294967296) = ((a.toNat * 16777216 + b.toNat * 65536 + c.toNat * 256 + d.toNat : Nat) : Int) := by
  rw [← num4_u32, u8_32 d]
  have h1 := u8_sh a 16777216 (by omega); have h2 := u8_sh b 65536 (by omega); have h3 := u8_sh c 256 (by omega)
  rw [show ((16777216 : Nat) : Int) = 16777216 from rfl] at h1
  rw [show ((65536 : Nat) : Int) = 65536 from rfl] at h2
  rw [show ((256 : Nat) : Int) = 256 from rfl] at h3
  rw [h1, h2, h3]
theorem wrap64_id (n : Int) (h : -9223372036854775808 ≤ n) (h2 : n ≤ 9223372036854775807) : wrap64 n = n := by
  unfold wrap64; omega
theorem u8_64 (x : UInt8) (m : Nat) (hm : m ≤ 16777216) : wrap64 (wrap64 (x.toNat : Int) * (m : Int)) = ((x.toNat * m : Nat) : Int) := by
  have := x.toNat_lt
  have h2 : x.toNat * m ≤ 255 * 16777216 := Nat.mul_le_mul (by omega) hm
  rw [wrap64_id (x.toNat : Int) (by omega) (by omega), ← Int.natCast_mul, wrap64_id _ (by omega) (by omega)]
theorem num4_walk64 (a b c d : UInt8) : bits .or .i64 (bits .or .i64 (bits .or .i64 (wrap64 (wrap64 (a.toNat : Int) * 16777216)) (wrap64 (wrap64 (b.toNat : Int) * 65536))) (wrap64 (wrap64 (c.toNat : Int) * 256))) (wrap64 (d.toNat : Int)) = ((a.toNat * 16777216 + b.toNat * 65536 + c.toNat * 256 + d.toNat : Nat) : Int) := by
  have hd := d.toNat_lt
  rw [← num4_i64, wrap64_id (d.toNat : Int) (by omega) (by omega)]
  have h1 := u8_64 a 16777216 (by omega); have h2 := u8_64 b 65536 (by omega); have h3 := u8_64 c 256 (by omega)
  rw [show ((16777216 : Nat) : Int) = 16777216 from rfl] at h1
  rw [show ((65536 : Nat) : Int) = 65536 from rfl] at h2
  rw [show ((256 : Nat) : Int) = 256 from rfl] at h3
  rw [h1, h2, h3]
end Go.Proofs.Ythnmlifnlmdelaa
