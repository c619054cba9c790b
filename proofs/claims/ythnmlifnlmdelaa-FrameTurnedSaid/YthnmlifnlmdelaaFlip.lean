/- Bits of bytes that are turned one by one. -/
import Derived.Test.YthnmlifnlmdelaaCrc
namespace Go.Proofs.Ythnmlifnlmdelaa
set_option linter.unusedSimpArgs false
set_option linter.unusedVariables false

def flip1 (l : List UInt8) (n : Nat) : List UInt8 := l.set (n / 8) (UInt8.ofNat ((nth l (n / 8)).toNat ^^^ 2 ^ (n % 8)))
def flips (l : List UInt8) (bt : Nat) (x : BitVec 32) : Nat → List UInt8
  | 0 => l
  | k + 1 => if x.getLsbD k && decide (bt + k < 8 * l.length) then flip1 (flips l bt x k) (bt + k) else flips l bt x k
/-- Is a bit turned among the first k? 'lim': only those below that byte count. -/
def turned (lim len bt : Nat) (x : BitVec 32) : Nat → Bool
  | 0 => false
  | k + 1 => turned lim len bt x k || (x.getLsbD k && decide (bt + k < 8 * len) && decide ((bt + k) / 8 < lim))
theorem flip1_length (l : List UInt8) (n : Nat) : (flip1 l n).length = l.length := by simp [flip1]
theorem flips_length (l : List UInt8) (bt : Nat) (x : BitVec 32) (k : Nat) : (flips l bt x k).length = l.length := by
  induction k with
  | zero => rfl
  | succ k ih => simp only [flips]; split <;> simp [flip1_length, ih]
theorem nth_set {α : Type} [Inhabited α] (l : List α) (i j : Nat) (x : α) (hi : i < l.length) : nth (l.set i x) j = if i = j then x else nth l j := by
  unfold nth
  rw [List.getD_eq_getElem?_getD, List.getD_eq_getElem?_getD, List.getElem?_set]
  by_cases e : i = j
  · subst e; simp [hi]
  · simp [e]
theorem toNat_flip (a r : Nat) (ha : a < 256) (hr : r < 8) : (UInt8.ofNat (a ^^^ 2 ^ r)).toNat = a ^^^ 2 ^ r := by
  have h1 : 2 ^ r < 2 ^ 8 := Nat.pow_lt_pow_right (by omega) hr
  have h2 : a ^^^ 2 ^ r < 2 ^ 8 := Nat.xor_lt_two_pow (by omega) h1
  rw [UInt8.toNat_ofNat']; exact Nat.mod_eq_of_lt h2
theorem bitAt_flip1 (l : List UInt8) (m n : Nat) (hm : m < 8 * l.length) : bitAt (flip1 l m) n = (bitAt l n ^^ decide (n = m)) := by
  unfold bitAt flip1
  rw [nth_set _ _ _ _ (by omega)]
  by_cases e : m / 8 = n / 8
  · rw [if_pos e, toNat_flip _ _ (nth l (m / 8)).toNat_lt (by omega), Nat.testBit_xor, e]
    congr 1
    rw [Nat.testBit_two_pow]
    by_cases q : n = m
    · simp [q]
    · simp [q]; omega
  · rw [if_neg e]
    have : n ≠ m := fun q => e (by rw [q])
    simp [this]
theorem bitAt_flips (l : List UInt8) (bt : Nat) (x : BitVec 32) (k n : Nat) (hn : n < 8 * l.length) : bitAt (flips l bt x k) n = (bitAt l n ^^ (decide (bt ≤ n) && decide (n < bt + k) && x.getLsbD (n - bt))) := by
  induction k with
  | zero =>
    have h1 : (decide (bt ≤ n) && decide (n < bt + 0)) = false := by simp
    rw [h1]; simp [flips]
  | succ k ih =>
    simp only [flips]
    by_cases hc : (x.getLsbD k && decide (bt + k < 8 * l.length)) = true
    · rw [if_pos hc, bitAt_flip1 _ _ _ (by rw [flips_length]; simp at hc; exact hc.2), ih]
      simp at hc
      by_cases e : n = bt + k
      · subst e; simp [hc.1]
      · by_cases q : bt ≤ n ∧ n < bt + k
        · simp [e, q.1, q.2, show n < bt + (k + 1) by omega]
        · have h1 : (decide (bt ≤ n) && decide (n < bt + k)) = false := by simp; omega
          have h2 : (decide (bt ≤ n) && decide (n < bt + (k + 1))) = false := by simp; omega
          rw [h1, h2]; simp [e]
    · rw [if_neg hc, ih]
      by_cases e : n = bt + k
      · subst e
        have : x.getLsbD k = false := by simp at hc; cases hx : x.getLsbD k; rfl; have := hc hx; omega
        simp [this]
      · by_cases q : bt ≤ n ∧ n < bt + k
        · simp [q.1, q.2, show n < bt + (k + 1) by omega]
        · have h1 : (decide (bt ≤ n) && decide (n < bt + k)) = false := by simp; omega
          have h2 : (decide (bt ≤ n) && decide (n < bt + (k + 1))) = false := by simp; omega
          rw [h1, h2]
theorem turned_iff (lim len bt : Nat) (x : BitVec 32) (k : Nat) : turned lim len bt x k = true ↔ ∃ j, j < k ∧ x.getLsbD j = true ∧ bt + j < 8 * len ∧ (bt + j) / 8 < lim := by
  induction k with
  | zero => simp [turned]
  | succ k ih =>
    simp only [turned, Bool.or_eq_true, ih, Bool.and_eq_true, decide_eq_true_eq]
    constructor
    · rintro (⟨j, h1, h2, h3, h4⟩ | ⟨⟨h1, h2⟩, h3⟩)
      · exact ⟨j, by omega, h2, h3, h4⟩
      · exact ⟨k, by omega, h1, h2, h3⟩
    · rintro ⟨j, h1, h2, h3, h4⟩
      by_cases e : j = k
      · subst e; exact .inr ⟨⟨h2, h3⟩, h4⟩
      · exact .inl ⟨j, by omega, h2, h3, h4⟩
theorem flips_sum (s : BitVec 32) (l : List UInt8) (bt : Nat) (x : BitVec 32) (hb : bt ≤ 8 * l.length) : onAll s (flips l bt x 32) = onAll s l ↔ turned l.length l.length bt x 32 = false := by
  rw [burst_sum s l _ (flips_length _ _ _ _) bt x hb (fun n hn => by
    rw [bitAt_flips _ _ _ _ _ hn]
    by_cases q : n < bt + 32
    · simp [q]
    · have : x.getLsbD (n - bt) = false := BitVec.getLsbD_of_ge x _ (by omega)
      simp [this])]
  rw [← Bool.not_eq_true, turned_iff]
  constructor
  · rintro h ⟨j, h1, h2, h3, _⟩
    rw [h j h1 h3] at h2; cases h2
  · intro h k hk hlt
    cases hx : x.getLsbD k
    · rfl
    · exact absurd ⟨k, hk, hx, hlt, by omega⟩ h

theorem bitAt_take (l : List UInt8) (n i : Nat) (h : i < 8 * n) : bitAt (l.take n) i = bitAt l i := by
  unfold bitAt; rw [nth_take _ _ _ (by omega)]
theorem flips_take_sum (s : BitVec 32) (l : List UInt8) (bt : Nat) (x : BitVec 32) (n : Nat) (hn : n = min l.length 16) : onAll s ((flips l bt x 32).take n) = onAll s (l.take n) ↔ turned 16 l.length bt x 32 = false := by
  have hnl : n ≤ l.length := by omega
  have hl1 : ((flips l bt x 32).take n).length = n := by rw [List.length_take, flips_length]; omega
  have hl2 : (l.take n).length = n := by rw [List.length_take]; omega
  have hbit : ∀ i, i < 8 * n → bitAt ((flips l bt x 32).take n) i = (bitAt (l.take n) i ^^ (decide (bt ≤ i) && x.getLsbD (i - bt))) := fun i hi => by
    rw [bitAt_take _ _ _ hi, bitAt_take _ _ _ hi, bitAt_flips _ _ _ _ _ (by omega)]
    by_cases q : i < bt + 32
    · simp [q]
    · have : x.getLsbD (i - bt) = false := BitVec.getLsbD_of_ge x _ (by omega)
      simp [this]
  have ht : turned 16 l.length bt x 32 = false ↔ ∀ k, k < 32 → bt + k < 8 * n → x.getLsbD k = false := by
    rw [← Bool.not_eq_true, turned_iff]
    constructor
    · intro h k hk hlt
      cases hx : x.getLsbD k
      · rfl
      · exact absurd ⟨k, hk, hx, by omega, by omega⟩ h
    · rintro h ⟨j, h1, h2, h3, h4⟩
      rw [h j h1 (by omega)] at h2; cases h2
  by_cases hb : bt ≤ 8 * n
  · rw [burst_sum s (l.take n) _ (by rw [hl1, hl2]) bt x (by rw [hl2]; exact hb) (fun i hi => hbit i (by rw [hl2] at hi; exact hi)), ht, hl2]
  · rw [ht]
    constructor
    · intro _ k _ h; omega
    · intro _
      rw [onAll_run, onAll_run, hl1, hl2]
      apply runF_congr
      intro i hi
      have h0 : decide (bt ≤ i) = false := by simp; omega
      rw [hbit i hi, h0, Bool.false_and, Bool.xor_false]
end Go.Proofs.Ythnmlifnlmdelaa
