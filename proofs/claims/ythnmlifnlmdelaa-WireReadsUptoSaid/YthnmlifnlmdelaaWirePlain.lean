/- Chapter 2 as plain mathematics: numbers as bytes. -/
import Derived.Test.YthnmlifnlmdelaaOrBits
namespace Go.Proofs.Ythnmlifnlmdelaa
set_option linter.unusedSimpArgs false
set_option linter.unusedVariables false
/-- How many bytes a number has. -/
def nb (n : Nat) : Nat := if h : n = 0 then 0 else nb (n / 256) + 1
decreasing_by omega
theorem nb_zero : nb 0 = 0 := by unfold nb; simp
theorem nb_pos (n : Nat) (h : n ≠ 0) : nb n = nb (n / 256) + 1 := by rw [nb]; simp [h]
theorem nb_lt : ∀ (k n : Nat), k < nb n ↔ 0 < n / 256 ^ k
  | 0, n => by
    by_cases h : n = 0
    · subst h; simp [nb_zero]
    · rw [nb_pos n h]; simp; omega
  | k + 1, n => by
    have e : n / 256 ^ (k + 1) = n / 256 / 256 ^ k := by rw [Nat.pow_succ', Nat.div_div_eq_div_mul]
    by_cases h : n = 0
    · subst h; simp [nb_zero]
    · rw [nb_pos n h, e, ← nb_lt k (n / 256)]; omega
theorem nb_le8 (n : Nat) (h : n < 18446744073709551616) : nb n ≤ 8 := by
  rcases Nat.lt_or_ge 8 (nb n) with q | q
  · have := (nb_lt 8 n).1 q
    have e : (256 : Nat) ^ 8 = 18446744073709551616 := by decide
    rw [e] at this
    have := Nat.div_eq_of_lt h
    omega
  · exact q
/-- So many bytes of a number, the highest first. -/
def beB : Nat → Nat → List UInt8
  | 0, _ => []
  | k + 1, n => UInt8.ofNat (n / 256 ^ k) :: beB k n
theorem beB_len : ∀ k n, (beB k n).length = k
  | 0, _ => rfl
  | k + 1, n => by simp [beB, beB_len k n]
def encNum (n : Nat) : List UInt8 := UInt8.ofNat (nb n) :: beB (nb n) n
theorem encNum_len (n : Nat) : (encNum n).length = 1 + nb n := by simp [encNum, beB_len]; omega
/-- Bytes as a number, the highest first. -/
def beN (l : List UInt8) : Nat := l.foldl (fun a x => a * 256 + x.toNat) 0
theorem beN_from (a : Nat) (l : List UInt8) : l.foldl (fun a x => a * 256 + x.toNat) a = a * 256 ^ l.length + beN l := by
  unfold beN
  induction l generalizing a with
  | nil => simp
  | cons x l ih =>
    simp only [List.foldl_cons, List.length_cons]
    rw [ih, ih (0 * 256 + x.toNat)]
    simp only [Nat.zero_mul, Nat.zero_add, Nat.pow_succ', Nat.add_mul]
    rw [Nat.mul_assoc, Nat.add_assoc]
theorem beN_cons (x : UInt8) (l : List UInt8) : beN (x :: l) = x.toNat * 256 ^ l.length + beN l := by
  have := beN_from (0 * 256 + x.toNat) l
  simp only [Nat.zero_mul, Nat.zero_add] at this
  rw [← this]; simp [beN]
theorem beN_snoc (l : List UInt8) (x : UInt8) : beN (l ++ [x]) = beN l * 256 + x.toNat := by simp [beN, List.foldl_append]
theorem beN_lt (l : List UInt8) : beN l < 256 ^ l.length := by
  induction l with
  | nil => simp [beN]
  | cons x l ih =>
    rw [beN_cons, List.length_cons, Nat.pow_succ']
    have hx := x.toNat_lt
    have : x.toNat * 256 ^ l.length ≤ 255 * 256 ^ l.length := Nat.mul_le_mul_right _ (by omega)
    omega
theorem beN_beB : ∀ k n, beN (beB k n) = n % 256 ^ k
  | 0, n => by simp [beB, beN]; omega
  | k + 1, n => by
    rw [beB, beN_cons, beB_len, beN_beB k n, UInt8.toNat_ofNat']
    have h1 : n % 256 ^ (k + 1) = (n / 256 ^ k % 256) * 256 ^ k + n % 256 ^ k := by
      rw [Nat.pow_succ, Nat.mod_mul, Nat.add_comm, Nat.mul_comm]
    rw [h1]
theorem lt_pow_nb (n : Nat) : n < 256 ^ nb n := by
  rcases Nat.lt_or_ge n (256 ^ nb n) with h | h
  · exact h
  · have := Nat.div_pos h (Nat.pow_pos (by decide))
    have := (nb_lt (nb n) n).2 this
    omega
theorem beN_enc (n : Nat) : beN (beB (nb n) n) = n := by rw [beN_beB]; exact Nat.mod_eq_of_lt (lt_pow_nb n)
theorem beB_first (n : Nat) (h : n ≠ 0) : ∃ l, beB (nb n) n = UInt8.ofNat (n / 256 ^ (nb n - 1)) :: l ∧ (UInt8.ofNat (n / 256 ^ (nb n - 1))) ≠ 0 := by
  obtain ⟨m, hm⟩ : ∃ m, nb n = m + 1 := ⟨nb n - 1, by rw [nb_pos n h]; omega⟩
  refine ⟨beB m n, by rw [hm]; rfl, ?_⟩
  rw [hm, Nat.add_sub_cancel]
  intro e
  have h1 := (nb_lt m n).1 (by omega)
  have h2 : n / 256 ^ m < 256 := by
    apply Nat.div_lt_of_lt_mul
    have := lt_pow_nb n
    rwa [hm, Nat.pow_succ] at this
  have h3 := congrArg UInt8.toNat e
  rw [UInt8.toNat_ofNat'] at h3
  simp at h3
  omega
/-- A number read: its value, how many bytes, the error. -/
def numAt : List UInt8 → Nat × Nat × Nat
  | [] => (0, 0, 3)
  | c :: r => if 8 < c.toNat then (0, 0, 4) else if r.length < c.toNat then (0, 0, 3)
    else if (0 < c.toNat ∧ nth r 0 = 0) ∨ 9223372036854775808 ≤ beN (r.take c.toNat) then (0, 0, 4) else (beN (r.take c.toNat), 1 + c.toNat, 0)
theorem numAt_cons (c : UInt8) (r : List UInt8) : numAt (c :: r) = if 8 < c.toNat then (0, 0, 4) else if r.length < c.toNat then (0, 0, 3)
    else if (0 < c.toNat ∧ nth r 0 = 0) ∨ 9223372036854775808 ≤ beN (r.take c.toNat) then (0, 0, 4) else (beN (r.take c.toNat), 1 + c.toNat, 0) := rfl
/-- Where a reader stands, and its error. -/
abbrev RSt := Nat × Nat
def rdNum (B : List UInt8) (s : RSt) : Nat × RSt :=
  if s.2 ≠ 0 then (0, s) else if (numAt (B.drop s.1)).2.2 ≠ 0 then (0, s.1, (numAt (B.drop s.1)).2.2) else ((numAt (B.drop s.1)).1, s.1 + (numAt (B.drop s.1)).2.1, 0)
def rdUpto (B : List UInt8) (most : Int) (s : RSt) : Nat × RSt :=
  if (rdNum B s).2.2 = 0 ∧ most < ((rdNum B s).1 : Int) then (0, s.1, 2) else rdNum B s
def rdText (B : List UInt8) (most : Int) (s : RSt) : List UInt8 × RSt :=
  if (rdUpto B most s).2.2 ≠ 0 then ([], (rdUpto B most s).2)
  else if B.length - (rdUpto B most s).2.1 < (rdUpto B most s).1 then ([], s.1, 3)
  else ((B.drop (rdUpto B most s).2.1).take (rdUpto B most s).1, (rdUpto B most s).2.1 + (rdUpto B most s).1, 0)
def rdFlag (B : List UInt8) (s : RSt) : Bool × RSt :=
  if (rdNum B s).2.2 = 0 ∧ 1 < (rdNum B s).1 then (false, s.1, 4) else (decide ((rdNum B s).2.2 = 0 ∧ (rdNum B s).1 = 1), (rdNum B s).2)
def rdEnd (B : List UInt8) (s : RSt) : RSt := if s.2 = 0 ∧ s.1 < B.length then (s.1, 5) else s
def rdNums (B : List UInt8) : Nat → RSt → List Int × RSt
  | 0, s => ([], s)
  | n + 1, s => if s.2 ≠ 0 then ([], s) else (((rdNum B s).1 : Int) :: (rdNums B n (rdNum B s).2).1, (rdNums B n (rdNum B s).2).2)
def rdItemsAt (B : List UInt8) (most : Int) (s : RSt) : RSt :=
  if (rdUpto B most s).2.2 = 0 ∧ B.length - (rdUpto B most s).2.1 < (rdUpto B most s).1 then (s.1, 3) else (rdUpto B most s).2
def rdItems (B : List UInt8) (most : Int) (s : RSt) : List Int × RSt :=
  if (rdNums B (rdUpto B most s).1 (rdItemsAt B most s)).2.2 ≠ 0 then ([], (rdNums B (rdUpto B most s).1 (rdItemsAt B most s)).2) else rdNums B (rdUpto B most s).1 (rdItemsAt B most s)
theorem numAt_used (r : List UInt8) (h : (numAt r).2.2 = 0) : 1 ≤ (numAt r).2.1 ∧ (numAt r).2.1 ≤ r.length ∧ (numAt r).2.1 ≤ 9 ∧ (numAt r).1 < 9223372036854775808 := by
  cases r with
  | nil => simp [numAt] at h
  | cons c r =>
    rw [numAt_cons] at h ⊢
    split at h
    · simp at h
    · rename_i h1
      rw [if_neg h1]
      split at h
      · simp at h
      · rename_i h2
        rw [if_neg h2]
        split at h
        · simp at h
        · rename_i h3
          rw [if_neg h3]
          simp only [List.length_cons]
          omega
theorem numAt_bad (r : List UInt8) (h : (numAt r).2.2 ≠ 0) : (numAt r).2.2 ≤ 5 := by
  cases r with
  | nil => simp [numAt]
  | cons c r => rw [numAt_cons]; repeat' split
                all_goals simp
theorem rdNum_le (B : List UInt8) (s : RSt) (h : s.1 ≤ B.length) (h2 : s.2 ≤ 5) : (rdNum B s).1 < 9223372036854775808 ∧ s.1 ≤ (rdNum B s).2.1 ∧ (rdNum B s).2.1 ≤ B.length ∧ (rdNum B s).2.2 ≤ 5 ∧ ((rdNum B s).2.2 ≠ 0 → (rdNum B s).1 = 0 ∧ (rdNum B s).2.1 = s.1) := by
  unfold rdNum
  split
  · simp; omega
  · split
    · rename_i h1 h3
      have := numAt_bad _ h3
      simp; omega
    · rename_i h1 h3
      have := numAt_used (B.drop s.1) (by simpa using h3)
      rw [List.length_drop] at this
      simp; omega
theorem rdUpto_le (B : List UInt8) (m : Int) (s : RSt) (h : s.1 ≤ B.length) (h2 : s.2 ≤ 5) : (rdUpto B m s).1 < 9223372036854775808 ∧ s.1 ≤ (rdUpto B m s).2.1 ∧ (rdUpto B m s).2.1 ≤ B.length ∧ (rdUpto B m s).2.2 ≤ 5 ∧ ((rdUpto B m s).2.2 ≠ 0 → (rdUpto B m s).1 = 0 ∧ (rdUpto B m s).2.1 = s.1) := by
  have := rdNum_le B s h h2
  unfold rdUpto
  split
  · simp; omega
  · exact this
/-- What was written is read. -/
theorem numAt_enc (n : Nat) (h : n < 9223372036854775808) (r : List UInt8) : numAt (encNum n ++ r) = (n, 1 + nb n, 0) := by
  have h8 := nb_le8 n (by omega)
  have hc : (UInt8.ofNat (nb n)).toNat = nb n := by rw [UInt8.toNat_ofNat']; omega
  have ht : (beB (nb n) n ++ r).take (nb n) = beB (nb n) n := List.take_left' (beB_len _ _)
  unfold encNum
  rw [List.cons_append, numAt_cons, hc, if_neg (by omega), if_neg (by rw [List.length_append, beB_len]; omega), ht, beN_enc, if_neg]
  rintro (⟨h1, h2⟩ | h2)
  · have hn : n ≠ 0 := by rintro rfl; simp [nb_zero] at h1
    obtain ⟨l, e1, e2⟩ := beB_first n hn
    rw [e1, List.cons_append, nth_cons_zero] at h2
    exact e2 h2
  · omega
/-- A number that is cut off ends too early. -/
theorem numAt_cut (n : Nat) (h : n < 9223372036854775808) (k : Nat) (hk : k < (encNum n).length) : numAt ((encNum n).take k) = (0, 0, 3) := by
  have h8 := nb_le8 n (by omega)
  have hc : (UInt8.ofNat (nb n)).toNat = nb n := by rw [UInt8.toNat_ofNat']; omega
  rw [encNum_len] at hk
  cases k with
  | zero => rfl
  | succ k =>
    unfold encNum
    rw [List.take_succ_cons, numAt_cons, hc, if_neg (by omega), if_pos (by rw [List.length_take, beB_len]; omega)]
/-- Bytes that are read as a number are those that write it. -/
theorem enc_of_numAt (r : List UInt8) (h : (numAt r).2.2 = 0) : encNum (numAt r).1 = r.take (numAt r).2.1 := by
  cases r with
  | nil => simp [numAt] at h
  | cons c r =>
    rw [numAt_cons] at h ⊢
    split at h
    · simp at h
    · rename_i h1
      rw [if_neg h1]
      split at h
      · simp at h
      · rename_i h2
        rw [if_neg h2]
        split at h
        · simp at h
        · rename_i h3
          rw [if_neg h3]
          simp only
          rw [Nat.add_comm, List.take_succ_cons]
          have hl : (r.take c.toNat).length = c.toNat := by rw [List.length_take]; omega
          have h4 : 0 < c.toNat → nth (r.take c.toNat) 0 ≠ 0 := fun q e => h3 (.inl ⟨q, by rw [nth_take _ _ _ q] at e; exact e⟩)
          generalize r.take c.toNat = m at *
          have key : ∀ (m : List UInt8), (0 < m.length → nth m 0 ≠ 0) → nb (beN m) = m.length ∧ beB m.length (beN m) = m := by
            intro m hm
            have hb : ∀ (l : List UInt8) (a : Nat), beB l.length (a * 256 ^ l.length + beN l) = l := by
              intro l
              induction l with
              | nil => intro a; rfl
              | cons x l ih =>
                intro a
                have hlt := beN_lt l
                have hx := x.toNat_lt
                rw [List.length_cons, beB, beN_cons]
                have e1 : a * 256 ^ (l.length + 1) + (x.toNat * 256 ^ l.length + beN l) = (a * 256 + x.toNat) * 256 ^ l.length + beN l := by
                  rw [Nat.pow_succ', Nat.add_mul, Nat.mul_assoc, Nat.add_assoc]
                rw [e1, ih (a * 256 + x.toNat)]
                congr 1
                rw [Nat.add_comm, Nat.add_mul_div_right _ _ (Nat.pow_pos (by decide)), Nat.div_eq_of_lt hlt, Nat.zero_add]
                apply UInt8.toNat_inj.1
                rw [UInt8.toNat_ofNat']; omega
            refine ⟨?_, by have := hb m 0; simpa using this⟩
            cases m with
            | nil => simp [beN, nb_zero]
            | cons x m =>
              have hx : x ≠ 0 := by have := hm (by simp); rwa [nth_cons_zero] at this
              have hx2 : 1 ≤ x.toNat := by
                rcases Nat.eq_zero_or_pos x.toNat with q | q
                · exact absurd (UInt8.toNat_inj.1 (by rw [q]; rfl)) hx
                · exact q
              have h1 := beN_lt (x :: m)
              have h2 : 256 ^ m.length ≤ beN (x :: m) := by
                rw [beN_cons]
                have : 1 * 256 ^ m.length ≤ x.toNat * 256 ^ m.length := Nat.mul_le_mul_right _ hx2
                omega
              have h3 := (nb_lt m.length (beN (x :: m))).2 (Nat.div_pos h2 (Nat.pow_pos (by decide)))
              rcases Nat.lt_or_ge (x :: m).length (nb (beN (x :: m))) with q | q
              · have := (nb_lt _ _).1 q
                rw [Nat.div_eq_of_lt h1] at this; omega
              · simp only [List.length_cons] at q ⊢; omega
          obtain ⟨k1, k2⟩ := key m (by rw [hl]; exact h4)
          unfold encNum
          rw [k1, k2, hl]
          congr 1
          apply UInt8.toNat_inj.1
          rw [UInt8.toNat_ofNat']
          have := c.toNat_lt; omega
end Go.Proofs.Ythnmlifnlmdelaa
