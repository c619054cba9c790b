/- The sum as plain mathematics: it is linear, and a burst of 32 bits turns it. Nothing of the program stands here. -/
import Derived.Test.YthnmlifnlmdelaaBase
namespace Go.Proofs.Ythnmlifnlmdelaa
set_option linter.unusedSimpArgs false
set_option linter.unusedVariables false

def onStep (s : BitVec 32) : BitVec 32 := if s &&& 1 = 1 then (s >>> 1) ^^^ 0x82F63B78 else s >>> 1
def onBits (s : BitVec 32) : Nat → BitVec 32
  | 0 => s
  | k + 1 => onStep (onBits s k)
def onByte (s : BitVec 32) (x : UInt8) : BitVec 32 := onBits (s ^^^ BitVec.ofNat 32 x.toNat) 8
def onAll (s : BitVec 32) (l : List UInt8) : BitVec 32 := l.foldl onByte s
def sumOn (c : BitVec 32) (l : List UInt8) : BitVec 32 := ~~~ (onAll (~~~ c) l)
def sumOf (ls : List (List UInt8)) : BitVec 32 := ls.foldl sumOn 0

theorem onAll_append (s : BitVec 32) (l m : List UInt8) : onAll s (l ++ m) = onAll (onAll s l) m := by unfold onAll; rw [List.foldl_append]
theorem sumOn_append (c : BitVec 32) (l m : List UInt8) : sumOn c (l ++ m) = sumOn (sumOn c l) m := by
  unfold sumOn; rw [onAll_append]; simp

theorem and_one (s : BitVec 32) : (s &&& 1 = 1) ↔ s.getLsbD 0 = true := by
  constructor
  · intro h
    have := congrArg (fun x => x.getLsbD 0) h
    simpa using this
  · intro h
    apply BitVec.eq_of_getLsbD_eq
    intro i hi
    by_cases h0 : i = 0
    · subst h0; simpa using h
    · simp [BitVec.getLsbD_one, h0]
theorem onStep_eq (s : BitVec 32) : onStep s = (s >>> 1) ^^^ (if s.getLsbD 0 then 0x82F63B78 else 0) := by
  unfold onStep
  by_cases h : s.getLsbD 0 = true
  · rw [if_pos ((and_one s).2 h), if_pos h]
  · rw [if_neg (fun q => h ((and_one s).1 q)), if_neg h]; simp
theorem onStep_xor (a b : BitVec 32) : onStep (a ^^^ b) = onStep a ^^^ onStep b := by
  rw [onStep_eq, onStep_eq, onStep_eq, BitVec.getLsbD_xor, BitVec.ushiftRight_xor_distrib]
  generalize a >>> 1 = p
  generalize b >>> 1 = q
  have hz : ∀ i, (0 : BitVec 32).getLsbD i = false := fun i => by simp
  generalize (0x82F63B78 : BitVec 32) = r
  apply BitVec.eq_of_getLsbD_eq
  intro i hi
  cases a.getLsbD 0 <;> cases b.getLsbD 0 <;> simp [BitVec.getLsbD_xor, hz] <;> (try (cases p.getLsbD i <;> cases q.getLsbD i <;> cases r.getLsbD i <;> rfl))
theorem onStep_zero : onStep 0 = 0 := by decide
theorem onStep_eq_zero (s : BitVec 32) (h : onStep s = 0) : s = 0 := by
  rw [onStep_eq] at h
  have h31 := congrArg (fun x => x.getLsbD 31) h
  simp only [BitVec.getLsbD_xor, BitVec.getLsbD_ushiftRight] at h31
  rw [show s.getLsbD (1 + 31) = false from BitVec.getLsbD_of_ge s _ (by omega)] at h31
  by_cases h0 : s.getLsbD 0 = true
  · rw [if_pos h0] at h31; exact absurd h31 (by decide)
  · rw [if_neg h0] at h
    apply BitVec.eq_of_getLsbD_eq
    intro i hi
    rcases Nat.eq_zero_or_pos i with e | e
    · subst e; simpa using h0
    · have := congrArg (fun x => x.getLsbD (i - 1)) h
      simp only [BitVec.getLsbD_xor, BitVec.getLsbD_ushiftRight] at this
      rw [show 1 + (i - 1) = i from by omega] at this
      simpa using this
theorem onBits_xor (a b : BitVec 32) (n : Nat) : onBits (a ^^^ b) n = onBits a n ^^^ onBits b n := by
  induction n with
  | zero => rfl
  | succ n ih => simp only [onBits, ih, onStep_xor]
theorem onBits_eq_zero (a : BitVec 32) (n : Nat) : onBits a n = 0 ↔ a = 0 := by
  induction n with
  | zero => exact Iff.rfl
  | succ n ih =>
    constructor
    · intro h; exact ih.1 (onStep_eq_zero _ h)
    · intro h; simp only [onBits]; rw [ih.2 h]; exact onStep_zero
theorem onBits_add (a : BitVec 32) (m n : Nat) : onBits a (m + n) = onBits (onBits a m) n := by
  induction n with
  | zero => rfl
  | succ n ih => rw [← Nat.add_assoc]; simp only [onBits, ih]
theorem onBits_shift : ∀ m : Fin 32, onBits ((1 : BitVec 32) <<< m.val) m.val = 1 := by decide +kernel

/-- One bit. -/
def bit (b : Bool) : BitVec 32 := if b then 1 else 0
/-- So many bits, one behind the other. -/
def runF (s : BitVec 32) (f : Nat → Bool) : Nat → BitVec 32
  | 0 => s
  | n + 1 => onStep (runF s f n ^^^ bit (f n))
theorem bit_xor (a b : Bool) : bit (a ^^ b) = bit a ^^^ bit b := by cases a <;> cases b <;> decide
theorem runF_xor (s t : BitVec 32) (f g : Nat → Bool) (n : Nat) : runF (s ^^^ t) (fun i => f i ^^ g i) n = runF s f n ^^^ runF t g n := by
  induction n with
  | zero => rfl
  | succ n ih =>
    simp only [runF]
    rw [ih, bit_xor, ← onStep_xor]
    congr 1
    generalize runF s f n = p
    generalize runF t g n = q
    generalize bit (f n) = r
    generalize bit (g n) = u
    apply BitVec.eq_of_getLsbD_eq
    intro i hi
    simp only [BitVec.getLsbD_xor]
    cases p.getLsbD i <;> cases q.getLsbD i <;> cases r.getLsbD i <;> cases u.getLsbD i <;> rfl
theorem runF_congr (s : BitVec 32) (f g : Nat → Bool) (n : Nat) (h : ∀ i, i < n → f i = g i) : runF s f n = runF s g n := by
  induction n with
  | zero => rfl
  | succ n ih => simp only [runF]; rw [ih (fun i hi => h i (by omega)), h n (by omega)]
theorem runF_add (s : BitVec 32) (f : Nat → Bool) (m n : Nat) : runF s f (m + n) = runF (runF s f m) (fun i => f (m + i)) n := by
  induction n with
  | zero => rfl
  | succ n ih => rw [← Nat.add_assoc]; simp only [runF, ih]
theorem runF_false (s : BitVec 32) (n : Nat) : runF s (fun _ => false) n = onBits s n := by
  induction n with
  | zero => rfl
  | succ n ih => simp only [runF, onBits, ih, bit]; simp
/-- The low bits of a number, fed one by one, are the number fed at once. -/
theorem runF_word (x : BitVec 32) (m : Nat) (hm : m ≤ 32) : runF 0 (fun i => x.getLsbD i) m = onBits (BitVec.ofNat 32 (x.toNat % 2 ^ m)) m := by
  induction m with
  | zero => simp [runF, onBits, Nat.mod_one]
  | succ m ih =>
    simp only [runF]
    rw [ih (by omega)]
    have hs : BitVec.ofNat 32 (x.toNat % 2 ^ (m + 1)) = BitVec.ofNat 32 (x.toNat % 2 ^ m) ^^^ (if x.getLsbD m then (1 : BitVec 32) <<< m else 0) := by
      apply BitVec.eq_of_getLsbD_eq
      intro i hi
      simp only [BitVec.getLsbD_xor, BitVec.getLsbD_ofNat, hi, decide_true, Bool.true_and, Nat.testBit_mod_two_pow]
      have hb : x.toNat.testBit i = x.getLsbD i := rfl
      rw [hb]
      by_cases e : i = m
      · subst e
        cases hx : x.getLsbD i <;> simp [hi]
      · have e2 : (if x.getLsbD m = true then (1 : BitVec 32) <<< m else 0).getLsbD i = false := by
          split
          · simp [BitVec.getLsbD_shiftLeft, BitVec.getLsbD_one]; intro _ _; omega
          · simp
        rw [e2]
        by_cases q : i < m
        · simp [q, show i < m + 1 by omega]
        · simp [q, show ¬ i < m + 1 by omega]
    rw [hs, onBits_xor]
    show onStep _ = onBits _ (m + 1) ^^^ onBits _ (m + 1)
    simp only [onBits]
    rw [← onStep_xor]
    congr 2
    cases x.getLsbD m
    · simp only [bit]
      rw [if_neg (by decide), if_neg (by decide)]
      exact ((onBits_eq_zero 0 m).2 rfl).symm
    · simp only [bit]
      rw [if_pos trivial, if_pos trivial]
      exact (onBits_shift ⟨m, by omega⟩).symm
/-- A byte is its eight bits. -/
theorem onByte_run (s : BitVec 32) (x : UInt8) : onByte s x = runF s (fun i => x.toNat.testBit i) 8 := by
  have hx : x.toNat < 256 := x.toNat_lt
  have h := runF_xor s 0 (fun _ => false) (fun i => x.toNat.testBit i) 8
  rw [show s ^^^ 0 = s from by simp] at h
  simp only [Bool.false_xor] at h
  rw [h, runF_false, onByte, onBits_xor]
  congr 1
  have h2 := runF_word (BitVec.ofNat 32 x.toNat) 8 (by omega)
  rw [BitVec.toNat_ofNat, Nat.mod_eq_of_lt (show x.toNat < 2 ^ 32 by omega), Nat.mod_eq_of_lt (show x.toNat < 2 ^ 8 by omega)] at h2
  rw [← h2]
  apply runF_congr
  intro i hi
  rw [BitVec.getLsbD_ofNat]; simp; omega
/-- The bit at a place of bytes. -/
def bitAt (l : List UInt8) (n : Nat) : Bool := (nth l (n / 8)).toNat.testBit (n % 8)
theorem onAll_run (l : List UInt8) : ∀ s : BitVec 32, onAll s l = runF s (bitAt l) (8 * l.length) := by
  induction l with
  | nil => intro s; rfl
  | cons x l ih =>
    intro s
    rw [show 8 * (x :: l).length = 8 + 8 * l.length by simp; omega, runF_add]
    show onAll (onByte s x) l = _
    have e1 : runF s (bitAt (x :: l)) 8 = onByte s x := by
      rw [onByte_run]
      apply runF_congr
      intro i hi
      unfold bitAt
      rw [Nat.div_eq_of_lt hi, Nat.mod_eq_of_lt hi]; rfl
    rw [ih, e1]
    congr 1
    funext i
    unfold bitAt
    rw [show (8 + i) / 8 = i / 8 + 1 by omega, show (8 + i) % 8 = i % 8 by omega]; rfl

/-- Where two lists of bytes differ within 32 bits, in the bits of x alone, their sums are the same only if x's bits that count are none. -/
theorem burst_sum (s : BitVec 32) (l m : List UInt8) (hl : m.length = l.length) (at_ : Nat) (x : BitVec 32) (hat : at_ ≤ 8 * l.length)
    (hb : ∀ n, n < 8 * l.length → bitAt m n = (bitAt l n ^^ (decide (at_ ≤ n) && x.getLsbD (n - at_)))) :
    onAll s m = onAll s l ↔ ∀ k, k < 32 → at_ + k < 8 * l.length → x.getLsbD k = false := by
  have hd : onAll s m ^^^ onAll s l = runF 0 (fun n => decide (at_ ≤ n) && x.getLsbD (n - at_)) (8 * l.length) := by
    rw [onAll_run, onAll_run, hl, ← runF_xor, BitVec.xor_self]
    apply runF_congr
    intro i hi
    rw [hb i hi]
    cases bitAt l i <;> simp
  have hz : onAll s m = onAll s l ↔ runF 0 (fun n => decide (at_ ≤ n) && x.getLsbD (n - at_)) (8 * l.length) = 0 := by
    rw [← hd]
    constructor
    · intro h; rw [h, BitVec.xor_self]; rfl
    · intro h
      have := congrArg (fun y => y ^^^ onAll s l) h
      simp only [BitVec.xor_assoc, BitVec.xor_self, BitVec.xor_zero] at this
      simpa using this
  rw [hz]
  have h0 : runF 0 (fun n => decide (at_ ≤ n) && x.getLsbD (n - at_)) at_ = 0 := by
    rw [runF_congr 0 _ (fun _ => false) at_ (fun i hi => by simp; omega), runF_false]
    exact (onBits_eq_zero 0 _).2 rfl
  obtain ⟨M, R, hM, hMR, hR⟩ : ∃ M R, M ≤ 32 ∧ 8 * l.length = at_ + (M + R) ∧ (R = 0 ∨ M = 32) := by
    by_cases q : 8 * l.length - at_ ≤ 32
    · exact ⟨8 * l.length - at_, 0, q, by omega, .inl rfl⟩
    · exact ⟨32, 8 * l.length - at_ - 32, by omega, by omega, .inr rfl⟩
  rw [hMR, runF_add, h0, runF_add]
  rw [runF_congr 0 (fun i => decide (at_ ≤ at_ + i) && x.getLsbD (at_ + i - at_)) (fun i => x.getLsbD i) M (fun i hi => by simp), runF_word x M hM]
  rw [runF_congr _ _ (fun _ => false) R (fun i hi => by
    rcases hR with e | e
    · omega
    · rw [show at_ + (M + i) - at_ = M + i by omega, BitVec.getLsbD_of_ge x _ (by omega)]; simp), runF_false, onBits_eq_zero, onBits_eq_zero]
  constructor
  · intro h k hk hlt
    have hkM : k < M := by
      rcases hR with e | e
      · omega
      · omega
    have := congrArg (fun y => y.getLsbD k) h
    simp only [BitVec.getLsbD_ofNat, hk, Nat.testBit_mod_two_pow, hkM, decide_true, Bool.true_and] at this
    rw [show x.getLsbD k = x.toNat.testBit k from rfl, this]; simp
  · intro h
    apply BitVec.eq_of_getLsbD_eq
    intro i hi
    simp only [BitVec.getLsbD_ofNat, hi, Nat.testBit_mod_two_pow, decide_true, Bool.true_and]
    by_cases q : i < M
    · have : x.toNat.testBit i = x.getLsbD i := rfl
      rw [this, h i hi (by omega)]; simp
    · simp [q]
end Go.Proofs.Ythnmlifnlmdelaa
