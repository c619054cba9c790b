/- Chapter 21 as plain law: a yard is files by rising inos. -/
import Derived.Test.YtmhdhnipljonlaaYardFind
namespace Go.Proofs.Ytmhdhnipljonlaa
open Go.RowKit
set_option linter.unusedSimpArgs false
set_option linter.unusedVariables false
def findN (fl : FL) (s : ByteArray) : Nat := (fl.takeWhile fun p => decide (p.2.1 ≠ s)).length
def hasN (fl : FL) (s : ByteArray) : Bool := decide (findN fl s < fl.length)
theorem findN_le : ∀ (fl : FL) (s : ByteArray), findN fl s ≤ fl.length
  | [], s => by simp [findN]
  | p :: l, s => by
    have := findN_le l s
    unfold findN at this ⊢
    rw [List.takeWhile_cons]
    split <;> simp
    simpa using this
theorem findN_lt : ∀ (fl : FL) (s : ByteArray) (j : Nat), j < findN fl s → (nth fl j).2.1 ≠ s
  | [], s, j, h => by simp [findN] at h
  | p :: l, s, j, h => by
    unfold findN at h
    rw [List.takeWhile_cons] at h
    split at h
    · rename_i hp
      cases j with
      | zero => rw [nth_cons_zero]; simpa using hp
      | succ j => rw [nth_cons_succ]; exact findN_lt l s j (by simpa [findN] using h)
    · simp at h
theorem findN_at : ∀ (fl : FL) (s : ByteArray), findN fl s < fl.length → (nth fl (findN fl s)).2.1 = s
  | [], s, h => by simp at h
  | p :: l, s, h => by
    by_cases hp : p.2.1 = s
    · have : findN (p :: l) s = 0 := by unfold findN; rw [List.takeWhile_cons]; simp [hp]
      rw [this, nth_cons_zero]; exact hp
    · have e : findN (p :: l) s = findN l s + 1 := by unfold findN; rw [List.takeWhile_cons]; simp [hp]
      rw [e, nth_cons_succ]
      exact findN_at l s (by rw [e] at h; simpa using h)
/-- The least number from 1 on that is no key. -/
def freeIno {ν : Type} [Inhabited ν] (l : List (Int × ν)) : Int := ((((List.range' 0 (l.length + 1)).takeWhile fun k : Nat => isIn ltY l ((k : Int) + 1)).length : Nat) : Int) + 1
theorem tw_range (p : Nat → Bool) : ∀ (n s : Nat), (∀ j, j < ((List.range' s n).takeWhile p).length → p (s + j) = true) ∧ (((List.range' s n).takeWhile p).length < n → p (s + ((List.range' s n).takeWhile p).length) = false) ∧ ((List.range' s n).takeWhile p).length ≤ n
  | 0, s => ⟨fun j h => by simp at h, fun h => absurd h (by omega), by simp⟩
  | n + 1, s => by
    obtain ⟨h1, h2, h3⟩ := tw_range p n (s + 1)
    rw [List.range'_succ, List.takeWhile_cons]
    cases hp : p s with
    | false => simp [hp]
    | true =>
      rw [if_pos rfl, List.length_cons]
      refine ⟨fun j hj => ?_, fun hk => ?_, by omega⟩
      · cases j with
        | zero => rw [Nat.add_zero]; exact hp
        | succ j => rw [show s + (j + 1) = s + 1 + j by omega]; exact h1 j (by omega)
      · rw [← Nat.add_assoc, Nat.add_right_comm]; exact h2 (by omega)
theorem below_many {ν : Type} [Inhabited ν] {l : List (Int × ν)} (h : Rising ltY l) : ∀ k : Nat, (∀ j : Nat, j < k → isIn ltY l ((j : Int) + 1) = true) → k ≤ below ltY l ((k : Int) + 1)
  | 0, _ => Nat.zero_le _
  | k + 1, hj => by
    have ih := below_many h k (fun j h => hj j (by omega))
    have hin := hj k (by omega)
    unfold isIn at hin
    obtain ⟨a1, a2⟩ := of_decide_eq_true hin
    have hl := lt_below (lt := ltY) intOrd h (((k + 1 : Nat) : Int) + 1) _ a1
    rw [a2] at hl
    have : ltY ((k : Int) + 1) (((k + 1 : Nat) : Int) + 1) = true := by simp [ltY]; omega
    rw [this] at hl
    have := of_decide_eq_true hl.symm
    omega
theorem many_le {ν : Type} [Inhabited ν] {l : List (Int × ν)} (h : Rising ltY l) (k : Nat) (hj : ∀ j : Nat, j < k → isIn ltY l ((j : Int) + 1) = true) : k ≤ l.length :=
  Nat.le_trans (below_many h k hj) (below_le l _)
theorem freeIno_spec {ν : Type} [Inhabited ν] {l : List (Int × ν)} (h : Rising ltY l) : ∃ k : Nat, k ≤ l.length ∧ freeIno l = (k : Int) + 1 ∧ isIn ltY l ((k : Int) + 1) = false ∧ ∀ j : Nat, j < k → isIn ltY l ((j : Int) + 1) = true := by
  obtain ⟨h1, h2, h3⟩ := tw_range (fun k : Nat => isIn ltY l ((k : Int) + 1)) (l.length + 1) 0
  have hle := many_le h _ (fun j hj => by have := h1 j hj; rwa [Nat.zero_add] at this)
  refine ⟨_, hle, rfl, ?_, fun j hj => by have := h1 j hj; rwa [Nat.zero_add] at this⟩
  have := h2 (by omega)
  rwa [Nat.zero_add] at this
theorem freeIno_eq {ν : Type} [Inhabited ν] {l : List (Int × ν)} (h : Rising ltY l) (k : Nat) (h1 : ∀ j : Nat, j < k → isIn ltY l ((j : Int) + 1) = true) (h2 : isIn ltY l ((k : Int) + 1) = false) : freeIno l = (k : Int) + 1 := by
  obtain ⟨m, -, e, m2, m3⟩ := freeIno_spec h
  rcases Nat.lt_trichotomy m k with q | q | q
  · rw [h1 m q] at m2; exact absurd m2 (by simp)
  · rw [e, q]
  · rw [m3 k q] at h2; exact absurd h2 (by simp)
/-- What Create answers, and the files behind it. -/
def yCreate (fl : FL) (s : ByteArray) : Int × FL :=
  if nameOk s then (if hasN fl s then (8, fl) else if 12 ≤ fl.length then (9, fl) else (0, tSet ltY fl (freeIno fl) (s, []))) else (14, fl)
def inoN (fl : FL) (s : ByteArray) : Int := (nth fl (findN fl s)).1
def bytesN (fl : FL) (s : ByteArray) : List UInt8 := (nth fl (findN fl s)).2.2
def yAppend (fl : FL) (s : ByteArray) (p : List UInt8) : Int × FL :=
  if hasN fl s then (if 65536 < (bytesN fl s).length + p.length then (9, fl) else (0, tSet ltY fl (inoN fl s) (s, bytesN fl s ++ p))) else (7, fl)
def yRename (fl : FL) (s t : ByteArray) : Int × FL :=
  if nameOk t then
    (if hasN fl s then (0, tSet ltY (if hasN fl t && decide (inoN fl t ≠ inoN fl s) then tDel ltY fl (inoN fl t) else fl) (inoN fl s) (t, bytesN fl s)) else (7, fl))
  else (14, fl)
def yCut (fl : FL) (s : ByteArray) (n : Int) : Int × FL :=
  if hasN fl s then (if n < 0 ∨ (bytesN fl s).length < n then (1, fl) else (0, tSet ltY fl (inoN fl s) (s, (bytesN fl s).take n.toNat))) else (7, fl)
def yRemove (fl : FL) (s : ByteArray) : Int × FL :=
  if hasN fl s then (0, tDel ltY fl (inoN fl s)) else (7, fl)
end Go.Proofs.Ytmhdhnipljonlaa
