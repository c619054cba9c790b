/- Chapter 21 as plain law: the file with the least ino stands first, whatever is done to the others. -/
import Derived.Test.YtmhdhnipljonlaaYardGrows
namespace Go.Proofs.Ytmhdhnipljonlaa
open Go.RowKit
set_option linter.unusedSimpArgs false
set_option linter.unusedVariables false
def First (a : ByteArray) (d : List UInt8) (fl : FL) : Prop := ∃ rest, fl = (1, (a, d)) :: rest
section
variable {ν : Type} [Inhabited ν]
omit [Inhabited ν] in
theorem below_cons (p : Int × ν) (l : List (Int × ν)) (k : Int) (h : p.1 < k) : below ltY (p :: l) k = below ltY l k + 1 := by
  unfold below; rw [List.takeWhile_cons]; simp [h]
theorem isIn_cons (p : Int × ν) (l : List (Int × ν)) (k : Int) (h : p.1 < k) : isIn ltY (p :: l) k = isIn ltY l k := by
  unfold isIn; rw [below_cons p l k h, nth_cons_succ]; simp
theorem set_cons (p : Int × ν) (l : List (Int × ν)) (k : Int) (v : ν) (h : p.1 < k) : tSet ltY (p :: l) k v = p :: tSet ltY l k v := by
  unfold tSet; rw [isIn_cons p l k h, below_cons p l k h, List.take_succ_cons, Nat.add_right_comm, List.drop_succ_cons]; rfl
theorem del_cons (p : Int × ν) (l : List (Int × ν)) (k : Int) (h : p.1 < k) : tDel ltY (p :: l) k = p :: tDel ltY l k := by
  unfold tDel; rw [isIn_cons p l k h, below_cons p l k h, List.take_succ_cons, List.drop_succ_cons]
  cases isIn ltY l k <;> rfl
omit [Inhabited ν] in
theorem below_hd (v : ν) (l : List (Int × ν)) : below ltY (((1 : Int), v) :: l) 1 = 0 := by unfold below; rw [List.takeWhile_cons]; simp
theorem isIn_hd (v : ν) (l : List (Int × ν)) : isIn ltY (((1 : Int), v) :: l) 1 = true := by unfold isIn; rw [below_hd]; simp [nth_cons_zero]
theorem set_hd (v u : ν) (l : List (Int × ν)) : tSet ltY (((1 : Int), v) :: l) 1 u = (1, u) :: l := by unfold tSet; rw [isIn_hd, below_hd]; rfl
end
section
variable {a s t : ByteArray} {d p : List UInt8} {fl : FL}
theorem first_find (rest : FL) : findN ((1, (a, d)) :: rest) a = 0 := by unfold findN; rw [List.takeWhile_cons]; simp
theorem first_has (rest : FL) : hasN ((1, (a, d)) :: rest) a = true := by unfold hasN; rw [first_find]; simp
theorem first_ino (rest : FL) : inoN ((1, (a, d)) :: rest) a = 1 := by unfold inoN; rw [first_find]; rfl
theorem first_bytes (rest : FL) : bytesN ((1, (a, d)) :: rest) a = d := by unfold bytesN; rw [first_find]; rfl
theorem First.ino_gt (h : First a d fl) (hr : Rising ltY fl) (hs : hasN fl s = true) (hne : s ≠ a) : 1 < inoN fl s := by
  obtain ⟨rest, rfl⟩ := h
  have e : findN ((1, (a, d)) :: rest) s = findN rest s + 1 := by
    unfold findN; rw [List.takeWhile_cons]; simp [Ne.symm hne]
  have hl : findN ((1, (a, d)) :: rest) s < ((1, (a, d)) :: rest).length := by unfold hasN at hs; exact of_decide_eq_true hs
  have h1 := hr 0 (findN ((1, (a, d)) :: rest) s) (by omega) hl
  rw [nth_cons_zero] at h1
  unfold inoN
  exact of_decide_eq_true h1
theorem First.ino_ge (h : First a d fl) (hr : Rising ltY fl) (hs : hasN fl s = true) : inoN fl s = 1 ∨ 1 < inoN fl s := by
  by_cases hne : s = a
  · subst hne
    obtain ⟨rest, rfl⟩ := h
    exact .inl (first_ino rest)
  · exact .inr (h.ino_gt hr hs hne)
theorem First.set (h : First a d fl) (k : Int) (v : ByteArray × List UInt8) (hk : 1 < k) : First a d (tSet ltY fl k v) := by
  obtain ⟨rest, rfl⟩ := h
  exact ⟨_, set_cons _ _ _ _ hk⟩
theorem First.del (h : First a d fl) (k : Int) (hk : 1 < k) : First a d (tDel ltY fl k) := by
  obtain ⟨rest, rfl⟩ := h
  exact ⟨_, del_cons _ _ _ hk⟩
theorem First.create (h : First a d fl) (hr : Rising ltY fl) (s : ByteArray) : First a d (yCreate fl s).2 := by
  unfold yCreate
  split
  · split
    · exact h
    · split
      · exact h
      · refine h.set _ _ ?_
        obtain ⟨k, hk, he, hn, -⟩ := freeIno_spec hr
        rw [he]
        rcases Nat.eq_zero_or_pos k with rfl | hp
        · obtain ⟨rest, rfl⟩ := h
          have := isIn_hd (a, d) rest
          rw [show (((0 : Nat) : Int) + 1) = 1 from rfl, this] at hn
          exact absurd hn (by simp)
        · omega
  · exact h
theorem First.append (h : First a d fl) (hr : Rising ltY fl) (s : ByteArray) (p : List UInt8) (hne : s ≠ a) : First a d (yAppend fl s p).2 := by
  unfold yAppend
  split
  · rename_i hs
    split
    · exact h
    · exact h.set _ _ (h.ino_gt hr hs hne)
  · exact h
theorem First.remove (h : First a d fl) (hr : Rising ltY fl) (s : ByteArray) (hne : s ≠ a) : First a d (yRemove fl s).2 := by
  unfold yRemove
  split
  · rename_i hs
    exact h.del _ (h.ino_gt hr hs hne)
  · exact h
theorem First.rename (h : First a d fl) (hr : Rising ltY fl) (t : ByteArray) : ((yRename fl a t).1 = 0 ∧ First t d (yRename fl a t).2) ∨ ((yRename fl a t).1 = 14 ∧ First a d (yRename fl a t).2) := by
  unfold yRename
  split
  · left
    have h1 : hasN fl a = true ∧ inoN fl a = 1 ∧ bytesN fl a = d := by
      obtain ⟨rest, rfl⟩ := h
      exact ⟨first_has rest, first_ino rest, first_bytes rest⟩
    obtain ⟨e1, e2, e3⟩ := h1
    rw [e1, e2, e3, if_pos rfl]
    refine ⟨rfl, ?_⟩
    have h2 : First a d (if hasN fl t && decide (inoN fl t ≠ 1) then tDel ltY fl (inoN fl t) else fl) := by
      split
      · rename_i hq
        simp only [Bool.and_eq_true, decide_eq_true_eq] at hq
        rcases h.ino_ge hr hq.1 with q | q
        · exact absurd q hq.2
        · exact h.del _ q
      · exact h
    obtain ⟨rest, he⟩ := h2
    show First t d (tSet ltY (if hasN fl t && decide (inoN fl t ≠ 1) then tDel ltY fl (inoN fl t) else fl) 1 (t, d))
    rw [he]
    exact ⟨rest, set_hd _ _ _⟩
  · exact .inr ⟨rfl, h⟩
theorem First.tell (h : First a d fl) : yFindF fl a = ((1, a, (d.length : Int)), true) := by
  obtain ⟨rest, rfl⟩ := h
  unfold yFindF; rw [first_has, first_find]; rfl
theorem First.read (h : First a d fl) {tk : List (Int × Int)} {A : Nat} (ht : TK tk A) (hd : d.length ≤ 65536) : yRead fl tk 1 0 65536 = ((d, 0), [((1 : Int), ((A + d.length : Nat) : Int))]) := by
  obtain ⟨rest, rfl⟩ := h
  have e : (((nth (((1 : Int), (a, d)) :: rest) 0).2.2.drop (0 : Int).toNat).take (65536 : Int).toNat) = d := by
    rw [nth_cons_zero]
    exact List.take_of_length_le (by simp; omega)
  unfold yRead
  rw [isIn_hd, below_hd, if_pos rfl, if_neg (by omega), e, ht.set, ht.get]
  rfl
end
end Go.Proofs.Ytmhdhnipljonlaa
