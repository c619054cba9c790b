/- Texts as lists of bytes. -/
import Derived.Test.YtmhdhnipljonlaaBookPlain
namespace Go.Proofs.Ytmhdhnipljonlaa
open Go.RowKit
set_option linter.unusedSimpArgs false
set_option linter.unusedVariables false
theorem bytesLoop_eq (s : ByteArray) : ∀ (n i : Nat) (r : List UInt8), s.size - i = n → ByteArray.toList.loop s i r = r.reverse ++ s.data.toList.drop i := by
  intro n
  induction n with
  | zero =>
    intro i r h
    unfold ByteArray.toList.loop
    have hs : s.data.size = s.size := rfl
    rw [if_neg (by omega), List.drop_eq_nil_of_le (by simp; omega)]; simp
  | succ n ih =>
    intro i r h
    unfold ByteArray.toList.loop
    have hs : s.data.size = s.size := rfl
    have hi : i < s.data.toList.length := by simp; omega
    rw [if_pos (by omega), ih (i + 1) _ (by omega), List.drop_eq_getElem_cons hi]
    have hd : i < s.data.size := by omega
    simp [ByteArray.get!]
    exact getElem!_pos s.data i hd
theorem strList_eq (s : ByteArray) : s.toList = s.data.toList := by
  unfold ByteArray.toList; rw [bytesLoop_eq s s.size 0 [] rfl]; simp
theorem str_inj (s t : ByteArray) (h : s.toList = t.toList) : s = t := by
  rw [strList_eq, strList_eq] at h
  cases s; cases t; congr 1; exact Array.toList_inj.1 h
theorem str_ne {s t : ByteArray} (h : (!s.toList == t.toList) = true) : s ≠ t := by rintro rfl; simp at h
theorem str_eq {s t : ByteArray} (h : (!s.toList == t.toList) = false) : s = t := str_inj _ _ (by simpa using h)
abbrev sv (s : ByteArray) : Value := .string s
end Go.Proofs.Ytmhdhnipljonlaa
