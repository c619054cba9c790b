/- Chapter 22 as plain law: a call by its kind; how much it adds. -/
import Derived.Test.YtmhdhnipljonlaaDiskOne
import Derived.Test.YtmhdhnipljonlaaOpenAsk22
namespace Go.Proofs.Ytmhdhnipljonlaa
open Go.RowKit
set_option linter.unusedSimpArgs false
set_option linter.unusedVariables false
def dStep (x : Ask22) (s : DS) : DS :=
  if x.kd = 1 then (dAppend s x.nm x.d).2 else
  if x.kd = 2 then (dRename s x.nm x.tn).2 else
  if x.kd = 3 then (dCut s x.nm x.n).2 else
  if x.kd = 4 then (dRemove s x.nm).2 else s
structure Grows (s s' : DS) (n : Nat) : Prop where
  now : s'.now.length ≤ s.now.length + 1
  log : s'.log.length ≤ s.log.length + n + 1
  mark : s'.mark = s.mark
theorem Grows.refl (s : DS) (n : Nat) : Grows s s n := ⟨by omega, by omega, rfl⟩
theorem grows_do (x : Wr) (s : DS) (n : Nat) : Grows s (dDo x s) n := by
  refine ⟨?_, by unfold dDo; simp, rfl⟩
  have h1 := fun k v => tSet_len (lt := strLt) s.now k v
  have h2 := tDel_len (lt := strLt) s.now x.nm
  have h3 := tSet_len (lt := strLt) (tDel strLt s.now x.nm) x.tn (dGet s.now x.nm).1
  show (wApply x s.now).length ≤ _
  unfold wApply
  split
  · exact h1 _ _
  split
  · exact h1 _ _
  split
  · split <;> omega
  split
  · exact h1 _ _
  split <;> omega
theorem grows_append {s : DS} (h : DOk s) (nm : ByteArray) (p : List UInt8) (hl : s.now.length ≤ 4999) : Grows s (dAppend s nm p).2 p.length := by
  unfold dAppend
  split
  · split
    · exact Grows.refl _ _
    · rename_i ht
      dsimp only
      cases hin : inD s.now nm with
      | true =>
        rw [if_pos rfl]
        have h1 := PutOk.all p h hin (by omega) (by omega) (chunks p).length (Nat.le_refl _)
        rw [List.take_length] at h1
        exact ⟨by rw [h1.len]; omega, by have := h1.log; omega, h1.mark⟩
      | false =>
        rw [if_neg (by simp)]
        obtain ⟨k1, k2, k3, k4, k5⟩ := h.make nm hin (by omega)
        have h1 := PutOk.all p k2 k3 (by omega) (by omega) (chunks p).length (Nat.le_refl _)
        rw [List.take_length] at h1
        have hlog : (dDo (wMake nm) s).log.length = s.log.length + 1 := by unfold dDo; simp
        exact ⟨by rw [h1.len]; exact k5, by have := h1.log; omega, h1.mark⟩
  · exact Grows.refl _ _
theorem grows_rename (s : DS) (nm tn : ByteArray) (n : Nat) : Grows s (dRename s nm tn).2 n := by
  unfold dRename
  split
  · split
    · exact grows_do _ _ _
    · exact Grows.refl _ _
  · exact Grows.refl _ _
theorem grows_cut (s : DS) (nm : ByteArray) (m : Int) (n : Nat) : Grows s (dCut s nm m).2 n := by
  unfold dCut
  split
  · split
    · exact Grows.refl _ _
    · exact grows_do _ _ _
  · exact Grows.refl _ _
theorem grows_remove (s : DS) (nm : ByteArray) (n : Nat) : Grows s (dRemove s nm).2 n := by
  unfold dRemove
  split
  · exact grows_do _ _ _
  · exact Grows.refl _ _
theorem dStep_1 (s : DS) (n : Int) (nm tn : ByteArray) (dv : Sl) (d : List UInt8) : dStep ⟨1, n, nm, tn, dv, d⟩ s = (dAppend s nm d).2 := by unfold dStep; simp
theorem dStep_2 (s : DS) (n : Int) (nm tn : ByteArray) (dv : Sl) (d : List UInt8) : dStep ⟨2, n, nm, tn, dv, d⟩ s = (dRename s nm tn).2 := by unfold dStep; simp
theorem dStep_3 (s : DS) (n : Int) (nm tn : ByteArray) (dv : Sl) (d : List UInt8) : dStep ⟨3, n, nm, tn, dv, d⟩ s = (dCut s nm n).2 := by unfold dStep; simp
theorem dStep_4 (s : DS) (n : Int) (nm tn : ByteArray) (dv : Sl) (d : List UInt8) : dStep ⟨4, n, nm, tn, dv, d⟩ s = (dRemove s nm).2 := by unfold dStep; simp
theorem dStep_no (s : DS) (kd n : Int) (nm tn : ByteArray) (dv : Sl) (d : List UInt8) (h1 : kd ≠ 1) (h2 : kd ≠ 2) (h3 : kd ≠ 3) (h4 : kd ≠ 4) : dStep ⟨kd, n, nm, tn, dv, d⟩ s = s := by unfold dStep; simp [h1, h2, h3, h4]
theorem grows_step {s : DS} (h : DOk s) (x : Ask22) (hl : s.now.length ≤ 4999) : Grows s (dStep x s) x.d.length := by
  unfold dStep
  split
  · exact grows_append h _ _ hl
  split
  · exact grows_rename _ _ _ _
  split
  · exact grows_cut _ _ _ _
  split
  · exact grows_remove _ _ _
  · exact Grows.refl _ _
/-- Back of all: the files are what they were. -/
theorem back_all {s : DS} (h : DOk s) : (dBack s (s.log.length : Int)).now = s.now := by
  show dBackF s _ = _
  unfold dBackF
  rw [Int.toNat_natCast, List.take_length, ← h.eq]
theorem back_log (s : DS) (n : Int) : (dBack s n).log = [] := rfl
theorem back_zero {s : DS} (h : s.mark = []) : (dBack s 0).now = [] := by
  show dBackF s 0 = _
  unfold dBackF
  rw [h]; rfl
theorem back_nlen {s : DS} (h : DOk s) (hm : s.mark = []) (n : Int) : (dBack s n).now.length ≤ 100000 := by
  show (dBackF s n).length ≤ _
  unfold dBackF
  have : ∀ {fs : DF} {l : List Wr}, LogOk fs l → fs.length ≤ 100000 → (wAll fs l).length ≤ 100000 := by
    intro fs l
    induction l generalizing fs with
    | nil => exact fun _ h => h
    | cons x l ih =>
      intro h _
      refine ih (fs := wApply x fs) h.2 ?_
      have := (grows_do x ⟨fs, [], []⟩ 0).now
      have h5 := h.1.len
      have h6 : (wApply x fs).length ≤ fs.length + 1 := this
      omega
  exact this (h.log.take _) (by rw [hm]; simp)
end Go.Proofs.Ytmhdhnipljonlaa
