/- What the cut finds in lines laid one behind the other: no program in sight. -/
import Derived.Test.YtfpibngdpooedaaCut
namespace Go.Proofs.Ytfpibngdpooedaa
open Go.RowKit
set_option linter.unusedSimpArgs false
set_option linter.unusedVariables false

theorem cutTo_app (b c : List UInt8) (k : Nat) (hk : k ≤ b.length) : cutTo (b ++ c) k = cutTo b k := by
  induction k with
  | zero => rfl
  | succ k ih =>
    have h := ih (by omega)
    have hf := (cutTo_inv b k).2.1
    simp only [cutTo, h]
    unfold cutStep
    rw [nth_append_left b c k (by omega), List.drop_append_of_le_length (by omega), List.take_append_of_le_length (by rw [List.length_drop]; omega)]
/-- Behind bytes without a line feed. -/
theorem cutTo_in (p s c : List UInt8) (hs : ∀ x ∈ s, x ≠ 10) (out : List ByteArray) (h : cutTo p p.length = ⟨out, 0, false, p.length⟩) (k : Nat) (hk : k ≤ s.length) :
    cutTo (p ++ s ++ c) (p.length + k) = ⟨out, if k ≤ 200 then k else 0, decide (200 < k), p.length⟩ := by
  induction k with
  | zero => rw [List.append_assoc, Nat.add_zero, cutTo_app _ _ _ (Nat.le_refl _), h]; simp
  | succ k ih =>
    have ih := ih (by omega)
    have hn : nth (p ++ s ++ c) (p.length + k) ≠ 10 := by
      rw [List.append_assoc, nth_append_right _ _ _ (by omega), Nat.add_sub_cancel_left, nth_append_left _ _ _ (by omega), nth_get s k (by omega)]
      exact hs _ (List.getElem_mem _)
    rw [← Nat.add_assoc, cutTo, ih]
    unfold cutStep lineStep
    simp only [if_neg hn]
    by_cases h1 : 200 < k
    · have h2 : ¬ k ≤ 200 := by omega
      have h3 : ¬ k + 1 ≤ 200 := by omega
      have h4 : 200 < k + 1 := by omega
      simp [h1, h2, h3, h4]
    · by_cases h2 : k = 200
      · subst h2; simp
      · have h3 : k ≤ 200 := by omega
        have h4 : k + 1 ≤ 200 := by omega
        have h5 : ¬ 200 < k + 1 := by omega
        have h6 : ¬ 200 ≤ k := by omega
        simp [h1, h3, h4, h5, h6]
theorem cutTo_line (p s : List UInt8) (hs : ∀ x ∈ s, x ≠ 10) (out : List ByteArray) (h : cutTo p p.length = ⟨out, 0, false, p.length⟩) :
    cutTo (p ++ s ++ [10]) (p ++ s ++ [10]).length = ⟨if s.length ≤ 200 then out ++ [textOf s] else out, 0, false, (p ++ s ++ [10]).length⟩ := by
  have hl : (p ++ s ++ [10]).length = p.length + s.length + 1 := by simp; omega
  have hi := cutTo_in p s [10] hs out h s.length (Nat.le_refl _)
  have hn : nth (p ++ s ++ [10]) (p.length + s.length) = 10 := by
    rw [nth_append_right _ _ _ (by simp)]; simp [nth]
  have hd : ((p ++ s ++ [10]).drop p.length).take (p.length + s.length - p.length) = s := by
    rw [List.append_assoc, List.drop_left, Nat.add_sub_cancel_left, List.take_left]
  rw [hl, cutTo, hi]
  unfold cutStep lineStep
  simp only [hn, hd]
  by_cases h1 : s.length ≤ 200
  · have h2 : ¬ 200 < s.length := by omega
    simp [h1, h2]
  · have h2 : 200 < s.length := by omega
    simp [h1, h2]
theorem cutLines_snoc (p : List UInt8) (c : UInt8) (hc : c ≠ 10) : cutLines (p ++ [c]) = cutLines p := by
  unfold cutLines
  have hl : (p ++ [c]).length = p.length + 1 := by simp
  rw [hl, cutTo, cutTo_app _ _ _ (Nat.le_refl _)]
  have hn : nth (p ++ [c]) p.length = c := by rw [nth_append_right _ _ _ (by simp)]; simp [nth]
  unfold cutStep lineStep
  simp only [hn, if_neg hc]
  have hne : ∀ a b, ¬ ((if a = true then ((4 : Nat), (cutTo p p.length).n, a) else if 200 ≤ b then (3, 0, true) else (1, b + 1, false)).1 = 2) := by
    intro a b; split
    · simp
    · split <;> simp
  rw [if_neg (hne _ _)]
theorem cutLines_of {p : List UInt8} {out : List ByteArray} (h : cutTo p p.length = ⟨out, 0, false, p.length⟩) : cutLines p = out := by unfold cutLines; rw [h]
end Go.Proofs.Ytfpibngdpooedaa
