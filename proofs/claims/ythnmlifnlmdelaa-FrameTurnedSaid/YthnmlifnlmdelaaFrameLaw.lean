/- Frames one behind the other: the plain law. -/
import Derived.Test.YthnmlifnlmdelaaFrameScan
namespace Go.Proofs.Ythnmlifnlmdelaa
open Go.RowKit
set_option linter.unusedSimpArgs false
set_option linter.unusedVariables false
def Fit (p : List UInt8) : Prop := 1 ≤ p.length ∧ p.length ≤ 262144
theorem frameOf_len (p : List UInt8) : (frameOf p).length = 8 + p.length := by simp [frameOf, four_len]; omega
theorem frameOf_eq (p : List UInt8) : frameOf p = four p.length ++ (four (sumOf [four p.length, p]).toNat ++ p) := rfl
/-- A frame is found. -/
theorem next_frame (p r : List UInt8) (k : Nat) (hp : Fit p) : nextR (frameOf p ++ r) k = (p, ((k + 8 + p.length : Nat) : Int), 0) := by
  obtain ⟨h1, h2⟩ := hp
  have hl : (frameOf p ++ r).length = 8 + p.length + r.length := by rw [List.length_append, frameOf_len]
  have hn : num4 (frameOf p ++ r) = p.length := by rw [frameOf_eq, List.append_assoc]; exact num4_four _ (by omega) _
  have h4 : (frameOf p ++ r).take 4 = four p.length := by rw [frameOf_eq, List.append_assoc]; exact List.take_left' (four_len _)
  have hd4 : (frameOf p ++ r).drop 4 = four (sumOf [four p.length, p]).toNat ++ (p ++ r) := by rw [frameOf_eq, List.append_assoc, List.append_assoc]; exact List.drop_left' (four_len _)
  have hd8 : (frameOf p ++ r).drop 8 = p ++ r := by
    have : (frameOf p ++ r).drop 8 = ((frameOf p ++ r).drop 4).drop 4 := by rw [List.drop_drop]
    rw [this, hd4]; exact List.drop_left' (four_len _)
  have hpr : ((frameOf p ++ r).drop 8).take p.length = p := by rw [hd8]; exact List.take_left' rfl
  have hs : num4 ((frameOf p ++ r).drop 4) = (sumOf [four p.length, p]).toNat := by rw [hd4]; exact num4_four _ (sumOf [four p.length, p]).isLt _
  unfold nextR
  rw [hn, hpr, hs, h4, hl, if_neg (by omega), if_neg (by omega), if_neg (by omega), if_neg (by simp)]
theorem num4_take (l : List UInt8) (n : Nat) (h : 4 ≤ n) : num4 (l.take n) = num4 l := by
  unfold num4; rw [nth_take _ _ _ (by omega), nth_take _ _ _ (by omega), nth_take _ _ _ (by omega), nth_take _ _ _ (by omega)]
/-- A frame that is cut off is not found. -/
theorem next_cut (p : List UInt8) (m k : Nat) (hp : Fit p) (hm : m < 8 + p.length) : (nextR ((frameOf p).take m) k).2.2 ≠ 0 := by
  obtain ⟨h1, h2⟩ := hp
  have hl : ((frameOf p).take m).length = m := by rw [List.length_take, frameOf_len]; omega
  unfold nextR
  rw [hl]
  by_cases h8 : m < 8
  · rw [if_pos h8]; simp
  · have hn : num4 ((frameOf p).take m) = p.length := by
      rw [num4_take _ _ (by omega)]
      have := num4_four p.length (by omega) (four (sumOf [four p.length, p]).toNat ++ p)
      rwa [← frameOf_eq] at this
    rw [if_neg h8, hn, if_neg (by omega), if_pos (by omega)]; simp
theorem next_nil (k : Nat) : (nextR [] k).2.2 ≠ 0 := by unfold nextR; simp
theorem nextF_at (b : List UInt8) (k : Nat) (h : k ≤ b.length) : nextF b (k : Int) = nextR (b.drop k) k := by
  unfold nextF; rw [if_neg (by omega)]; rfl
/-- Frames, and behind them none: just these are found. -/
theorem scan_run (r : List UInt8) (hr : ∀ k, (nextR r k).2.2 ≠ 0) : ∀ (L : List (List UInt8)) (pre : List UInt8) (f : Nat), (∀ p ∈ L, Fit p) → L.length < f →
    scanF (pre ++ (L.flatMap frameOf ++ r)) f pre.length = (L, pre.length + (L.flatMap frameOf).length)
  | [], pre, f, _, hf => by
    obtain ⟨f, rfl⟩ : ∃ g, f = g + 1 := ⟨f - 1, by simp at hf; omega⟩
    simp only [List.flatMap_nil, List.nil_append, scanF]
    rw [nextF_at _ _ (by simp), List.drop_left, if_neg (hr _)]; simp
  | p :: L, pre, f, hL, hf => by
    obtain ⟨f, rfl⟩ : ∃ g, f = g + 1 := ⟨f - 1, by omega⟩
    have hp := hL p (by simp)
    have hn : nextF (pre ++ ((p :: L).flatMap frameOf ++ r)) (pre.length : Int) = (p, ((pre.length + 8 + p.length : Nat) : Int), 0) := by
      rw [nextF_at _ _ (by simp), List.drop_left, List.flatMap_cons, List.append_assoc]
      exact next_frame p _ _ hp
    have ih := scan_run r hr L (pre ++ frameOf p) f (fun q hq => hL q (by simp [hq])) (by simpa using hf)
    have e1 : pre ++ ((p :: L).flatMap frameOf ++ r) = (pre ++ frameOf p) ++ (L.flatMap frameOf ++ r) := by simp [List.flatMap_cons, List.append_assoc]
    have e2 : (pre ++ frameOf p).length = pre.length + 8 + p.length := by rw [List.length_append, frameOf_len]; omega
    rw [e2] at ih
    simp only [scanF, hn, if_true, Int.toNat_natCast]
    rw [e1, ih]
    simp only [List.flatMap_cons, List.length_append, frameOf_len, Prod.mk.injEq, true_and]
    omega
def framesOf (L : List (List UInt8)) : List UInt8 := L.flatMap frameOf
def endAt (L : List (List UInt8)) (i : Nat) : Nat := (framesOf (L.take i)).length
theorem framesOf_snoc (L : List (List UInt8)) (p : List UInt8) : framesOf (L ++ [p]) = framesOf L ++ frameOf p := by simp [framesOf]
theorem endAt_all (L : List (List UInt8)) (i : Nat) (h : L.length ≤ i) : endAt L i = (framesOf L).length := by unfold endAt; rw [List.take_of_length_le h]
theorem framesOf_ge (L : List (List UInt8)) : L.length ≤ (framesOf L).length := by
  induction L with
  | nil => simp [framesOf]
  | cons p L ih => simp only [framesOf, List.flatMap_cons, List.length_append, frameOf_len, List.length_cons] at ih ⊢; omega
theorem scan_cut (L : List (List UInt8)) (hL : ∀ p ∈ L, Fit p) (k n : Nat) (hk : k ≤ (framesOf L).length) (hn : n ≤ L.length) (h1 : endAt L n ≤ k) (h2 : n < L.length → k < endAt L (n + 1)) :
    scanAll ((framesOf L).take k) = (L.take n, endAt L n) := by
  have hsplit : framesOf L = framesOf (L.take n) ++ framesOf (L.drop n) := by
    unfold framesOf; rw [← List.flatMap_append, List.take_append_drop]
  have ht : (framesOf L).take k = [] ++ ((L.take n).flatMap frameOf ++ (framesOf (L.drop n)).take (k - endAt L n)) := by
    rw [List.nil_append, hsplit, List.take_append]
    congr 1
    exact List.take_of_length_le h1
  have hlen : (L.take n).length = n := by rw [List.length_take]; omega
  have hge := framesOf_ge (L.take n)
  rw [hlen] at hge
  have hkl : ((framesOf L).take k).length = k := by rw [List.length_take]; omega
  unfold scanAll
  rw [hkl, ht]
  have hr : ∀ j, (nextR ((framesOf (L.drop n)).take (k - endAt L n)) j).2.2 ≠ 0 := by
    intro j
    by_cases hnl : n < L.length
    · have hd : L.drop n = L[n] :: L.drop (n + 1) := List.drop_eq_getElem_cons hnl
      have hfit : Fit L[n] := hL _ (List.getElem_mem hnl)
      have he : endAt L (n + 1) = endAt L n + (8 + L[n].length) := by
        unfold endAt; rw [List.take_succ_eq_append_getElem hnl, framesOf_snoc, List.length_append, frameOf_len]
      have h3 := h2 hnl
      rw [hd]
      simp only [framesOf, List.flatMap_cons]
      rw [List.take_append_of_le_length (by rw [frameOf_len]; omega)]
      exact next_cut _ _ _ hfit (by omega)
    · rw [List.drop_eq_nil_of_le (by omega)]
      simp only [framesOf, List.flatMap_nil, List.take_nil]
      exact next_nil j
  have := scan_run _ hr (L.take n) [] (k + 1) (fun p hp => hL p (List.mem_of_mem_take hp)) (by rw [hlen]; have : n ≤ endAt L n := hge; omega)
  rw [List.length_nil] at this
  rw [this]
  simp only [Nat.zero_add]; rfl
end Go.Proofs.Ythnmlifnlmdelaa
