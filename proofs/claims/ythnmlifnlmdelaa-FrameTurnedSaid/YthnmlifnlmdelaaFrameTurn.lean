/- A frame of which bits are turned: the plain law. -/
import Derived.Test.YthnmlifnlmdelaaFrameLaw
namespace Go.Proofs.Ythnmlifnlmdelaa
open Go.RowKit
set_option linter.unusedSimpArgs false
set_option linter.unusedVariables false
theorem flip1_app (a c : List UInt8) (n : Nat) (h : 8 * a.length ≤ n) : flip1 (a ++ c) n = a ++ flip1 c (n - 8 * a.length) := by
  have h1 : n / 8 = a.length + (n - 8 * a.length) / 8 := by omega
  have h2 : n % 8 = (n - 8 * a.length) % 8 := by omega
  unfold flip1
  rw [h1, h2, List.set_append_right _ _ (by omega), Nat.add_sub_cancel_left, nth_append_right _ _ _ (by omega), Nat.add_sub_cancel_left]
theorem flips_app (a c : List UInt8) (bt : Nat) (x : BitVec 32) (h : 8 * a.length ≤ bt) : ∀ k, flips (a ++ c) bt x k = a ++ flips c (bt - 8 * a.length) x k
  | 0 => rfl
  | k + 1 => by
    have hd : decide (bt + k < 8 * (a ++ c).length) = decide (bt - 8 * a.length + k < 8 * c.length) := by
      rw [List.length_append]; exact decide_eq_decide.2 (by omega)
    simp only [flips, hd, flips_app a c bt x h k]
    by_cases hc : (x.getLsbD k && decide (bt - 8 * a.length + k < 8 * c.length)) = true
    · rw [if_pos hc, if_pos hc, flip1_app _ _ _ (by omega)]
      congr 2; omega
    · rw [if_neg hc, if_neg hc]
theorem flips_none (l : List UInt8) (bt : Nat) (x : BitVec 32) : ∀ k, turned l.length l.length bt x k = false → flips l bt x k = l
  | 0, _ => rfl
  | k + 1, h => by
    simp only [turned, Bool.or_eq_false_iff] at h
    have hc : (x.getLsbD k && decide (bt + k < 8 * l.length)) = false := by
      cases hx : x.getLsbD k with
      | false => rfl
      | true =>
        have := h.2
        rw [hx] at this
        simp at this ⊢
        by_cases hq : bt + k < 8 * l.length
        · have := this hq; omega
        · omega
    simp only [flips, hc, flips_none l bt x k h.1]; simp
theorem turned_app (a c : List UInt8) (bt : Nat) (x : BitVec 32) (h : 8 * a.length ≤ bt) : turned (a ++ c).length (a ++ c).length bt x 32 = turned c.length c.length (bt - 8 * a.length) x 32 := by
  apply Bool.eq_iff_iff.2
  rw [turned_iff, turned_iff, List.length_append]
  constructor
  · rintro ⟨j, h1, h2, h3, h4⟩; exact ⟨j, h1, h2, by omega, by omega⟩
  · rintro ⟨j, h1, h2, h3, h4⟩; exact ⟨j, h1, h2, by omega, by omega⟩
theorem sumOn_flips (c : BitVec 32) (l : List UInt8) (bt : Nat) (x : BitVec 32) (hb : bt ≤ 8 * l.length) (ht : turned l.length l.length bt x 32 = true) : sumOn c (flips l bt x 32) ≠ sumOn c l := by
  intro h
  have h1 : onAll (~~~ c) (flips l bt x 32) = onAll (~~~ c) l := by
    have := congrArg (fun y => ~~~ y) h
    simpa [sumOn] using this
  rw [(flips_sum _ l bt x hb).1 h1] at ht
  cases ht
theorem next_turned (p p' r : List UInt8) (k : Nat) (hp : Fit p) (hl : p'.length = p.length) (hs : sumOn (sumOn 0 (four p.length)) p' ≠ sumOn (sumOn 0 (four p.length)) p) :
    (nextR (four p.length ++ (four (sumOf [four p.length, p]).toNat ++ p')) k).2.2 ≠ 0 := by
  obtain ⟨h1, h2⟩ := hp
  have hlen : (four p.length ++ (four (sumOf [four p.length, p]).toNat ++ p')).length = 8 + p.length := by simp [four_len, hl]; omega
  have hn : num4 (four p.length ++ (four (sumOf [four p.length, p]).toNat ++ p')) = p.length := num4_four _ (by omega) _
  have h4 : (four p.length ++ (four (sumOf [four p.length, p]).toNat ++ p')).take 4 = four p.length := List.take_left' (four_len _)
  have hd4 : (four p.length ++ (four (sumOf [four p.length, p]).toNat ++ p')).drop 4 = four (sumOf [four p.length, p]).toNat ++ p' := List.drop_left' (four_len _)
  have hd8 : (four p.length ++ (four (sumOf [four p.length, p]).toNat ++ p')).drop 8 = p' := by
    have : (four p.length ++ (four (sumOf [four p.length, p]).toNat ++ p')).drop 8 = ((four p.length ++ (four (sumOf [four p.length, p]).toNat ++ p')).drop 4).drop 4 := by rw [List.drop_drop]
    rw [this, hd4]; exact List.drop_left' (four_len _)
  have hpr : ((four p.length ++ (four (sumOf [four p.length, p]).toNat ++ p')).drop 8).take p.length = p' := by rw [hd8]; exact List.take_of_length_le (by omega)
  have hsm : num4 ((four p.length ++ (four (sumOf [four p.length, p]).toNat ++ p')).drop 4) = (sumOf [four p.length, p]).toNat := by rw [hd4]; exact num4_four _ (sumOf [four p.length, p]).isLt _
  unfold nextR
  rw [hn, hpr, hsm, h4, hlen, if_neg (by omega), if_neg (by omega), if_neg (by omega), if_pos]
  · simp
  · intro he
    exact hs (BitVec.eq_of_toNat_eq he)
theorem turn_law (L : List (List UInt8)) (hL : ∀ p ∈ L, Fit p) (q : List UInt8) (hq : Fit q) (bt : Nat) (x : BitVec 32) (h1 : 8 * ((framesOf L).length + 8) ≤ bt) (h2 : bt < 8 * (framesOf L ++ frameOf q).length) :
    scanAll (flips (framesOf L ++ frameOf q) bt x 32) = if turned (framesOf L ++ frameOf q).length (framesOf L ++ frameOf q).length bt x 32 then (L, (framesOf L).length) else (L ++ [q], (framesOf L ++ frameOf q).length) := by
  have hB : framesOf L ++ frameOf q = framesOf (L ++ [q]) := (framesOf_snoc L q).symm
  have hLq : ∀ p ∈ L ++ [q], Fit p := fun p hp => by
    rcases List.mem_append.1 hp with h | h
    · exact hL p h
    · simp at h; subst h; exact hq
  by_cases ht : turned (framesOf L ++ frameOf q).length (framesOf L ++ frameOf q).length bt x 32 = true
  · rw [if_pos ht]
    have hsp : framesOf L ++ frameOf q = (framesOf L ++ (four q.length ++ four (sumOf [four q.length, q]).toNat)) ++ q := by rw [frameOf_eq]; simp only [List.append_assoc]
    have hal : (framesOf L ++ (four q.length ++ four (sumOf [four q.length, q]).toNat)).length = (framesOf L).length + 8 := by simp [four_len]
    rw [hsp] at ht h2 ⊢
    rw [turned_app _ _ _ _ (by rw [hal]; exact h1)] at ht
    rw [flips_app _ _ _ _ (by rw [hal]; exact h1)]
    rw [hal] at ht ⊢
    rw [List.length_append, hal] at h2
    have hne := sumOn_flips (sumOn 0 (four q.length)) q _ x (by omega) ht
    have hlq := flips_length q (bt - 8 * ((framesOf L).length + 8)) x 32
    generalize flips q (bt - 8 * ((framesOf L).length + 8)) x 32 = q' at *
    have hr := fun k => next_turned q q' [] k hq hlq hne
    have := scan_run _ hr L [] ((framesOf L).length + 8 + q.length + 1) hL (by have := framesOf_ge L; omega)
    simp only [List.nil_append, List.length_nil, Nat.zero_add] at this
    unfold scanAll
    have e1 : (framesOf L ++ (four q.length ++ four (sumOf [four q.length, q]).toNat) ++ q').length + 1 = (framesOf L).length + 8 + q.length + 1 := by rw [List.length_append, hal, hlq]
    rw [e1]
    have e2 : framesOf L ++ (four q.length ++ four (sumOf [four q.length, q]).toNat) ++ q' = L.flatMap frameOf ++ (four q.length ++ (four (sumOf [four q.length, q]).toNat ++ q')) := by unfold framesOf; simp only [List.append_assoc]
    rw [e2, this]; rfl
  · rw [if_neg ht]
    have ht' : turned (framesOf L ++ frameOf q).length (framesOf L ++ frameOf q).length bt x 32 = false := by simpa using ht
    rw [flips_none _ _ _ _ ht', hB]
    have := scan_run [] next_nil (L ++ [q]) [] ((framesOf (L ++ [q])).length + 1) hLq (by have := framesOf_ge (L ++ [q]); omega)
    simp only [List.nil_append, List.length_nil, Nat.zero_add, List.append_nil] at this
    exact this
end Go.Proofs.Ythnmlifnlmdelaa
