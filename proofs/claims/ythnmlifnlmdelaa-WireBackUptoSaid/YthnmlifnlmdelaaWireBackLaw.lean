/- What was written is read back: the plain law. -/
import Derived.Test.YthnmlifnlmdelaaWireWrites
import Derived.Test.YthnmlifnlmdelaaWireItems
import Derived.Test.YthnmlifnlmdelaaWireOne
import Derived.Test.YthnmlifnlmdelaaWireBk
namespace Go.Proofs.Ythnmlifnlmdelaa
open Go.RowKit
set_option linter.unusedSimpArgs false
set_option linter.unusedVariables false
theorem num_at (B : List UInt8) (k m : Nat) (r : List UInt8) (hm : m < 9223372036854775808) (h : B.drop k = encNum m ++ r) : rdNum B (k, 0) = (m, k + (encNum m).length, 0) := by
  rw [rdNum_0, h, numAt_enc m hm, if_neg (by simp), encNum_len]
theorem drop_more {B : List UInt8} {k : Nat} {a r : List UInt8} (h : B.drop k = a ++ r) : B.drop (k + a.length) = r := by
  rw [← List.drop_drop, h, List.drop_left]
theorem len_ge {B : List UInt8} {k : Nat} {a r : List UInt8} (h : B.drop k = a ++ r) (hk : k ≤ B.length) : k + a.length + r.length = B.length := by
  have := congrArg List.length h
  rw [List.length_drop, List.length_append] at this; omega
theorem upto_at (B : List UInt8) (k m : Nat) (r : List UInt8) (hm : m < 9223372036854775808) (h : B.drop k = encNum m ++ r) : rdUpto B (m : Int) (k, 0) = (m, k + (encNum m).length, 0) := by
  unfold rdUpto; rw [num_at B k m r hm h, if_neg (by simp)]
theorem flag_at (B : List UInt8) (k : Nat) (f : Bool) (r : List UInt8) (h : B.drop k = encFlag f ++ r) : rdFlag B (k, 0) = (f, k + (encFlag f).length, 0) := by
  unfold encFlag at h ⊢
  unfold rdFlag
  rw [num_at B k _ r (by split <;> omega) h]
  cases f <;> simp
theorem text_at (B : List UInt8) (k : Nat) (s : ByteArray) (r : List UInt8) (hs : s.size ≤ 10000000000) (hk : k ≤ B.length) (h : B.drop k = encText s ++ r) : rdText B (s.size : Int) (k, 0) = (s.data.toList, k + (encText s).length, 0) := by
  have hsz : s.data.toList.length = s.size := by simp
  unfold encText at h ⊢
  rw [List.append_assoc] at h
  have hd := drop_more h
  have hl := len_ge h hk
  unfold rdText
  rw [upto_at B k s.size _ (by omega) h, if_neg (by simp), if_neg (by simp only; rw [List.length_append] at hl; omega)]
  simp only
  rw [hd, List.take_left' hsz, List.length_append, hsz, Nat.add_assoc]
theorem nums_at (B : List UInt8) : ∀ (l : List Int) (k : Nat) (r : List UInt8), (∀ x ∈ l, I64 x) → B.drop k = l.flatMap (fun x => encNum x.toNat) ++ r → rdNums B l.length (k, 0) = (l.map (fun x => (x.toNat : Int)), k + (l.flatMap (fun x => encNum x.toNat)).length, 0)
  | [], k, r, _, _ => by simp [rdNums]
  | x :: l, k, r, hi, h => by
    rw [List.flatMap_cons, List.append_assoc] at h
    have hx := (hi x (by simp)).2
    rw [List.length_cons, rdNums_step _ _ _ rfl, num_at B k _ _ (by omega) h]
    have ih := nums_at B l (k + (encNum x.toNat).length) r (fun y hy => hi y (by simp [hy])) (drop_more h)
    simp only
    rw [ih, List.flatMap_cons, List.length_append, Nat.add_assoc]; simp
theorem flat_ge (l : List Int) : l.length ≤ (l.flatMap (fun x => encNum x.toNat)).length := by
  induction l with
  | nil => simp
  | cons x l ih => rw [List.flatMap_cons, List.length_append, List.length_cons, encNum_len]; omega
theorem items_at (B : List UInt8) (k : Nat) (l : List Int) (r : List UInt8) (hi : ∀ x ∈ l, I64 x) (hk : k ≤ B.length) (hl : l.length ≤ 10000000) (h : B.drop k = encList l ++ r) : rdItems B (l.length : Int) (k, 0) = (l.map (fun x => (x.toNat : Int)), k + (encList l).length, 0) := by
  unfold encList at h ⊢
  rw [List.append_assoc] at h
  have hd := drop_more h
  have hln := len_ge h hk
  have hu := upto_at B k l.length _ (by omega) h
  have hg := flat_ge l
  rw [List.length_append] at hln
  have ha : rdItemsAt B (l.length : Int) (k, 0) = (k + (encNum l.length).length, 0) := by
    unfold rdItemsAt; rw [hu, if_neg (by simp only; omega)]
  have hn := nums_at B l (k + (encNum l.length).length) r hi hd
  unfold rdItems
  rw [hu, ha]
  simp only
  rw [hn, if_neg (by simp), List.length_append, Nat.add_assoc]
theorem encIt_le (x : Itm) (w : World) (h : ItGood w x 1048576) : (encIt x).length ≤ 10000000 := by
  obtain ⟨kd, n, mo, s, f, lv, l⟩ := x
  obtain ⟨h1, h2, h3, h4, h5, h6, h7⟩ := h
  dsimp only at *
  have e1 : ∀ m : Nat, m < 18446744073709551616 → (encNum m).length ≤ 9 := fun m hm => by rw [encNum_len]; have := nb_le8 m hm; omega
  unfold encIt encItem
  dsimp only
  split
  · have := e1 n.toNat (by have := h2.2; omega); omega
  · split
    · unfold encText; rw [List.length_append]; have := e1 s.size (by omega); simp; omega
    · split
      · unfold encFlag; have := e1 (if f = true then 1 else 0) (by split <;> omega); omega
      · split
        · unfold encList; rw [List.length_append]
          have := e1 l.length (by omega)
          have : ∀ l : List Int, (∀ x ∈ l, I64 x) → (l.flatMap (fun x => encNum x.toNat)).length ≤ 9 * l.length := by
            intro l
            induction l with
            | nil => simp
            | cons x l ih =>
              intro hi
              rw [List.flatMap_cons, List.length_append, List.length_cons]
              have := ih (fun y hy => hi y (by simp [hy]))
              have := e1 x.toNat (by have := (hi x (by simp)).2; omega)
              omega
          have := this l h5
          omega
        · simp
end Go.Proofs.Ythnmlifnlmdelaa
