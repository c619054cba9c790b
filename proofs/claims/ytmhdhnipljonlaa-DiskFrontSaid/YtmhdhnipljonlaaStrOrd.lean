/- The order of texts. -/
import Derived.Test.YtmhdhnipljonlaaTabPlain
import Derived.Test.YtmhdhnipljonlaaStrPlain
namespace Go.Proofs.Ytmhdhnipljonlaa
open Go.RowKit
set_option linter.unusedSimpArgs false
set_option linter.unusedVariables false
theorem bl_irr : ∀ a : List UInt8, Op.bytesLess a a = false
  | [] => rfl
  | x :: a => by simp [Op.bytesLess, bl_irr a]
theorem bl_cons (x y : UInt8) (a b : List UInt8) : Op.bytesLess (x :: a) (y :: b) = true ↔ x.toNat < y.toNat ∨ (x = y ∧ Op.bytesLess a b = true) := by
  simp [Op.bytesLess, UInt8.lt_iff_toNat_lt]
theorem bl_trans : ∀ a b c : List UInt8, Op.bytesLess a b = true → Op.bytesLess b c = true → Op.bytesLess a c = true
  | [], [], c, h, _ => by simp [Op.bytesLess] at h
  | [], _ :: _, [], _, h => by simp [Op.bytesLess] at h
  | [], _ :: _, _ :: _, _, _ => by simp [Op.bytesLess]
  | _ :: _, [], _, h, _ => by simp [Op.bytesLess] at h
  | _ :: _, _ :: _, [], _, h => by simp [Op.bytesLess] at h
  | x :: a, y :: b, z :: c, h, k => by
    rw [bl_cons] at h k ⊢
    rcases h with h | ⟨rfl, h⟩
    · rcases k with k | ⟨rfl, k⟩
      · exact .inl (by omega)
      · exact .inl h
    · rcases k with k | ⟨rfl, k⟩
      · exact .inl k
      · exact .inr ⟨rfl, bl_trans a b c h k⟩
theorem bl_tot : ∀ a b : List UInt8, Op.bytesLess a b = false → Op.bytesLess b a = false → a = b
  | [], [], _, _ => rfl
  | [], _ :: _, h, _ => by simp [Op.bytesLess] at h
  | _ :: _, [], _, h => by simp [Op.bytesLess] at h
  | x :: a, y :: b, h, k => by
    have h1 : ¬ (x.toNat < y.toNat ∨ (x = y ∧ Op.bytesLess a b = true)) := fun q => by rw [(bl_cons x y a b).2 q] at h; exact absurd h (by simp)
    have k1 : ¬ (y.toNat < x.toNat ∨ (y = x ∧ Op.bytesLess b a = true)) := fun q => by rw [(bl_cons y x b a).2 q] at k; exact absurd k (by simp)
    have e : x = y := UInt8.toNat_inj.1 (by omega)
    subst e
    have h2 : Op.bytesLess a b = false := by
      cases hq : Op.bytesLess a b with
      | false => rfl
      | true => exact absurd (.inr ⟨rfl, hq⟩) h1
    have k2 : Op.bytesLess b a = false := by
      cases hq : Op.bytesLess b a with
      | false => rfl
      | true => exact absurd (.inr ⟨rfl, hq⟩) k1
    rw [bl_tot a b h2 k2]
abbrev strLt (a b : ByteArray) : Bool := Op.bytesLess a.toList b.toList
theorem strOrd : KOrd strLt := ⟨fun a => bl_irr _, fun a b c => bl_trans _ _ _, fun a b h k => str_inj _ _ (bl_tot _ _ h k)⟩
instance : DecidableEq ByteArray := fun a b => decidable_of_iff (a.toList = b.toList) ⟨str_inj a b, fun h => by rw [h]⟩
end Go.Proofs.Ytmhdhnipljonlaa
