/- The book's functions: what needs no program. -/
import Derived.Test.YtmhdhnipljonlaaBase
namespace Go.Proofs.Ytmhdhnipljonlaa
open Go.RowKit
set_option linter.unusedSimpArgs false
set_option linter.unusedVariables false
theorem same_ext {α : Type} [Inhabited α] {l m : List α} (h : l.length = m.length) (he : ∀ j, j < l.length → nth l j = nth m j) : l = m := by
  apply List.ext_getElem h
  intro i h1 h2
  have := he i h1
  rwa [nth_get l i h1, nth_get m i h2] at this
theorem byte_eq {x y : UInt8} : (((x.toNat : Int) != (y.toNat : Int)) = true ↔ x ≠ y) := by
  simp only [bne_iff_ne, ne_eq, Int.natCast_inj]
  exact not_congr ⟨fun h => UInt8.toNat_inj.1 h, fun h => by rw [h]⟩

/-- A number brought into a range. -/
def within (n lo hi : Int) : Int := lo + n % (hi - lo + 1)
theorem within_in (n lo hi : Int) (h : lo ≤ hi) : lo ≤ within n lo hi ∧ within n lo hi ≤ hi := by
  unfold within
  have h1 := Int.emod_nonneg n (show hi - lo + 1 ≠ 0 by omega)
  have h2 := Int.emod_lt_of_pos n (show 0 < hi - lo + 1 by omega)
  omega
theorem within_neg (n d : Int) (hd : 0 < d) (h : n.tmod d < 0) : n.tmod d + d = n % d := by
  have h1 := Int.tmod_eq_emod (a := n) (b := d)
  have h2 := Int.emod_nonneg n (show d ≠ 0 by omega)
  split at h1 <;> omega
theorem within_pos (n d : Int) (hd : 0 < d) (h : 0 ≤ n.tmod d) : n.tmod d = n % d := by
  have h1 := Int.tmod_eq_emod (a := n) (b := d)
  have h2 := Int.emod_lt_of_pos n (show 0 < d by omega)
  split at h1
  · omega
  · have : (d.natAbs : Int) = d := by omega
    omega
theorem tmod_bd (n d : Int) (hd : 0 < d) : n.tmod d ≤ d - 1 ∧ -(d - 1) ≤ n.tmod d := by
  have h1 := Int.tmod_eq_emod (a := n) (b := d)
  have h2 := Int.emod_lt_of_pos n (show 0 < d by omega)
  have h3 := Int.emod_nonneg n (show d ≠ 0 by omega)
  have h4 : (d.natAbs : Int) = d := by omega
  split at h1
  · omega
  · rename_i hc
    have h5 : ¬ d ∣ n := fun q => hc (.inr q)
    have h6 : n % d ≠ 0 := fun q => h5 (Int.dvd_of_emod_eq_zero q)
    omega
theorem bv_one (x : UInt8) : (bv x).oneCell' = true := rfl

/-- A list with room behind it, all of one mark: a block of the call's own. -/
def Roomed {α : Type} (c : α → Value) (e : TypeId) (w w' : World) (v : Value) (l : List α) (mark : α) : Prop :=
  v = .slice (some ⟨w.heap.size, 0, none⟩) (l.length + 80) (l.length + 80) ∧ Blk w' w.heap.size e ((l ++ List.replicate 80 mark).map c) ∧ Upd [] w w'
theorem set_mid {α : Type} (a : List α) (k r : Nat) (m z : α) (i : Nat) (hi : i = a.length + k) (hr : 0 < r) : (a ++ (List.replicate k m ++ List.replicate r z)).set i m = a ++ (List.replicate (k + 1) m ++ List.replicate (r - 1) z) := by
  subst hi
  rw [List.set_append_right _ _ (by omega), Nat.add_sub_cancel_left, List.set_append_right _ _ (by simp)]
  obtain ⟨r, rfl⟩ : ∃ q, r = q + 1 := ⟨r - 1, by omega⟩
  rw [List.replicate_succ' (n := k), List.replicate_succ (n := r)]; simp

theorem intact_split {α : Type} [Inhabited α] (f l : List α) (m : α) (h : f.length = l.length + 80) (h1 : f.take l.length = l) (h2 : ∀ j, l.length ≤ j → j < l.length + 80 → nth f j = m) : f = l ++ List.replicate 80 m := by
  apply same_ext (by simp [h])
  intro j hj
  by_cases hl : j < l.length
  · rw [nth_append_left _ _ _ hl, ← nth_take f l.length j hl, h1]
  · rw [nth_append_right _ _ _ (by omega), nth_replicate _ _ _ (by omega)]; exact h2 j (by omega) (by omega)
theorem intact_bad {α : Type} [Inhabited α] (f l : List α) (m : α) (j : Nat) (hj : l.length ≤ j) (hj2 : j < l.length + 80) (h : nth f j ≠ m) : f ≠ l ++ List.replicate 80 m := by
  intro e; apply h; rw [e, nth_append_right _ _ _ hj, nth_replicate _ _ _ (by omega)]

end Go.Proofs.Ytmhdhnipljonlaa
