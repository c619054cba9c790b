/- A table of the call's own, at int,int: the contracts that the laws use. -/
import Derived.Test.YtmhdhnipljonlaaTabIJ6
namespace Go.Proofs.Ytmhdhnipljonlaa
open Go.RowKit
set_option linter.unusedSimpArgs false
set_option linter.unusedVariables false
/-- A table at g with the rows l; F: its blocks, all made since w0. -/
structure TXIJ (w0 w : World) (g : Nat) (F : List Nat) (l : List (Int × Int)) : Prop where
  ex : ∃ lv, F = g :: blk lv ∧ TBIJ w0.heap.size w g lv l
  ris : Rising ltIJ l
  old : Upd [] w0 w
section
variable {w0 w w' : World} {g : Nat} {F : List Nat} {l : List (Int × Int)}
theorem TXIJ.ge (h : TXIJ w0 w g F l) : ∀ x ∈ F, w0.heap.size ≤ x ∧ x < w.heap.size := by
  obtain ⟨lv, rfl, ht⟩ := h.ex
  exact ht.lt
theorem TXIJ.upd (h : TXIJ w0 w g F l) {S : List Nat} (hu : Upd S w w') (hs : ∀ x ∈ F, x ∉ S) (hS : ∀ x ∈ S, w0.heap.size ≤ x) : TXIJ w0 w' g F l := by
  obtain ⟨lv, rfl, ht⟩ := h.ex
  exact ⟨⟨lv, rfl, ht.upd hu hs⟩, h.ris, h.old.trans hu (by simp) (fun x hx => .inr (hS x hx))⟩
theorem TXIJ.upd0 (h : TXIJ w0 w g F l) (hu : Upd [] w w') : TXIJ w0 w' g F l := h.upd hu (by simp) (by simp)
theorem TXIJ.next (h : TXIJ w0 w g F l) (hu : Upd F w w') : Upd [] w0 w' := h.old.trans hu (by simp) (fun x hx => .inr (h.ge x hx).1)
theorem txIJ_New (w0 w : World) (hu : Upd [] w0 w) :
    Calls Try.prog 48 #[] w fun e w' => ∃ g F, e = .returned (.pointer (some ⟨g, 0, none⟩)) ∧ TXIJ w0 w' g F [] ∧ Upd [] w w' ∧ (∀ x ∈ F, w.heap.size ≤ x) := by
  refine (tNewIJ_any w).mono ?_
  rintro e w' ⟨rfl, ht, hu'⟩
  exact ⟨_, _, rfl, ⟨⟨_, rfl, ⟨ht.tab, OwnN.nil _ _ _, hu.size⟩⟩, Rising.nil, hu.seq hu'⟩, hu', fun x hx => (ht.lt x hx).1⟩
theorem txIJ_Set (k : Int) (y : Int) (r : Bool) (l' : List (Int × Int)) (hs : TXIJ w0 w g F l) (hlen : l.length ≤ 100000) (hk : I64 k) (h1 : (!isIn ltIJ l k) = r) (h2 : tSet ltIJ l k y = l') :
    Calls Try.prog 56 #[.pointer (some ⟨g, 0, none⟩), iv k, iv y] w fun e w' => e = .returned (.bool r) ∧ ∃ F', TXIJ w0 w' g F' l' ∧ Upd F w w' ∧ (∀ x ∈ F', x ∈ F ∨ w.heap.size ≤ x) := by
  subst h1; subst h2
  have hold := hs.old
  obtain ⟨⟨lv, rfl, ht⟩, hr, -⟩ := hs
  refine (tSetIJ_any w k y ht hr hlen hold.size hk).mono ?_
  rintro e w' ⟨rfl, lv', ht', hu, hb⟩
  refine ⟨rfl, g :: blk lv', ⟨⟨lv', rfl, ht'⟩, hr.set_ intOrd k y, hold.trans hu (by simp) (fun x hx => .inr (ht.lt x hx).1)⟩, hu, fun x hx => ?_⟩
  rcases List.mem_cons.1 hx with rfl | hx
  · exact .inl (by simp)
  · exact (hb x hx).imp (fun q => by simp [q]) id
theorem txIJ_Get (k : Int) (y : Int) (r : Bool) (hs : TXIJ w0 w g F l) (hlen : l.length ≤ 100000) (hk : I64 k) (h : tGet ltIJ (0 : Int) l k = (y, r)) :
    Calls Try.prog 57 #[.pointer (some ⟨g, 0, none⟩), iv k] w fun e w' => e = .returned (.tuple #[iv y, .bool r]) ∧ Upd [] w w' := by
  obtain ⟨⟨lv, rfl, ht⟩, hr, -⟩ := hs
  unfold tGet at h
  cases hn : isIn ltIJ l k with
  | false => rw [hn] at h; injection h with h1 h2; subst h1; subst h2; exact tGetIJ_no w k ht hr hlen hk hn
  | true => rw [hn] at h; injection h with h1 h2; subst h1; subst h2; exact tGetIJ_ok w k ht hr hlen hk hn
end
end Go.Proofs.Ytmhdhnipljonlaa
