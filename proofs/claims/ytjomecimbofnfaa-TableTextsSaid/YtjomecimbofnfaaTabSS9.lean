/- A table of the call's own, at string,string: the contracts that the laws use. -/
import Derived.Test.YtjomecimbofnfaaTabSS7
namespace Go.Proofs.Ytjomecimbofnfaa
open Go.RowKit
set_option linter.unusedSimpArgs false
set_option linter.unusedVariables false
/-- A table at g with the rows l; F: its blocks, all made since w0. -/
structure TXSS (w0 w : World) (g : Nat) (F : List Nat) (l : List (ByteArray × ByteArray)) : Prop where
  ex : ∃ lv, F = g :: blk lv ∧ TBSS w0.heap.size w g lv l
  ris : Rising ltSS l
  old : Upd [] w0 w
section
variable {w0 w w' : World} {g : Nat} {F : List Nat} {l : List (ByteArray × ByteArray)}
theorem TXSS.ge (h : TXSS w0 w g F l) : ∀ x ∈ F, w0.heap.size ≤ x ∧ x < w.heap.size := by
  obtain ⟨lv, rfl, ht⟩ := h.ex
  exact ht.lt
theorem TXSS.upd (h : TXSS w0 w g F l) {S : List Nat} (hu : Upd S w w') (hs : ∀ x ∈ F, x ∉ S) (hS : ∀ x ∈ S, w0.heap.size ≤ x) : TXSS w0 w' g F l := by
  obtain ⟨lv, rfl, ht⟩ := h.ex
  exact ⟨⟨lv, rfl, ht.upd hu hs⟩, h.ris, h.old.trans hu (by simp) (fun x hx => .inr (hS x hx))⟩
theorem TXSS.upd0 (h : TXSS w0 w g F l) (hu : Upd [] w w') : TXSS w0 w' g F l := h.upd hu (by simp) (by simp)
theorem TXSS.next (h : TXSS w0 w g F l) (hu : Upd F w w') : Upd [] w0 w' := h.old.trans hu (by simp) (fun x hx => .inr (h.ge x hx).1)
theorem txSS_New (w0 w : World) (hu : Upd [] w0 w) :
    Calls Try.prog 53 #[] w fun e w' => ∃ g F, e = .returned (.pointer (some ⟨g, 0, none⟩)) ∧ TXSS w0 w' g F [] ∧ Upd [] w w' ∧ (∀ x ∈ F, w.heap.size ≤ x) := by
  refine (tNewSS_any w).mono ?_
  rintro e w' ⟨rfl, ht, hu'⟩
  exact ⟨_, _, rfl, ⟨⟨_, rfl, ⟨ht.tab, OwnN.nil _ _ _, hu.size⟩⟩, Rising.nil, hu.seq hu'⟩, hu', fun x hx => (ht.lt x hx).1⟩
theorem txSS_Set (k : ByteArray) (y : ByteArray) (r : Bool) (l' : List (ByteArray × ByteArray)) (hs : TXSS w0 w g F l) (hlen : l.length ≤ 100000) (hk : True) (h1 : (!isIn ltSS l k) = r) (h2 : tSet ltSS l k y = l') :
    Calls Try.prog 55 #[.pointer (some ⟨g, 0, none⟩), sv k, sv y] w fun e w' => e = .returned (.bool r) ∧ ∃ F', TXSS w0 w' g F' l' ∧ Upd F w w' ∧ (∀ x ∈ F', x ∈ F ∨ w.heap.size ≤ x) := by
  subst h1; subst h2
  have hold := hs.old
  obtain ⟨⟨lv, rfl, ht⟩, hr, -⟩ := hs
  refine (tSetSS_any w k y ht hr hlen hold.size hk).mono ?_
  rintro e w' ⟨rfl, lv', ht', hu, hb⟩
  refine ⟨rfl, g :: blk lv', ⟨⟨lv', rfl, ht'⟩, hr.set_ strOrd k y, hold.trans hu (by simp) (fun x hx => .inr (ht.lt x hx).1)⟩, hu, fun x hx => ?_⟩
  rcases List.mem_cons.1 hx with rfl | hx
  · exact .inl (by simp)
  · exact (hb x hx).imp (fun q => by simp [q]) id
theorem txSS_Del (k : ByteArray) (r : Bool) (l' : List (ByteArray × ByteArray)) (hs : TXSS w0 w g F l) (hlen : l.length ≤ 100000) (hk : True) (h1 : isIn ltSS l k = r) (h2 : tDel ltSS l k = l') :
    Calls Try.prog 56 #[.pointer (some ⟨g, 0, none⟩), sv k] w fun e w' => e = .returned (.bool r) ∧ ∃ F', TXSS w0 w' g F' l' ∧ Upd F w w' ∧ (∀ x ∈ F', x ∈ F ∨ w.heap.size ≤ x) := by
  subst h1; subst h2
  have hold := hs.old
  obtain ⟨⟨lv, rfl, ht⟩, hr, -⟩ := hs
  refine (tDelSS_any w k ht hr hlen hk).mono ?_
  rintro e w' ⟨rfl, lv', ht', hu, hb⟩
  refine ⟨rfl, g :: blk lv', ⟨⟨lv', rfl, ht'⟩, hr.del strOrd k, hold.trans hu (by simp) (fun x hx => .inr (ht.lt x hx).1)⟩, hu, fun x hx => ?_⟩
  rcases List.mem_cons.1 hx with rfl | hx
  · exact .inl (by simp)
  · exact (hb x hx).imp (fun q => by simp [q]) id
theorem txSS_Get (k : ByteArray) (y : ByteArray) (r : Bool) (hs : TXSS w0 w g F l) (hlen : l.length ≤ 100000) (hk : True) (h : tGet ltSS (⟨#[]⟩ : ByteArray) l k = (y, r)) :
    Calls Try.prog 57 #[.pointer (some ⟨g, 0, none⟩), sv k] w fun e w' => e = .returned (.tuple #[sv y, .bool r]) ∧ Upd [] w w' := by
  obtain ⟨⟨lv, rfl, ht⟩, hr, -⟩ := hs
  unfold tGet at h
  cases hn : isIn ltSS l k with
  | false => rw [hn] at h; injection h with h1 h2; subst h1; subst h2; exact tGetSS_no w k ht hr hlen hk hn
  | true => rw [hn] at h; injection h with h1 h2; subst h1; subst h2; exact tGetSS_ok w k ht hr hlen hk hn
theorem txSS_Least (k : ByteArray) (n : Nat) (hs : TXSS w0 w g F l) (hlen : l.length ≤ 100000) (hk : True) (h : below ltSS l k = n) :
    Calls Try.prog 58 #[.pointer (some ⟨g, 0, none⟩), sv k] w fun e w' => e = .returned (.int .i64 (n : Int)) ∧ Upd [] w w' := by
  subst h
  obtain ⟨⟨lv, rfl, ht⟩, hr, -⟩ := hs
  exact tLeastSS_any w k ht hr hlen hk
theorem txSS_Keys (ks : List ByteArray) (hs : TXSS w0 w g F l) (hlen : l.length ≤ 100000) (h : l.map (·.1) = ks) :
    Calls Try.prog 59 #[.pointer (some ⟨g, 0, none⟩)] w fun e w' => ∃ v, e = .returned v ∧ Own sv w.heap.size 9 w' v ks ∧ Upd [] w w' := by
  subst h
  obtain ⟨⟨lv, rfl, ht⟩, hr, -⟩ := hs
  exact tKeysSS_any w ht hlen
end
end Go.Proofs.Ytjomecimbofnfaa
