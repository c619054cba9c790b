/- A table of the call's own, at int,spoor/yard.file: the contracts that the laws use. -/
import Derived.Test.YtmhdhnipljonlaaTabIFS
namespace Go.Proofs.Ytmhdhnipljonlaa
open Go.RowKit
set_option linter.unusedSimpArgs false
set_option linter.unusedVariables false
/-- A table at g with the rows l; F: its blocks, all made since w0. -/
structure TXIF (w0 w : World) (g : Nat) (F : List Nat) (l : List (Int × (ByteArray × Sl))) : Prop where
  ex : ∃ lv, F = g :: blk lv ∧ TBIF w0.heap.size w g lv l
  ris : Rising ltIF l
  old : Upd [] w0 w
section
variable {w0 w w' : World} {g : Nat} {F : List Nat} {l : List (Int × (ByteArray × Sl))}
theorem TXIF.ge (h : TXIF w0 w g F l) : ∀ x ∈ F, w0.heap.size ≤ x ∧ x < w.heap.size := by
  obtain ⟨lv, rfl, ht⟩ := h.ex
  exact ht.lt
theorem TXIF.upd (h : TXIF w0 w g F l) {S : List Nat} (hu : Upd S w w') (hs : ∀ x ∈ F, x ∉ S) (hS : ∀ x ∈ S, w0.heap.size ≤ x) : TXIF w0 w' g F l := by
  obtain ⟨lv, rfl, ht⟩ := h.ex
  exact ⟨⟨lv, rfl, ht.upd hu hs⟩, h.ris, h.old.trans hu (by simp) (fun x hx => .inr (hS x hx))⟩
theorem TXIF.upd0 (h : TXIF w0 w g F l) (hu : Upd [] w w') : TXIF w0 w' g F l := h.upd hu (by simp) (by simp)
theorem TXIF.next (h : TXIF w0 w g F l) (hu : Upd F w w') : Upd [] w0 w' := h.old.trans hu (by simp) (fun x hx => .inr (h.ge x hx).1)
theorem txIF_New (w0 w : World) (hu : Upd [] w0 w) :
    Calls Try.prog 47 #[] w fun e w' => ∃ g F, e = .returned (.pointer (some ⟨g, 0, none⟩)) ∧ TXIF w0 w' g F [] ∧ Upd [] w w' ∧ (∀ x ∈ F, w.heap.size ≤ x) := by
  refine (tNewIF_any w).mono ?_
  rintro e w' ⟨rfl, ht, hu'⟩
  exact ⟨_, _, rfl, ⟨⟨_, rfl, ⟨ht.tab, OwnN.nil _ _ _, hu.size⟩⟩, Rising.nil, hu.seq hu'⟩, hu', fun x hx => (ht.lt x hx).1⟩
theorem txIF_Set (k : Int) (y : (ByteArray × Sl)) (r : Bool) (l' : List (Int × (ByteArray × Sl))) (hs : TXIF w0 w g F l) (hlen : l.length ≤ 100000) (hk : I64 k) (h1 : (!isIn ltIF l k) = r) (h2 : tSet ltIF l k y = l') :
    Calls Try.prog 53 #[.pointer (some ⟨g, 0, none⟩), iv k, fv y] w fun e w' => e = .returned (.bool r) ∧ ∃ F', TXIF w0 w' g F' l' ∧ Upd F w w' ∧ (∀ x ∈ F', x ∈ F ∨ w.heap.size ≤ x) := by
  subst h1; subst h2
  have hold := hs.old
  obtain ⟨⟨lv, rfl, ht⟩, hr, -⟩ := hs
  refine (tSetIF_any w k y ht hr hlen hold.size hk).mono ?_
  rintro e w' ⟨rfl, lv', ht', hu, hb⟩
  refine ⟨rfl, g :: blk lv', ⟨⟨lv', rfl, ht'⟩, hr.set_ intOrd k y, hold.trans hu (by simp) (fun x hx => .inr (ht.lt x hx).1)⟩, hu, fun x hx => ?_⟩
  rcases List.mem_cons.1 hx with rfl | hx
  · exact .inl (by simp)
  · exact (hb x hx).imp (fun q => by simp [q]) id
theorem txIF_Del (k : Int) (r : Bool) (l' : List (Int × (ByteArray × Sl))) (hs : TXIF w0 w g F l) (hlen : l.length ≤ 100000) (hk : I64 k) (h1 : isIn ltIF l k = r) (h2 : tDel ltIF l k = l') :
    Calls Try.prog 54 #[.pointer (some ⟨g, 0, none⟩), iv k] w fun e w' => e = .returned (.bool r) ∧ ∃ F', TXIF w0 w' g F' l' ∧ Upd F w w' ∧ (∀ x ∈ F', x ∈ F ∨ w.heap.size ≤ x) := by
  subst h1; subst h2
  have hold := hs.old
  obtain ⟨⟨lv, rfl, ht⟩, hr, -⟩ := hs
  refine (tDelIF_any w k ht hr hlen hk).mono ?_
  rintro e w' ⟨rfl, lv', ht', hu, hb⟩
  refine ⟨rfl, g :: blk lv', ⟨⟨lv', rfl, ht'⟩, hr.del intOrd k, hold.trans hu (by simp) (fun x hx => .inr (ht.lt x hx).1)⟩, hu, fun x hx => ?_⟩
  rcases List.mem_cons.1 hx with rfl | hx
  · exact .inl (by simp)
  · exact (hb x hx).imp (fun q => by simp [q]) id
theorem txIF_Get (k : Int) (y : (ByteArray × Sl)) (r : Bool) (hs : TXIF w0 w g F l) (hlen : l.length ≤ 100000) (hk : I64 k) (h : tGet ltIF (((⟨#[]⟩ : ByteArray), (⟨none, 0, 0⟩ : Sl)) : ByteArray × Sl) l k = (y, r)) :
    Calls Try.prog 52 #[.pointer (some ⟨g, 0, none⟩), iv k] w fun e w' => e = .returned (.tuple #[fv y, .bool r]) ∧ Upd [] w w' := by
  obtain ⟨⟨lv, rfl, ht⟩, hr, -⟩ := hs
  unfold tGet at h
  cases hn : isIn ltIF l k with
  | false => rw [hn] at h; injection h with h1 h2; subst h1; subst h2; exact tGetIF_no w k ht hr hlen hk hn
  | true => rw [hn] at h; injection h with h1 h2; subst h1; subst h2; exact tGetIF_ok w k ht hr hlen hk hn
theorem txIF_Len (n : Int) (hs : TXIF w0 w g F l) (h : (l.length : Int) = n) :
    Calls Try.prog 51 #[.pointer (some ⟨g, 0, none⟩)] w fun e w' => e = .returned (.int .i64 n) ∧ w = w' := by
  subst h
  obtain ⟨⟨lv, rfl, ht⟩, hr, -⟩ := hs
  exact tLenIF_any w ht
theorem txIF_At (i : Int) (k : Int) (y : (ByteArray × Sl)) (r : Bool) (hi : I64 i) (hs : TXIF w0 w g F l) (hlen : l.length ≤ 100000) (h : tAt (0 : Int) (((⟨#[]⟩ : ByteArray), (⟨none, 0, 0⟩ : Sl)) : ByteArray × Sl) l i = (k, y, r)) :
    Calls Try.prog 55 #[.pointer (some ⟨g, 0, none⟩), .int .i64 i] w fun e w' => e = .returned (.tuple #[iv k, fv y, .bool r]) ∧ Upd [] w w' := by
  obtain ⟨⟨lv, rfl, ht⟩, hr, -⟩ := hs
  unfold tAt at h
  split at h
  · rename_i hd
    obtain ⟨j, rfl⟩ := Int.eq_ofNat_of_zero_le hd.1
    injection h with h1 h2; injection h2 with h2 h3; subst h1; subst h2; subst h3
    exact tAtIF_ok w j ht hlen (by omega)
  · rename_i hd
    injection h with h1 h2; injection h2 with h2 h3; subst h1; subst h2; subst h3
    by_cases h0 : i < 0
    · exact tAtIF_neg w i hi ht h0
    · exact tAtIF_high w i hi ht hlen (by omega)
end
end Go.Proofs.Ytmhdhnipljonlaa
