/- A table of the call's own, at string,[]uint8: the contracts that the laws use. -/
import Derived.Test.YtmhdhnipljonlaaTabSL7
import Derived.Test.YtmhdhnipljonlaaTabSL3
namespace Go.Proofs.Ytmhdhnipljonlaa
open Go.RowKit
set_option linter.unusedSimpArgs false
set_option linter.unusedVariables false
/-- A table at g with the rows l; F: its blocks, all made since w0. -/
structure TXSL (w0 w : World) (g : Nat) (F : List Nat) (l : List (ByteArray × Sl)) : Prop where
  ex : ∃ lv, F = g :: blk lv ∧ TBSL w0.heap.size w g lv l
  ris : Rising ltSL l
  old : Upd [] w0 w
section
variable {w0 w w' : World} {g : Nat} {F : List Nat} {l : List (ByteArray × Sl)}
theorem TXSL.ge (h : TXSL w0 w g F l) : ∀ x ∈ F, w0.heap.size ≤ x ∧ x < w.heap.size := by
  obtain ⟨lv, rfl, ht⟩ := h.ex
  exact ht.lt
theorem TXSL.upd (h : TXSL w0 w g F l) {S : List Nat} (hu : Upd S w w') (hs : ∀ x ∈ F, x ∉ S) (hS : ∀ x ∈ S, w0.heap.size ≤ x) : TXSL w0 w' g F l := by
  obtain ⟨lv, rfl, ht⟩ := h.ex
  exact ⟨⟨lv, rfl, ht.upd hu hs⟩, h.ris, h.old.trans hu (by simp) (fun x hx => .inr (hS x hx))⟩
theorem TXSL.upd0 (h : TXSL w0 w g F l) (hu : Upd [] w w') : TXSL w0 w' g F l := h.upd hu (by simp) (by simp)
theorem TXSL.next (h : TXSL w0 w g F l) (hu : Upd F w w') : Upd [] w0 w' := h.old.trans hu (by simp) (fun x hx => .inr (h.ge x hx).1)
theorem txSL_New (w0 w : World) (hu : Upd [] w0 w) :
    Calls Try.prog 58 #[] w fun e w' => ∃ g F, e = .returned (.pointer (some ⟨g, 0, none⟩)) ∧ TXSL w0 w' g F [] ∧ Upd [] w w' ∧ (∀ x ∈ F, w.heap.size ≤ x) := by
  refine (tNewSL_any w).mono ?_
  rintro e w' ⟨rfl, ht, hu'⟩
  exact ⟨_, _, rfl, ⟨⟨_, rfl, ⟨ht.tab, OwnN.nil _ _ _, hu.size⟩⟩, Rising.nil, hu.seq hu'⟩, hu', fun x hx => (ht.lt x hx).1⟩
theorem txSL_Set (k : ByteArray) (y : Sl) (r : Bool) (l' : List (ByteArray × Sl)) (hs : TXSL w0 w g F l) (hlen : l.length ≤ 100000) (hk : True) (h1 : (!isIn ltSL l k) = r) (h2 : tSet ltSL l k y = l') :
    Calls Try.prog 88 #[.pointer (some ⟨g, 0, none⟩), sv k, slv y] w fun e w' => e = .returned (.bool r) ∧ ∃ F', TXSL w0 w' g F' l' ∧ Upd F w w' ∧ (∀ x ∈ F', x ∈ F ∨ w.heap.size ≤ x) := by
  subst h1; subst h2
  have hold := hs.old
  obtain ⟨⟨lv, rfl, ht⟩, hr, -⟩ := hs
  refine (tSetSL_any w k y ht hr hlen hold.size hk).mono ?_
  rintro e w' ⟨rfl, lv', ht', hu, hb⟩
  refine ⟨rfl, g :: blk lv', ⟨⟨lv', rfl, ht'⟩, hr.set_ strOrd k y, hold.trans hu (by simp) (fun x hx => .inr (ht.lt x hx).1)⟩, hu, fun x hx => ?_⟩
  rcases List.mem_cons.1 hx with rfl | hx
  · exact .inl (by simp)
  · exact (hb x hx).imp (fun q => by simp [q]) id
theorem txSL_Del (k : ByteArray) (r : Bool) (l' : List (ByteArray × Sl)) (hs : TXSL w0 w g F l) (hlen : l.length ≤ 100000) (hk : True) (h1 : isIn ltSL l k = r) (h2 : tDel ltSL l k = l') :
    Calls Try.prog 89 #[.pointer (some ⟨g, 0, none⟩), sv k] w fun e w' => e = .returned (.bool r) ∧ ∃ F', TXSL w0 w' g F' l' ∧ Upd F w w' ∧ (∀ x ∈ F', x ∈ F ∨ w.heap.size ≤ x) := by
  subst h1; subst h2
  have hold := hs.old
  obtain ⟨⟨lv, rfl, ht⟩, hr, -⟩ := hs
  refine (tDelSL_any w k ht hr hlen hk).mono ?_
  rintro e w' ⟨rfl, lv', ht', hu, hb⟩
  refine ⟨rfl, g :: blk lv', ⟨⟨lv', rfl, ht'⟩, hr.del strOrd k, hold.trans hu (by simp) (fun x hx => .inr (ht.lt x hx).1)⟩, hu, fun x hx => ?_⟩
  rcases List.mem_cons.1 hx with rfl | hx
  · exact .inl (by simp)
  · exact (hb x hx).imp (fun q => by simp [q]) id
theorem txSL_Get (k : ByteArray) (y : Sl) (r : Bool) (hs : TXSL w0 w g F l) (hlen : l.length ≤ 100000) (hk : True) (h : tGet ltSL (⟨none, 0, 0⟩ : Sl) l k = (y, r)) :
    Calls Try.prog 60 #[.pointer (some ⟨g, 0, none⟩), sv k] w fun e w' => e = .returned (.tuple #[slv y, .bool r]) ∧ Upd [] w w' := by
  obtain ⟨⟨lv, rfl, ht⟩, hr, -⟩ := hs
  unfold tGet at h
  cases hn : isIn ltSL l k with
  | false => rw [hn] at h; injection h with h1 h2; subst h1; subst h2; exact tGetSL_no w k ht hr hlen hk hn
  | true => rw [hn] at h; injection h with h1 h2; subst h1; subst h2; exact tGetSL_ok w k ht hr hlen hk hn
theorem txSL_Keys (ks : List ByteArray) (hs : TXSL w0 w g F l) (hlen : l.length ≤ 100000) (h : l.map (·.1) = ks) :
    Calls Try.prog 63 #[.pointer (some ⟨g, 0, none⟩)] w fun e w' => ∃ v, e = .returned v ∧ Own sv w.heap.size 9 w' v ks ∧ Upd [] w w' := by
  subst h
  obtain ⟨⟨lv, rfl, ht⟩, hr, -⟩ := hs
  exact tKeysSL_any w ht hlen
theorem txSL_Len (n : Int) (hs : TXSL w0 w g F l) (h : (l.length : Int) = n) :
    Calls Try.prog 74 #[.pointer (some ⟨g, 0, none⟩)] w fun e w' => e = .returned (.int .i64 n) ∧ w = w' := by
  subst h
  obtain ⟨⟨lv, rfl, ht⟩, hr, -⟩ := hs
  exact tLenSL_any w ht
theorem txSL_At (i : Int) (k : ByteArray) (y : Sl) (r : Bool) (hi : I64 i) (hs : TXSL w0 w g F l) (hlen : l.length ≤ 100000) (h : tAt (⟨#[]⟩ : ByteArray) (⟨none, 0, 0⟩ : Sl) l i = (k, y, r)) :
    Calls Try.prog 75 #[.pointer (some ⟨g, 0, none⟩), .int .i64 i] w fun e w' => e = .returned (.tuple #[sv k, slv y, .bool r]) ∧ Upd [] w w' := by
  obtain ⟨⟨lv, rfl, ht⟩, hr, -⟩ := hs
  unfold tAt at h
  split at h
  · rename_i hd
    obtain ⟨j, rfl⟩ := Int.eq_ofNat_of_zero_le hd.1
    injection h with h1 h2; injection h2 with h2 h3; subst h1; subst h2; subst h3
    exact tAtSL_ok w j ht hlen (by omega)
  · rename_i hd
    injection h with h1 h2; injection h2 with h2 h3; subst h1; subst h2; subst h3
    by_cases h0 : i < 0
    · exact tAtSL_neg w i hi ht h0
    · exact tAtSL_high w i hi ht hlen (by omega)
end
end Go.Proofs.Ytmhdhnipljonlaa
