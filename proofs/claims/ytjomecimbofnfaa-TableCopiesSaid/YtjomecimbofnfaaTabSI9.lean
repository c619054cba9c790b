/- A table of the call's own, at string,int: the contracts that the laws use. -/
import Derived.Test.YtjomecimbofnfaaTabSI7
import Derived.Test.YtjomecimbofnfaaTabSI3
namespace Go.Proofs.Ytjomecimbofnfaa
open Go.RowKit
set_option linter.unusedSimpArgs false
set_option linter.unusedVariables false
/-- A table at g with the rows l; F: its blocks, all made since w0. -/
structure TXSI (w0 w : World) (g : Nat) (F : List Nat) (l : List (ByteArray × Int)) : Prop where
  ex : ∃ lv, F = g :: blk lv ∧ TBSI w0.heap.size w g lv l
  ris : Rising ltSI l
  old : Upd [] w0 w
section
variable {w0 w w' : World} {g : Nat} {F : List Nat} {l : List (ByteArray × Int)}
theorem TXSI.ge (h : TXSI w0 w g F l) : ∀ x ∈ F, w0.heap.size ≤ x ∧ x < w.heap.size := by
  obtain ⟨lv, rfl, ht⟩ := h.ex
  exact ht.lt
theorem TXSI.upd (h : TXSI w0 w g F l) {S : List Nat} (hu : Upd S w w') (hs : ∀ x ∈ F, x ∉ S) (hS : ∀ x ∈ S, w0.heap.size ≤ x) : TXSI w0 w' g F l := by
  obtain ⟨lv, rfl, ht⟩ := h.ex
  exact ⟨⟨lv, rfl, ht.upd hu hs⟩, h.ris, h.old.trans hu (by simp) (fun x hx => .inr (hS x hx))⟩
theorem TXSI.upd0 (h : TXSI w0 w g F l) (hu : Upd [] w w') : TXSI w0 w' g F l := h.upd hu (by simp) (by simp)
theorem TXSI.next (h : TXSI w0 w g F l) (hu : Upd F w w') : Upd [] w0 w' := h.old.trans hu (by simp) (fun x hx => .inr (h.ge x hx).1)
theorem txSI_New (w0 w : World) (hu : Upd [] w0 w) :
    Calls Try.prog 35 #[] w fun e w' => ∃ g F, e = .returned (.pointer (some ⟨g, 0, none⟩)) ∧ TXSI w0 w' g F [] ∧ Upd [] w w' ∧ (∀ x ∈ F, w.heap.size ≤ x) := by
  refine (tNewSI_any w).mono ?_
  rintro e w' ⟨rfl, ht, hu'⟩
  exact ⟨_, _, rfl, ⟨⟨_, rfl, ⟨ht.tab, OwnN.nil _ _ _, hu.size⟩⟩, Rising.nil, hu.seq hu'⟩, hu', fun x hx => (ht.lt x hx).1⟩
theorem txSI_Set (k : ByteArray) (y : Int) (r : Bool) (l' : List (ByteArray × Int)) (hs : TXSI w0 w g F l) (hlen : l.length ≤ 100000) (hk : True) (h1 : (!isIn ltSI l k) = r) (h2 : tSet ltSI l k y = l') :
    Calls Try.prog 36 #[.pointer (some ⟨g, 0, none⟩), sv k, iv y] w fun e w' => e = .returned (.bool r) ∧ ∃ F', TXSI w0 w' g F' l' ∧ Upd F w w' ∧ (∀ x ∈ F', x ∈ F ∨ w.heap.size ≤ x) := by
  subst h1; subst h2
  have hold := hs.old
  obtain ⟨⟨lv, rfl, ht⟩, hr, -⟩ := hs
  refine (tSetSI_any w k y ht hr hlen hold.size hk).mono ?_
  rintro e w' ⟨rfl, lv', ht', hu, hb⟩
  refine ⟨rfl, g :: blk lv', ⟨⟨lv', rfl, ht'⟩, hr.set_ strOrd k y, hold.trans hu (by simp) (fun x hx => .inr (ht.lt x hx).1)⟩, hu, fun x hx => ?_⟩
  rcases List.mem_cons.1 hx with rfl | hx
  · exact .inl (by simp)
  · exact (hb x hx).imp (fun q => by simp [q]) id
theorem txSI_Del (k : ByteArray) (r : Bool) (l' : List (ByteArray × Int)) (hs : TXSI w0 w g F l) (hlen : l.length ≤ 100000) (hk : True) (h1 : isIn ltSI l k = r) (h2 : tDel ltSI l k = l') :
    Calls Try.prog 42 #[.pointer (some ⟨g, 0, none⟩), sv k] w fun e w' => e = .returned (.bool r) ∧ ∃ F', TXSI w0 w' g F' l' ∧ Upd F w w' ∧ (∀ x ∈ F', x ∈ F ∨ w.heap.size ≤ x) := by
  subst h1; subst h2
  have hold := hs.old
  obtain ⟨⟨lv, rfl, ht⟩, hr, -⟩ := hs
  refine (tDelSI_any w k ht hr hlen hk).mono ?_
  rintro e w' ⟨rfl, lv', ht', hu, hb⟩
  refine ⟨rfl, g :: blk lv', ⟨⟨lv', rfl, ht'⟩, hr.del strOrd k, hold.trans hu (by simp) (fun x hx => .inr (ht.lt x hx).1)⟩, hu, fun x hx => ?_⟩
  rcases List.mem_cons.1 hx with rfl | hx
  · exact .inl (by simp)
  · exact (hb x hx).imp (fun q => by simp [q]) id
theorem txSI_Get (k : ByteArray) (y : Int) (r : Bool) (hs : TXSI w0 w g F l) (hlen : l.length ≤ 100000) (hk : True) (h : tGet ltSI (0 : Int) l k = (y, r)) :
    Calls Try.prog 39 #[.pointer (some ⟨g, 0, none⟩), sv k] w fun e w' => e = .returned (.tuple #[iv y, .bool r]) ∧ Upd [] w w' := by
  obtain ⟨⟨lv, rfl, ht⟩, hr, -⟩ := hs
  unfold tGet at h
  cases hn : isIn ltSI l k with
  | false => rw [hn] at h; injection h with h1 h2; subst h1; subst h2; exact tGetSI_no w k ht hr hlen hk hn
  | true => rw [hn] at h; injection h with h1 h2; subst h1; subst h2; exact tGetSI_ok w k ht hr hlen hk hn
theorem txSI_Least (k : ByteArray) (n : Nat) (hs : TXSI w0 w g F l) (hlen : l.length ≤ 100000) (hk : True) (h : below ltSI l k = n) :
    Calls Try.prog 41 #[.pointer (some ⟨g, 0, none⟩), sv k] w fun e w' => e = .returned (.int .i64 (n : Int)) ∧ Upd [] w w' := by
  subst h
  obtain ⟨⟨lv, rfl, ht⟩, hr, -⟩ := hs
  exact tLeastSI_any w k ht hr hlen hk
theorem txSI_Keys (ks : List ByteArray) (hs : TXSI w0 w g F l) (hlen : l.length ≤ 100000) (h : l.map (·.1) = ks) :
    Calls Try.prog 38 #[.pointer (some ⟨g, 0, none⟩)] w fun e w' => ∃ v, e = .returned v ∧ Own sv w.heap.size 9 w' v ks ∧ Upd [] w w' := by
  subst h
  obtain ⟨⟨lv, rfl, ht⟩, hr, -⟩ := hs
  exact tKeysSI_any w ht hlen
theorem txSI_Len (n : Int) (hs : TXSI w0 w g F l) (h : (l.length : Int) = n) :
    Calls Try.prog 43 #[.pointer (some ⟨g, 0, none⟩)] w fun e w' => e = .returned (.int .i64 n) ∧ w = w' := by
  subst h
  obtain ⟨⟨lv, rfl, ht⟩, hr, -⟩ := hs
  exact tLenSI_any w ht
theorem txSI_At (i : Int) (k : ByteArray) (y : Int) (r : Bool) (hi : I64 i) (hs : TXSI w0 w g F l) (hlen : l.length ≤ 100000) (h : tAt (⟨#[]⟩ : ByteArray) (0 : Int) l i = (k, y, r)) :
    Calls Try.prog 40 #[.pointer (some ⟨g, 0, none⟩), .int .i64 i] w fun e w' => e = .returned (.tuple #[sv k, iv y, .bool r]) ∧ Upd [] w w' := by
  obtain ⟨⟨lv, rfl, ht⟩, hr, -⟩ := hs
  unfold tAt at h
  split at h
  · rename_i hd
    obtain ⟨j, rfl⟩ := Int.eq_ofNat_of_zero_le hd.1
    injection h with h1 h2; injection h2 with h2 h3; subst h1; subst h2; subst h3
    exact tAtSI_ok w j ht hlen (by omega)
  · rename_i hd
    injection h with h1 h2; injection h2 with h2 h3; subst h1; subst h2; subst h3
    by_cases h0 : i < 0
    · exact tAtSI_neg w i hi ht h0
    · exact tAtSI_high w i hi ht hlen (by omega)
end
end Go.Proofs.Ytjomecimbofnfaa
