/- A table of the call's own, at int,int: the contracts that the laws use. -/
import Derived.Test.YtjomecimbofnfaaTabII7
import Derived.Test.YtjomecimbofnfaaTabII3
namespace Go.Proofs.Ytjomecimbofnfaa
open Go.RowKit
set_option linter.unusedSimpArgs false
set_option linter.unusedVariables false
/-- A table at g with the rows l; F: its blocks, all made since w0. -/
structure TXII (w0 w : World) (g : Nat) (F : List Nat) (l : List (Int × Int)) : Prop where
  ex : ∃ lv, F = g :: blk lv ∧ TBII w0.heap.size w g lv l
  ris : Rising ltII l
  old : Upd [] w0 w
section
variable {w0 w w' : World} {g : Nat} {F : List Nat} {l : List (Int × Int)}
theorem TXII.ge (h : TXII w0 w g F l) : ∀ x ∈ F, w0.heap.size ≤ x ∧ x < w.heap.size := by
  obtain ⟨lv, rfl, ht⟩ := h.ex
  exact ht.lt
theorem TXII.upd (h : TXII w0 w g F l) {S : List Nat} (hu : Upd S w w') (hs : ∀ x ∈ F, x ∉ S) (hS : ∀ x ∈ S, w0.heap.size ≤ x) : TXII w0 w' g F l := by
  obtain ⟨lv, rfl, ht⟩ := h.ex
  exact ⟨⟨lv, rfl, ht.upd hu hs⟩, h.ris, h.old.trans hu (by simp) (fun x hx => .inr (hS x hx))⟩
theorem TXII.upd0 (h : TXII w0 w g F l) (hu : Upd [] w w') : TXII w0 w' g F l := h.upd hu (by simp) (by simp)
theorem TXII.next (h : TXII w0 w g F l) (hu : Upd F w w') : Upd [] w0 w' := h.old.trans hu (by simp) (fun x hx => .inr (h.ge x hx).1)
theorem txII_New (w0 w : World) (hu : Upd [] w0 w) :
    Calls Try.prog 44 #[] w fun e w' => ∃ g F, e = .returned (.pointer (some ⟨g, 0, none⟩)) ∧ TXII w0 w' g F [] ∧ Upd [] w w' ∧ (∀ x ∈ F, w.heap.size ≤ x) := by
  refine (tNewII_any w).mono ?_
  rintro e w' ⟨rfl, ht, hu'⟩
  exact ⟨_, _, rfl, ⟨⟨_, rfl, ⟨ht.tab, OwnN.nil _ _ _, hu.size⟩⟩, Rising.nil, hu.seq hu'⟩, hu', fun x hx => (ht.lt x hx).1⟩
theorem txII_Set (k : Int) (y : Int) (r : Bool) (l' : List (Int × Int)) (hs : TXII w0 w g F l) (hlen : l.length ≤ 100000) (hk : I64 k) (h1 : (!isIn ltII l k) = r) (h2 : tSet ltII l k y = l') :
    Calls Try.prog 49 #[.pointer (some ⟨g, 0, none⟩), iv k, iv y] w fun e w' => e = .returned (.bool r) ∧ ∃ F', TXII w0 w' g F' l' ∧ Upd F w w' ∧ (∀ x ∈ F', x ∈ F ∨ w.heap.size ≤ x) := by
  subst h1; subst h2
  have hold := hs.old
  obtain ⟨⟨lv, rfl, ht⟩, hr, -⟩ := hs
  refine (tSetII_any w k y ht hr hlen hold.size hk).mono ?_
  rintro e w' ⟨rfl, lv', ht', hu, hb⟩
  refine ⟨rfl, g :: blk lv', ⟨⟨lv', rfl, ht'⟩, hr.set_ intOrd k y, hold.trans hu (by simp) (fun x hx => .inr (ht.lt x hx).1)⟩, hu, fun x hx => ?_⟩
  rcases List.mem_cons.1 hx with rfl | hx
  · exact .inl (by simp)
  · exact (hb x hx).imp (fun q => by simp [q]) id
theorem txII_Del (k : Int) (r : Bool) (l' : List (Int × Int)) (hs : TXII w0 w g F l) (hlen : l.length ≤ 100000) (hk : I64 k) (h1 : isIn ltII l k = r) (h2 : tDel ltII l k = l') :
    Calls Try.prog 48 #[.pointer (some ⟨g, 0, none⟩), iv k] w fun e w' => e = .returned (.bool r) ∧ ∃ F', TXII w0 w' g F' l' ∧ Upd F w w' ∧ (∀ x ∈ F', x ∈ F ∨ w.heap.size ≤ x) := by
  subst h1; subst h2
  have hold := hs.old
  obtain ⟨⟨lv, rfl, ht⟩, hr, -⟩ := hs
  refine (tDelII_any w k ht hr hlen hk).mono ?_
  rintro e w' ⟨rfl, lv', ht', hu, hb⟩
  refine ⟨rfl, g :: blk lv', ⟨⟨lv', rfl, ht'⟩, hr.del intOrd k, hold.trans hu (by simp) (fun x hx => .inr (ht.lt x hx).1)⟩, hu, fun x hx => ?_⟩
  rcases List.mem_cons.1 hx with rfl | hx
  · exact .inl (by simp)
  · exact (hb x hx).imp (fun q => by simp [q]) id
theorem txII_Get (k : Int) (y : Int) (r : Bool) (hs : TXII w0 w g F l) (hlen : l.length ≤ 100000) (hk : I64 k) (h : tGet ltII (0 : Int) l k = (y, r)) :
    Calls Try.prog 51 #[.pointer (some ⟨g, 0, none⟩), iv k] w fun e w' => e = .returned (.tuple #[iv y, .bool r]) ∧ Upd [] w w' := by
  obtain ⟨⟨lv, rfl, ht⟩, hr, -⟩ := hs
  unfold tGet at h
  cases hn : isIn ltII l k with
  | false => rw [hn] at h; injection h with h1 h2; subst h1; subst h2; exact tGetII_no w k ht hr hlen hk hn
  | true => rw [hn] at h; injection h with h1 h2; subst h1; subst h2; exact tGetII_ok w k ht hr hlen hk hn
theorem txII_Least (k : Int) (n : Nat) (hs : TXII w0 w g F l) (hlen : l.length ≤ 100000) (hk : I64 k) (h : below ltII l k = n) :
    Calls Try.prog 52 #[.pointer (some ⟨g, 0, none⟩), iv k] w fun e w' => e = .returned (.int .i64 (n : Int)) ∧ Upd [] w w' := by
  subst h
  obtain ⟨⟨lv, rfl, ht⟩, hr, -⟩ := hs
  exact tLeastII_any w k ht hr hlen hk
theorem txII_Keys (ks : List Int) (hs : TXII w0 w g F l) (hlen : l.length ≤ 100000) (h : l.map (·.1) = ks) :
    Calls Try.prog 47 #[.pointer (some ⟨g, 0, none⟩)] w fun e w' => ∃ v, e = .returned v ∧ Own iv w.heap.size 3 w' v ks ∧ Upd [] w w' := by
  subst h
  obtain ⟨⟨lv, rfl, ht⟩, hr, -⟩ := hs
  exact tKeysII_any w ht hlen
theorem txII_Len (n : Int) (hs : TXII w0 w g F l) (h : (l.length : Int) = n) :
    Calls Try.prog 46 #[.pointer (some ⟨g, 0, none⟩)] w fun e w' => e = .returned (.int .i64 n) ∧ w = w' := by
  subst h
  obtain ⟨⟨lv, rfl, ht⟩, hr, -⟩ := hs
  exact tLenII_any w ht
theorem txII_At (i : Int) (k : Int) (y : Int) (r : Bool) (hi : I64 i) (hs : TXII w0 w g F l) (hlen : l.length ≤ 100000) (h : tAt (0 : Int) (0 : Int) l i = (k, y, r)) :
    Calls Try.prog 50 #[.pointer (some ⟨g, 0, none⟩), .int .i64 i] w fun e w' => e = .returned (.tuple #[iv k, iv y, .bool r]) ∧ Upd [] w w' := by
  obtain ⟨⟨lv, rfl, ht⟩, hr, -⟩ := hs
  unfold tAt at h
  split at h
  · rename_i hd
    obtain ⟨j, rfl⟩ := Int.eq_ofNat_of_zero_le hd.1
    injection h with h1 h2; injection h2 with h2 h3; subst h1; subst h2; subst h3
    exact tAtII_ok w j ht hlen (by omega)
  · rename_i hd
    injection h with h1 h2; injection h2 with h2 h3; subst h1; subst h2; subst h3
    by_cases h0 : i < 0
    · exact tAtII_neg w i hi ht h0
    · exact tAtII_high w i hi ht hlen (by omega)
end
end Go.Proofs.Ytjomecimbofnfaa
