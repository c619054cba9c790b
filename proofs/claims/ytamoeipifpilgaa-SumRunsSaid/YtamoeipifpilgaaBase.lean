/- Words of our own on worlds and slices: nothing of the program stands here. -/
import Derived.WalkKit
import Derived.Lib.Hide
import Derived.Deep.QuietTactic
import Derived.BigQuiet
import Derived.WalkSpells
import Derived.WalkLawsBesides
import Derived.Lib.SlBytesConst
namespace Go.Proofs.Ytamoeipifpilgaa
open Go.RowKit
set_option linter.unusedSimpArgs false
set_option linter.unusedVariables false

/-- An element of a list, by its place. -/
def nth {α : Type} [Inhabited α] (l : List α) (k : Nat) : α := l.getD k default
theorem nth_get {α : Type} [Inhabited α] (l : List α) (k : Nat) (h : k < l.length) : nth l k = l[k] := by simp [nth, List.getD, h]
theorem nth_of {α : Type} [Inhabited α] (l : List α) (k : Nat) (x : α) (h : l[k]? = some x) : nth l k = x := by simp [nth, List.getD, h]
theorem nth_cons_zero {α : Type} [Inhabited α] (x : α) (l : List α) : nth (x :: l) 0 = x := rfl
theorem nth_cons_succ {α : Type} [Inhabited α] (x : α) (l : List α) (k : Nat) : nth (x :: l) (k + 1) = nth l k := rfl

/-- Beside the blocks of S, what was there is as it was. -/
structure Upd (S : List Nat) (w w' : World) : Prop where
  os : w'.os = w.os
  tape : w'.tape = w.tape
  output : w'.output = w.output
  size : w.heap.size ≤ w'.heap.size
  block : ∀ k, k < w.heap.size → k ∉ S → w'.heap[k]? = w.heap[k]?
theorem Upd.refl (S : List Nat) (w : World) : Upd S w w := ⟨rfl, rfl, rfl, Nat.le_refl _, fun _ _ _ => rfl⟩
theorem Upd.trans {S S' T : List Nat} {a b c : World} (h : Upd S a b) (k : Upd S' b c) (hs : ∀ x ∈ S, x ∈ T) (hs' : ∀ x ∈ S', x ∈ T ∨ a.heap.size ≤ x) : Upd T a c :=
  ⟨k.os.trans h.os, k.tape.trans h.tape, k.output.trans h.output, Nat.le_trans h.size k.size, fun i hi hn => by
    rw [k.block i (Nat.lt_of_lt_of_le hi h.size) (fun e => by rcases hs' i e with q | q; exact hn q; omega), h.block i hi (fun e => hn (hs i e))]⟩
theorem Upd.mono {S T : List Nat} {a b : World} (h : Upd S a b) (hs : ∀ x ∈ S, x ∈ T ∨ a.heap.size ≤ x) : Upd T a b :=
  (Upd.refl T a).trans h (fun x hx => hx) hs
theorem Upd.drew {S : List Nat} {a b : World} (h : Upd S a b) : Upd S a b.drew := ⟨h.os, h.tape, h.output, h.size, h.block⟩
theorem Upd.drewN {S : List Nat} {a b : World} (h : Upd S a b) (n : Nat) : Upd S a (b.drewN n) := ⟨h.os, h.tape, h.output, h.size, h.block⟩
theorem Upd.alloc {S : List Nat} {a b : World} (h : Upd S a b) (o : Obj) : Upd S a (b.alloc o) :=
  ⟨h.os, h.tape, h.output, by have := h.size; simp; omega, fun k hk hn => by rw [Below.heap_alloc _ _ _ (Nat.lt_of_lt_of_le hk h.size)]; exact h.block k hk hn⟩
theorem Upd.setCell {S : List Nat} {a b : World} (h : Upd S a b) (p : Addr) (u : Value) (hp : p.block ∈ S ∨ a.heap.size ≤ p.block) : Upd S a (b.setCell p u) :=
  ⟨h.os, h.tape, h.output, by have := h.size; simp; omega, fun k hk hn => by
    rw [Below.heap_setCell _ _ _ _ (fun e => by subst e; rcases hp with q | q; exact hn q; omega)]; exact h.block k hk hn⟩
theorem Upd.of_grown {w w' : World} {row : Option Nat} (hg : w.grownBy w' row) : Upd row.toList w w' :=
  ⟨hg.os, hg.tape, hg.output, hg.size, fun k hk hn => hg.block k hk (fun e => hn (by rw [← e]; simp))⟩
theorem Upd.below {w w' : World} (h : Upd [] w w') : Below w.heap.size w w' := ⟨h.os, h.tape, h.output, h.size, fun k hk => h.block k hk (by simp)⟩
theorem Upd.of_below {w w' : World} (h : Below w.heap.size w w') : Upd [] w w' := ⟨h.os, h.tape, h.output, h.size, fun k hk _ => h.block k hk⟩
theorem Upd.cell {S : List Nat} {w w' : World} (h : Upd S w w') {p : Addr} {v : Value} (hv : w.cell? p = some v) (hp : p.block ∉ S) : w'.cell? p = some v :=
  (World.cell?_of_block (w := w) (h.block p.block (World.block_lt_of_cell? w p hv) hp)).trans hv
theorem Upd.heap {S : List Nat} {w w' : World} (h : Upd S w w') {k : Nat} {o : Obj} (hv : w.heap[k]? = some o) (hp : k ∉ S) : w'.heap[k]? = some o :=
  (h.block k (Array.getElem?_eq_some_iff.1 hv).1 hp).trans hv

/-- A list that a slice's value shows in a world, an element a cell. -/
def Rd {α : Type} [Inhabited α] (c : α → Value) (w : World) (v : Value) (l : List α) : Prop :=
  ∃ a cap, v = .slice a l.length cap ∧ l.length ≤ cap ∧ cap ≤ maxLen ∧
    (l ≠ [] → ∃ b off, a = some ⟨b, off, none⟩ ∧ ∀ j, j < l.length → w.cell? ⟨b, off + j, none⟩ = some (c (nth l j)))
/-- The block of a slice. -/
def blk : Value → List Nat
  | .slice (some a) _ _ => [a.block]
  | _ => []
theorem Rd.upd {α : Type} [Inhabited α] {c : α → Value} {w w' : World} {v : Value} {l : List α} (h : Rd c w v l) {S : List Nat} (hu : Upd S w w') (hs : ∀ x ∈ blk v, x ∉ S) : Rd c w' v l := by
  obtain ⟨a, cap, rfl, h1, h2, h3⟩ := h
  refine ⟨a, cap, rfl, h1, h2, fun hne => ?_⟩
  obtain ⟨b, off, rfl, hc⟩ := h3 hne
  exact ⟨b, off, rfl, fun j hj => hu.cell (hc j hj) (hs b (by simp [blk]))⟩
theorem Rd.upd0 {α : Type} [Inhabited α] {c : α → Value} {w w' : World} {v : Value} {l : List α} (h : Rd c w v l) (hu : Upd [] w w') : Rd c w' v l :=
  h.upd hu (by simp)
theorem Rd.lt {α : Type} [Inhabited α] {c : α → Value} {w : World} {v : Value} {l : List α} (h : Rd c w v l) (hne : l ≠ []) : ∀ x ∈ blk v, x < w.heap.size := by
  obtain ⟨a, cap, rfl, h1, h2, h3⟩ := h
  obtain ⟨b, off, rfl, hc⟩ := h3 hne
  intro x hx
  simp [blk] at hx; subst hx
  have := hc 0 (by cases l; exact absurd rfl hne; simp)
  exact World.block_lt_of_cell? w _ this
/-- Behind changes to blocks that came later, or to none of its own: the list is still shown. -/
theorem Rd.later {α : Type} [Inhabited α] {c : α → Value} {w w1 w' : World} {v : Value} {l : List α} (h : Rd c w v l) {S : List Nat} (h1 : Rd c w1 v l) (hu : Upd S w1 w') (hs : ∀ x ∈ S, w.heap.size ≤ x) : Rd c w' v l := by
  by_cases hne : l = []
  · obtain ⟨a, cap, rfl, g1, g2, g3⟩ := h
    exact ⟨a, cap, rfl, g1, g2, fun q => absurd hne q⟩
  · exact h1.upd hu (fun x hx hS => by have := h.lt hne x hx; have := hs x hS; omega)

/-- A slice of bytes. -/
abbrev bv (x : UInt8) : Value := .int .u8 (x.toNat : Int)
abbrev Bytes (w : World) (v : Value) (l : List UInt8) : Prop := Rd bv w v l

/-- A list in a block of the call's own. -/
def Own {α : Type} (c : α → Value) (base : Nat) (e : TypeId) (w : World) (v : Value) (l : List α) : Prop := w.ownsRow base e 1 v l.length (l.map c)
theorem Own.rd {α : Type} [Inhabited α] {c : α → Value} {base : Nat} {e : TypeId} {w : World} {v : Value} {l : List α} (h : Own c base e w v l) : Rd c w v l := by
  obtain ⟨h1, h2⟩ := h
  rcases h2 with ⟨rfl, hn⟩ | ⟨g, cap, cur, rfl, hb, hg, hc, hm, hs, ht⟩
  · exact ⟨none, 0, by rw [hn], by omega, Nat.zero_le _, fun q => absurd (List.eq_nil_of_length_eq_zero hn) q⟩
  · refine ⟨_, cap, rfl, hc, hm, fun _ => ⟨g, 0, rfl, fun j hj => ?_⟩⟩
    rw [cell_of_row w g (0 + j) cur e (0, 0) hg]
    have : (l.map c)[j]? = some (c (nth l j)) := by rw [List.getElem?_map, List.getElem?_eq_getElem hj, nth_get l j hj]; rfl
    rw [← ht, List.getElem?_take] at this
    simpa [hj] using this
theorem blk_own (v : Value) : blk v = v.ownBlock.toList := by
  cases v with
  | slice a _ _ => cases a <;> rfl
  | _ => rfl
theorem Own.upd {α : Type} {c : α → Value} {base : Nat} {e : TypeId} {w w' : World} {v : Value} {l : List α} (h : Own c base e w v l) {S : List Nat} (hu : Upd S w w') (hs : ∀ x ∈ blk v, x ∉ S) : Own c base e w' v l := by
  obtain ⟨h1, h2⟩ := h
  refine ⟨h1, ?_⟩
  rcases h2 with h2 | ⟨g, cap, cur, rfl, hb, hg, r⟩
  · exact .inl h2
  · exact .inr ⟨g, cap, cur, rfl, hb, hu.heap hg (hs g (by simp [blk])), r⟩
theorem Own.ge {α : Type} {c : α → Value} {base : Nat} {e : TypeId} {w : World} {v : Value} {l : List α} (h : Own c base e w v l) : ∀ x ∈ blk v, base ≤ x ∧ x < w.heap.size := by
  intro x hx
  rw [blk_own] at hx
  exact World.ownsRow.lt h x (by simpa using hx)
theorem Own.base_le {α : Type} {c : α → Value} {base base' : Nat} {e : TypeId} {w : World} {v : Value} {l : List α} (h : Own c base e w v l) (hb : base' ≤ base) : Own c base' e w v l := by
  obtain ⟨h1, h2⟩ := h
  refine ⟨h1, ?_⟩
  rcases h2 with h2 | ⟨g, cap, cur, rfl, hb', hg, r⟩
  · exact .inl h2
  · exact .inr ⟨g, cap, cur, rfl, by omega, hg, r⟩

/-- A list just laid in a new block. -/
theorem Rd.lit {α : Type} [Inhabited α] {c : α → Value} {w : World} (l : List α) {C : Array Value} {e : TypeId} {fr : Nat × Nat} {g n k : Nat} (hg : g = w.heap.size) (hC : C = (l.map c).toArray) (hn : n = l.length) (hk : n ≤ k) (hm : k ≤ maxLen) :
    Rd c (w.alloc (.cells C e fr)) (.slice (some ⟨g, 0, none⟩) n k) l := by
  subst hg; subst hn; subst hC
  refine ⟨_, _, rfl, hk, hm, fun _ => ⟨_, 0, rfl, fun j hj => ?_⟩⟩
  rw [cell_of_row _ w.heap.size (0 + j) _ e fr (heap_alloc_new w _)]
  simp [nth_get l j hj, hj]
theorem Rd.nil {α : Type} [Inhabited α] {c : α → Value} (w : World) : Rd c w (.slice none 0 0) ([] : List α) :=
  ⟨none, 0, rfl, Nat.le_refl _, Nat.zero_le _, fun h => absurd rfl h⟩
theorem Rd.alloc {α : Type} [Inhabited α] {c : α → Value} {w : World} {v : Value} {l : List α} (h : Rd c w v l) (o : Obj) : Rd c (w.alloc o) v l := h.upd0 ((Upd.refl _ _).alloc _)
theorem Rd.drew {α : Type} [Inhabited α] {c : α → Value} {w : World} {v : Value} {l : List α} (h : Rd c w v l) : Rd c w.drew v l := h
theorem Rd.drewN {α : Type} [Inhabited α] {c : α → Value} {w : World} {v : Value} {l : List α} (h : Rd c w v l) (n : Nat) : Rd c (w.drewN n) v l := h
theorem Rd.setCell {α : Type} [Inhabited α] {c : α → Value} {w : World} {v : Value} {l : List α} (h : Rd c w v l) (p : Addr) (u : Value) (hp : p.block ∉ blk v) : Rd c (w.setCell p u) v l :=
  h.upd (S := [p.block]) ((Upd.refl _ _).setCell _ _ (.inl (by simp))) (fun x hx hy => hp (by simp at hy; rw [← hy]; exact hx))

theorem conv_lit {P : Program} {t e : TypeId} (ht : P.underlying t = some (.slice e)) (he : P.underlying e = some (.int .u8)) (w : World) (C : Array Value) (g n c : Nat) (hg : g = w.heap.size) :
    (convert t t (.slice (some ⟨g, 0, none⟩) n c)).run P (w.alloc (.cells C e)) = .ok (.slice (some ⟨g, 0, none⟩) n c) (w.alloc (.cells C e (C.size, C.size + 1))) := by
  subst hg; exact Lib.run_convert_bytes_const w t e C n c ht he
end Go.Proofs.Ytamoeipifpilgaa
