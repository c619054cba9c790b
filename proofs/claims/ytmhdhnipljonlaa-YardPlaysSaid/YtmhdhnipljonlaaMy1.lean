/- Texts of the proof, joined: Words of our own on worlds and slices: nothing of the program stands here. A table as a list of rows by rising keys: the plain law. Slices whose elements have several cells. Slices of the call's own whose elements have several cells. append onto a list of the call's own, at the run, at a step of a region that draws, and at a plain list. The step from a walk of a law to its statement, once for all laws: the law returns true and turns nothing that was there. Arguments opened: what a law's arguments are, in our own words. Slices' values. The book's functions: what needs no program. Texts as lists of bytes. A file's value: its name and its bytes' slice. Chapter 4's reads at int,spoor/yard. copy of elements of several cells into a known row: the run. Rows known whole: pieces, copies, appends and clears within them: the runs. -/
import Derived.WalkKit
import Derived.Lib.Hide
import Derived.Deep.QuietTactic
import Derived.BigQuiet
import Derived.WalkSpells
import Derived.WalkLawsBesides
import Derived.Lib.SlBytesConst
import Derived.Laws.CopyOwn
import Derived.Maps.AppendAt
import Derived.ProofKit
import Derived.OpenShut
import Derived.ShutString
import Derived.ChangeOld
import Derived.JoinedCond
import Derived.SizedLaws
import Derived.Deep.Slices
import Derived.Deep.CondSized
import Derived.Test.YtmhdhnipljonlaaRows
import Derived.StillTailTactics
import Derived.Lib.AppendZerosOnto
import Derived.Lib.Overlaps
import Derived.Deep.RegionLaw
namespace Go.Proofs.Ytmhdhnipljonlaa
open Go.RowKit
set_option linter.unusedSimpArgs false
set_option linter.unusedVariables false

/-- An element of a list, by its place. -/
def nth {α : Type} [Inhabited α] (l : List α) (k : Nat) : α := l.getD k default
theorem nth_get {α : Type} [Inhabited α] (l : List α) (k : Nat) (h : k < l.length) : nth l k = l[k] := by simp [nth, List.getD, h]
theorem nth_of {α : Type} [Inhabited α] (l : List α) (k : Nat) (x : α) (h : l[k]? = some x) : nth l k = x := by simp [nth, List.getD, h]
theorem nth_cons_zero {α : Type} [Inhabited α] (x : α) (l : List α) : nth (x :: l) 0 = x := rfl
theorem nth_cons_succ {α : Type} [Inhabited α] (x : α) (l : List α) (k : Nat) : nth (x :: l) (k + 1) = nth l k := rfl

/-- Beside the blocks of S, what was there is as it was. -/
structure Upd (S : List Nat) (w w' : World) : Prop where
  os : w'.os = w.os
  tape : w'.tape = w.tape
  output : w'.output = w.output
  size : w.heap.size ≤ w'.heap.size
  block : ∀ k, k < w.heap.size → k ∉ S → w'.heap[k]? = w.heap[k]?
theorem Upd.refl (S : List Nat) (w : World) : Upd S w w := ⟨rfl, rfl, rfl, Nat.le_refl _, fun _ _ _ => rfl⟩
theorem Upd.trans {S S' T : List Nat} {a b c : World} (h : Upd S a b) (k : Upd S' b c) (hs : ∀ x ∈ S, x ∈ T) (hs' : ∀ x ∈ S', x ∈ T ∨ a.heap.size ≤ x) : Upd T a c :=
  ⟨k.os.trans h.os, k.tape.trans h.tape, k.output.trans h.output, Nat.le_trans h.size k.size, fun i hi hn => by
    rw [k.block i (Nat.lt_of_lt_of_le hi h.size) (fun e => by rcases hs' i e with q | q; exact hn q; omega), h.block i hi (fun e => hn (hs i e))]⟩
theorem Upd.mono {S T : List Nat} {a b : World} (h : Upd S a b) (hs : ∀ x ∈ S, x ∈ T ∨ a.heap.size ≤ x) : Upd T a b :=
  (Upd.refl T a).trans h (fun x hx => hx) hs
theorem Upd.drew {S : List Nat} {a b : World} (h : Upd S a b) : Upd S a b.drew := ⟨h.os, h.tape, h.output, h.size, h.block⟩
theorem Upd.drewN {S : List Nat} {a b : World} (h : Upd S a b) (n : Nat) : Upd S a (b.drewN n) := ⟨h.os, h.tape, h.output, h.size, h.block⟩
theorem Upd.alloc {S : List Nat} {a b : World} (h : Upd S a b) (o : Obj) : Upd S a (b.alloc o) :=
  ⟨h.os, h.tape, h.output, by have := h.size; simp; omega, fun k hk hn => by rw [Below.heap_alloc _ _ _ (Nat.lt_of_lt_of_le hk h.size)]; exact h.block k hk hn⟩
theorem Upd.setCell {S : List Nat} {a b : World} (h : Upd S a b) (p : Addr) (u : Value) (hp : p.block ∈ S ∨ a.heap.size ≤ p.block) : Upd S a (b.setCell p u) :=
  ⟨h.os, h.tape, h.output, by have := h.size; simp; omega, fun k hk hn => by
    rw [Below.heap_setCell _ _ _ _ (fun e => by subst e; rcases hp with q | q; exact hn q; omega)]; exact h.block k hk hn⟩
theorem Upd.of_grown {w w' : World} {row : Option Nat} (hg : w.grownBy w' row) : Upd row.toList w w' :=
  ⟨hg.os, hg.tape, hg.output, hg.size, fun k hk hn => hg.block k hk (fun e => hn (by rw [← e]; simp))⟩
theorem Upd.below {w w' : World} (h : Upd [] w w') : Below w.heap.size w w' := ⟨h.os, h.tape, h.output, h.size, fun k hk => h.block k hk (by simp)⟩
theorem Upd.of_below {w w' : World} (h : Below w.heap.size w w') : Upd [] w w' := ⟨h.os, h.tape, h.output, h.size, fun k hk _ => h.block k hk⟩
theorem Upd.cell {S : List Nat} {w w' : World} (h : Upd S w w') {p : Addr} {v : Value} (hv : w.cell? p = some v) (hp : p.block ∉ S) : w'.cell? p = some v :=
  (World.cell?_of_block (w := w) (h.block p.block (World.block_lt_of_cell? w p hv) hp)).trans hv
theorem Upd.heap {S : List Nat} {w w' : World} (h : Upd S w w') {k : Nat} {o : Obj} (hv : w.heap[k]? = some o) (hp : k ∉ S) : w'.heap[k]? = some o :=
  (h.block k (Array.getElem?_eq_some_iff.1 hv).1 hp).trans hv

/-- A list that a slice's value shows in a world, an element a cell. -/
def Rd {α : Type} [Inhabited α] (c : α → Value) (w : World) (v : Value) (l : List α) : Prop :=
  ∃ a cap, v = .slice a l.length cap ∧ l.length ≤ cap ∧ cap ≤ maxLen ∧
    (l ≠ [] → ∃ b off, a = some ⟨b, off, none⟩ ∧ ∀ j, j < l.length → w.cell? ⟨b, off + j, none⟩ = some (c (nth l j)))
/-- The block of a slice. -/
def blk : Value → List Nat
  | .slice (some a) _ _ => [a.block]
  | _ => []
theorem Rd.upd {α : Type} [Inhabited α] {c : α → Value} {w w' : World} {v : Value} {l : List α} (h : Rd c w v l) {S : List Nat} (hu : Upd S w w') (hs : ∀ x ∈ blk v, x ∉ S) : Rd c w' v l := by
  obtain ⟨a, cap, rfl, h1, h2, h3⟩ := h
  refine ⟨a, cap, rfl, h1, h2, fun hne => ?_⟩
  obtain ⟨b, off, rfl, hc⟩ := h3 hne
  exact ⟨b, off, rfl, fun j hj => hu.cell (hc j hj) (hs b (by simp [blk]))⟩
theorem Rd.upd0 {α : Type} [Inhabited α] {c : α → Value} {w w' : World} {v : Value} {l : List α} (h : Rd c w v l) (hu : Upd [] w w') : Rd c w' v l :=
  h.upd hu (by simp)
theorem Rd.lt {α : Type} [Inhabited α] {c : α → Value} {w : World} {v : Value} {l : List α} (h : Rd c w v l) (hne : l ≠ []) : ∀ x ∈ blk v, x < w.heap.size := by
  obtain ⟨a, cap, rfl, h1, h2, h3⟩ := h
  obtain ⟨b, off, rfl, hc⟩ := h3 hne
  intro x hx
  simp [blk] at hx; subst hx
  have := hc 0 (by cases l; exact absurd rfl hne; simp)
  exact World.block_lt_of_cell? w _ this
/-- Behind changes to blocks that came later, or to none of its own: the list is still shown. -/
theorem Rd.later {α : Type} [Inhabited α] {c : α → Value} {w w1 w' : World} {v : Value} {l : List α} (h : Rd c w v l) {S : List Nat} (h1 : Rd c w1 v l) (hu : Upd S w1 w') (hs : ∀ x ∈ S, w.heap.size ≤ x) : Rd c w' v l := by
  by_cases hne : l = []
  · obtain ⟨a, cap, rfl, g1, g2, g3⟩ := h
    exact ⟨a, cap, rfl, g1, g2, fun q => absurd hne q⟩
  · exact h1.upd hu (fun x hx hS => by have := h.lt hne x hx; have := hs x hS; omega)

/-- A slice of bytes. -/
abbrev bv (x : UInt8) : Value := .int .u8 (x.toNat : Int)
abbrev Bytes (w : World) (v : Value) (l : List UInt8) : Prop := Rd bv w v l

/-- A list in a block of the call's own. -/
def Own {α : Type} (c : α → Value) (base : Nat) (e : TypeId) (w : World) (v : Value) (l : List α) : Prop := w.ownsRow base e 1 v l.length (l.map c)
theorem Own.rd {α : Type} [Inhabited α] {c : α → Value} {base : Nat} {e : TypeId} {w : World} {v : Value} {l : List α} (h : Own c base e w v l) : Rd c w v l := by
  obtain ⟨h1, h2⟩ := h
  rcases h2 with ⟨rfl, hn⟩ | ⟨g, cap, cur, rfl, hb, hg, hc, hm, hs, ht⟩
  · exact ⟨none, 0, by rw [hn], by omega, Nat.zero_le _, fun q => absurd (List.eq_nil_of_length_eq_zero hn) q⟩
  · refine ⟨_, cap, rfl, hc, hm, fun _ => ⟨g, 0, rfl, fun j hj => ?_⟩⟩
    rw [cell_of_row w g (0 + j) cur e (0, 0) hg]
    have : (l.map c)[j]? = some (c (nth l j)) := by rw [List.getElem?_map, List.getElem?_eq_getElem hj, nth_get l j hj]; rfl
    rw [← ht, List.getElem?_take] at this
    simpa [hj] using this
theorem blk_own (v : Value) : blk v = v.ownBlock.toList := by
  cases v with
  | slice a _ _ => cases a <;> rfl
  | _ => rfl
theorem Own.upd {α : Type} {c : α → Value} {base : Nat} {e : TypeId} {w w' : World} {v : Value} {l : List α} (h : Own c base e w v l) {S : List Nat} (hu : Upd S w w') (hs : ∀ x ∈ blk v, x ∉ S) : Own c base e w' v l := by
  obtain ⟨h1, h2⟩ := h
  refine ⟨h1, ?_⟩
  rcases h2 with h2 | ⟨g, cap, cur, rfl, hb, hg, r⟩
  · exact .inl h2
  · exact .inr ⟨g, cap, cur, rfl, hb, hu.heap hg (hs g (by simp [blk])), r⟩
theorem Own.ge {α : Type} {c : α → Value} {base : Nat} {e : TypeId} {w : World} {v : Value} {l : List α} (h : Own c base e w v l) : ∀ x ∈ blk v, base ≤ x ∧ x < w.heap.size := by
  intro x hx
  rw [blk_own] at hx
  exact World.ownsRow.lt h x (by simpa using hx)
theorem Own.base_le {α : Type} {c : α → Value} {base base' : Nat} {e : TypeId} {w : World} {v : Value} {l : List α} (h : Own c base e w v l) (hb : base' ≤ base) : Own c base' e w v l := by
  obtain ⟨h1, h2⟩ := h
  refine ⟨h1, ?_⟩
  rcases h2 with h2 | ⟨g, cap, cur, rfl, hb', hg, r⟩
  · exact .inl h2
  · exact .inr ⟨g, cap, cur, rfl, by omega, hg, r⟩

/-- A list just laid in a new block. -/
theorem Rd.lit {α : Type} [Inhabited α] {c : α → Value} {w : World} (l : List α) {C : Array Value} {e : TypeId} {fr : Nat × Nat} {g n k : Nat} (hg : g = w.heap.size) (hC : C = (l.map c).toArray) (hn : n = l.length) (hk : n ≤ k) (hm : k ≤ maxLen) :
    Rd c (w.alloc (.cells C e fr)) (.slice (some ⟨g, 0, none⟩) n k) l := by
  subst hg; subst hn; subst hC
  refine ⟨_, _, rfl, hk, hm, fun _ => ⟨_, 0, rfl, fun j hj => ?_⟩⟩
  rw [cell_of_row _ w.heap.size (0 + j) _ e fr (heap_alloc_new w _)]
  simp [nth_get l j hj, hj]
theorem Rd.nil {α : Type} [Inhabited α] {c : α → Value} (w : World) : Rd c w (.slice none 0 0) ([] : List α) :=
  ⟨none, 0, rfl, Nat.le_refl _, Nat.zero_le _, fun h => absurd rfl h⟩
theorem Rd.alloc {α : Type} [Inhabited α] {c : α → Value} {w : World} {v : Value} {l : List α} (h : Rd c w v l) (o : Obj) : Rd c (w.alloc o) v l := h.upd0 ((Upd.refl _ _).alloc _)
theorem Rd.drew {α : Type} [Inhabited α] {c : α → Value} {w : World} {v : Value} {l : List α} (h : Rd c w v l) : Rd c w.drew v l := h
theorem Rd.drewN {α : Type} [Inhabited α] {c : α → Value} {w : World} {v : Value} {l : List α} (h : Rd c w v l) (n : Nat) : Rd c (w.drewN n) v l := h
theorem Rd.setCell {α : Type} [Inhabited α] {c : α → Value} {w : World} {v : Value} {l : List α} (h : Rd c w v l) (p : Addr) (u : Value) (hp : p.block ∉ blk v) : Rd c (w.setCell p u) v l :=
  h.upd (S := [p.block]) ((Upd.refl _ _).setCell _ _ (.inl (by simp))) (fun x hx hy => hp (by simp at hy; rw [← hy]; exact hx))

theorem conv_lit {P : Program} {t e : TypeId} (ht : P.underlying t = some (.slice e)) (he : P.underlying e = some (.int .u8)) (w : World) (C : Array Value) (g n c : Nat) (hg : g = w.heap.size) :
    (convert t t (.slice (some ⟨g, 0, none⟩) n c)).run P (w.alloc (.cells C e)) = .ok (.slice (some ⟨g, 0, none⟩) n c) (w.alloc (.cells C e (C.size, C.size + 1))) := by
  subst hg; exact Lib.run_convert_bytes_const w t e C n c ht he

/-- A block that is known whole. -/
def Blk (w : World) (g : Nat) (e : TypeId) (xs : List Value) : Prop := w.heap[g]? = some (.cells xs.toArray e (0, 0))
theorem Blk.lt {w : World} {g : Nat} {e : TypeId} {xs : List Value} (h : Blk w g e xs) : g < w.heap.size := (Array.getElem?_eq_some_iff.1 h).1
theorem Blk.upd {w w' : World} {g : Nat} {e : TypeId} {xs : List Value} (h : Blk w g e xs) {S : List Nat} (hu : Upd S w w') (hs : g ∉ S) : Blk w' g e xs := hu.heap h hs
theorem Blk.cell {w : World} {g : Nat} {e : TypeId} {xs : List Value} (h : Blk w g e xs) (i : Nat) : w.cell? ⟨g, i, none⟩ = xs[i]? := by
  rw [cell_of_row w g i _ e (0, 0) h]; simp
theorem Blk.frozen {w : World} {g : Nat} {e : TypeId} {xs : List Value} (h : Blk w g e xs) (i : Nat) : w.frozen? ⟨g, i, none⟩ = false := frozen_of_row w g i _ e h
theorem Blk.set_ {w : World} {g : Nat} {e : TypeId} {xs : List Value} (h : Blk w g e xs) (i : Nat) (u : Value) : Blk (w.setCell ⟨g, i, none⟩ u) g e (xs.set i u) := by
  have := heap_setCell_same w g i _ e u h
  unfold Blk; rw [this]; simp
theorem Blk.new (w : World) (e : TypeId) (xs : List Value) : Blk (w.alloc (.cells xs.toArray e)) w.heap.size e xs := heap_alloc_new w _
theorem Blk.drewN {w : World} {g : Nat} {e : TypeId} {xs : List Value} (h : Blk w g e xs) (n : Nat) : Blk (w.drewN n) g e xs := h
/-- A piece of a known block. -/
theorem Blk.rd {α : Type} [Inhabited α] {c : α → Value} {w : World} {g : Nat} {e : TypeId} {xs : List Value} (h : Blk w g e xs) (l : List α) (o n k : Nat) (hn : n = l.length) (hk : n ≤ k) (hm : k ≤ maxLen)
    (hx : ∀ j, j < l.length → xs[o + j]? = some (c (nth l j))) : Rd c w (.slice (some ⟨g, o, none⟩) n k) l := by
  subst hn
  exact ⟨_, _, rfl, hk, hm, fun _ => ⟨g, o, rfl, fun j hj => by rw [h.cell]; exact hx j hj⟩⟩
theorem Blk.rd_pre {α : Type} [Inhabited α] {c : α → Value} {w : World} {g : Nat} {e : TypeId} {ys : List Value} (l : List α) (n k : Nat) (h : Blk w g e (l.map c ++ ys)) (hn : n = l.length) (hk : n ≤ k) (hm : k ≤ maxLen) : Rd c w (.slice (some ⟨g, 0, none⟩) n k) l :=
  h.rd l 0 n k hn hk hm (fun j hj => by rw [Nat.zero_add, List.getElem?_append_left (by simpa using hj)]; simp [nth_get l j hj, hj])

section
variable {P : Program} {ops : Array Oper} {rest : List Oper} {o : Oper} {a : Act} {w : World} {Q : Exit → Act → World → Prop}
theorem toList_madeOne (z : Value) (hz : z.cells = #[z]) (n : Nat) : (madeCells z.cells n) = (List.replicate n z).toArray := by
  apply Array.toList_inj.1
  rw [hz, toList_madeCells_one]
theorem run_mk {t e : TypeId} {z : Value} {bytes : Nat} (ht : P.underlying t = some (.slice e)) (hi : (P.info? e).map (fun i => (i.zero, i.size, i.bytes)) = some (some z, 1, bytes)) (hz : z.cells = #[z])
    (u : World) (n m : Nat) (L C : Int) (hL : L = (n : Int)) (hC : C = (m : Int)) (hnm : n ≤ m) (hb : bytes * m ≤ 281474976710656) (hm : m ≤ 9223372036854775807) :
    (Instr.makeSlice t (.int .i64 L) (.int .i64 C)).run P u = .ok (.slice (some ⟨u.heap.size, 0, none⟩) n m) (u.alloc (.cells (List.replicate m z).toArray e)) := by
  obtain ⟨i, h1, h2, h3, h4⟩ := info_parts hi
  subst hL; subst hC
  have h := run_make (P := P) u t e i z ht h1 h2 .i64 .i64 (n : Int) (m : Int) (by omega) (by omega) (by rw [h4, ← Int.natCast_mul]; omega) (by omega)
  rw [h, h3, Nat.mul_one, Int.toNat_natCast, Int.toNat_natCast, toList_madeOne z hz]

theorem oneCell_map {α : Type} {c : α → Value} (hc : ∀ x, (c x).oneCell' = true) (l : List α) : ∀ u ∈ l.map c, u.oneCell' = true := by
  intro u hu; obtain ⟨x, _, rfl⟩ := List.mem_map.1 hu; exact hc x
theorem add_none (b off j : Nat) : (⟨b, off, none⟩ : Addr).add j = ⟨b, off + j, none⟩ := by unfold Addr.add; split <;> simp_all

/-- copy into a known block. -/
theorem wpList_cp {α : Type} [Inhabited α] {c : α → Value} (hc : ∀ x, (c x).oneCell' = true) (hgd : o.guard = none) (d s : Operand) (dT sT e : TypeId) (ho : o.op = .call { callee := .builtin .copy, args := #[d, s], argTypes := #[dT, sT] })
    (hu : P.underlying dT = some (.slice e)) (hsz : (P.info? e).map (·.size) = some 1) (g dLen dCap : Nat) (v : Value) (hd : a.eval d = .slice (some ⟨g, 0, none⟩) dLen dCap) (hs : a.eval s = v)
    (l : List α) (hv : Rd c w v l) (t : TypeId) (xs : List Value) (hg : Blk w g t xs) (hle : l.length ≤ dLen) (hfit : l.length ≤ xs.length)
    (h : ∀ w', Blk w' g t (l.map c ++ xs.drop l.length) → Upd [g] w w' → w'.heap.size = w.heap.size → wpList P ops Q rest (a.put o.dst (goInt l.length)) w') : wpList P ops Q (o :: rest) a w := by
  obtain ⟨A, cap, rfl, h1, h2, h3⟩ := hv
  have key : ∃ w', (Builtin.copy_ #[dT, sT] o.type #[.slice (some ⟨g, 0, none⟩) dLen dCap, .slice A l.length cap]).run P w = .ok (goInt l.length) w' ∧ Blk w' g t (l.map c ++ xs.drop l.length) ∧ Upd [g] w w' ∧ w'.heap.size = w.heap.size := by
    by_cases hne : l = []
    · subst hne
      refine ⟨w, ?_, by simpa using hg, Upd.refl _ _, rfl⟩
      exact run_copy_none (P := P) w dT sT o.type e _ A dLen dCap 0 cap hu hsz (by simp)
    · obtain ⟨b, off, rfl, hcell⟩ := h3 hne
      have hr := run_copy_row (P := P) w dT sT o.type e g 0 dLen dCap ⟨b, off, none⟩ l.length cap xs.toArray t (l.map c) hu hsz hg (by rw [List.length_map]; exact (Nat.min_eq_left hle).symm)
        (fun j v hj => by
          rw [add_none]
          rw [List.getElem?_map] at hj
          obtain ⟨x, hx, rfl⟩ := Option.map_eq_some_iff.1 hj
          have hjl := (List.getElem?_eq_some_iff.1 hx).1
          rw [hcell j hjl, nth_of l j x hx]) (by simpa using hfit) (oneCell_map hc l)
      simp only [List.take_zero, List.nil_append, Nat.zero_add, List.length_map] at hr
      refine ⟨_, hr, ?_, ⟨rfl, rfl, rfl, by simp, fun k _ hk => setRow_other w g k _ (by simpa using hk)⟩, by simp⟩
      exact setRow_heap w g xs.toArray _ t _ hg
  obtain ⟨w', hr, k1, k2, k3⟩ := key
  refine wpList_plain hgd fun K hK => ?_
  unfold Oper.wp execOp
  simp only [ho, resolve, invoke, builtin, Sem.run_bind, Sem.run_pure, Result.andThen_ok, List.map_toArray, List.map_cons, List.map_nil, hd, hs, hr]
  exact hK _ _ (h w' k1 k2 k3)

theorem run_app_nothing {t ty e : TypeId} {size : Nat} (ht : P.underlying t = some (.slice e)) (hi : (P.info? e).map (·.size) = some size) (ao bo : Option Addr) (n cap k : Nat) (hn : n ≤ cap) :
    (Builtin.append_ #[t, t] ty #[.slice ao n cap, .slice bo 0 k]).run P w = .ok (.slice ao n cap) w := by
  obtain ⟨i, hi, hsize⟩ : ∃ i, P.info? e = some i ∧ i.size = size := by
    cases hq : P.info? e with
    | none => simp [hq] at hi
    | some i => exact ⟨i, rfl, by simpa [hq] using hi⟩
  have h0 : n + 0 ≤ cap := by omega
  cases ao <;> cases bo <;> simp [Builtin.append_, run_underlying ht, Builtin.lenOf, Builtin.firstCells, sizeOf, typeInfo, hi, storeCells, loadCells, loadCellsFrom, hn]

/-- append of a list onto a list of the call's own: the run. -/
theorem run_app {α : Type} [Inhabited α] {c : α → Value} (hc : ∀ x, (c x).oneCell' = true) {t ty e : TypeId} {z : Value} {bytes base : Nat} (ht : P.underlying t = some (.slice e)) (hi : (P.info? e).map (fun i => (i.zero, i.size, i.bytes)) = some (some z, 1, bytes)) (hz : z.cells = #[z])
    (v u : Value) (l m : List α) (hv : Own c base e w v l) (hu : Rd c w u m) (hb : (l.length + m.length) * bytes ≤ 140737488355328) (hl : l.length + m.length ≤ maxLen) (hbase : base ≤ w.heap.size) :
    ∃ v' w', (Builtin.append_ #[t, t] ty #[v, u]).run P w = .ok v' w' ∧ Own c base e w' v' (l ++ m) ∧ Upd (blk v) w w' ∧ (∀ x ∈ blk v', x ∈ blk v ∨ w.heap.size ≤ x) := by
  obtain ⟨i, h1, h2, h3, h4⟩ := info_parts hi
  obtain ⟨A, cap, rfl, hle, hcm, hcell0⟩ := hu
  by_cases hne : m = []
  · subst hne
    have hsz : (P.info? e).map (·.size) = some 1 := by simp [h1, h3]
    obtain ⟨ao, n, k, rfl, hnk⟩ : ∃ ao n k, v = .slice ao n k ∧ n ≤ k := by
      rcases hv.2 with ⟨rfl, _⟩ | ⟨g, cap', cur, rfl, _, _, q, _⟩
      · exact ⟨none, 0, 0, rfl, Nat.le_refl _⟩
      · exact ⟨_, _, _, rfl, q⟩
    exact ⟨_, w, run_app_nothing ht hsz ao A n k cap hnk, by rw [List.append_nil]; exact hv, Upd.refl _ _, fun x hx => .inl hx⟩
  · obtain ⟨b, off, rfl, hcell⟩ := hcell0 hne
    have hnews : ∀ j u, (m.map c)[j]? = some u → w.cell? ((⟨b, off, none⟩ : Addr).add j) = some u := fun j u hj => by
      rw [add_none]
      rw [List.getElem?_map] at hj
      obtain ⟨x, hx, rfl⟩ := Option.map_eq_some_iff.1 hj
      rw [hcell j (List.getElem?_eq_some_iff.1 hx).1, nth_of m j x hx]
    obtain ⟨v', w', hr, g1, g2, _, g3⟩ := run_append_own_at (P := P) w base t ty e i z 1 bytes ht h1 h2 h3 h4 (by rw [hz]; rfl) (by decide) v l.length (l.map c) hv ⟨b, off, none⟩ m.length cap (m.map c) (by simp) hnews (oneCell_map hc m) hl hb hbase
    have hown : Own c base e w' v' (l ++ m) := by
      unfold Own; rw [List.length_append, List.map_append]; exact g1
    refine ⟨v', w', hr, hown, by rw [blk_own]; exact Upd.of_grown g2, ?_⟩
    intro x hx
    rw [blk_own] at hx
    rcases g3 with g3 | g3
    · rw [g3, ← blk_own] at hx; exact .inl hx
    · rw [g3] at hx; simp at hx; exact .inr (by omega)

/-- append of a list onto a list of the call's own. -/
theorem wpList_app {α : Type} [Inhabited α] {c : α → Value} (hc : ∀ x, (c x).oneCell' = true) (hgd : o.guard = none) (s x : Operand) {t e : TypeId} (ho : o.op = .call { callee := .builtin .append, args := #[s, x], argTypes := #[t, t] })
    {z : Value} {bytes base : Nat} (ht : P.underlying t = some (.slice e)) (hi : (P.info? e).map (fun i => (i.zero, i.size, i.bytes)) = some (some z, 1, bytes)) (hz : z.cells = #[z])
    (v u : Value) (l m : List α) (hs : a.eval s = v) (hx : a.eval x = u) (hv : Own c base e w v l) (hu : Rd c w u m) (hb : (l.length + m.length) * bytes ≤ 140737488355328) (hl : l.length + m.length ≤ maxLen) (hbase : base ≤ w.heap.size)
    (h : ∀ v' w', Own c base e w' v' (l ++ m) → Upd (blk v) w w' → (∀ x ∈ blk v', x ∈ blk v ∨ w.heap.size ≤ x) → wpList P ops Q rest (a.put o.dst v') w') : wpList P ops Q (o :: rest) a w := by
  obtain ⟨v', w', hr, k1, k2, k3⟩ := run_app (P := P) (ty := o.type) hc ht hi hz v u l m hv hu hb hl hbase
  refine wpList_plain hgd fun K hK => ?_
  unfold Oper.wp execOp
  simp only [ho, resolve, invoke, builtin, Sem.run_bind, Sem.run_pure, Result.andThen_ok, List.map_toArray, List.map_cons, List.map_nil, hs, hx, hr]
  exact hK _ _ (h v' w' k1 k2 k3)
end

theorem nth_take {α : Type} [Inhabited α] (l : List α) (n j : Nat) (h : j < n) : nth (l.take n) j = nth l j := by simp [nth, List.getD, h]
theorem nth_append_left {α : Type} [Inhabited α] (l m : List α) (j : Nat) (h : j < l.length) : nth (l ++ m) j = nth l j := by simp [nth, List.getD, List.getElem?_append_left h]
theorem nth_append_right {α : Type} [Inhabited α] (l m : List α) (j : Nat) (h : l.length ≤ j) : nth (l ++ m) j = nth m (j - l.length) := by simp [nth, List.getD, List.getElem?_append_right h]
theorem nth_drop {α : Type} [Inhabited α] (l : List α) (n j : Nat) : nth (l.drop n) j = nth l (n + j) := by simp [nth, List.getD]
theorem nth_replicate {α : Type} [Inhabited α] (n : Nat) (x : α) (j : Nat) (h : j < n) : nth (List.replicate n x) j = x := by simp [nth, List.getD, h]
/-- The first elements of a list that is shown. -/
theorem Rd.take {α : Type} [Inhabited α] {c : α → Value} {w : World} {a : Option Addr} {n cap : Nat} {l : List α} (h : Rd c w (.slice a n cap) l) (k : Nat) (hk : k ≤ l.length) : Rd c w (.slice a k cap) (l.take k) := by
  obtain ⟨a', cap', he, h1, h2, h3⟩ := h
  injection he with e1 e2 e3; subst e1; subst e2; subst e3
  refine ⟨_, _, by rw [List.length_take, Nat.min_eq_left hk], by rw [List.length_take]; omega, h2, fun hne => ?_⟩
  obtain ⟨b, off, rfl, hc⟩ := h3 (fun q => hne (by rw [q]; simp))
  refine ⟨b, off, rfl, fun j hj => ?_⟩
  rw [List.length_take] at hj
  rw [nth_take l k j (by omega)]; exact hc j (by omega)
/-- What stands behind the first elements. -/
theorem Rd.drop {α : Type} [Inhabited α] {c : α → Value} {w : World} {a : Option Addr} {n cap : Nat} {l : List α} (h : Rd c w (.slice a n cap) l) (k : Nat) (hk : k ≤ l.length) :
    Rd c w (.slice (if cap = k then a else a.map (·.add k)) (n - k) (cap - k)) (l.drop k) := by
  obtain ⟨a', cap', he, h1, h2, h3⟩ := h
  injection he with e1 e2 e3; subst e1; subst e2; subst e3
  refine ⟨_, _, by rw [List.length_drop], by rw [List.length_drop]; omega, by omega, fun hne => ?_⟩
  have hlt : k < l.length := by
    rcases Nat.lt_or_ge k l.length with q | q
    · exact q
    · exact absurd (List.drop_eq_nil_of_le q) hne
  obtain ⟨b, off, rfl, hc⟩ := h3 (fun q => by subst q; simp at hlt)
  refine ⟨b, off + k, by rw [if_neg (by omega)]; simp [add_none], fun j hj => ?_⟩
  rw [List.length_drop] at hj
  rw [nth_drop, Nat.add_assoc]; exact hc _ (by omega)

theorem Upd.seq {a b c : World} (h : Upd [] a b) (k : Upd [] b c) : Upd [] a c := h.trans k (by simp) (by simp)

theorem Own.form {α : Type} {c : α → Value} {base : Nat} {e : TypeId} {w : World} {v : Value} {l : List α} (h : Own c base e w v l) (hne : l ≠ []) :
    ∃ g k ys, v = .slice (some ⟨g, 0, none⟩) l.length k ∧ base ≤ g ∧ Blk w g e (l.map c ++ ys) ∧ l.length ≤ k ∧ k ≤ maxLen := by
  obtain ⟨h1, h2⟩ := h
  rcases h2 with ⟨_, hn⟩ | ⟨g, cap, cur, rfl, hb, hg, hc, hm, hs, ht⟩
  · exact absurd (List.eq_nil_of_length_eq_zero hn) hne
  · refine ⟨g, cap, cur.toList.drop l.length, rfl, hb, ?_, hc, hm⟩
    rw [← ht, Nat.mul_one, List.take_append_drop]
    unfold Blk; simpa using hg
theorem Rd.sub {α : Type} [Inhabited α] {c : α → Value} {w : World} {a : Option Addr} {n cap : Nat} {l : List α} (h : Rd c w (.slice a n cap) l) (i k : Nat) (hi : i ≤ k) (hk : k ≤ l.length) :
    Rd c w (.slice (if cap = i then a else a.map (·.add i)) (k - i) (cap - i)) ((l.drop i).take (k - i)) := (h.drop i (by omega)).take (k - i) (by rw [List.length_drop]; omega)
end Go.Proofs.Ytmhdhnipljonlaa
namespace Go.Proofs.Ytmhdhnipljonlaa
open Go.RowKit
set_option linter.unusedSimpArgs false
set_option linter.unusedVariables false
set_option linter.unusedSectionVars false
/-- An order of keys. -/
structure KOrd {κ : Type} (lt : κ → κ → Bool) : Prop where
  irr : ∀ a, lt a a = false
  trans : ∀ a b c, lt a b = true → lt b c = true → lt a c = true
  tot : ∀ a b, lt a b = false → lt b a = false → a = b
section
variable {κ ν : Type} [Inhabited κ] [Inhabited ν] [DecidableEq κ] {lt : κ → κ → Bool}
def below (lt : κ → κ → Bool) (l : List (κ × ν)) (k : κ) : Nat := (l.takeWhile fun p => lt p.1 k).length
def isIn (lt : κ → κ → Bool) (l : List (κ × ν)) (k : κ) : Bool := decide (below lt l k < l.length ∧ (nth l (below lt l k)).1 = k)
def tSet (lt : κ → κ → Bool) (l : List (κ × ν)) (k : κ) (v : ν) : List (κ × ν) := l.take (below lt l k) ++ (k, v) :: l.drop (below lt l k + if isIn lt l k then 1 else 0)
def tDel (lt : κ → κ → Bool) (l : List (κ × ν)) (k : κ) : List (κ × ν) := if isIn lt l k then l.take (below lt l k) ++ l.drop (below lt l k + 1) else l
def Rising (lt : κ → κ → Bool) (l : List (κ × ν)) : Prop := ∀ i j, i < j → j < l.length → lt (nth l i).1 (nth l j).1 = true
theorem below_le (l : List (κ × ν)) (k : κ) : below lt l k ≤ l.length := by
  unfold below
  induction l with
  | nil => simp
  | cons p l ih => rw [List.takeWhile_cons]; split <;> simp; exact ih
theorem below_lt : ∀ (l : List (κ × ν)) (k : κ) (j : Nat), j < below lt l k → lt (nth l j).1 k = true
  | [], k, j, h => by simp [below] at h
  | p :: l, k, j, h => by
    unfold below at h
    rw [List.takeWhile_cons] at h
    split at h
    · rename_i hp
      cases j with
      | zero => rw [nth_cons_zero]; exact hp
      | succ j => rw [nth_cons_succ]; exact below_lt l k j (by simpa [below] using h)
    · simp at h
theorem below_ge : ∀ (l : List (κ × ν)) (k : κ), below lt l k < l.length → lt (nth l (below lt l k)).1 k = false
  | [], k, h => by simp [below] at h
  | p :: l, k, h => by
    cases hp : lt p.1 k with
    | false =>
      have : below lt (p :: l) k = 0 := by unfold below; rw [List.takeWhile_cons]; simp [hp]
      rw [this, nth_cons_zero]; exact hp
    | true =>
      have e : below lt (p :: l) k = below lt l k + 1 := by unfold below; rw [List.takeWhile_cons]; simp [hp]
      rw [e, nth_cons_succ]
      exact below_ge l k (by rw [e] at h; simpa using h)
theorem below_eq (l : List (κ × ν)) (k : κ) (i : Nat) (h1 : i ≤ l.length) (h2 : ∀ j, j < i → lt (nth l j).1 k = true) (h3 : i < l.length → lt (nth l i).1 k = false) : below lt l k = i := by
  rcases Nat.lt_trichotomy (below lt l k) i with h | h | h
  · have a := below_ge l k (Nat.lt_of_lt_of_le h h1)
    rw [h2 _ h] at a; exact absurd a (by simp)
  · exact h
  · have a := below_lt l k i h
    have b := h3 (Nat.lt_of_lt_of_le h (below_le l k))
    rw [a] at b; exact absurd b (by simp)
def tGet (lt : κ → κ → Bool) (z : ν) (l : List (κ × ν)) (k : κ) : ν × Bool := if isIn lt l k then ((nth l (below lt l k)).2, true) else (z, false)
def tAt (zk : κ) (zv : ν) (l : List (κ × ν)) (i : Int) : κ × ν × Bool := if 0 ≤ i ∧ i < l.length then ((nth l i.toNat).1, (nth l i.toNat).2, true) else (zk, zv, false)
theorem tSet_len (l : List (κ × ν)) (k : κ) (v : ν) : (tSet lt l k v).length ≤ l.length + 1 := by
  unfold tSet
  have := below_le (lt := lt) l k
  rw [List.length_append, List.length_take, List.length_cons, List.length_drop]
  split <;> omega
theorem tDel_len (l : List (κ × ν)) (k : κ) : (tDel lt l k).length ≤ l.length := by
  unfold tDel
  split
  · rw [List.length_append, List.length_take, List.length_drop]; omega
  · exact Nat.le_refl _
theorem tSet_in (l : List (κ × ν)) (k : κ) (v : ν) (h : isIn lt l k = true) : tSet lt l k v = l.set (below lt l k) ((nth l (below lt l k)).1, v) := by
  unfold tSet
  rw [h]
  unfold isIn at h
  obtain ⟨h1, h2⟩ := of_decide_eq_true h
  rw [h2, List.set_eq_take_append_cons_drop, if_pos h1]
  rfl
theorem Rising.mono (ho : KOrd lt) {l : List (κ × ν)} (h : Rising lt l) (k : κ) (i j : Nat) (hij : i ≤ j) (hj : j < l.length) (hl : lt (nth l j).1 k = true) : lt (nth l i).1 k = true := by
  rcases Nat.lt_or_eq_of_le hij with e | e
  · exact ho.trans _ _ _ (h i j e hj) hl
  · rw [e]; exact hl
theorem Rising.nil : Rising lt ([] : List (κ × ν)) := fun i j _ h => by simp at h
theorem Rising.take {l : List (κ × ν)} (h : Rising lt l) (n : Nat) : Rising lt (l.take n) := fun i j hij hj => by
  rw [List.length_take] at hj
  rw [nth_take l n i (by omega), nth_take l n j (by omega)]; exact h i j hij (by omega)
theorem Rising.drop {l : List (κ × ν)} (h : Rising lt l) (n : Nat) : Rising lt (l.drop n) := fun i j hij hj => by
  rw [List.length_drop] at hj
  rw [nth_drop, nth_drop]; exact h _ _ (by omega) (by omega)
theorem Rising.app {l m : List (κ × ν)} (hl : Rising lt l) (hm : Rising lt m) (hlm : ∀ i j, i < l.length → j < m.length → lt (nth l i).1 (nth m j).1 = true) : Rising lt (l ++ m) := fun i j hij hj => by
  rw [List.length_append] at hj
  by_cases h1 : j < l.length
  · rw [nth_append_left _ _ _ h1, nth_append_left _ _ _ (by omega)]; exact hl i j hij h1
  · rw [nth_append_right _ _ j (by omega)]
    by_cases h2 : i < l.length
    · rw [nth_append_left _ _ _ h2]; exact hlm _ _ h2 (by omega)
    · rw [nth_append_right _ _ i (by omega)]; exact hm _ _ (by omega) (by omega)
theorem Rising.one (p : κ × ν) : Rising lt [p] := fun i j hij hj => by simp at hj; omega
/-- What stands from a place on is above the key, the key's own row left out. -/
theorem above (ho : KOrd lt) {l : List (κ × ν)} (h : Rising lt l) (k : κ) (j : Nat) (hj : below lt l k + (if isIn lt l k then 1 else 0) ≤ j) (hl : j < l.length) : lt k (nth l j).1 = true := by
  have hb : below lt l k < l.length := by split at hj <;> omega
  have h1 := below_ge l k hb
  by_cases hin : isIn lt l k = true
  · rw [if_pos hin] at hj
    unfold isIn at hin
    have e := (of_decide_eq_true hin).2
    have := h (below lt l k) j (by omega) hl
    rwa [e] at this
  · rw [if_neg hin] at hj
    have hne : (nth l (below lt l k)).1 ≠ k := by
      intro e; apply hin; unfold isIn; exact decide_eq_true ⟨hb, e⟩
    have h2 : lt k (nth l (below lt l k)).1 = true := by
      cases hc : lt k (nth l (below lt l k)).1 with
      | true => rfl
      | false => exact absurd (ho.tot _ _ h1 hc) hne
    rcases Nat.lt_or_eq_of_le hj with q | q
    · exact ho.trans _ _ _ h2 (h _ _ (by simpa using q) hl)
    · rw [Nat.add_zero] at q; rw [← q]; exact h2
theorem Rising.set_ (ho : KOrd lt) {l : List (κ × ν)} (h : Rising lt l) (k : κ) (v : ν) : Rising lt (tSet lt l k v) := by
  unfold tSet
  refine (h.take _).app ?_ ?_
  · have : (k, v) :: l.drop (below lt l k + if isIn lt l k then 1 else 0) = [(k, v)] ++ l.drop (below lt l k + if isIn lt l k then 1 else 0) := rfl
    rw [this]
    refine (Rising.one _).app (h.drop _) ?_
    intro i j hi hj
    simp at hi; subst hi
    rw [List.length_drop] at hj
    rw [nth_drop]
    exact above ho h k _ (by omega) (by omega)
  · intro i j hi hj
    rw [List.length_take] at hi
    rw [nth_take _ _ _ (by omega)]
    have h1 := below_lt (lt := lt) l k i (by omega)
    cases j with
    | zero => rw [nth_cons_zero]; exact h1
    | succ j =>
      rw [nth_cons_succ, nth_drop]
      rw [List.length_cons, List.length_drop] at hj
      exact ho.trans _ _ _ h1 (above ho h k _ (by omega) (by omega))
theorem Rising.del (ho : KOrd lt) {l : List (κ × ν)} (h : Rising lt l) (k : κ) : Rising lt (tDel lt l k) := by
  unfold tDel
  split
  · refine (h.take _).app (h.drop _) ?_
    intro i j hi hj
    rw [List.length_take] at hi
    rw [List.length_drop] at hj
    rw [nth_take _ _ _ (by omega), nth_drop]
    exact h _ _ (by omega) (by omega)
  · exact h
end
theorem intOrd : KOrd (fun a b : Int => decide (a < b)) := ⟨fun a => by simp, fun a b c => by simp; omega, fun a b => by simp; omega⟩
end Go.Proofs.Ytmhdhnipljonlaa
namespace Go.Proofs.Ytmhdhnipljonlaa
open Go.RowKit
set_option linter.unusedSimpArgs false
set_option linter.unusedVariables false

/-- A list that a slice's value shows in a world, an element so many cells. -/
def RdN {α : Type} [Inhabited α] (sz : Nat) (c : α → List Value) (w : World) (v : Value) (l : List α) : Prop :=
  ∃ a cap, v = .slice a l.length cap ∧ l.length ≤ cap ∧ cap ≤ maxLen ∧
    (l ≠ [] → ∃ b off, a = some ⟨b, off, none⟩ ∧ ∀ j, j < l.length → ∀ i, i < sz → w.cell? ⟨b, off + (j * sz + i), none⟩ = (c (nth l j))[i]?)
theorem RdN.upd {α : Type} [Inhabited α] {sz : Nat} {c : α → List Value} {w w' : World} {v : Value} {l : List α} (hsz : ∀ x, (c x).length = sz) (h : RdN sz c w v l) {S : List Nat} (hu : Upd S w w') (hs : ∀ x ∈ blk v, x ∉ S) : RdN sz c w' v l := by
  obtain ⟨a, cap, rfl, h1, h2, h3⟩ := h
  refine ⟨a, cap, rfl, h1, h2, fun hne => ?_⟩
  obtain ⟨b, off, rfl, hc⟩ := h3 hne
  refine ⟨b, off, rfl, fun j hj i hi => ?_⟩
  have hq := hc j hj i hi
  have hlt : i < (c (nth l j)).length := by rw [hsz]; exact hi
  rw [List.getElem?_eq_getElem hlt] at hq ⊢
  exact hu.cell hq (hs b (by simp [blk]))
theorem RdN.upd0 {α : Type} [Inhabited α] {sz : Nat} {c : α → List Value} {w w' : World} {v : Value} {l : List α} (hsz : ∀ x, (c x).length = sz) (h : RdN sz c w v l) (hu : Upd [] w w') : RdN sz c w' v l := h.upd hsz hu (by simp)

theorem Rd.at_ {α : Type} [Inhabited α] {c : α → Value} {w : World} {a : Option Addr} {n cap : Nat} {l : List α} (h : Rd c w (.slice a n cap) l) (k : Nat) (hk : k < l.length) :
    ∃ b off, a = some ⟨b, off, none⟩ ∧ w.cell? ⟨b, off + k, none⟩ = some (c (nth l k)) := by
  obtain ⟨a', cap', he, _, _, h3⟩ := h
  injection he with e1 e2 e3; subst e1
  obtain ⟨b, off, hb, hc⟩ := h3 (fun q => by rw [q] at hk; simp at hk)
  exact ⟨b, off, hb, hc k hk⟩
end Go.Proofs.Ytmhdhnipljonlaa
namespace Go.Proofs.Ytmhdhnipljonlaa
open Go.RowKit
set_option linter.unusedSimpArgs false
set_option linter.unusedVariables false

theorem flatMap_get {α : Type} [Inhabited α] {sz : Nat} {c : α → List Value} (hsz : ∀ x, (c x).length = sz) : ∀ (l : List α) (j i : Nat), j < l.length → i < sz → (l.flatMap c)[j * sz + i]? = (c (nth l j))[i]?
  | [], j, i, hj, hi => by simp at hj
  | x :: l, 0, i, hj, hi => by
    rw [List.flatMap_cons, Nat.zero_mul, Nat.zero_add, List.getElem?_append_left (by rw [hsz]; exact hi), nth_cons_zero]
  | x :: l, j + 1, i, hj, hi => by
    have hq : (j + 1) * sz + i = sz + (j * sz + i) := by rw [Nat.add_mul]; omega
    rw [List.flatMap_cons, hq, List.getElem?_append_right (by rw [hsz]; omega), hsz, Nat.add_sub_cancel_left, nth_cons_succ]
    exact flatMap_get hsz l j i (by simpa using hj) hi
theorem flatMap_len {α : Type} {sz : Nat} {c : α → List Value} (hsz : ∀ x, (c x).length = sz) (l : List α) : (l.flatMap c).length = l.length * sz := by
  induction l with
  | nil => simp
  | cons x l ih => rw [List.flatMap_cons, List.length_append, hsz, ih, List.length_cons, Nat.add_mul, Nat.one_mul]; omega
/-- A list in a block of the call's own, an element so many cells. -/
def OwnN {α : Type} (sz : Nat) (c : α → List Value) (base : Nat) (e : TypeId) (w : World) (v : Value) (l : List α) : Prop := w.ownsRow base e sz v l.length (l.flatMap c)
theorem OwnN.rd {α : Type} [Inhabited α] {sz : Nat} {c : α → List Value} {base : Nat} {e : TypeId} {w : World} {v : Value} {l : List α} (hsz : ∀ x, (c x).length = sz) (h : OwnN sz c base e w v l) : RdN sz c w v l := by
  obtain ⟨h1, h2⟩ := h
  rcases h2 with ⟨rfl, hn⟩ | ⟨g, cap, cur, rfl, hb, hg, hc, hm, hs, ht⟩
  · exact ⟨none, 0, by rw [hn], by omega, Nat.zero_le _, fun q => absurd (List.eq_nil_of_length_eq_zero hn) q⟩
  · refine ⟨_, cap, rfl, hc, hm, fun _ => ⟨g, 0, rfl, fun j hj i hi => ?_⟩⟩
    rw [cell_of_row w g (0 + (j * sz + i)) cur e (0, 0) hg, ← flatMap_get hsz l j i hj hi, ← ht, List.getElem?_take]
    have hlt : j * sz + i < l.length * sz := by
      have := Nat.mul_le_mul_right sz (show j + 1 ≤ l.length from hj)
      rw [Nat.add_mul] at this; omega
    simp [hlt]
theorem OwnN.upd {α : Type} {sz : Nat} {c : α → List Value} {base : Nat} {e : TypeId} {w w' : World} {v : Value} {l : List α} (h : OwnN sz c base e w v l) {S : List Nat} (hu : Upd S w w') (hs : ∀ x ∈ blk v, x ∉ S) : OwnN sz c base e w' v l := by
  obtain ⟨h1, h2⟩ := h
  refine ⟨h1, ?_⟩
  rcases h2 with h2 | ⟨g, cap, cur, rfl, hb, hg, r⟩
  · exact .inl h2
  · exact .inr ⟨g, cap, cur, rfl, hb, hu.heap hg (hs g (by simp [blk])), r⟩
theorem OwnN.ge {α : Type} {sz : Nat} {c : α → List Value} {base : Nat} {e : TypeId} {w : World} {v : Value} {l : List α} (h : OwnN sz c base e w v l) : ∀ x ∈ blk v, base ≤ x ∧ x < w.heap.size := by
  intro x hx
  rw [blk_own] at hx
  exact World.ownsRow.lt h x (by simpa using hx)
theorem OwnN.typ {α : Type} {sz : Nat} {c : α → List Value} {base : Nat} {e : TypeId} {w : World} {v : Value} {l : List α} (h : OwnN sz c base e w v l) : ∀ x ∈ blk v, ∃ C f, w.heap[x]? = some (.cells C e f) := by
  intro x hx
  rcases h.2 with ⟨rfl, _⟩ | ⟨g, cap, cur, rfl, hb, hg, r⟩
  · simp [blk] at hx
  · simp [blk] at hx; subst hx; exact ⟨_, _, hg⟩
theorem OwnN.nil {α : Type} {sz : Nat} {c : α → List Value} (base : Nat) (e : TypeId) (w : World) : OwnN sz c base e w (.slice none 0 0) ([] : List α) := World.ownsRow_nil _ _ _ _
theorem Blk.ne {w : World} {g : Nat} {e e' : TypeId} {xs C : _} {f : Nat × Nat} (h : Blk w g e xs) (x : Nat) (k : w.heap[x]? = some (.cells C e' f)) (hne : e ≠ e') : g ≠ x := by
  rintro rfl
  unfold Blk at h; rw [h] at k; simp at k; exact hne k.2.1
section
variable {P : Program} {ops : Array Oper} {rest : List Oper} {o : Oper} {a : Act} {w : World} {Q : Exit → Act → World → Prop}
/-- append of a list onto a list of the call's own. -/
theorem wpList_appN {α : Type} [Inhabited α] {sz : Nat} {c : α → List Value} (hsz : ∀ x, (c x).length = sz) (hpos : 0 < sz) (hone : ∀ x, ∀ u ∈ c x, u.oneCell' = true) (hgd : o.guard = none) (s x : Operand) {t e : TypeId} (ho : o.op = .call { callee := .builtin .append, args := #[s, x], argTypes := #[t, t] })
    {z : Value} {bytes base : Nat} (ht : P.underlying t = some (.slice e)) (hi : (P.info? e).map (fun i => (i.zero, i.size, i.bytes)) = some (some z, sz, bytes)) (hz : z.cells.size = sz)
    (v : Value) (l : List α) (y : α) (hs : a.eval s = v) (g k : Nat) (hx : a.eval x = .slice (some ⟨g, 0, none⟩) 1 k) (hv : OwnN sz c base e w v l) (hu : ∀ i u, (c y)[i]? = some u → w.cell? ⟨g, i, none⟩ = some u) (hb : (l.length + 1) * bytes ≤ 140737488355328) (hl : l.length + 1 ≤ maxLen) (hbase : base ≤ w.heap.size)
    (h : ∀ v' w', OwnN sz c base e w' v' (l ++ [y]) → Upd (blk v) w w' → (∀ x ∈ blk v', x ∈ blk v ∨ w.heap.size ≤ x) → wpList P ops Q rest (a.put o.dst v') w') : wpList P ops Q (o :: rest) a w := by
  obtain ⟨i, h1, h2, h3, h4⟩ := info_parts hi
  obtain ⟨v', w', hr, g1, g2, _, g3⟩ := run_append_own_at (P := P) (ty := o.type) w base t e i z sz bytes ht h1 h2 h3 h4 hz hpos v l.length (l.flatMap c) hv ⟨g, 0, none⟩ 1 k (c y) (by rw [hsz]; simp) (fun j u hj => by rw [add_none, Nat.zero_add]; exact hu j u hj) (hone y) hl hb hbase
  have hown : OwnN sz c base e w' v' (l ++ [y]) := by
    unfold OwnN; rw [List.length_append, List.flatMap_append]; simpa using g1
  refine wpList_plain hgd fun K hK => ?_
  unfold Oper.wp execOp
  simp only [ho, resolve, invoke, builtin, Sem.run_bind, Sem.run_pure, Result.andThen_ok, List.map_toArray, List.map_cons, List.map_nil, hs, hx, hr]
  refine hK _ _ (h v' w' hown (by rw [blk_own]; exact Upd.of_grown g2) ?_)
  intro x hx
  rw [blk_own] at hx
  rcases g3 with g3 | g3
  · rw [g3, ← blk_own] at hx; exact .inl hx
  · rw [g3] at hx; simp at hx; exact .inr (by omega)
theorem zeroCells_one {zc : Array Value} (h : ∀ u ∈ zc, u.oneCell' = true) (n : Nat) : ∀ u ∈ (Builtin.zeroCells zc n).toList, u.oneCell' = true := by
  intro u hu
  simp only [Builtin.zeroCells, Array.toList_map, List.mem_map] at hu
  obtain ⟨i, hi, rfl⟩ := hu
  have hi' : i < n * zc.size := by simpa using hi
  have hpos : 0 < zc.size := by
    rcases Nat.eq_zero_or_pos zc.size with h0 | h0
    · rw [h0] at hi'; omega
    · exact h0
  have hlt := Nat.mod_lt i hpos
  rw [getElem!_pos zc _ hlt]
  exact h _ (Array.getElem_mem hlt)
/-- clear of a list of the call's own: what was there is zero; cut to nothing it is a list of the call's own again. -/
theorem wpList_clearN {α : Type} {sz : Nat} {c : α → List Value} (hgd : o.guard = none) (s : Operand) {t e : TypeId} (ho : o.op = .call { callee := .builtin .clear, args := #[s], argTypes := #[t] })
    {z : Value} {bytes base : Nat} (ht : P.underlying t = some (.slice e)) (hi : (P.info? e).map (fun i => (i.zero, i.size, i.bytes)) = some (some z, sz, bytes)) (hz : z.cells.size = sz) (h1 : ∀ u ∈ z.cells, u.oneCell' = true)
    (v : Value) (l : List α) (hs : a.eval s = v) (hv : OwnN sz c base e w v l)
    (h : ∀ w', Upd (blk v) w w' → w'.heap.size = w.heap.size → (∀ ao cap, v = .slice ao l.length cap → OwnN sz c base e w' (.slice ao 0 cap) ([] : List α)) → wpList P ops Q rest (a.put o.dst (.tuple #[])) w') : wpList P ops Q (o :: rest) a w := by
  obtain ⟨i, i1, i2, i3, i4⟩ := info_parts hi
  have key : ∃ w', (Builtin.clear_ #[t] o.type #[v]).run P w = .ok (.tuple #[]) w' ∧ Upd (blk v) w w' ∧ w'.heap.size = w.heap.size ∧ (∀ ao cap, v = .slice ao l.length cap → OwnN sz c base e w' (.slice ao 0 cap) ([] : List α)) := by
    rcases hv.2 with ⟨rfl, hn⟩ | ⟨g, cap, cur, rfl, hb, hg, hc, hm, hsz, htk⟩
    · refine ⟨w, ?_, Upd.refl _ _, rfl, ?_⟩
      · simp [Builtin.clear_, run_underlying ht]
      · intro ao cap he; injection he with e1 e2 e3; subst e1; subst e3; exact World.ownsRow_nil _ _ _ _
    · by_cases h0 : l.length = 0
      · refine ⟨w, ?_, Upd.refl _ _, rfl, ?_⟩
        · rw [h0]; simp [Builtin.clear_, run_underlying ht]
        · intro ao cap' he; injection he with e1 e2 e3; subst e1; subst e3
          exact ⟨by simp, .inr ⟨g, _, cur, rfl, hb, hg, by simp, hm, hsz, by simp⟩⟩
      · have hzl : (Builtin.zeroCells z.cells l.length).toList.length = l.length * sz := by rw [Array.length_toList, size_zeroCells, hz]
        have hfit : 0 + 0 + (Builtin.zeroCells z.cells l.length).toList.length ≤ cur.size := by
          rw [hzl, hsz]; have := Nat.mul_le_mul_right sz hc; omega
        have hst := run_storeCells_at (P := P) g 0 e _ 0 cur w hg hfit (zeroCells_one h1 l.length)
        have hlen : (List.take (0 + 0) cur.toList ++ (Builtin.zeroCells z.cells l.length).toList ++ List.drop (0 + 0 + (Builtin.zeroCells z.cells l.length).toList.length) cur.toList).toArray.size = cap * sz := by
          simp only [List.size_toArray, List.length_append, List.length_take, List.length_drop, hzl]
          rw [Array.length_toList, hsz]
          have := Nat.mul_le_mul_right sz hc
          omega
        generalize (List.take (0 + 0) cur.toList ++ (Builtin.zeroCells z.cells l.length).toList ++ List.drop (0 + 0 + (Builtin.zeroCells z.cells l.length).toList.length) cur.toList).toArray = ys at hst hlen
        refine ⟨w.setRow g ys, ?_, ⟨rfl, rfl, rfl, by simp, fun k _ hk => setRow_other w g k _ (by simpa [blk] using hk)⟩, by simp, ?_⟩
        · obtain ⟨m, hm'⟩ : ∃ m, l.length = m + 1 := ⟨l.length - 1, by omega⟩
          rw [hm'] at hst ⊢
          have hzv : (zeroValue e).run P w = .ok z w := by simp [zeroValue, typeInfo, i1, i2]
          simp only [Builtin.clear_]
          simp [run_underlying ht, hzv, hst]
        · intro ao cap' he; injection he with e1 e2 e3; subst e1; subst e3
          exact ⟨by simp, .inr ⟨g, _, _, rfl, hb, setRow_heap w g cur _ e _ hg, by simp, hm, hlen, by simp⟩⟩
  obtain ⟨w', hr, k1, k2, k3⟩ := key
  refine wpList_plain hgd fun K hK => ?_
  unfold Oper.wp execOp
  simp only [ho, resolve, invoke, builtin, Sem.run_bind, Sem.run_pure, Result.andThen_ok, List.map_toArray, List.map_cons, List.map_nil, hs, hr]
  exact hK _ _ (h w' k1 k2 k3)
end
end Go.Proofs.Ytmhdhnipljonlaa
namespace Go.Proofs.Ytmhdhnipljonlaa
open Go.RowKit
set_option linter.unusedSimpArgs false
set_option linter.unusedVariables false
theorem flatMap_at {α : Type} [Inhabited α] {sz : Nat} {c : α → List Value} (hsz : ∀ x, (c x).length = sz) (hpos : 0 < sz) (l : List α) (k : Nat) (u : Value) (h : (l.flatMap c)[k]? = some u) :
    k / sz < l.length ∧ (c (nth l (k / sz)))[k % sz]? = some u := by
  have hk := (List.getElem?_eq_some_iff.1 h).1
  rw [flatMap_len hsz] at hk
  have h1 : k / sz < l.length := Nat.div_lt_of_lt_mul (by rw [Nat.mul_comm]; exact hk)
  refine ⟨h1, ?_⟩
  have h2 := flatMap_get hsz l (k / sz) (k % sz) h1 (Nat.mod_lt _ hpos)
  rw [Nat.mul_comm, Nat.div_add_mod] at h2
  rw [← h2, h]
theorem madeCells_flat {α : Type} [Inhabited α] {sz : Nat} {c : α → List Value} (hsz : ∀ x, (c x).length = sz) (hpos : 0 < sz) (z : Array Value) (x : α) (hz : z.toList = c x) (n : Nat) : madeCells z (n * sz) = ((List.replicate n x).flatMap c).toArray := by
  have hzs : z.size = sz := by rw [← Array.length_toList, hz, hsz]
  apply Array.toList_inj.1
  apply List.ext_getElem?
  intro j
  have hrep : ((List.replicate n x).flatMap c).length = n * sz := by rw [flatMap_len hsz, List.length_replicate]
  by_cases hj : j < n * sz
  · have h1 : j / sz < (List.replicate n x).length := by rw [List.length_replicate]; exact Nat.div_lt_of_lt_mul (by rw [Nat.mul_comm]; exact hj)
    have h2 := flatMap_get hsz (List.replicate n x) (j / sz) (j % sz) h1 (Nat.mod_lt _ hpos)
    rw [Nat.mul_comm, Nat.div_add_mod] at h2
    show (madeCells z (n * sz)).toList[j]? = ((List.replicate n x).flatMap c)[j]?
    rw [h2, nth_replicate n x _ (by simpa using h1), ← hz]
    have hm : j % sz < z.size := by rw [hzs]; exact Nat.mod_lt _ hpos
    simp only [madeCells, Array.toList_map, Array.toList_range, List.getElem?_map, List.getElem?_range hj, Option.map_some, hzs]
    rw [getElem!_pos z _ hm]; simp [hm]
  · rw [List.getElem?_eq_none (by simp [madeCells]; omega), List.getElem?_eq_none (by simp only [hrep]; omega)]
theorem blk_slice (ao : Option Addr) (n k n' k' : Nat) : blk (.slice ao n k) = blk (.slice ao n' k') := by cases ao <;> rfl
theorem cells_new {W : World} {C : Array Value} {cs : List Value} {e : TypeId} {fr : Nat × Nat} {g : Nat} (hg : g = W.heap.size) (hC : C = cs.toArray) : ∀ i u, cs[i]? = some u → (W.alloc (.cells C e fr)).cell? ⟨g, i, none⟩ = some u := by
  intro i u h
  subst hg; subst hC
  rw [cell_of_row _ W.heap.size i _ e fr (heap_alloc_new W _)]
  simpa using h
theorem Blk.fresh {w W : World} {C : Array Value} {xs : List Value} {e : TypeId} {g : Nat} (hg : g = w.heap.size) (hC : C = xs.toArray) (hu : Upd [] (w.alloc (.cells C e)) W) : Blk W g e xs := by
  subst hg; subst hC; exact (Blk.new w e xs).upd hu (by simp)
section
variable {P : Program} {ops : Array Oper} {rest : List Oper} {o : Oper} {a : Act} {w w' : World} {Q : Exit → Act → World → Prop} {K : Act → World → Prop} {E : Prop}
theorem run_appN {α : Type} [Inhabited α] {sz : Nat} {c : α → List Value} (hsz : ∀ x, (c x).length = sz) (hpos : 0 < sz) (hone : ∀ x, ∀ u ∈ c x, u.oneCell' = true) {t ty e : TypeId}
    {z : Value} {bytes base : Nat} (ht : P.underlying t = some (.slice e)) (hi : (P.info? e).map (fun i => (i.zero, i.size, i.bytes)) = some (some z, sz, bytes)) (hz : z.cells.size = sz)
    (v u : Value) (l m : List α) (hv : OwnN sz c base e w v l) (hu : RdN sz c w u m) (hb : (l.length + m.length) * bytes ≤ 140737488355328) (hl : l.length + m.length ≤ maxLen) (hbase : base ≤ w.heap.size) :
    ∃ v' w', (Builtin.append_ #[t, t] ty #[v, u]).run P w = .ok v' w' ∧ OwnN sz c base e w' v' (l ++ m) ∧ Upd (blk v) w w' ∧ (∀ x ∈ blk v', x ∈ blk v ∨ w.heap.size ≤ x) := by
  obtain ⟨i, h1, h2, h3, h4⟩ := info_parts hi
  obtain ⟨A, cap, rfl, hle, hcm, hcell0⟩ := hu
  by_cases hne : m = []
  · subst hne
    have hsz' : (P.info? e).map (·.size) = some sz := by simp [h1, h3]
    obtain ⟨ao, n, k, rfl, hnk⟩ : ∃ ao n k, v = .slice ao n k ∧ n ≤ k := by
      rcases hv.2 with ⟨rfl, _⟩ | ⟨g, cap', cur, rfl, _, _, q, _⟩
      · exact ⟨none, 0, 0, rfl, Nat.le_refl _⟩
      · exact ⟨_, _, _, rfl, q⟩
    exact ⟨_, w, run_app_nothing ht hsz' ao A n k cap hnk, by rw [List.append_nil]; exact hv, Upd.refl _ _, fun x hx => .inl hx⟩
  · obtain ⟨b, off, rfl, hcell⟩ := hcell0 hne
    have hnews : ∀ j u, (m.flatMap c)[j]? = some u → w.cell? ((⟨b, off, none⟩ : Addr).add j) = some u := fun j u hj => by
      rw [add_none]
      obtain ⟨q1, q2⟩ := flatMap_at hsz hpos m j u hj
      have q3 := hcell (j / sz) q1 (j % sz) (Nat.mod_lt _ hpos)
      rw [Nat.mul_comm (j / sz) sz, Nat.div_add_mod] at q3
      rw [q3, q2]
    obtain ⟨v', w', hr, g1, g2, _, g3⟩ := run_append_own_at (P := P) w base t ty e i z sz bytes ht h1 h2 h3 h4 hz hpos v l.length (l.flatMap c) hv ⟨b, off, none⟩ m.length cap (m.flatMap c) (flatMap_len hsz m) hnews
      (fun u hu => by obtain ⟨x, _, hx⟩ := List.mem_flatMap.1 hu; exact hone x u hx) hl hb hbase
    have hown : OwnN sz c base e w' v' (l ++ m) := by
      unfold OwnN; rw [List.length_append, List.flatMap_append]; exact g1
    refine ⟨v', w', hr, hown, by rw [blk_own]; exact Upd.of_grown g2, ?_⟩
    intro x hx
    rw [blk_own] at hx
    rcases g3 with g3 | g3
    · rw [g3, ← blk_own] at hx; exact .inl hx
    · rw [g3] at hx; simp at hx; exact .inr (by omega)
theorem wp_app_of (s x : Operand) {t : TypeId} (ho : o.op = .call { callee := .builtin .append, args := #[s, x], argTypes := #[t, t] }) (v u : Value) (hs : a.eval s = v) (hx : a.eval x = u)
    {R : Value → World → Prop} (hr : ∃ v' w', (Builtin.append_ #[t, t] o.type #[v, u]).run P w = .ok v' w' ∧ R v' w') (h : ∀ v' w', R v' w' → K (a.put o.dst v') w') : o.wp P a w K Q := by
  obtain ⟨v', w', hr, hR⟩ := hr
  unfold Oper.wp execOp
  simp only [ho, resolve, invoke, builtin, Sem.run_bind, Sem.run_pure, Result.andThen_ok, List.map_toArray, List.map_cons, List.map_nil, hs, hx, hr]
  exact h v' w' hR
theorem wpList_app_of (hgd : o.guard = none) (s x : Operand) {t : TypeId} (ho : o.op = .call { callee := .builtin .append, args := #[s, x], argTypes := #[t, t] }) (v u : Value) (hs : a.eval s = v) (hx : a.eval x = u)
    {R : Value → World → Prop} (hr : ∃ v' w', (Builtin.append_ #[t, t] o.type #[v, u]).run P w = .ok v' w' ∧ R v' w') (h : ∀ v' w', R v' w' → wpList P ops Q rest (a.put o.dst v') w') : wpList P ops Q (o :: rest) a w :=
  wpList_plain hgd fun K hK => wp_app_of s x ho v u hs hx hr fun v' w' hR => hK _ _ (h v' w' hR)
theorem step_app_of (hgd : o.guard = none) (s x : Operand) {t : TypeId} (ho : o.op = .call { callee := .builtin .append, args := #[s, x], argTypes := #[t, t] }) (v u : Value) (hs : a.eval s = v) (hx : a.eval x = u)
    {R : Value → World → Prop} (hr : ∃ v' w', (Builtin.append_ #[t, t] o.type #[v, u]).run P w = .ok v' w' ∧ R v' w') (h : ∀ v' w', R v' w' → K (a.put o.dst v') w') :
    if Region.wanted o (yielded ops a.tmps) = true then Oper.wp P o a w K Q else E := by
  have hw : Region.wanted o (yielded ops a.tmps) = true := by simp [Region.wanted, hgd]
  rw [if_pos hw]
  exact wp_app_of s x ho v u hs hx hr h
end
end Go.Proofs.Ytmhdhnipljonlaa
namespace Go.Proofs.Ytmhdhnipljonlaa
open Go.ChangeShapes Go.WideShapes Go.ChangeAt Go.RowKit
set_option linter.unusedSimpArgs false
set_option linter.unusedVariables false

theorem trodAll_below {H : Type} {enc : TypeId × Value → H} {P : Program} (hl : laidOutB P = true) {W W' : World} (hb : Below W.heap.size W W') :
    ∀ (ts : List TypeId) (vs : List Value) (ds : List (DataW H)) (ps : List MemPlace), (∀ t ∈ ts, P.readableRec t = true ∧ t < P.types.size) →
      DataW.TrodAll enc P W 0 (fun _ => true) true ts vs ds ps → DataW.TrodAll enc P W' 0 (fun b => decide (b < W.heap.size)) true ts vs ds ps
  | [], [], [], ps, _, h => h
  | t :: ts, v :: vs, d :: ds, ps, hr, h => by
    obtain ⟨p, q, h1, h2, rfl⟩ := h
    have hlt : ∀ x ∈ p, x.block < W.heap.size := by obtain ⟨m, hm⟩ := h1; exact DataW.trod_lt m _ _ _ hm
    exact ⟨p, q, Below.trod hl (hr t (by simp)).1 (hr t (by simp)).2 h1 hb hlt, trodAll_below hl hb ts vs ds q (fun t' ht' => hr t' (List.mem_cons_of_mem _ ht')) h2, rfl⟩
  | [], [], _ :: _, _, _, h | [], _ :: _, _, _, _, h | _ :: _, [], _, _, _, h | _ :: _, _ :: _, [], _, _, h => by simp [DataW.TrodAll] at h

theorem trodAll_len {H : Type} {enc : TypeId × Value → H} {P : Program} {W : World} {sp : Nat → Bool} :
    ∀ (ts : List TypeId) (vs : List Value) (ds : List (DataW H)) (ps : List MemPlace), DataW.TrodAll enc P W 0 sp true ts vs ds ps → ds.length = ts.length
  | [], [], [], ps, h => rfl
  | t :: ts, v :: vs, d :: ds, ps, h => by
    obtain ⟨p, q, h1, h2, rfl⟩ := h
    simp [trodAll_len ts vs ds q h2]
  | [], [], _ :: _, _, h | [], _ :: _, _, _, h | _ :: _, [], _, _, h | _ :: _, _ :: _, [], _, h => by simp [DataW.TrodAll] at h

/-- What a law's walk owes. -/
def LawCalls (P : Program) (f : FuncId) (fn : Func) (H : Type) (enc : TypeId × Value → H) (k : List (DataW H) → Prop) : Prop :=
  ∀ (W : World) (base : Nat) (args : Array Value) (ds : List (DataW H)) (ps : List MemPlace),
    (∀ (j : Nat) t v, fn.params[j]? = some t → args[j]? = some v → Value.okWide P W .any base t v) →
    DataW.TrodAll enc P W 0 (fun _ => true) true fn.params.toList args.toList ds ps →
    (DataW.weightsEach P fn.params.toList ds).all (· ≤ reachBytes) = true → k ds →
    Calls P f args W fun e W' => e = .returned (.bool true) ∧ Upd [] W W'

theorem law_post {H : Type} {enc : TypeId × Value → H} {P : Program} {fn : Func} {s : ChangeSpec} (hl : laidOutB P = true) (hr : ∀ t ∈ fn.params.toList, P.readableRec t = true ∧ t < P.types.size)
    (hs : s.vars = []) (tb : TypeId) (hres : fn.resultTypes = #[tb]) (hb : P.underlying tb = some .bool)
    (hfn : ∀ (ds : List (DataW H)), ds.length = fn.params.size → (s.fn H ds).results = [.lit (.bool true)] ∧ (s.fn H ds).args = ds ∧ (s.fn H ds).vars = [])
    {W W' : World} {args : Array Value} {ds gs : List (DataW H)} {before : List MemPlace}
    (hW : DataW.Whole enc P fn.params.toList s.vars false W args.toList ds gs before) (hu : Upd [] W W') :
    s.post enc P fn false true false false W args (.bool true) W' := by
  have hW' := hW
  obtain ⟨p, q, hA, hV, rfl, hfz, hnd⟩ := hW
  have hlen := trodAll_len _ _ _ _ hA
  rw [hs] at hV
  obtain ⟨rfl, rfl⟩ := trodVars_none hV
  obtain ⟨g1, g2, g3⟩ := hfn ds (by simpa using hlen)
  refine ⟨ds, [], p ++ [], [], p, [], hW', ?_, ?_, ?_, hu.below.frame _, fun h => by cases h⟩
  · rw [List.append_nil, g1, hres]; exact trodAll_mk1 (shut_bool hb _)
  · rw [List.append_nil, g2]; exact trodAll_below hl hu.below _ _ _ _ hr hA
  · rw [List.append_nil, g3, hs]; rfl

theorem law_said {C : Checked} {os : Os} {f : FuncId} {fn : Func} {s : ChangeSpec} {H : Type} {enc : TypeId × Value → H}
    (own : ownKnob C.prog.godebug = none) (started : os.Started) (noInit : C.prog.inits.idxOf? f = none) (hf : C.prog.funcs[f]? = some fn)
    (witness : ∃ (w : World) (tape : Tape) (i : Input), w.os = os ∧ (w.forCall tape i).Shaped C.prog ∧ i.vars = [] ∧ Input.okWide C.prog (w.forCall tape i) .any w.heap.size f i ∧
      s.pre6 enc C.prog fn [] false (w.forCall tape i).memory i.args ∧ ({} : Assume).holds C.prog (lone (Frame.enter C.prog f i.args .normal) [] (w.forCall tape i)))
    (hl : laidOutB C.prog = true) (hr : ∀ t ∈ fn.params.toList, C.prog.readableRec t = true ∧ t < C.prog.types.size)
    (hs : s.vars = []) (tb : TypeId) (hres : fn.resultTypes = #[tb]) (hb : C.prog.underlying tb = some .bool)
    (hfn : ∀ (ds : List (DataW H)), ds.length = fn.params.size → (s.fn H ds).results = [.lit (.bool true)] ∧ (s.fn H ds).args = ds ∧ (s.fn H ds).vars = [])
    (walk : LawCalls C.prog f fn H enc (fun _ => True)) :
    ReturnsInHanded {} C os f .any (s.pre6 enc C.prog fn [] false) (s.post enc C.prog fn false true false false) := by
  refine returnsInHanded_of_change_sized own started noInit hf witness ?_
  intro W base args ds gs before hval hW hc hsz hh
  have hW2 := hW
  obtain ⟨p, q, hA, hV, rfl, hfz, hnd⟩ := hW2
  have hV' := hV
  rw [hs] at hV'
  obtain ⟨rfl, rfl⟩ := trodVars_none hV'
  have hvt : s.plain.varTypes C.prog = [] := by unfold DataSpec.varTypes; show List.filterMap _ s.vars = []; rw [hs]; rfl
  rw [hvt, List.append_nil, List.append_nil] at hsz
  refine (walk W base args ds p hval hA hsz trivial).mono fun e W' ⟨he, hu⟩ => ?_
  subst he
  exact ⟨_, rfl, law_post hl hr hs tb hres hb hfn hW hu⟩

theorem law_upto {C : Checked} {os : Os} {f : FuncId} {fn : Func} {s : OpenSpec} {k : (H : Type) → List (DataW H) → Bool} (hk : s.cond = some k) {F : Stop.Interp} {H : Type} {enc : TypeId × Value → H}
    (own : ownKnob C.prog.godebug = none) (started : os.Started) (noInit : C.prog.inits.idxOf? f = none) (hf : C.prog.funcs[f]? = some fn)
    (witness : ∃ (w : World) (tape : Tape) (i : Input), w.os = os ∧ (w.forCall tape i).Shaped C.prog ∧ i.vars = [] ∧ Input.okWide C.prog (w.forCall tape i) .any w.heap.size f i ∧
      s.pre6 enc C.prog fn [] false (w.forCall tape i).memory i.args ∧ ({} : Assume).holds C.prog (lone (Frame.enter C.prog f i.args .normal) [] (w.forCall tape i)))
    (hl : laidOutB C.prog = true) (hr : ∀ t ∈ fn.params.toList, C.prog.readableRec t = true ∧ t < C.prog.types.size)
    (hs : (s.at F).vars = []) (hs' : s.vars = []) (hs2 : s.bare.plain.vars = []) (tb : TypeId) (hres : fn.resultTypes = #[tb]) (hb : C.prog.underlying tb = some .bool)
    (hfn : ∀ (ds : List (DataW H)), ds.length = fn.params.size → ((s.at F).fn H ds).results = [.lit (.bool true)] ∧ ((s.at F).fn H ds).args = ds ∧ ((s.at F).fn H ds).vars = [])
    (walk : LawCalls C.prog f fn H enc (fun ds => k H ds = true)) :
    ReturnsInHanded {} C os f .any (s.pre6 enc C.prog fn [] false) ((s.at F).post enc C.prog fn false true false false) := by
  refine returnsInHanded_of_cond_sized hk own started noInit hf witness ?_
  intro W base args ds gs before hval hW hc hkk hsz hh
  have hW2 := hW
  obtain ⟨p, q, hA, hV, rfl, hfz, hnd⟩ := hW2
  have hV' := hV
  rw [hs'] at hV'
  obtain ⟨rfl, rfl⟩ := trodVars_none hV'
  have hvt : s.bare.plain.varTypes C.prog = [] := by unfold DataSpec.varTypes; rw [hs2]; rfl
  rw [hvt, List.append_nil, List.append_nil] at hsz
  rw [List.append_nil] at hkk
  refine (walk W base args ds p hval hA hsz hkk).mono fun e W' ⟨he, hu⟩ => ?_
  subst he
  exact ⟨_, rfl, law_post hl hr hs tb hres hb hfn (by rw [hs'] at hW; rw [hs]; exact hW) hu⟩
end Go.Proofs.Ytmhdhnipljonlaa
namespace Go.Proofs.Ytmhdhnipljonlaa
open Go.ChangeShapes Go.WideShapes Go.ChangeAt Go.RowKit Go.Deep
open Go.ChangeMaps (open_string shut_string)
set_option linter.unusedSimpArgs false
set_option linter.unusedVariables false

theorem exists_list {α : Type} [Inhabited α] (n : Nat) (p : Nat → α → Prop) (h : ∀ i, i < n → ∃ x, p i x) : ∃ l : List α, l.length = n ∧ ∀ i, i < n → p i (nth l i) := by
  induction n with
  | zero => exact ⟨[], rfl, fun i hi => absurd hi (by omega)⟩
  | succ n ih =>
    obtain ⟨l, hl, hp⟩ := ih (fun i hi => h i (by omega))
    obtain ⟨x, hx⟩ := h n (by omega)
    refine ⟨l ++ [x], by simp [hl], fun i hi => ?_⟩
    by_cases e : i = n
    · subst e; rw [nth_of _ _ x (by rw [List.getElem?_append_right (by omega)]; simp [hl])]; exact hx
    · rw [nth_of _ _ (nth l i) (by rw [List.getElem?_append_left (by omega), nth_get l i (by omega)]; exact List.getElem?_eq_getElem (by omega))]; exact hp i (by omega)

/-- So many elements has a reading. -/
def DLen {H : Type} (d : DataW H) (n : Nat) : Prop := n = 0 ∨ ∃ es sp, d = .slice es sp ∧ es.length = n
section
variable {H : Type} {enc : TypeId × Value → H} {P : Program} {w : World} {b0 : Nat} {held : Bool}
theorem open_rd {α : Type} [Inhabited α] (c : α → Value) (good : α → Prop) {t e : TypeId} {v : Value} {d : DataW H} {p : List MemPlace} (ht : P.underlying t = some (.slice e)) (hc : P.cellsOf e = 1)
    (hel : ∀ n v y, DataW.trod enc P w 0 (fun _ => true) held n e [v] = some y → ∃ x, v = c x ∧ good x)
    (hval : Value.okWide P w .any b0 t v) (h : DataW.Trod enc P w 0 (fun _ => true) held t v d p) :
    ∃ l : List α, Rd c w v l ∧ (∀ x ∈ l, good x) ∧ (∀ (ts : List TypeId) (ds : List (DataW H)) (j : Nat), (DataW.weightsEach P ts ds).all (· ≤ reachBytes) = true → ts[j]? = some t → ds[j]? = some d → l.length * P.bytesOf e ≤ reachBytes) ∧ DLen d l.length := by
  obtain ⟨a0, len0, cap0, rfl⟩ := okWide_slice ht hval
  obtain ⟨fuel, hf⟩ := h
  rcases open_slice1 ht hc hf with ⟨hcs, hx⟩ | ⟨a, len, cap, m, n, V, D, Pl, hcs, hb, hl, hm, hmm, hx, hi⟩
  · simp [Value.cells] at hcs
    obtain ⟨rfl, rfl, rfl⟩ := hcs
    exact ⟨[], Rd.nil w, by simp, by intros; simp, .inl rfl⟩
  · simp [Value.cells] at hcs
    obtain ⟨rfl, rfl, rfl⟩ := hcs
    simp only [if_true] at hmm
    subst hmm
    obtain ⟨l, hl', hp⟩ := exists_list len0 (fun i x => V i = c x ∧ good x) (fun i hi' => hel _ _ _ (hi i (by omega)).2)
    refine ⟨l, ?_, ?_, ?_, ?_⟩
    · refine ⟨_, _, by rw [hl'], by omega, hm, fun hne => ?_⟩
      have hpos : 0 < len0 := by rw [← hl']; exact List.length_pos_iff.2 hne
      obtain ⟨b, off, spot⟩ := a
      have hspot : spot = none := by simpa [Addr.add] using World.cell?_spot (hi 0 (by omega)).1
      subst hspot
      refine ⟨b, off, rfl, fun j hj => ?_⟩
      have h1 := (hi j (by omega)).1
      have h2 := hp j (by omega)
      have h3 : (⟨b, off, none⟩ : Addr).add j = ⟨b, off + j, none⟩ := by unfold Addr.add; split <;> simp_all
      rw [h3, h2.1] at h1
      exact h1
    · intro x hx'
      obtain ⟨i, hi', rfl⟩ := List.mem_iff_getElem.1 hx'
      have := (hp i (by omega)).2
      rwa [nth_get l i hi'] at this
    · intro ts ds j hall htj hdj
      have hd := congrArg Prod.fst hx
      simp only at hd
      rw [hd] at hdj
      have := sized_slice hall htj hdj ht
      simp only [List.length_map, List.length_range] at this
      exact Nat.le_trans (Nat.mul_le_mul_right _ (by omega)) this
    · exact .inr ⟨_, _, congrArg Prod.fst hx, by simp [hl']⟩

theorem el_int {k : IntKind} {e : TypeId} (he : P.underlying e = some (.int k)) (n : Nat) (v : Value) (y : DataW H × List MemPlace) (h : DataW.trod enc P w 0 (fun _ => true) held n e [v] = some y) :
    ∃ x : Int, v = .int k x ∧ (Lit.int k x).wf = true := by
  cases n with
  | zero => simp [DataW.trod] at h
  | succ n =>
    simp only [DataW.trod, he] at h
    cases v <;> simp at h
    rename_i k' x
    obtain ⟨⟨rfl, h2⟩, h3⟩ := h
    exact ⟨x, rfl, h2⟩
theorem el_byte {e : TypeId} (he : P.underlying e = some (.int .u8)) (n : Nat) (v : Value) (y : DataW H × List MemPlace) (h : DataW.trod enc P w 0 (fun _ => true) held n e [v] = some y) :
    ∃ x : UInt8, v = bv x ∧ True := by
  obtain ⟨x, rfl, hx⟩ := el_int he n v y h
  have hb : 0 ≤ x ∧ x ≤ 255 := by simpa [Lit.wf, IntKind.min, IntKind.max, IntKind.signed, IntKind.bits] using hx
  refine ⟨UInt8.ofNat x.toNat, ?_, trivial⟩
  have : (UInt8.ofNat x.toNat).toNat = x.toNat := by simp; omega
  rw [bv, this]; congr 1; omega
theorem open_bytes {t e : TypeId} {v : Value} {d : DataW H} {p : List MemPlace} (ht : P.underlying t = some (.slice e)) (he : P.underlying e = some (.int .u8)) (hc : P.cellsOf e = 1) (hby : P.bytesOf e = 1)
    (hval : Value.okWide P w .any b0 t v) (h : DataW.Trod enc P w 0 (fun _ => true) held t v d p) :
    ∃ l : List UInt8, Bytes w v l ∧ (∀ (ts : List TypeId) (ds : List (DataW H)) (j : Nat), (DataW.weightsEach P ts ds).all (· ≤ reachBytes) = true → ts[j]? = some t → ds[j]? = some d → l.length ≤ 140737488351232) ∧ DLen d l.length := by
  obtain ⟨l, h1, _, h3, h4⟩ := open_rd bv (fun _ => True) ht hc (el_byte he) hval h
  refine ⟨l, h1, fun ts ds j a b c => ?_, h4⟩
  have := h3 ts ds j a b c
  rw [hby, Nat.mul_one] at this
  exact this
abbrev iv (x : Int) : Value := .int .i64 x
def I64 (x : Int) : Prop := -9223372036854775808 ≤ x ∧ x ≤ 9223372036854775807
theorem i64_of {x : Int} (h : (Lit.int .i64 x).wf = true) : I64 x := by simpa [I64, Lit.wf, IntKind.min, IntKind.max, IntKind.signed, IntKind.bits] using h
theorem open_nums {t e : TypeId} {v : Value} {d : DataW H} {p : List MemPlace} (ht : P.underlying t = some (.slice e)) (he : P.underlying e = some (.int .i64)) (hc : P.cellsOf e = 1) (hby : P.bytesOf e = 8)
    (hval : Value.okWide P w .any b0 t v) (h : DataW.Trod enc P w 0 (fun _ => true) held t v d p) :
    ∃ l : List Int, Rd iv w v l ∧ (∀ x ∈ l, I64 x) ∧ (∀ (ts : List TypeId) (ds : List (DataW H)) (j : Nat), (DataW.weightsEach P ts ds).all (· ≤ reachBytes) = true → ts[j]? = some t → ds[j]? = some d → l.length * 8 ≤ 140737488351232) ∧ DLen d l.length := by
  obtain ⟨l, h1, h2, h3, h4⟩ := open_rd iv (fun x => (Lit.int .i64 x).wf = true) ht hc (fun n v y hh => el_int he n v y hh) hval h
  refine ⟨l, h1, fun x hx => i64_of (h2 x hx), fun ts ds j a b c => ?_, h4⟩
  have := h3 ts ds j a b c
  rw [hby] at this
  exact this
theorem open_num {t : TypeId} {v : Value} {d : DataW H} {p : List MemPlace} (ht : P.underlying t = some (.int .i64)) (hval : Value.okWide P w .any b0 t v) (h : DataW.Trod enc P w 0 (fun _ => true) held t v d p) :
    ∃ x : Int, v = iv x ∧ I64 x := by
  obtain ⟨a, rfl, _, _, hw⟩ := open_int ht hval h
  exact ⟨a, rfl, i64_of hw⟩
theorem open_u32 {t : TypeId} {v : Value} {d : DataW H} {p : List MemPlace} (ht : P.underlying t = some (.int .u32)) (hval : Value.okWide P w .any b0 t v) (h : DataW.Trod enc P w 0 (fun _ => true) held t v d p) :
    ∃ x : BitVec 32, v = .int .u32 (x.toNat : Int) := by
  obtain ⟨a, rfl, _, _, hw⟩ := open_int ht hval h
  have hb : 0 ≤ a ∧ a ≤ 4294967295 := by simpa [Lit.wf, IntKind.min, IntKind.max, IntKind.signed, IntKind.bits] using hw
  refine ⟨BitVec.ofNat 32 a.toNat, ?_⟩
  rw [BitVec.toNat_ofNat, Nat.mod_eq_of_lt (by omega)]; congr 1; omega

/-- A slice that is read: its value, and the reading of it. -/
theorem trod_slice_form {t e : TypeId} {n : Nat} {v : Value} {y : DataW H × List MemPlace} (ht : P.underlying t = some (.slice e)) (h : DataW.trod enc P w 0 (fun _ => true) held n t [v] = some y) :
    ∃ a k c, v = .slice a k c := by
  rcases open_slice ht h with ⟨hcs, _⟩ | ⟨a, len, cap, m, n, D, Pl, hcs, _⟩
  · simp at hcs; exact ⟨_, _, _, hcs⟩
  · simp at hcs; exact ⟨_, _, _, hcs⟩
theorem el_bytes {t e : TypeId} (ht : P.underlying t = some (.slice e)) (he : P.underlying e = some (.int .u8)) (hc : P.cellsOf e = 1) (n : Nat) (v : Value) (y : DataW H × List MemPlace) (h : DataW.trod enc P w 0 (fun _ => true) held n t [v] = some y) :
    ∃ x : Value, v = id x ∧ ∃ l : List UInt8, Bytes w x l := by
  obtain ⟨a0, len0, cap0, rfl⟩ := trod_slice_form ht h
  refine ⟨_, rfl, ?_⟩
  rcases open_slice1 ht hc h with ⟨hcs, hx⟩ | ⟨a, len, cap, m, n, V, D, Pl, hcs, hb, hl, hm, hmm, hx, hi⟩
  · simp at hcs
    obtain ⟨rfl, rfl, rfl⟩ := hcs
    exact ⟨[], Rd.nil w⟩
  · simp at hcs
    obtain ⟨rfl, rfl, rfl⟩ := hcs
    simp only [if_true] at hmm
    subst hmm
    obtain ⟨l, hl', hp⟩ := exists_list len0 (fun i x => V i = bv x ∧ True) (fun i hi' => el_byte he _ _ _ (hi i (by omega)).2)
    refine ⟨l, _, _, by rw [hl'], by omega, hm, fun hne => ?_⟩
    have hpos : 0 < len0 := by rw [← hl']; exact List.length_pos_iff.2 hne
    obtain ⟨b, off, spot⟩ := a
    have hspot : spot = none := by simpa [Addr.add] using World.cell?_spot (hi 0 (by omega)).1
    subst hspot
    refine ⟨b, off, rfl, fun j hj => ?_⟩
    have h1 := (hi j (by omega)).1
    have h2 := hp j (by omega)
    have h3 : (⟨b, off, none⟩ : Addr).add j = ⟨b, off + j, none⟩ := by unfold Addr.add; split <;> simp_all
    rw [h3, h2.1] at h1
    exact h1
theorem open_parts {t t2 e : TypeId} {v : Value} {d : DataW H} {p : List MemPlace} (ht : P.underlying t = some (.slice t2)) (hc2 : P.cellsOf t2 = 1) (ht2 : P.underlying t2 = some (.slice e)) (he : P.underlying e = some (.int .u8)) (hc : P.cellsOf e = 1)
    (hval : Value.okWide P w .any b0 t v) (h : DataW.Trod enc P w 0 (fun _ => true) held t v d p) :
    ∃ (vs : List Value) (ls : List (List UInt8)), vs.length = ls.length ∧ Rd id w v vs ∧ ∀ j, j < ls.length → Bytes w (nth vs j) (nth ls j) := by
  obtain ⟨vs, h1, h2, _, _⟩ := open_rd (α := Value) id (fun x => ∃ l : List UInt8, Bytes w x l) ht hc2 (el_bytes ht2 he hc) hval h
  obtain ⟨ls, hl, hp⟩ := exists_list vs.length (fun i l => Bytes w (nth vs i) l) (fun i hi => h2 _ (by rw [nth_get vs i hi]; exact List.getElem_mem hi))
  exact ⟨vs, ls, hl.symm, h1, fun j hj => hp j (by omega)⟩
end
end Go.Proofs.Ytmhdhnipljonlaa
namespace Go.Proofs.Ytmhdhnipljonlaa
/-- A slice's value. -/
structure Sl where
  a : Option Addr
  n : Nat
  k : Nat
instance : Inhabited Sl := ⟨⟨none, 0, 0⟩⟩
abbrev slv (s : Sl) : Value := .slice s.a s.n s.k
theorem slv_one (s : Sl) : (slv s).oneCell' = true := rfl
end Go.Proofs.Ytmhdhnipljonlaa
namespace Go.Proofs.Ytmhdhnipljonlaa
open Go.RowKit
set_option linter.unusedSimpArgs false
set_option linter.unusedVariables false
theorem same_ext {α : Type} [Inhabited α] {l m : List α} (h : l.length = m.length) (he : ∀ j, j < l.length → nth l j = nth m j) : l = m := by
  apply List.ext_getElem h
  intro i h1 h2
  have := he i h1
  rwa [nth_get l i h1, nth_get m i h2] at this
theorem byte_eq {x y : UInt8} : (((x.toNat : Int) != (y.toNat : Int)) = true ↔ x ≠ y) := by
  simp only [bne_iff_ne, ne_eq, Int.natCast_inj]
  exact not_congr ⟨fun h => UInt8.toNat_inj.1 h, fun h => by rw [h]⟩

/-- A number brought into a range. -/
def within (n lo hi : Int) : Int := lo + n % (hi - lo + 1)
theorem within_in (n lo hi : Int) (h : lo ≤ hi) : lo ≤ within n lo hi ∧ within n lo hi ≤ hi := by
  unfold within
  have h1 := Int.emod_nonneg n (show hi - lo + 1 ≠ 0 by omega)
  have h2 := Int.emod_lt_of_pos n (show 0 < hi - lo + 1 by omega)
  omega
theorem within_neg (n d : Int) (hd : 0 < d) (h : n.tmod d < 0) : n.tmod d + d = n % d := by
  have h1 := Int.tmod_eq_emod (a := n) (b := d)
  have h2 := Int.emod_nonneg n (show d ≠ 0 by omega)
  split at h1 <;> omega
theorem within_pos (n d : Int) (hd : 0 < d) (h : 0 ≤ n.tmod d) : n.tmod d = n % d := by
  have h1 := Int.tmod_eq_emod (a := n) (b := d)
  have h2 := Int.emod_lt_of_pos n (show 0 < d by omega)
  split at h1
  · omega
  · have : (d.natAbs : Int) = d := by omega
    omega
theorem tmod_bd (n d : Int) (hd : 0 < d) : n.tmod d ≤ d - 1 ∧ -(d - 1) ≤ n.tmod d := by
  have h1 := Int.tmod_eq_emod (a := n) (b := d)
  have h2 := Int.emod_lt_of_pos n (show 0 < d by omega)
  have h3 := Int.emod_nonneg n (show d ≠ 0 by omega)
  have h4 : (d.natAbs : Int) = d := by omega
  split at h1
  · omega
  · rename_i hc
    have h5 : ¬ d ∣ n := fun q => hc (.inr q)
    have h6 : n % d ≠ 0 := fun q => h5 (Int.dvd_of_emod_eq_zero q)
    omega
theorem bv_one (x : UInt8) : (bv x).oneCell' = true := rfl

/-- A list with room behind it, all of one mark: a block of the call's own. -/
def Roomed {α : Type} (c : α → Value) (e : TypeId) (w w' : World) (v : Value) (l : List α) (mark : α) : Prop :=
  v = .slice (some ⟨w.heap.size, 0, none⟩) (l.length + 80) (l.length + 80) ∧ Blk w' w.heap.size e ((l ++ List.replicate 80 mark).map c) ∧ Upd [] w w'
theorem set_mid {α : Type} (a : List α) (k r : Nat) (m z : α) (i : Nat) (hi : i = a.length + k) (hr : 0 < r) : (a ++ (List.replicate k m ++ List.replicate r z)).set i m = a ++ (List.replicate (k + 1) m ++ List.replicate (r - 1) z) := by
  subst hi
  rw [List.set_append_right _ _ (by omega), Nat.add_sub_cancel_left, List.set_append_right _ _ (by simp)]
  obtain ⟨r, rfl⟩ : ∃ q, r = q + 1 := ⟨r - 1, by omega⟩
  rw [List.replicate_succ' (n := k), List.replicate_succ (n := r)]; simp

theorem intact_split {α : Type} [Inhabited α] (f l : List α) (m : α) (h : f.length = l.length + 80) (h1 : f.take l.length = l) (h2 : ∀ j, l.length ≤ j → j < l.length + 80 → nth f j = m) : f = l ++ List.replicate 80 m := by
  apply same_ext (by simp [h])
  intro j hj
  by_cases hl : j < l.length
  · rw [nth_append_left _ _ _ hl, ← nth_take f l.length j hl, h1]
  · rw [nth_append_right _ _ _ (by omega), nth_replicate _ _ _ (by omega)]; exact h2 j (by omega) (by omega)
theorem intact_bad {α : Type} [Inhabited α] (f l : List α) (m : α) (j : Nat) (hj : l.length ≤ j) (hj2 : j < l.length + 80) (h : nth f j ≠ m) : f ≠ l ++ List.replicate 80 m := by
  intro e; apply h; rw [e, nth_append_right _ _ _ hj, nth_replicate _ _ _ (by omega)]

end Go.Proofs.Ytmhdhnipljonlaa
namespace Go.Proofs.Ytmhdhnipljonlaa
open Go.RowKit
set_option linter.unusedSimpArgs false
set_option linter.unusedVariables false
theorem bytesLoop_eq (s : ByteArray) : ∀ (n i : Nat) (r : List UInt8), s.size - i = n → ByteArray.toList.loop s i r = r.reverse ++ s.data.toList.drop i := by
  intro n
  induction n with
  | zero =>
    intro i r h
    unfold ByteArray.toList.loop
    have hs : s.data.size = s.size := rfl
    rw [if_neg (by omega), List.drop_eq_nil_of_le (by simp; omega)]; simp
  | succ n ih =>
    intro i r h
    unfold ByteArray.toList.loop
    have hs : s.data.size = s.size := rfl
    have hi : i < s.data.toList.length := by simp; omega
    rw [if_pos (by omega), ih (i + 1) _ (by omega), List.drop_eq_getElem_cons hi]
    have hd : i < s.data.size := by omega
    simp [ByteArray.get!]
    exact getElem!_pos s.data i hd
theorem strList_eq (s : ByteArray) : s.toList = s.data.toList := by
  unfold ByteArray.toList; rw [bytesLoop_eq s s.size 0 [] rfl]; simp
theorem str_inj (s t : ByteArray) (h : s.toList = t.toList) : s = t := by
  rw [strList_eq, strList_eq] at h
  cases s; cases t; congr 1; exact Array.toList_inj.1 h
theorem str_ne {s t : ByteArray} (h : (!s.toList == t.toList) = true) : s ≠ t := by rintro rfl; simp at h
theorem str_eq {s t : ByteArray} (h : (!s.toList == t.toList) = false) : s = t := str_inj _ _ (by simpa using h)
abbrev sv (s : ByteArray) : Value := .string s
end Go.Proofs.Ytmhdhnipljonlaa
namespace Go.Proofs.Ytmhdhnipljonlaa
abbrev fv (p : ByteArray × Sl) : Value := .agg #[sv p.1, slv p.2]
end Go.Proofs.Ytmhdhnipljonlaa
namespace Go.Proofs.Ytmhdhnipljonlaa
open Go.RowKit
set_option linter.unusedSimpArgs false
set_option linter.unusedVariables false
abbrev rcIF (p : Int × (ByteArray × Sl)) : List Value := [iv p.1, sv p.2.1, slv p.2.2]
theorem rcIF_len : ∀ p, (rcIF p).length = 3 := fun _ => rfl
theorem infoRowIF : (Try.prog.info? 132).map (fun i => (i.zero, i.size, i.bytes)) = some (some (.agg #[.int .i64 0, .string ⟨#[]⟩, .slice none 0 0]), 3, 48) := by kernel_rfl
abbrev ltIF : Int → Int → Bool := fun a b => decide (a < b)
/-- The table at g, its rows lv. -/
structure TBIF (base : Nat) (w : World) (g : Nat) (lv : Value) (l : List (Int × (ByteArray × Sl))) : Prop where
  tab : Blk w g 127 [lv]
  rows : OwnN 3 rcIF base 132 w lv l
  gb : base ≤ g
section
variable {base : Nat} {g : Nat} {lv : Value} {l : List (Int × (ByteArray × Sl))} {w w' : World}
theorem TBIF.upd (h : TBIF base w g lv l) {S : List Nat} (hu : Upd S w w') (hs : ∀ x ∈ g :: blk lv, x ∉ S) : TBIF base w' g lv l :=
  ⟨h.tab.upd hu (hs g (by simp)), h.rows.upd hu (fun x hx => hs x (by simp [hx])), h.gb⟩
theorem TBIF.upd0 (h : TBIF base w g lv l) (hu : Upd [] w w') : TBIF base w' g lv l := h.upd hu (by simp)
theorem TBIF.g_lv (h : TBIF base w g lv l) : g ∉ blk lv := fun e => by
  obtain ⟨C, f, hq⟩ := h.rows.typ g e
  exact h.tab.ne g hq (by decide) rfl
theorem TBIF.lt (h : TBIF base w g lv l) : ∀ x ∈ g :: blk lv, base ≤ x ∧ x < w.heap.size := by
  intro x hx
  rcases List.mem_cons.1 hx with rfl | hx
  · exact ⟨h.gb, h.tab.lt⟩
  · exact h.rows.ge x hx
theorem tLenIF_any (w : World) (hs : TBIF base w g lv l) :
    Calls Try.prog 51 #[.pointer (some ⟨g, 0, none⟩)] w fun e w' => e = .returned (.int .i64 (l.length : Int)) ∧ w = w' := by
  obtain ⟨ao, co, rfl, -⟩ := hs.rows.rd rcIF_len
  have c0 : w.cell? ⟨g, 0, none⟩ = some (.slice ao l.length co) := hs.tab.cell 0
  go_enter Try.func51, Try.ntmps51
  go_wp2
  go_ret
  exact ⟨rfl, rfl⟩
theorem tNewIF_any (w : World) :
    Calls Try.prog 47 #[] w fun e w' => e = .returned (.pointer (some ⟨w.heap.size, 0, none⟩)) ∧ TBIF w.heap.size w' w.heap.size (.slice none 0 0) [] ∧ Upd [] w w' := by
  go_enter Try.func47, Try.ntmps47
  go_wp2
  go_ret
  exact ⟨rfl, ⟨Blk.new w _ [.slice none 0 0], OwnN.nil _ _ _, Nat.le_refl _⟩, (Upd.refl [] w).alloc _⟩
set_option maxRecDepth 20000 in
set_option maxHeartbeats 1000000 in
theorem tFindIF_any (w : World) (k : Int) (hs : TBIF base w g lv l) (hr : Rising ltIF l) (hlen : l.length ≤ 100000) (hk : I64 k) :
    Calls Try.prog 82 #[.pointer (some ⟨g, 0, none⟩), iv k] w fun e w' => e = .returned (.tuple #[.int .i64 (below ltIF l k : Int), .bool (isIn ltIF l k)]) ∧ Upd [] w w' := by
  have HS := Lib.hid hs
  have HR := Lib.hid hr
  obtain ⟨ao, co, rfl, hlc, hcm, hcell⟩ := hs.rows.rd rcIF_len
  have c0 : w.cell? ⟨g, 0, none⟩ = some (.slice ao l.length co) := hs.tab.cell 0
  have HC := Lib.hid hcell
  clear hs hr hcell hcm
  go_enter Try.func82, Try.ntmps82
  go_wp2_with fail
  go_quiet (fail)
  have HU := Lib.hid ((Upd.refl [] w).drewN nq)
  generalize w.drewN nq = v at *
  replace c0 := HU.out.cell c0 (by simp)
  go_wp2_with fail
  go_loop [6, 7] (fun lo hi => ∃ a b : Nat, lo = .int .i64 a ∧ hi = .int .i64 b ∧ a ≤ b ∧ b ≤ l.length ∧ Hid (∀ j, j < a → ltIF (nth l j).1 k = true) ∧ Hid (∀ j, b ≤ j → j < l.length → ltIF (nth l j).1 k = false)) (fun lo hi => (intOf hi).toNat - (intOf lo).toNat)
  case atStart => exact ⟨0, l.length, rfl, rfl, Nat.zero_le _, Nat.le_refl _, fun j h => absurd h (by omega), fun j h1 h2 => absurd h1 (by omega)⟩
  case round =>
    obtain ⟨a, b, rfl, rfl, hab, hbl, hlo, hhi⟩ := hrel
    by_cases hlt : a < b
    · have hmid : (a + b) / 2 < l.length := by omega
      obtain ⟨bl, off, rfl, hc⟩ := HC.out (by intro h; simp [h] at hmid)
      have d0 : v.cell? ⟨bl, off + (a + b) / 2 * 3, none⟩ = some (iv (nth l ((a + b) / 2)).1) := HU.out.cell (hc _ hmid 0 (by omega)) (by simp)
      clear hc
      cases hcmp : ltIF (nth l ((a + b) / 2)).1 k with
      | true =>
        have HLO : Hid (∀ j, j < (a + b) / 2 + 1 → ltIF (nth l j).1 k = true) := fun j hj => HR.out.mono intOrd k j ((a + b) / 2) (by omega) hmid hcmp
        generalize (nth l ((a + b) / 2)).1 = m at *
        have hc1 : m < k := by simpa using hcmp
        clear hcmp
        go_wp2
        go_round
        case rel => exact ⟨(a + b) / 2 + 1, b, by go_num, rfl, by omega, hbl, HLO, hhi⟩
        case measure => simp [intOf]; omega
      | false =>
        have HHI : Hid (∀ j, (a + b) / 2 ≤ j → j < l.length → ltIF (nth l j).1 k = false) := fun j h1 h2 => by
          cases hq : ltIF (nth l j).1 k with
          | false => rfl
          | true => exact absurd ((HR.out.mono intOrd k _ j h1 h2 hq).symm.trans hcmp) (by simp)
        generalize (nth l ((a + b) / 2)).1 = m at *
        have hc1 : ¬ m < k := by simpa using hcmp
        clear hcmp
        go_wp2
        go_round
        case rel => exact ⟨a, (a + b) / 2, rfl, by go_num, by omega, by omega, hlo, HHI⟩
        case measure => simp [intOf]; omega
    · obtain rfl : a = b := by omega
      have hbel : below ltIF l k = a := below_eq l k a hbl hlo.out (fun h => hhi.out a (Nat.le_refl _) h)
      have HIN : Hid (isIn ltIF l k = decide (a < l.length ∧ (nth l a).1 = k)) := by unfold Hid isIn; rw [hbel]
      have HBEL := Lib.hid hbel
      clear hbel
      by_cases hal : a < l.length
      · obtain ⟨bl, off, rfl, hc⟩ := HC.out (by intro h; simp [h] at hal)
        have d0 : v.cell? ⟨bl, off + a * 3, none⟩ = some (iv (nth l a).1) := HU.out.cell (hc _ hal 0 (by omega)) (by simp)
        have HIN2 : Hid (isIn ltIF l k = decide ((nth l a).1 = k)) := by unfold Hid; rw [HIN.out]; simp [hal]
        clear hc
        generalize (nth l a).1 = m at *
        have q1 : (0 : Int) ≤ a := by omega
        have q2 : (a : Int) < l.length := by omega
        by_cases he : m = k
        · have t1 : (m == k) = true := by simpa using he
          have HF : Hid (isIn ltIF l k = true) := by unfold Hid; rw [HIN2.out]; simp [he]
          clear he
          go_wp2_with fail
          go_quiet (fail)
          go_wp2_with fail
          go_ret2
          exact ⟨by rw [HBEL.out, HF.out]; rfl, by first | exact HU.out.drewN _ | exact HU.out.drew⟩
        · have t1 : (m == k) = false := by simpa using he
          have HF : Hid (isIn ltIF l k = false) := by unfold Hid; rw [HIN2.out]; simp [he]
          clear he
          go_wp2_with fail
          go_quiet (fail)
          go_wp2_with fail
          go_ret2
          exact ⟨by rw [HBEL.out, HF.out]; rfl, by first | exact HU.out.drewN _ | exact HU.out.drew⟩
      · have HF : Hid (isIn ltIF l k = false) := by unfold Hid; rw [HIN.out]; simp [hal]
        have hd : decide (a < l.length) = false := by simpa using hal
        go_wp2_with fail
        go_quiet (fail)
        go_wp2_with fail
        go_ret2
        exact ⟨by rw [HBEL.out, HF.out]; rfl, by first | exact HU.out.drewN _ | exact HU.out.drew⟩
end
end Go.Proofs.Ytmhdhnipljonlaa
namespace Go.Proofs.Ytmhdhnipljonlaa
open Go.RowKit
set_option linter.unusedSimpArgs false
set_option linter.unusedVariables false
section
variable {P : Program}
theorem run_copyN (w : World) (dT sT ty elem : TypeId) (sz g o dLen dCap : Nat) (a : Addr) (sLen sCap : Nat) (cur : Array Value) (t : TypeId) (cs : List Value) (k : Nat)
    (hu : P.underlying dT = some (.slice elem)) (hs : (P.info? elem).map (·.size) = some sz)
    (hg : w.heap[g]? = some (.cells cur t (0, 0))) (hk : Nat.min sLen dLen = k) (hn : cs.length = k * sz)
    (hsrc : ∀ j v, cs[j]? = some v → w.cell? (a.add j) = some v) (hfit : o + cs.length ≤ cur.size) (h1 : ∀ v ∈ cs, v.oneCell' = true) :
    (Builtin.copy_ #[dT, sT] ty #[.slice (some ⟨g, o, none⟩) dLen dCap, .slice (some a) sLen sCap]).run P w =
      .ok (goInt k) (w.setRow g (cur.toList.take o ++ cs ++ cur.toList.drop (o + cs.length)).toArray) := by
  have hl := run_loadCells_list (P := P) w a cs hsrc
  have hst := run_storeCells_at P g o t cs 0 cur w hg (by simpa using hfit) h1
  cases hq : P.info? elem with
  | none => simp [hq] at hs
  | some i =>
    have hi : i.size = sz := by simpa [hq] using hs
    simp [Builtin.copy_, run_underlying hu, Builtin.lenOf, Builtin.firstCells, sizeOf, typeInfo, hq, hi, hk, ← hn, hl, hst]
end
section
variable {P : Program} {ops : Array Oper} {rest : List Oper} {o : Oper} {a : Act} {w w' : World} {Q : Exit → Act → World → Prop} {K : Act → World → Prop} {E : Prop}
theorem wp_copy_of (d s : Operand) {t t' : TypeId} (ho : o.op = .call { callee := .builtin .copy, args := #[d, s], argTypes := #[t, t'] }) (v u : Value) (hd : a.eval d = v) (hs : a.eval s = u)
    {R : Value → World → Prop} (hr : ∃ v' w', (Builtin.copy_ #[t, t'] o.type #[v, u]).run P w = .ok v' w' ∧ R v' w') (h : ∀ v' w', R v' w' → K (a.put o.dst v') w') : o.wp P a w K Q := by
  obtain ⟨v', w', hr, hR⟩ := hr
  unfold Oper.wp execOp
  simp only [ho, resolve, invoke, builtin, Sem.run_bind, Sem.run_pure, Result.andThen_ok, List.map_toArray, List.map_cons, List.map_nil, hd, hs, hr]
  exact h v' w' hR
theorem wpList_copy_of (hgd : o.guard = none) (d s : Operand) {t t' : TypeId} (ho : o.op = .call { callee := .builtin .copy, args := #[d, s], argTypes := #[t, t'] }) (v u : Value) (hd : a.eval d = v) (hs : a.eval s = u)
    {R : Value → World → Prop} (hr : ∃ v' w', (Builtin.copy_ #[t, t'] o.type #[v, u]).run P w = .ok v' w' ∧ R v' w') (h : ∀ v' w', R v' w' → wpList P ops Q rest (a.put o.dst v') w') : wpList P ops Q (o :: rest) a w :=
  wpList_plain hgd fun K hK => wp_copy_of d s ho v u hd hs hr fun v' w' hR => hK _ _ (h v' w' hR)
theorem step_copy_of (hgd : o.guard = none) (d s : Operand) {t t' : TypeId} (ho : o.op = .call { callee := .builtin .copy, args := #[d, s], argTypes := #[t, t'] }) (v u : Value) (hd : a.eval d = v) (hs : a.eval s = u)
    {R : Value → World → Prop} (hr : ∃ v' w', (Builtin.copy_ #[t, t'] o.type #[v, u]).run P w = .ok v' w' ∧ R v' w') (h : ∀ v' w', R v' w' → K (a.put o.dst v') w') :
    if Region.wanted o (yielded ops a.tmps) = true then Oper.wp P o a w K Q else E := by
  have hw : Region.wanted o (yielded ops a.tmps) = true := by simp [Region.wanted, hgd]
  rw [if_pos hw]
  exact wp_copy_of d s ho v u hd hs hr h
end
end Go.Proofs.Ytmhdhnipljonlaa
namespace Go.Proofs.Ytmhdhnipljonlaa
open Go.RowKit
set_option linter.unusedSimpArgs false
set_option linter.unusedVariables false
def lay_ (cur : Array Value) (o : Nat) (cs : List Value) : Array Value := (cur.toList.take o ++ cs ++ cur.toList.drop (o + cs.length)).toArray
theorem lay_get (cur : Array Value) (o : Nat) (cs : List Value) (hfit : o + cs.length ≤ cur.size) (i : Nat) : (lay_ cur o cs)[i]? = if i < o then cur[i]? else if i < o + cs.length then cs[i - o]? else cur[i]? := by
  unfold lay_
  rw [List.getElem?_toArray, List.append_assoc, List.getElem?_append, List.length_take, Array.length_toList, Nat.min_eq_left (by omega)]
  by_cases h1 : i < o
  · rw [if_pos h1, if_pos h1, List.getElem?_take, if_pos h1, Array.getElem?_toList]
  · rw [if_neg h1, if_neg h1, List.getElem?_append]
    by_cases h2 : i < o + cs.length
    · rw [if_pos (by omega), if_pos h2]
    · rw [if_neg (by omega), if_neg h2, List.getElem?_drop, Array.getElem?_toList]
      congr 1; omega
theorem lay_sz (cur : Array Value) (o : Nat) (cs : List Value) (hfit : o + cs.length ≤ cur.size) : (lay_ cur o cs).size = cur.size := by
  unfold lay_
  simp only [List.size_toArray, List.length_append, List.length_take, List.length_drop, Array.length_toList]
  omega
def Piece (cur : Array Value) (o : Nat) (cs : List Value) : Prop := ∀ j u, cs[j]? = some u → cur[o + j]? = some u
theorem Piece.lay (cur : Array Value) (o : Nat) (cs : List Value) (hfit : o + cs.length ≤ cur.size) : Piece (lay_ cur o cs) o cs := fun j u h => by
  have hj := (List.getElem?_eq_some_iff.1 h).1
  rw [lay_get cur o cs hfit, if_neg (by omega), if_pos (by omega), Nat.add_sub_cancel_left]; exact h
theorem Piece.stay {cur : Array Value} {p : Nat} {ds : List Value} (h : Piece cur p ds) (o : Nat) (cs : List Value) (hfit : o + cs.length ≤ cur.size) (hd : p + ds.length ≤ o ∨ o + cs.length ≤ p) : Piece (lay_ cur o cs) p ds := fun j u hu => by
  have hj := (List.getElem?_eq_some_iff.1 hu).1
  rw [lay_get cur o cs hfit]
  by_cases h1 : p + j < o
  · rw [if_pos h1]; exact h j u hu
  · rw [if_neg h1, if_neg (by omega)]; exact h j u hu
theorem Piece.app {cur : Array Value} {o : Nat} {a b : List Value} (h : Piece cur o a) (k : Piece cur (o + a.length) b) : Piece cur o (a ++ b) := fun j u hu => by
  rw [List.getElem?_append] at hu
  split at hu
  · exact h j u hu
  · rename_i hj
    have := k _ u hu
    rwa [show o + a.length + (j - a.length) = o + j by omega] at this
theorem Piece.left {cur : Array Value} {o : Nat} {a b : List Value} (h : Piece cur o (a ++ b)) : Piece cur o a := fun j u hu => by
  refine h j u ?_
  rw [List.getElem?_append_left (List.getElem?_eq_some_iff.1 hu).1]; exact hu
theorem Piece.right {cur : Array Value} {o : Nat} {a b : List Value} (h : Piece cur o (a ++ b)) : Piece cur (o + a.length) b := fun j u hu => by
  have := h (a.length + j) u (by rw [List.getElem?_append_right (by omega), Nat.add_sub_cancel_left]; exact hu)
  rwa [← Nat.add_assoc] at this
theorem Piece.of_take {cur : Array Value} {cs : List Value} {n : Nat} (h : cur.toList.take n = cs) : Piece cur 0 cs := fun j u hu => by
  rw [← h, List.getElem?_take] at hu
  split at hu
  · rw [Nat.zero_add, ← Array.getElem?_toList]; exact hu
  · simp at hu
theorem Piece.take {cur : Array Value} {cs : List Value} {n : Nat} (h : Piece cur 0 cs) (hn : n = cs.length) : cur.toList.take n = cs := by
  subst hn
  apply List.ext_getElem?
  intro j
  rw [List.getElem?_take]
  by_cases hj : j < cs.length
  · rw [if_pos hj, Array.getElem?_toList]
    have := h j cs[j] (List.getElem?_eq_getElem hj)
    rw [Nat.zero_add] at this
    rw [this, List.getElem?_eq_getElem hj]
  · rw [if_neg hj, List.getElem?_eq_none (by omega)]
theorem Piece.cell {w : World} {g : Nat} {cur : Array Value} {e : TypeId} {f : Nat × Nat} {o : Nat} {cs : List Value} (h : Piece cur o cs) (hg : w.heap[g]? = some (.cells cur e f)) : ∀ j u, cs[j]? = some u → w.cell? ⟨g, o + j, none⟩ = some u := fun j u hu => by
  rw [cell_of_row w g (o + j) cur e f hg]; exact h j u hu
theorem flat_split {α : Type} (c : α → List Value) (l : List α) (i : Nat) : l.flatMap c = (l.take i).flatMap c ++ (l.drop i).flatMap c := by
  rw [← List.flatMap_append, List.take_append_drop]
theorem OwnN.open_ {α : Type} {sz : Nat} {c : α → List Value} {base : Nat} {e : TypeId} {w : World} {g n cap : Nat} {l : List α} (hsz : ∀ x, (c x).length = sz) (h : OwnN sz c base e w (.slice (some ⟨g, 0, none⟩) n cap) l) :
    n = l.length ∧ base ≤ g ∧ l.length ≤ cap ∧ cap ≤ maxLen ∧ ∃ cur : Array Value, w.heap[g]? = some (.cells cur e (0, 0)) ∧ cur.size = cap * sz ∧ Piece cur 0 (l.flatMap c) := by
  obtain ⟨h1, h2⟩ := h
  rcases h2 with ⟨he, _⟩ | ⟨g', cap', cur, he, hb, hg, hc, hm, hs, ht⟩
  · simp at he
  · injection he with e1 e2 e3
    injection e1 with e1; injection e1 with e1
    subst e1; subst e2; subst e3
    exact ⟨rfl, hb, hc, hm, cur, hg, hs, Piece.of_take ht⟩
theorem OwnN.of_piece {α : Type} {sz : Nat} {c : α → List Value} {base : Nat} {e : TypeId} {w : World} {g n cap : Nat} {l : List α} (hsz : ∀ x, (c x).length = sz) (cur : Array Value) (hn : n = l.length) (hb : base ≤ g) (hc : l.length ≤ cap) (hm : cap ≤ maxLen)
    (hg : w.heap[g]? = some (.cells cur e (0, 0))) (hs : cur.size = cap * sz) (hp : Piece cur 0 (l.flatMap c)) : OwnN sz c base e w (.slice (some ⟨g, 0, none⟩) n cap) l := by
  subst hn
  exact ⟨flatMap_len hsz l, .inr ⟨g, cap, cur, rfl, hb, hg, hc, hm, hs, hp.take (flatMap_len hsz l).symm⟩⟩
theorem OwnN.slice_ {α : Type} {sz : Nat} {c : α → List Value} {base : Nat} {e : TypeId} {w : World} {v : Value} {l : List α} (h : OwnN sz c base e w v l) : ∃ ao n co, v = .slice ao n co := by
  rcases h.2 with ⟨rfl, _⟩ | ⟨_, _, _, rfl, _⟩
  · exact ⟨_, _, _, rfl⟩
  · exact ⟨_, _, _, rfl⟩
theorem Upd.setRow {S : List Nat} {a b : World} (h : Upd S a b) (g : Nat) (cs : Array Value) (hg : g ∈ S ∨ a.heap.size ≤ g) : Upd S a (b.setRow g cs) :=
  ⟨h.os, h.tape, h.output, by have := h.size; simp; omega, fun k hk hn => by
    rw [setRow_other b g k cs (fun e => by subst e; rcases hg with q | q; exact hn q; omega)]; exact h.block k hk hn⟩
section
variable {P : Program}
theorem run_copy_lay {dT sT ty elem t : TypeId} {sz g o dLen dCap : Nat} {a : Addr} {sLen sCap : Nat} {cur : Array Value} {cs : List Value} {k : Nat}
    (hu : P.underlying dT = some (.slice elem)) (hs : (P.info? elem).map (·.size) = some sz) (w : World)
    (hg : w.heap[g]? = some (.cells cur t (0, 0))) (hk : Nat.min sLen dLen = k) (hn : cs.length = k * sz)
    (hsrc : ∀ j v, cs[j]? = some v → w.cell? (a.add j) = some v) (hfit : o + cs.length ≤ cur.size) (h1 : ∀ v ∈ cs, v.oneCell' = true) :
    (Builtin.copy_ #[dT, sT] ty #[.slice (some ⟨g, o, none⟩) dLen dCap, .slice (some a) sLen sCap]).run P w = .ok (goInt k) (w.setRow g (lay_ cur o cs)) :=
  run_copyN w dT sT ty elem sz g o dLen dCap a sLen sCap cur t cs k hu hs hg hk hn hsrc hfit h1
theorem run_app_lay {t ty e et : TypeId} {sz : Nat} (ht : P.underlying t = some (.slice e)) (hi : (P.info? e).map (·.size) = some sz) {g n cap m c : Nat} {a : Addr} {cur : Array Value} {news : List Value} (w : World)
    (hg : w.heap[g]? = some (.cells cur et (0, 0))) (hl : news.length = m * sz) (hnews : ∀ j u, news[j]? = some u → w.cell? (a.add j) = some u) (h1 : ∀ u ∈ news, u.oneCell' = true)
    (hroom : n + m ≤ cap) (hfit : n * sz + news.length ≤ cur.size) :
    (Builtin.append_ #[t, t] ty #[.slice (some ⟨g, 0, none⟩) n cap, .slice (some a) m c]).run P w = .ok (.slice (some ⟨g, 0, none⟩) (n + m) cap) (w.setRow g (lay_ cur (n * sz) news)) := by
  obtain ⟨i, hi1, rfl⟩ : ∃ i, P.info? e = some i ∧ i.size = sz := by
    cases hq : P.info? e with
    | none => simp [hq] at hi
    | some i => exact ⟨i, rfl, by simpa [hq] using hi⟩
  have hfc := run_firstCells_some (P := P) w i.size m a m c news hl hnews
  have hst := run_storeCells_at (P := P) g (n * i.size) et news 0 cur w hg (by simpa using hfit) h1
  simp only [Nat.add_zero] at hst
  simp [Builtin.append_, run_underlying ht, sizeOf, typeInfo, hi1, Builtin.lenOf, hroom, hfc, Addr.add_lit, hst, lay_]
theorem run_clear_lay {t ty e et : TypeId} {z : Value} {sz bytes : Nat} (ht : P.underlying t = some (.slice e)) (hi : (P.info? e).map (fun i => (i.zero, i.size, i.bytes)) = some (some z, sz, bytes)) (hz : z.cells.size = sz) (h1 : ∀ u ∈ z.cells, u.oneCell' = true)
    {g o n c : Nat} {cur : Array Value} (w : World) (hn : 0 < n) (hg : w.heap[g]? = some (.cells cur et (0, 0))) (hfit : o + n * sz ≤ cur.size) :
    (Builtin.clear_ #[t] ty #[.slice (some ⟨g, o, none⟩) n c]).run P w = .ok (.tuple #[]) (w.setRow g (lay_ cur o (Builtin.zeroCells z.cells n).toList)) := by
  obtain ⟨n, rfl⟩ : ∃ k, n = k + 1 := ⟨n - 1, by omega⟩
  obtain ⟨i, i1, i2, i3, i4⟩ := info_parts hi
  have hzl : (Builtin.zeroCells z.cells (n + 1)).toList.length = (n + 1) * sz := by rw [Array.length_toList, size_zeroCells, hz]
  have hst := run_storeCells_at (P := P) g o et _ 0 cur w hg (by rw [hzl]; simpa using hfit) (zeroCells_one h1 (n + 1))
  simp only [Nat.add_zero] at hst
  have hzv : (zeroValue e).run P w = .ok z w := by simp [zeroValue, typeInfo, i1, i2]
  simp only [Builtin.clear_]
  simp [run_underlying ht, hzv, hst, lay_]
end
section
variable {P : Program} {ops : Array Oper} {rest : List Oper} {o : Oper} {a : Act} {w w' : World} {Q : Exit → Act → World → Prop} {K : Act → World → Prop} {E : Prop}
theorem wpList_clear_of (hgd : o.guard = none) (s : Operand) {t : TypeId} (ho : o.op = .call { callee := .builtin .clear, args := #[s], argTypes := #[t] }) (v : Value) (hs : a.eval s = v)
    {R : Value → World → Prop} (hr : ∃ v' w', (Builtin.clear_ #[t] o.type #[v]).run P w = .ok v' w' ∧ R v' w') (h : ∀ v' w', R v' w' → wpList P ops Q rest (a.put o.dst v') w') : wpList P ops Q (o :: rest) a w := by
  obtain ⟨v', w', hr, hR⟩ := hr
  refine wpList_plain hgd fun K hK => ?_
  unfold Oper.wp execOp
  simp only [ho, resolve, invoke, builtin, Sem.run_bind, Sem.run_pure, Result.andThen_ok, List.map_toArray, List.map_cons, List.map_nil, hs, hr]
  exact hK _ _ (h v' w' hR)
end
section
variable {P : Program} {ops : Array Oper} {rest : List Oper} {o : Oper} {a : Act} {w w' : World} {Q : Exit → Act → World → Prop} {K : Act → World → Prop} {E : Prop}
theorem step_app_eq (hgd : o.guard = none) (s x : Operand) (t : TypeId) (ho : o.op = .call { callee := .builtin .append, args := #[s, x], argTypes := #[t, t] }) (v u : Value) (hs : a.eval s = v) (hx : a.eval x = u)
    {v' : Value} (hr : (Builtin.append_ #[t, t] o.type #[v, u]).run P w = .ok v' w') (h : K (a.put o.dst v') w') :
    if Region.wanted o (yielded ops a.tmps) = true then Oper.wp P o a w K Q else E :=
  step_app_of hgd s x ho v u hs hx (R := fun p q => p = v' ∧ q = w') ⟨_, _, hr, rfl, rfl⟩ (fun _ _ ⟨h1, h2⟩ => by rw [h1, h2]; exact h)
theorem step_copy_eq (hgd : o.guard = none) (d s : Operand) (t t' : TypeId) (ho : o.op = .call { callee := .builtin .copy, args := #[d, s], argTypes := #[t, t'] }) (v u : Value) (hd : a.eval d = v) (hs : a.eval s = u)
    {v' : Value} (hr : (Builtin.copy_ #[t, t'] o.type #[v, u]).run P w = .ok v' w') (h : K (a.put o.dst v') w') :
    if Region.wanted o (yielded ops a.tmps) = true then Oper.wp P o a w K Q else E :=
  step_copy_of hgd d s ho v u hd hs (R := fun p q => p = v' ∧ q = w') ⟨_, _, hr, rfl, rfl⟩ (fun _ _ ⟨h1, h2⟩ => by rw [h1, h2]; exact h)
theorem wpList_copy_eq (hgd : o.guard = none) (d s : Operand) (t t' : TypeId) (ho : o.op = .call { callee := .builtin .copy, args := #[d, s], argTypes := #[t, t'] }) (v u : Value) (hd : a.eval d = v) (hs : a.eval s = u)
    {v' : Value} (hr : (Builtin.copy_ #[t, t'] o.type #[v, u]).run P w = .ok v' w') (h : wpList P ops Q rest (a.put o.dst v') w') : wpList P ops Q (o :: rest) a w :=
  wpList_copy_of hgd d s ho v u hd hs (R := fun p q => p = v' ∧ q = w') ⟨_, _, hr, rfl, rfl⟩ (fun _ _ ⟨h1, h2⟩ => by rw [h1, h2]; exact h)
theorem wpList_clear_eq (hgd : o.guard = none) (s : Operand) (t : TypeId) (ho : o.op = .call { callee := .builtin .clear, args := #[s], argTypes := #[t] }) (v : Value) (hs : a.eval s = v)
    {v' : Value} (hr : (Builtin.clear_ #[t] o.type #[v]).run P w = .ok v' w') (h : wpList P ops Q rest (a.put o.dst v') w') : wpList P ops Q (o :: rest) a w :=
  wpList_clear_of hgd s ho v hs (R := fun p q => p = v' ∧ q = w') ⟨_, _, hr, rfl, rfl⟩ (fun _ _ ⟨h1, h2⟩ => by rw [h1, h2]; exact h)
theorem wpList_app_eq (hgd : o.guard = none) (s x : Operand) (t t' : TypeId) (ho : o.op = .call { callee := .builtin .append, args := #[s, x], argTypes := #[t, t'] }) (v u : Value) (hs : a.eval s = v) (hx : a.eval x = u)
    {v' : Value} (hr : (Builtin.append_ #[t, t'] o.type #[v, u]).run P w = .ok v' w') (h : wpList P ops Q rest (a.put o.dst v') w') : wpList P ops Q (o :: rest) a w := by
  refine wpList_plain hgd fun K hK => ?_
  unfold Oper.wp execOp
  simp only [ho, resolve, invoke, builtin, Sem.run_bind, Sem.run_pure, Result.andThen_ok, List.map_toArray, List.map_cons, List.map_nil, hs, hx, hr]
  exact hK _ _ h
end
theorem mem_flat_one {α : Type} {c : α → List Value} (hone : ∀ x, ∀ u ∈ c x, u.oneCell' = true) (l : List α) : ∀ u ∈ l.flatMap c, u.oneCell' = true := fun u hu => by
  obtain ⟨x, _, hx⟩ := List.mem_flatMap.1 hu; exact hone x u hx
end Go.Proofs.Ytmhdhnipljonlaa
