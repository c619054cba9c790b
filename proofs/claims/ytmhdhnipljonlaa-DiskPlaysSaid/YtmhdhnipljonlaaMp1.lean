/- Texts of the proof, joined: Words of our own on worlds and slices: nothing of the program stands here. Slices' values. Slices whose elements have several cells. Slices of the call's own whose elements have several cells. Footprints that share no block. The book's functions: what needs no program. Bytes in blocks that only grow at their end: slices that show a part of a block, and append onto them. A table as a list of rows by rising keys: the plain law. Tables: what the laws of chapter 4 want of rows by rising keys. Texts as lists of bytes. The order of texts. Names of files: plain. Chapter 22 as plain law: files by rising names, raw writes, what they do. append onto a list of the call's own, at the run, at a step of a region that draws, and at a plain list. The step from a walk of a law to its statement, once for all laws: the law returns true and turns nothing that was there. -/
import Derived.WalkKit
import Derived.Lib.Hide
import Derived.Deep.QuietTactic
import Derived.BigQuiet
import Derived.WalkSpells
import Derived.WalkLawsBesides
import Derived.Lib.SlBytesConst
import Derived.Laws.CopyOwn
import Derived.Maps.AppendAt
import Derived.Test.YtmhdhnipljonlaaRows
import Derived.ArgAppend
import Derived.ProofKit
import Derived.OpenShut
import Derived.ShutString
import Derived.ChangeOld
import Derived.JoinedCond
import Derived.SizedLaws
import Derived.Deep.Slices
import Derived.Deep.CondSized
namespace Go.Proofs.Ytmhdhnipljonlaa
open Go.RowKit
set_option linter.unusedSimpArgs false
set_option linter.unusedVariables false

/-- An element of a list, by its place. -/
def nth {α : Type} [Inhabited α] (l : List α) (k : Nat) : α := l.getD k default
theorem nth_get {α : Type} [Inhabited α] (l : List α) (k : Nat) (h : k < l.length) : nth l k = l[k] := by simp [nth, List.getD, h]
theorem nth_of {α : Type} [Inhabited α] (l : List α) (k : Nat) (x : α) (h : l[k]? = some x) : nth l k = x := by simp [nth, List.getD, h]
theorem nth_cons_zero {α : Type} [Inhabited α] (x : α) (l : List α) : nth (x :: l) 0 = x := rfl
theorem nth_cons_succ {α : Type} [Inhabited α] (x : α) (l : List α) (k : Nat) : nth (x :: l) (k + 1) = nth l k := rfl

/-- Beside the blocks of S, what was there is as it was. -/
structure Upd (S : List Nat) (w w' : World) : Prop where
  os : w'.os = w.os
  tape : w'.tape = w.tape
  output : w'.output = w.output
  size : w.heap.size ≤ w'.heap.size
  block : ∀ k, k < w.heap.size → k ∉ S → w'.heap[k]? = w.heap[k]?
theorem Upd.refl (S : List Nat) (w : World) : Upd S w w := ⟨rfl, rfl, rfl, Nat.le_refl _, fun _ _ _ => rfl⟩
theorem Upd.trans {S S' T : List Nat} {a b c : World} (h : Upd S a b) (k : Upd S' b c) (hs : ∀ x ∈ S, x ∈ T) (hs' : ∀ x ∈ S', x ∈ T ∨ a.heap.size ≤ x) : Upd T a c :=
  ⟨k.os.trans h.os, k.tape.trans h.tape, k.output.trans h.output, Nat.le_trans h.size k.size, fun i hi hn => by
    rw [k.block i (Nat.lt_of_lt_of_le hi h.size) (fun e => by rcases hs' i e with q | q; exact hn q; omega), h.block i hi (fun e => hn (hs i e))]⟩
theorem Upd.mono {S T : List Nat} {a b : World} (h : Upd S a b) (hs : ∀ x ∈ S, x ∈ T ∨ a.heap.size ≤ x) : Upd T a b :=
  (Upd.refl T a).trans h (fun x hx => hx) hs
theorem Upd.drew {S : List Nat} {a b : World} (h : Upd S a b) : Upd S a b.drew := ⟨h.os, h.tape, h.output, h.size, h.block⟩
theorem Upd.drewN {S : List Nat} {a b : World} (h : Upd S a b) (n : Nat) : Upd S a (b.drewN n) := ⟨h.os, h.tape, h.output, h.size, h.block⟩
theorem Upd.alloc {S : List Nat} {a b : World} (h : Upd S a b) (o : Obj) : Upd S a (b.alloc o) :=
  ⟨h.os, h.tape, h.output, by have := h.size; simp; omega, fun k hk hn => by rw [Below.heap_alloc _ _ _ (Nat.lt_of_lt_of_le hk h.size)]; exact h.block k hk hn⟩
theorem Upd.setCell {S : List Nat} {a b : World} (h : Upd S a b) (p : Addr) (u : Value) (hp : p.block ∈ S ∨ a.heap.size ≤ p.block) : Upd S a (b.setCell p u) :=
  ⟨h.os, h.tape, h.output, by have := h.size; simp; omega, fun k hk hn => by
    rw [Below.heap_setCell _ _ _ _ (fun e => by subst e; rcases hp with q | q; exact hn q; omega)]; exact h.block k hk hn⟩
theorem Upd.of_grown {w w' : World} {row : Option Nat} (hg : w.grownBy w' row) : Upd row.toList w w' :=
  ⟨hg.os, hg.tape, hg.output, hg.size, fun k hk hn => hg.block k hk (fun e => hn (by rw [← e]; simp))⟩
theorem Upd.below {w w' : World} (h : Upd [] w w') : Below w.heap.size w w' := ⟨h.os, h.tape, h.output, h.size, fun k hk => h.block k hk (by simp)⟩
theorem Upd.of_below {w w' : World} (h : Below w.heap.size w w') : Upd [] w w' := ⟨h.os, h.tape, h.output, h.size, fun k hk _ => h.block k hk⟩
theorem Upd.cell {S : List Nat} {w w' : World} (h : Upd S w w') {p : Addr} {v : Value} (hv : w.cell? p = some v) (hp : p.block ∉ S) : w'.cell? p = some v :=
  (World.cell?_of_block (w := w) (h.block p.block (World.block_lt_of_cell? w p hv) hp)).trans hv
theorem Upd.heap {S : List Nat} {w w' : World} (h : Upd S w w') {k : Nat} {o : Obj} (hv : w.heap[k]? = some o) (hp : k ∉ S) : w'.heap[k]? = some o :=
  (h.block k (Array.getElem?_eq_some_iff.1 hv).1 hp).trans hv

/-- A list that a slice's value shows in a world, an element a cell. -/
def Rd {α : Type} [Inhabited α] (c : α → Value) (w : World) (v : Value) (l : List α) : Prop :=
  ∃ a cap, v = .slice a l.length cap ∧ l.length ≤ cap ∧ cap ≤ maxLen ∧
    (l ≠ [] → ∃ b off, a = some ⟨b, off, none⟩ ∧ ∀ j, j < l.length → w.cell? ⟨b, off + j, none⟩ = some (c (nth l j)))
/-- The block of a slice. -/
def blk : Value → List Nat
  | .slice (some a) _ _ => [a.block]
  | _ => []
theorem Rd.upd {α : Type} [Inhabited α] {c : α → Value} {w w' : World} {v : Value} {l : List α} (h : Rd c w v l) {S : List Nat} (hu : Upd S w w') (hs : ∀ x ∈ blk v, x ∉ S) : Rd c w' v l := by
  obtain ⟨a, cap, rfl, h1, h2, h3⟩ := h
  refine ⟨a, cap, rfl, h1, h2, fun hne => ?_⟩
  obtain ⟨b, off, rfl, hc⟩ := h3 hne
  exact ⟨b, off, rfl, fun j hj => hu.cell (hc j hj) (hs b (by simp [blk]))⟩
theorem Rd.upd0 {α : Type} [Inhabited α] {c : α → Value} {w w' : World} {v : Value} {l : List α} (h : Rd c w v l) (hu : Upd [] w w') : Rd c w' v l :=
  h.upd hu (by simp)
theorem Rd.lt {α : Type} [Inhabited α] {c : α → Value} {w : World} {v : Value} {l : List α} (h : Rd c w v l) (hne : l ≠ []) : ∀ x ∈ blk v, x < w.heap.size := by
  obtain ⟨a, cap, rfl, h1, h2, h3⟩ := h
  obtain ⟨b, off, rfl, hc⟩ := h3 hne
  intro x hx
  simp [blk] at hx; subst hx
  have := hc 0 (by cases l; exact absurd rfl hne; simp)
  exact World.block_lt_of_cell? w _ this
/-- Behind changes to blocks that came later, or to none of its own: the list is still shown. -/
theorem Rd.later {α : Type} [Inhabited α] {c : α → Value} {w w1 w' : World} {v : Value} {l : List α} (h : Rd c w v l) {S : List Nat} (h1 : Rd c w1 v l) (hu : Upd S w1 w') (hs : ∀ x ∈ S, w.heap.size ≤ x) : Rd c w' v l := by
  by_cases hne : l = []
  · obtain ⟨a, cap, rfl, g1, g2, g3⟩ := h
    exact ⟨a, cap, rfl, g1, g2, fun q => absurd hne q⟩
  · exact h1.upd hu (fun x hx hS => by have := h.lt hne x hx; have := hs x hS; omega)

/-- A slice of bytes. -/
abbrev bv (x : UInt8) : Value := .int .u8 (x.toNat : Int)
abbrev Bytes (w : World) (v : Value) (l : List UInt8) : Prop := Rd bv w v l

/-- A list in a block of the call's own. -/
def Own {α : Type} (c : α → Value) (base : Nat) (e : TypeId) (w : World) (v : Value) (l : List α) : Prop := w.ownsRow base e 1 v l.length (l.map c)
theorem Own.rd {α : Type} [Inhabited α] {c : α → Value} {base : Nat} {e : TypeId} {w : World} {v : Value} {l : List α} (h : Own c base e w v l) : Rd c w v l := by
  obtain ⟨h1, h2⟩ := h
  rcases h2 with ⟨rfl, hn⟩ | ⟨g, cap, cur, rfl, hb, hg, hc, hm, hs, ht⟩
  · exact ⟨none, 0, by rw [hn], by omega, Nat.zero_le _, fun q => absurd (List.eq_nil_of_length_eq_zero hn) q⟩
  · refine ⟨_, cap, rfl, hc, hm, fun _ => ⟨g, 0, rfl, fun j hj => ?_⟩⟩
    rw [cell_of_row w g (0 + j) cur e (0, 0) hg]
    have : (l.map c)[j]? = some (c (nth l j)) := by rw [List.getElem?_map, List.getElem?_eq_getElem hj, nth_get l j hj]; rfl
    rw [← ht, List.getElem?_take] at this
    simpa [hj] using this
theorem blk_own (v : Value) : blk v = v.ownBlock.toList := by
  cases v with
  | slice a _ _ => cases a <;> rfl
  | _ => rfl
theorem Own.upd {α : Type} {c : α → Value} {base : Nat} {e : TypeId} {w w' : World} {v : Value} {l : List α} (h : Own c base e w v l) {S : List Nat} (hu : Upd S w w') (hs : ∀ x ∈ blk v, x ∉ S) : Own c base e w' v l := by
  obtain ⟨h1, h2⟩ := h
  refine ⟨h1, ?_⟩
  rcases h2 with h2 | ⟨g, cap, cur, rfl, hb, hg, r⟩
  · exact .inl h2
  · exact .inr ⟨g, cap, cur, rfl, hb, hu.heap hg (hs g (by simp [blk])), r⟩
theorem Own.ge {α : Type} {c : α → Value} {base : Nat} {e : TypeId} {w : World} {v : Value} {l : List α} (h : Own c base e w v l) : ∀ x ∈ blk v, base ≤ x ∧ x < w.heap.size := by
  intro x hx
  rw [blk_own] at hx
  exact World.ownsRow.lt h x (by simpa using hx)
theorem Own.base_le {α : Type} {c : α → Value} {base base' : Nat} {e : TypeId} {w : World} {v : Value} {l : List α} (h : Own c base e w v l) (hb : base' ≤ base) : Own c base' e w v l := by
  obtain ⟨h1, h2⟩ := h
  refine ⟨h1, ?_⟩
  rcases h2 with h2 | ⟨g, cap, cur, rfl, hb', hg, r⟩
  · exact .inl h2
  · exact .inr ⟨g, cap, cur, rfl, by omega, hg, r⟩

/-- A list just laid in a new block. -/
theorem Rd.lit {α : Type} [Inhabited α] {c : α → Value} {w : World} (l : List α) {C : Array Value} {e : TypeId} {fr : Nat × Nat} {g n k : Nat} (hg : g = w.heap.size) (hC : C = (l.map c).toArray) (hn : n = l.length) (hk : n ≤ k) (hm : k ≤ maxLen) :
    Rd c (w.alloc (.cells C e fr)) (.slice (some ⟨g, 0, none⟩) n k) l := by
  subst hg; subst hn; subst hC
  refine ⟨_, _, rfl, hk, hm, fun _ => ⟨_, 0, rfl, fun j hj => ?_⟩⟩
  rw [cell_of_row _ w.heap.size (0 + j) _ e fr (heap_alloc_new w _)]
  simp [nth_get l j hj, hj]
theorem Rd.nil {α : Type} [Inhabited α] {c : α → Value} (w : World) : Rd c w (.slice none 0 0) ([] : List α) :=
  ⟨none, 0, rfl, Nat.le_refl _, Nat.zero_le _, fun h => absurd rfl h⟩
theorem Rd.alloc {α : Type} [Inhabited α] {c : α → Value} {w : World} {v : Value} {l : List α} (h : Rd c w v l) (o : Obj) : Rd c (w.alloc o) v l := h.upd0 ((Upd.refl _ _).alloc _)
theorem Rd.drew {α : Type} [Inhabited α] {c : α → Value} {w : World} {v : Value} {l : List α} (h : Rd c w v l) : Rd c w.drew v l := h
theorem Rd.drewN {α : Type} [Inhabited α] {c : α → Value} {w : World} {v : Value} {l : List α} (h : Rd c w v l) (n : Nat) : Rd c (w.drewN n) v l := h
theorem Rd.setCell {α : Type} [Inhabited α] {c : α → Value} {w : World} {v : Value} {l : List α} (h : Rd c w v l) (p : Addr) (u : Value) (hp : p.block ∉ blk v) : Rd c (w.setCell p u) v l :=
  h.upd (S := [p.block]) ((Upd.refl _ _).setCell _ _ (.inl (by simp))) (fun x hx hy => hp (by simp at hy; rw [← hy]; exact hx))

theorem conv_lit {P : Program} {t e : TypeId} (ht : P.underlying t = some (.slice e)) (he : P.underlying e = some (.int .u8)) (w : World) (C : Array Value) (g n c : Nat) (hg : g = w.heap.size) :
    (convert t t (.slice (some ⟨g, 0, none⟩) n c)).run P (w.alloc (.cells C e)) = .ok (.slice (some ⟨g, 0, none⟩) n c) (w.alloc (.cells C e (C.size, C.size + 1))) := by
  subst hg; exact Lib.run_convert_bytes_const w t e C n c ht he

/-- A block that is known whole. -/
def Blk (w : World) (g : Nat) (e : TypeId) (xs : List Value) : Prop := w.heap[g]? = some (.cells xs.toArray e (0, 0))
theorem Blk.lt {w : World} {g : Nat} {e : TypeId} {xs : List Value} (h : Blk w g e xs) : g < w.heap.size := (Array.getElem?_eq_some_iff.1 h).1
theorem Blk.upd {w w' : World} {g : Nat} {e : TypeId} {xs : List Value} (h : Blk w g e xs) {S : List Nat} (hu : Upd S w w') (hs : g ∉ S) : Blk w' g e xs := hu.heap h hs
theorem Blk.cell {w : World} {g : Nat} {e : TypeId} {xs : List Value} (h : Blk w g e xs) (i : Nat) : w.cell? ⟨g, i, none⟩ = xs[i]? := by
  rw [cell_of_row w g i _ e (0, 0) h]; simp
theorem Blk.frozen {w : World} {g : Nat} {e : TypeId} {xs : List Value} (h : Blk w g e xs) (i : Nat) : w.frozen? ⟨g, i, none⟩ = false := frozen_of_row w g i _ e h
theorem Blk.set_ {w : World} {g : Nat} {e : TypeId} {xs : List Value} (h : Blk w g e xs) (i : Nat) (u : Value) : Blk (w.setCell ⟨g, i, none⟩ u) g e (xs.set i u) := by
  have := heap_setCell_same w g i _ e u h
  unfold Blk; rw [this]; simp
theorem Blk.new (w : World) (e : TypeId) (xs : List Value) : Blk (w.alloc (.cells xs.toArray e)) w.heap.size e xs := heap_alloc_new w _
theorem Blk.drewN {w : World} {g : Nat} {e : TypeId} {xs : List Value} (h : Blk w g e xs) (n : Nat) : Blk (w.drewN n) g e xs := h
/-- A piece of a known block. -/
theorem Blk.rd {α : Type} [Inhabited α] {c : α → Value} {w : World} {g : Nat} {e : TypeId} {xs : List Value} (h : Blk w g e xs) (l : List α) (o n k : Nat) (hn : n = l.length) (hk : n ≤ k) (hm : k ≤ maxLen)
    (hx : ∀ j, j < l.length → xs[o + j]? = some (c (nth l j))) : Rd c w (.slice (some ⟨g, o, none⟩) n k) l := by
  subst hn
  exact ⟨_, _, rfl, hk, hm, fun _ => ⟨g, o, rfl, fun j hj => by rw [h.cell]; exact hx j hj⟩⟩
theorem Blk.rd_pre {α : Type} [Inhabited α] {c : α → Value} {w : World} {g : Nat} {e : TypeId} {ys : List Value} (l : List α) (n k : Nat) (h : Blk w g e (l.map c ++ ys)) (hn : n = l.length) (hk : n ≤ k) (hm : k ≤ maxLen) : Rd c w (.slice (some ⟨g, 0, none⟩) n k) l :=
  h.rd l 0 n k hn hk hm (fun j hj => by rw [Nat.zero_add, List.getElem?_append_left (by simpa using hj)]; simp [nth_get l j hj, hj])

section
variable {P : Program} {ops : Array Oper} {rest : List Oper} {o : Oper} {a : Act} {w : World} {Q : Exit → Act → World → Prop}
theorem toList_madeOne (z : Value) (hz : z.cells = #[z]) (n : Nat) : (madeCells z.cells n) = (List.replicate n z).toArray := by
  apply Array.toList_inj.1
  rw [hz, toList_madeCells_one]
theorem run_mk {t e : TypeId} {z : Value} {bytes : Nat} (ht : P.underlying t = some (.slice e)) (hi : (P.info? e).map (fun i => (i.zero, i.size, i.bytes)) = some (some z, 1, bytes)) (hz : z.cells = #[z])
    (u : World) (n m : Nat) (L C : Int) (hL : L = (n : Int)) (hC : C = (m : Int)) (hnm : n ≤ m) (hb : bytes * m ≤ 281474976710656) (hm : m ≤ 9223372036854775807) :
    (Instr.makeSlice t (.int .i64 L) (.int .i64 C)).run P u = .ok (.slice (some ⟨u.heap.size, 0, none⟩) n m) (u.alloc (.cells (List.replicate m z).toArray e)) := by
  obtain ⟨i, h1, h2, h3, h4⟩ := info_parts hi
  subst hL; subst hC
  have h := run_make (P := P) u t e i z ht h1 h2 .i64 .i64 (n : Int) (m : Int) (by omega) (by omega) (by rw [h4, ← Int.natCast_mul]; omega) (by omega)
  rw [h, h3, Nat.mul_one, Int.toNat_natCast, Int.toNat_natCast, toList_madeOne z hz]

theorem oneCell_map {α : Type} {c : α → Value} (hc : ∀ x, (c x).oneCell' = true) (l : List α) : ∀ u ∈ l.map c, u.oneCell' = true := by
  intro u hu; obtain ⟨x, _, rfl⟩ := List.mem_map.1 hu; exact hc x
theorem add_none (b off j : Nat) : (⟨b, off, none⟩ : Addr).add j = ⟨b, off + j, none⟩ := by unfold Addr.add; split <;> simp_all

/-- copy into a known block. -/
theorem wpList_cp {α : Type} [Inhabited α] {c : α → Value} (hc : ∀ x, (c x).oneCell' = true) (hgd : o.guard = none) (d s : Operand) (dT sT e : TypeId) (ho : o.op = .call { callee := .builtin .copy, args := #[d, s], argTypes := #[dT, sT] })
    (hu : P.underlying dT = some (.slice e)) (hsz : (P.info? e).map (·.size) = some 1) (g dLen dCap : Nat) (v : Value) (hd : a.eval d = .slice (some ⟨g, 0, none⟩) dLen dCap) (hs : a.eval s = v)
    (l : List α) (hv : Rd c w v l) (t : TypeId) (xs : List Value) (hg : Blk w g t xs) (hle : l.length ≤ dLen) (hfit : l.length ≤ xs.length)
    (h : ∀ w', Blk w' g t (l.map c ++ xs.drop l.length) → Upd [g] w w' → w'.heap.size = w.heap.size → wpList P ops Q rest (a.put o.dst (goInt l.length)) w') : wpList P ops Q (o :: rest) a w := by
  obtain ⟨A, cap, rfl, h1, h2, h3⟩ := hv
  have key : ∃ w', (Builtin.copy_ #[dT, sT] o.type #[.slice (some ⟨g, 0, none⟩) dLen dCap, .slice A l.length cap]).run P w = .ok (goInt l.length) w' ∧ Blk w' g t (l.map c ++ xs.drop l.length) ∧ Upd [g] w w' ∧ w'.heap.size = w.heap.size := by
    by_cases hne : l = []
    · subst hne
      refine ⟨w, ?_, by simpa using hg, Upd.refl _ _, rfl⟩
      exact run_copy_none (P := P) w dT sT o.type e _ A dLen dCap 0 cap hu hsz (by simp)
    · obtain ⟨b, off, rfl, hcell⟩ := h3 hne
      have hr := run_copy_row (P := P) w dT sT o.type e g 0 dLen dCap ⟨b, off, none⟩ l.length cap xs.toArray t (l.map c) hu hsz hg (by rw [List.length_map]; exact (Nat.min_eq_left hle).symm)
        (fun j v hj => by
          rw [add_none]
          rw [List.getElem?_map] at hj
          obtain ⟨x, hx, rfl⟩ := Option.map_eq_some_iff.1 hj
          have hjl := (List.getElem?_eq_some_iff.1 hx).1
          rw [hcell j hjl, nth_of l j x hx]) (by simpa using hfit) (oneCell_map hc l)
      simp only [List.take_zero, List.nil_append, Nat.zero_add, List.length_map] at hr
      refine ⟨_, hr, ?_, ⟨rfl, rfl, rfl, by simp, fun k _ hk => setRow_other w g k _ (by simpa using hk)⟩, by simp⟩
      exact setRow_heap w g xs.toArray _ t _ hg
  obtain ⟨w', hr, k1, k2, k3⟩ := key
  refine wpList_plain hgd fun K hK => ?_
  unfold Oper.wp execOp
  simp only [ho, resolve, invoke, builtin, Sem.run_bind, Sem.run_pure, Result.andThen_ok, List.map_toArray, List.map_cons, List.map_nil, hd, hs, hr]
  exact hK _ _ (h w' k1 k2 k3)

theorem run_app_nothing {t ty e : TypeId} {size : Nat} (ht : P.underlying t = some (.slice e)) (hi : (P.info? e).map (·.size) = some size) (ao bo : Option Addr) (n cap k : Nat) (hn : n ≤ cap) :
    (Builtin.append_ #[t, t] ty #[.slice ao n cap, .slice bo 0 k]).run P w = .ok (.slice ao n cap) w := by
  obtain ⟨i, hi, hsize⟩ : ∃ i, P.info? e = some i ∧ i.size = size := by
    cases hq : P.info? e with
    | none => simp [hq] at hi
    | some i => exact ⟨i, rfl, by simpa [hq] using hi⟩
  have h0 : n + 0 ≤ cap := by omega
  cases ao <;> cases bo <;> simp [Builtin.append_, run_underlying ht, Builtin.lenOf, Builtin.firstCells, sizeOf, typeInfo, hi, storeCells, loadCells, loadCellsFrom, hn]

/-- append of a list onto a list of the call's own: the run. -/
theorem run_app {α : Type} [Inhabited α] {c : α → Value} (hc : ∀ x, (c x).oneCell' = true) {t ty e : TypeId} {z : Value} {bytes base : Nat} (ht : P.underlying t = some (.slice e)) (hi : (P.info? e).map (fun i => (i.zero, i.size, i.bytes)) = some (some z, 1, bytes)) (hz : z.cells = #[z])
    (v u : Value) (l m : List α) (hv : Own c base e w v l) (hu : Rd c w u m) (hb : (l.length + m.length) * bytes ≤ 140737488355328) (hl : l.length + m.length ≤ maxLen) (hbase : base ≤ w.heap.size) :
    ∃ v' w', (Builtin.append_ #[t, t] ty #[v, u]).run P w = .ok v' w' ∧ Own c base e w' v' (l ++ m) ∧ Upd (blk v) w w' ∧ (∀ x ∈ blk v', x ∈ blk v ∨ w.heap.size ≤ x) := by
  obtain ⟨i, h1, h2, h3, h4⟩ := info_parts hi
  obtain ⟨A, cap, rfl, hle, hcm, hcell0⟩ := hu
  by_cases hne : m = []
  · subst hne
    have hsz : (P.info? e).map (·.size) = some 1 := by simp [h1, h3]
    obtain ⟨ao, n, k, rfl, hnk⟩ : ∃ ao n k, v = .slice ao n k ∧ n ≤ k := by
      rcases hv.2 with ⟨rfl, _⟩ | ⟨g, cap', cur, rfl, _, _, q, _⟩
      · exact ⟨none, 0, 0, rfl, Nat.le_refl _⟩
      · exact ⟨_, _, _, rfl, q⟩
    exact ⟨_, w, run_app_nothing ht hsz ao A n k cap hnk, by rw [List.append_nil]; exact hv, Upd.refl _ _, fun x hx => .inl hx⟩
  · obtain ⟨b, off, rfl, hcell⟩ := hcell0 hne
    have hnews : ∀ j u, (m.map c)[j]? = some u → w.cell? ((⟨b, off, none⟩ : Addr).add j) = some u := fun j u hj => by
      rw [add_none]
      rw [List.getElem?_map] at hj
      obtain ⟨x, hx, rfl⟩ := Option.map_eq_some_iff.1 hj
      rw [hcell j (List.getElem?_eq_some_iff.1 hx).1, nth_of m j x hx]
    obtain ⟨v', w', hr, g1, g2, _, g3⟩ := run_append_own_at (P := P) w base t ty e i z 1 bytes ht h1 h2 h3 h4 (by rw [hz]; rfl) (by decide) v l.length (l.map c) hv ⟨b, off, none⟩ m.length cap (m.map c) (by simp) hnews (oneCell_map hc m) hl hb hbase
    have hown : Own c base e w' v' (l ++ m) := by
      unfold Own; rw [List.length_append, List.map_append]; exact g1
    refine ⟨v', w', hr, hown, by rw [blk_own]; exact Upd.of_grown g2, ?_⟩
    intro x hx
    rw [blk_own] at hx
    rcases g3 with g3 | g3
    · rw [g3, ← blk_own] at hx; exact .inl hx
    · rw [g3] at hx; simp at hx; exact .inr (by omega)

/-- append of a list onto a list of the call's own. -/
theorem wpList_app {α : Type} [Inhabited α] {c : α → Value} (hc : ∀ x, (c x).oneCell' = true) (hgd : o.guard = none) (s x : Operand) {t e : TypeId} (ho : o.op = .call { callee := .builtin .append, args := #[s, x], argTypes := #[t, t] })
    {z : Value} {bytes base : Nat} (ht : P.underlying t = some (.slice e)) (hi : (P.info? e).map (fun i => (i.zero, i.size, i.bytes)) = some (some z, 1, bytes)) (hz : z.cells = #[z])
    (v u : Value) (l m : List α) (hs : a.eval s = v) (hx : a.eval x = u) (hv : Own c base e w v l) (hu : Rd c w u m) (hb : (l.length + m.length) * bytes ≤ 140737488355328) (hl : l.length + m.length ≤ maxLen) (hbase : base ≤ w.heap.size)
    (h : ∀ v' w', Own c base e w' v' (l ++ m) → Upd (blk v) w w' → (∀ x ∈ blk v', x ∈ blk v ∨ w.heap.size ≤ x) → wpList P ops Q rest (a.put o.dst v') w') : wpList P ops Q (o :: rest) a w := by
  obtain ⟨v', w', hr, k1, k2, k3⟩ := run_app (P := P) (ty := o.type) hc ht hi hz v u l m hv hu hb hl hbase
  refine wpList_plain hgd fun K hK => ?_
  unfold Oper.wp execOp
  simp only [ho, resolve, invoke, builtin, Sem.run_bind, Sem.run_pure, Result.andThen_ok, List.map_toArray, List.map_cons, List.map_nil, hs, hx, hr]
  exact hK _ _ (h v' w' k1 k2 k3)
end

theorem nth_take {α : Type} [Inhabited α] (l : List α) (n j : Nat) (h : j < n) : nth (l.take n) j = nth l j := by simp [nth, List.getD, h]
theorem nth_append_left {α : Type} [Inhabited α] (l m : List α) (j : Nat) (h : j < l.length) : nth (l ++ m) j = nth l j := by simp [nth, List.getD, List.getElem?_append_left h]
theorem nth_append_right {α : Type} [Inhabited α] (l m : List α) (j : Nat) (h : l.length ≤ j) : nth (l ++ m) j = nth m (j - l.length) := by simp [nth, List.getD, List.getElem?_append_right h]
theorem nth_drop {α : Type} [Inhabited α] (l : List α) (n j : Nat) : nth (l.drop n) j = nth l (n + j) := by simp [nth, List.getD]
theorem nth_replicate {α : Type} [Inhabited α] (n : Nat) (x : α) (j : Nat) (h : j < n) : nth (List.replicate n x) j = x := by simp [nth, List.getD, h]
/-- The first elements of a list that is shown. -/
theorem Rd.take {α : Type} [Inhabited α] {c : α → Value} {w : World} {a : Option Addr} {n cap : Nat} {l : List α} (h : Rd c w (.slice a n cap) l) (k : Nat) (hk : k ≤ l.length) : Rd c w (.slice a k cap) (l.take k) := by
  obtain ⟨a', cap', he, h1, h2, h3⟩ := h
  injection he with e1 e2 e3; subst e1; subst e2; subst e3
  refine ⟨_, _, by rw [List.length_take, Nat.min_eq_left hk], by rw [List.length_take]; omega, h2, fun hne => ?_⟩
  obtain ⟨b, off, rfl, hc⟩ := h3 (fun q => hne (by rw [q]; simp))
  refine ⟨b, off, rfl, fun j hj => ?_⟩
  rw [List.length_take] at hj
  rw [nth_take l k j (by omega)]; exact hc j (by omega)
/-- What stands behind the first elements. -/
theorem Rd.drop {α : Type} [Inhabited α] {c : α → Value} {w : World} {a : Option Addr} {n cap : Nat} {l : List α} (h : Rd c w (.slice a n cap) l) (k : Nat) (hk : k ≤ l.length) :
    Rd c w (.slice (if cap = k then a else a.map (·.add k)) (n - k) (cap - k)) (l.drop k) := by
  obtain ⟨a', cap', he, h1, h2, h3⟩ := h
  injection he with e1 e2 e3; subst e1; subst e2; subst e3
  refine ⟨_, _, by rw [List.length_drop], by rw [List.length_drop]; omega, by omega, fun hne => ?_⟩
  have hlt : k < l.length := by
    rcases Nat.lt_or_ge k l.length with q | q
    · exact q
    · exact absurd (List.drop_eq_nil_of_le q) hne
  obtain ⟨b, off, rfl, hc⟩ := h3 (fun q => by subst q; simp at hlt)
  refine ⟨b, off + k, by rw [if_neg (by omega)]; simp [add_none], fun j hj => ?_⟩
  rw [List.length_drop] at hj
  rw [nth_drop, Nat.add_assoc]; exact hc _ (by omega)

theorem Upd.seq {a b c : World} (h : Upd [] a b) (k : Upd [] b c) : Upd [] a c := h.trans k (by simp) (by simp)

theorem Own.form {α : Type} {c : α → Value} {base : Nat} {e : TypeId} {w : World} {v : Value} {l : List α} (h : Own c base e w v l) (hne : l ≠ []) :
    ∃ g k ys, v = .slice (some ⟨g, 0, none⟩) l.length k ∧ base ≤ g ∧ Blk w g e (l.map c ++ ys) ∧ l.length ≤ k ∧ k ≤ maxLen := by
  obtain ⟨h1, h2⟩ := h
  rcases h2 with ⟨_, hn⟩ | ⟨g, cap, cur, rfl, hb, hg, hc, hm, hs, ht⟩
  · exact absurd (List.eq_nil_of_length_eq_zero hn) hne
  · refine ⟨g, cap, cur.toList.drop l.length, rfl, hb, ?_, hc, hm⟩
    rw [← ht, Nat.mul_one, List.take_append_drop]
    unfold Blk; simpa using hg
theorem Rd.sub {α : Type} [Inhabited α] {c : α → Value} {w : World} {a : Option Addr} {n cap : Nat} {l : List α} (h : Rd c w (.slice a n cap) l) (i k : Nat) (hi : i ≤ k) (hk : k ≤ l.length) :
    Rd c w (.slice (if cap = i then a else a.map (·.add i)) (k - i) (cap - i)) ((l.drop i).take (k - i)) := (h.drop i (by omega)).take (k - i) (by rw [List.length_drop]; omega)
end Go.Proofs.Ytmhdhnipljonlaa
namespace Go.Proofs.Ytmhdhnipljonlaa
/-- A slice's value. -/
structure Sl where
  a : Option Addr
  n : Nat
  k : Nat
instance : Inhabited Sl := ⟨⟨none, 0, 0⟩⟩
abbrev slv (s : Sl) : Value := .slice s.a s.n s.k
theorem slv_one (s : Sl) : (slv s).oneCell' = true := rfl
end Go.Proofs.Ytmhdhnipljonlaa
namespace Go.Proofs.Ytmhdhnipljonlaa
open Go.RowKit
set_option linter.unusedSimpArgs false
set_option linter.unusedVariables false

/-- A list that a slice's value shows in a world, an element so many cells. -/
def RdN {α : Type} [Inhabited α] (sz : Nat) (c : α → List Value) (w : World) (v : Value) (l : List α) : Prop :=
  ∃ a cap, v = .slice a l.length cap ∧ l.length ≤ cap ∧ cap ≤ maxLen ∧
    (l ≠ [] → ∃ b off, a = some ⟨b, off, none⟩ ∧ ∀ j, j < l.length → ∀ i, i < sz → w.cell? ⟨b, off + (j * sz + i), none⟩ = (c (nth l j))[i]?)
theorem RdN.upd {α : Type} [Inhabited α] {sz : Nat} {c : α → List Value} {w w' : World} {v : Value} {l : List α} (hsz : ∀ x, (c x).length = sz) (h : RdN sz c w v l) {S : List Nat} (hu : Upd S w w') (hs : ∀ x ∈ blk v, x ∉ S) : RdN sz c w' v l := by
  obtain ⟨a, cap, rfl, h1, h2, h3⟩ := h
  refine ⟨a, cap, rfl, h1, h2, fun hne => ?_⟩
  obtain ⟨b, off, rfl, hc⟩ := h3 hne
  refine ⟨b, off, rfl, fun j hj i hi => ?_⟩
  have hq := hc j hj i hi
  have hlt : i < (c (nth l j)).length := by rw [hsz]; exact hi
  rw [List.getElem?_eq_getElem hlt] at hq ⊢
  exact hu.cell hq (hs b (by simp [blk]))
theorem RdN.upd0 {α : Type} [Inhabited α] {sz : Nat} {c : α → List Value} {w w' : World} {v : Value} {l : List α} (hsz : ∀ x, (c x).length = sz) (h : RdN sz c w v l) (hu : Upd [] w w') : RdN sz c w' v l := h.upd hsz hu (by simp)

theorem Rd.at_ {α : Type} [Inhabited α] {c : α → Value} {w : World} {a : Option Addr} {n cap : Nat} {l : List α} (h : Rd c w (.slice a n cap) l) (k : Nat) (hk : k < l.length) :
    ∃ b off, a = some ⟨b, off, none⟩ ∧ w.cell? ⟨b, off + k, none⟩ = some (c (nth l k)) := by
  obtain ⟨a', cap', he, _, _, h3⟩ := h
  injection he with e1 e2 e3; subst e1
  obtain ⟨b, off, hb, hc⟩ := h3 (fun q => by rw [q] at hk; simp at hk)
  exact ⟨b, off, hb, hc k hk⟩
end Go.Proofs.Ytmhdhnipljonlaa
namespace Go.Proofs.Ytmhdhnipljonlaa
open Go.RowKit
set_option linter.unusedSimpArgs false
set_option linter.unusedVariables false

theorem flatMap_get {α : Type} [Inhabited α] {sz : Nat} {c : α → List Value} (hsz : ∀ x, (c x).length = sz) : ∀ (l : List α) (j i : Nat), j < l.length → i < sz → (l.flatMap c)[j * sz + i]? = (c (nth l j))[i]?
  | [], j, i, hj, hi => by simp at hj
  | x :: l, 0, i, hj, hi => by
    rw [List.flatMap_cons, Nat.zero_mul, Nat.zero_add, List.getElem?_append_left (by rw [hsz]; exact hi), nth_cons_zero]
  | x :: l, j + 1, i, hj, hi => by
    have hq : (j + 1) * sz + i = sz + (j * sz + i) := by rw [Nat.add_mul]; omega
    rw [List.flatMap_cons, hq, List.getElem?_append_right (by rw [hsz]; omega), hsz, Nat.add_sub_cancel_left, nth_cons_succ]
    exact flatMap_get hsz l j i (by simpa using hj) hi
theorem flatMap_len {α : Type} {sz : Nat} {c : α → List Value} (hsz : ∀ x, (c x).length = sz) (l : List α) : (l.flatMap c).length = l.length * sz := by
  induction l with
  | nil => simp
  | cons x l ih => rw [List.flatMap_cons, List.length_append, hsz, ih, List.length_cons, Nat.add_mul, Nat.one_mul]; omega
/-- A list in a block of the call's own, an element so many cells. -/
def OwnN {α : Type} (sz : Nat) (c : α → List Value) (base : Nat) (e : TypeId) (w : World) (v : Value) (l : List α) : Prop := w.ownsRow base e sz v l.length (l.flatMap c)
theorem OwnN.rd {α : Type} [Inhabited α] {sz : Nat} {c : α → List Value} {base : Nat} {e : TypeId} {w : World} {v : Value} {l : List α} (hsz : ∀ x, (c x).length = sz) (h : OwnN sz c base e w v l) : RdN sz c w v l := by
  obtain ⟨h1, h2⟩ := h
  rcases h2 with ⟨rfl, hn⟩ | ⟨g, cap, cur, rfl, hb, hg, hc, hm, hs, ht⟩
  · exact ⟨none, 0, by rw [hn], by omega, Nat.zero_le _, fun q => absurd (List.eq_nil_of_length_eq_zero hn) q⟩
  · refine ⟨_, cap, rfl, hc, hm, fun _ => ⟨g, 0, rfl, fun j hj i hi => ?_⟩⟩
    rw [cell_of_row w g (0 + (j * sz + i)) cur e (0, 0) hg, ← flatMap_get hsz l j i hj hi, ← ht, List.getElem?_take]
    have hlt : j * sz + i < l.length * sz := by
      have := Nat.mul_le_mul_right sz (show j + 1 ≤ l.length from hj)
      rw [Nat.add_mul] at this; omega
    simp [hlt]
theorem OwnN.upd {α : Type} {sz : Nat} {c : α → List Value} {base : Nat} {e : TypeId} {w w' : World} {v : Value} {l : List α} (h : OwnN sz c base e w v l) {S : List Nat} (hu : Upd S w w') (hs : ∀ x ∈ blk v, x ∉ S) : OwnN sz c base e w' v l := by
  obtain ⟨h1, h2⟩ := h
  refine ⟨h1, ?_⟩
  rcases h2 with h2 | ⟨g, cap, cur, rfl, hb, hg, r⟩
  · exact .inl h2
  · exact .inr ⟨g, cap, cur, rfl, hb, hu.heap hg (hs g (by simp [blk])), r⟩
theorem OwnN.ge {α : Type} {sz : Nat} {c : α → List Value} {base : Nat} {e : TypeId} {w : World} {v : Value} {l : List α} (h : OwnN sz c base e w v l) : ∀ x ∈ blk v, base ≤ x ∧ x < w.heap.size := by
  intro x hx
  rw [blk_own] at hx
  exact World.ownsRow.lt h x (by simpa using hx)
theorem OwnN.typ {α : Type} {sz : Nat} {c : α → List Value} {base : Nat} {e : TypeId} {w : World} {v : Value} {l : List α} (h : OwnN sz c base e w v l) : ∀ x ∈ blk v, ∃ C f, w.heap[x]? = some (.cells C e f) := by
  intro x hx
  rcases h.2 with ⟨rfl, _⟩ | ⟨g, cap, cur, rfl, hb, hg, r⟩
  · simp [blk] at hx
  · simp [blk] at hx; subst hx; exact ⟨_, _, hg⟩
theorem OwnN.nil {α : Type} {sz : Nat} {c : α → List Value} (base : Nat) (e : TypeId) (w : World) : OwnN sz c base e w (.slice none 0 0) ([] : List α) := World.ownsRow_nil _ _ _ _
theorem Blk.ne {w : World} {g : Nat} {e e' : TypeId} {xs C : _} {f : Nat × Nat} (h : Blk w g e xs) (x : Nat) (k : w.heap[x]? = some (.cells C e' f)) (hne : e ≠ e') : g ≠ x := by
  rintro rfl
  unfold Blk at h; rw [h] at k; simp at k; exact hne k.2.1
section
variable {P : Program} {ops : Array Oper} {rest : List Oper} {o : Oper} {a : Act} {w : World} {Q : Exit → Act → World → Prop}
/-- append of a list onto a list of the call's own. -/
theorem wpList_appN {α : Type} [Inhabited α] {sz : Nat} {c : α → List Value} (hsz : ∀ x, (c x).length = sz) (hpos : 0 < sz) (hone : ∀ x, ∀ u ∈ c x, u.oneCell' = true) (hgd : o.guard = none) (s x : Operand) {t e : TypeId} (ho : o.op = .call { callee := .builtin .append, args := #[s, x], argTypes := #[t, t] })
    {z : Value} {bytes base : Nat} (ht : P.underlying t = some (.slice e)) (hi : (P.info? e).map (fun i => (i.zero, i.size, i.bytes)) = some (some z, sz, bytes)) (hz : z.cells.size = sz)
    (v : Value) (l : List α) (y : α) (hs : a.eval s = v) (g k : Nat) (hx : a.eval x = .slice (some ⟨g, 0, none⟩) 1 k) (hv : OwnN sz c base e w v l) (hu : ∀ i u, (c y)[i]? = some u → w.cell? ⟨g, i, none⟩ = some u) (hb : (l.length + 1) * bytes ≤ 140737488355328) (hl : l.length + 1 ≤ maxLen) (hbase : base ≤ w.heap.size)
    (h : ∀ v' w', OwnN sz c base e w' v' (l ++ [y]) → Upd (blk v) w w' → (∀ x ∈ blk v', x ∈ blk v ∨ w.heap.size ≤ x) → wpList P ops Q rest (a.put o.dst v') w') : wpList P ops Q (o :: rest) a w := by
  obtain ⟨i, h1, h2, h3, h4⟩ := info_parts hi
  obtain ⟨v', w', hr, g1, g2, _, g3⟩ := run_append_own_at (P := P) (ty := o.type) w base t e i z sz bytes ht h1 h2 h3 h4 hz hpos v l.length (l.flatMap c) hv ⟨g, 0, none⟩ 1 k (c y) (by rw [hsz]; simp) (fun j u hj => by rw [add_none, Nat.zero_add]; exact hu j u hj) (hone y) hl hb hbase
  have hown : OwnN sz c base e w' v' (l ++ [y]) := by
    unfold OwnN; rw [List.length_append, List.flatMap_append]; simpa using g1
  refine wpList_plain hgd fun K hK => ?_
  unfold Oper.wp execOp
  simp only [ho, resolve, invoke, builtin, Sem.run_bind, Sem.run_pure, Result.andThen_ok, List.map_toArray, List.map_cons, List.map_nil, hs, hx, hr]
  refine hK _ _ (h v' w' hown (by rw [blk_own]; exact Upd.of_grown g2) ?_)
  intro x hx
  rw [blk_own] at hx
  rcases g3 with g3 | g3
  · rw [g3, ← blk_own] at hx; exact .inl hx
  · rw [g3] at hx; simp at hx; exact .inr (by omega)
theorem zeroCells_one {zc : Array Value} (h : ∀ u ∈ zc, u.oneCell' = true) (n : Nat) : ∀ u ∈ (Builtin.zeroCells zc n).toList, u.oneCell' = true := by
  intro u hu
  simp only [Builtin.zeroCells, Array.toList_map, List.mem_map] at hu
  obtain ⟨i, hi, rfl⟩ := hu
  have hi' : i < n * zc.size := by simpa using hi
  have hpos : 0 < zc.size := by
    rcases Nat.eq_zero_or_pos zc.size with h0 | h0
    · rw [h0] at hi'; omega
    · exact h0
  have hlt := Nat.mod_lt i hpos
  rw [getElem!_pos zc _ hlt]
  exact h _ (Array.getElem_mem hlt)
/-- clear of a list of the call's own: what was there is zero; cut to nothing it is a list of the call's own again. -/
theorem wpList_clearN {α : Type} {sz : Nat} {c : α → List Value} (hgd : o.guard = none) (s : Operand) {t e : TypeId} (ho : o.op = .call { callee := .builtin .clear, args := #[s], argTypes := #[t] })
    {z : Value} {bytes base : Nat} (ht : P.underlying t = some (.slice e)) (hi : (P.info? e).map (fun i => (i.zero, i.size, i.bytes)) = some (some z, sz, bytes)) (hz : z.cells.size = sz) (h1 : ∀ u ∈ z.cells, u.oneCell' = true)
    (v : Value) (l : List α) (hs : a.eval s = v) (hv : OwnN sz c base e w v l)
    (h : ∀ w', Upd (blk v) w w' → w'.heap.size = w.heap.size → (∀ ao cap, v = .slice ao l.length cap → OwnN sz c base e w' (.slice ao 0 cap) ([] : List α)) → wpList P ops Q rest (a.put o.dst (.tuple #[])) w') : wpList P ops Q (o :: rest) a w := by
  obtain ⟨i, i1, i2, i3, i4⟩ := info_parts hi
  have key : ∃ w', (Builtin.clear_ #[t] o.type #[v]).run P w = .ok (.tuple #[]) w' ∧ Upd (blk v) w w' ∧ w'.heap.size = w.heap.size ∧ (∀ ao cap, v = .slice ao l.length cap → OwnN sz c base e w' (.slice ao 0 cap) ([] : List α)) := by
    rcases hv.2 with ⟨rfl, hn⟩ | ⟨g, cap, cur, rfl, hb, hg, hc, hm, hsz, htk⟩
    · refine ⟨w, ?_, Upd.refl _ _, rfl, ?_⟩
      · simp [Builtin.clear_, run_underlying ht]
      · intro ao cap he; injection he with e1 e2 e3; subst e1; subst e3; exact World.ownsRow_nil _ _ _ _
    · by_cases h0 : l.length = 0
      · refine ⟨w, ?_, Upd.refl _ _, rfl, ?_⟩
        · rw [h0]; simp [Builtin.clear_, run_underlying ht]
        · intro ao cap' he; injection he with e1 e2 e3; subst e1; subst e3
          exact ⟨by simp, .inr ⟨g, _, cur, rfl, hb, hg, by simp, hm, hsz, by simp⟩⟩
      · have hzl : (Builtin.zeroCells z.cells l.length).toList.length = l.length * sz := by rw [Array.length_toList, size_zeroCells, hz]
        have hfit : 0 + 0 + (Builtin.zeroCells z.cells l.length).toList.length ≤ cur.size := by
          rw [hzl, hsz]; have := Nat.mul_le_mul_right sz hc; omega
        have hst := run_storeCells_at (P := P) g 0 e _ 0 cur w hg hfit (zeroCells_one h1 l.length)
        have hlen : (List.take (0 + 0) cur.toList ++ (Builtin.zeroCells z.cells l.length).toList ++ List.drop (0 + 0 + (Builtin.zeroCells z.cells l.length).toList.length) cur.toList).toArray.size = cap * sz := by
          simp only [List.size_toArray, List.length_append, List.length_take, List.length_drop, hzl]
          rw [Array.length_toList, hsz]
          have := Nat.mul_le_mul_right sz hc
          omega
        generalize (List.take (0 + 0) cur.toList ++ (Builtin.zeroCells z.cells l.length).toList ++ List.drop (0 + 0 + (Builtin.zeroCells z.cells l.length).toList.length) cur.toList).toArray = ys at hst hlen
        refine ⟨w.setRow g ys, ?_, ⟨rfl, rfl, rfl, by simp, fun k _ hk => setRow_other w g k _ (by simpa [blk] using hk)⟩, by simp, ?_⟩
        · obtain ⟨m, hm'⟩ : ∃ m, l.length = m + 1 := ⟨l.length - 1, by omega⟩
          rw [hm'] at hst ⊢
          have hzv : (zeroValue e).run P w = .ok z w := by simp [zeroValue, typeInfo, i1, i2]
          simp only [Builtin.clear_]
          simp [run_underlying ht, hzv, hst]
        · intro ao cap' he; injection he with e1 e2 e3; subst e1; subst e3
          exact ⟨by simp, .inr ⟨g, _, _, rfl, hb, setRow_heap w g cur _ e _ hg, by simp, hm, hlen, by simp⟩⟩
  obtain ⟨w', hr, k1, k2, k3⟩ := key
  refine wpList_plain hgd fun K hK => ?_
  unfold Oper.wp execOp
  simp only [ho, resolve, invoke, builtin, Sem.run_bind, Sem.run_pure, Result.andThen_ok, List.map_toArray, List.map_cons, List.map_nil, hs, hr]
  exact hK _ _ (h w' k1 k2 k3)
end
end Go.Proofs.Ytmhdhnipljonlaa
namespace Go.Proofs.Ytmhdhnipljonlaa
open Go.RowKit
set_option linter.unusedSimpArgs false
set_option linter.unusedVariables false
def Ap (F G : List Nat) : Prop := ∀ x ∈ F, x ∉ G
theorem Ap.symm {F G : List Nat} (h : Ap F G) : Ap G F := fun x hx hF => h x hF hx
theorem Ap.nil {G : List Nat} : Ap [] G := fun x hx => by simp at hx
theorem Ap.new {F G : List Nat} {n : Nat} (hf : ∀ y ∈ F, n ≤ y) (hg : ∀ x ∈ G, x < n) : Ap F G := fun x hx hG => by have := hf x hx; have := hg x hG; omega
theorem Ap.next {F F' G : List Nat} {n : Nat} (h : Ap F G) (hf : ∀ y ∈ F', y ∈ F ∨ n ≤ y) (hg : ∀ x ∈ G, x < n) : Ap F' G := fun x hx hG => by
  rcases hf x hx with q | q
  · exact h x q hG
  · have := hg x hG; omega
end Go.Proofs.Ytmhdhnipljonlaa
namespace Go.Proofs.Ytmhdhnipljonlaa
open Go.RowKit
set_option linter.unusedSimpArgs false
set_option linter.unusedVariables false
theorem same_ext {α : Type} [Inhabited α] {l m : List α} (h : l.length = m.length) (he : ∀ j, j < l.length → nth l j = nth m j) : l = m := by
  apply List.ext_getElem h
  intro i h1 h2
  have := he i h1
  rwa [nth_get l i h1, nth_get m i h2] at this
theorem byte_eq {x y : UInt8} : (((x.toNat : Int) != (y.toNat : Int)) = true ↔ x ≠ y) := by
  simp only [bne_iff_ne, ne_eq, Int.natCast_inj]
  exact not_congr ⟨fun h => UInt8.toNat_inj.1 h, fun h => by rw [h]⟩

/-- A number brought into a range. -/
def within (n lo hi : Int) : Int := lo + n % (hi - lo + 1)
theorem within_in (n lo hi : Int) (h : lo ≤ hi) : lo ≤ within n lo hi ∧ within n lo hi ≤ hi := by
  unfold within
  have h1 := Int.emod_nonneg n (show hi - lo + 1 ≠ 0 by omega)
  have h2 := Int.emod_lt_of_pos n (show 0 < hi - lo + 1 by omega)
  omega
theorem within_neg (n d : Int) (hd : 0 < d) (h : n.tmod d < 0) : n.tmod d + d = n % d := by
  have h1 := Int.tmod_eq_emod (a := n) (b := d)
  have h2 := Int.emod_nonneg n (show d ≠ 0 by omega)
  split at h1 <;> omega
theorem within_pos (n d : Int) (hd : 0 < d) (h : 0 ≤ n.tmod d) : n.tmod d = n % d := by
  have h1 := Int.tmod_eq_emod (a := n) (b := d)
  have h2 := Int.emod_lt_of_pos n (show 0 < d by omega)
  split at h1
  · omega
  · have : (d.natAbs : Int) = d := by omega
    omega
theorem tmod_bd (n d : Int) (hd : 0 < d) : n.tmod d ≤ d - 1 ∧ -(d - 1) ≤ n.tmod d := by
  have h1 := Int.tmod_eq_emod (a := n) (b := d)
  have h2 := Int.emod_lt_of_pos n (show 0 < d by omega)
  have h3 := Int.emod_nonneg n (show d ≠ 0 by omega)
  have h4 : (d.natAbs : Int) = d := by omega
  split at h1
  · omega
  · rename_i hc
    have h5 : ¬ d ∣ n := fun q => hc (.inr q)
    have h6 : n % d ≠ 0 := fun q => h5 (Int.dvd_of_emod_eq_zero q)
    omega
theorem bv_one (x : UInt8) : (bv x).oneCell' = true := rfl

/-- A list with room behind it, all of one mark: a block of the call's own. -/
def Roomed {α : Type} (c : α → Value) (e : TypeId) (w w' : World) (v : Value) (l : List α) (mark : α) : Prop :=
  v = .slice (some ⟨w.heap.size, 0, none⟩) (l.length + 80) (l.length + 80) ∧ Blk w' w.heap.size e ((l ++ List.replicate 80 mark).map c) ∧ Upd [] w w'
theorem set_mid {α : Type} (a : List α) (k r : Nat) (m z : α) (i : Nat) (hi : i = a.length + k) (hr : 0 < r) : (a ++ (List.replicate k m ++ List.replicate r z)).set i m = a ++ (List.replicate (k + 1) m ++ List.replicate (r - 1) z) := by
  subst hi
  rw [List.set_append_right _ _ (by omega), Nat.add_sub_cancel_left, List.set_append_right _ _ (by simp)]
  obtain ⟨r, rfl⟩ : ∃ q, r = q + 1 := ⟨r - 1, by omega⟩
  rw [List.replicate_succ' (n := k), List.replicate_succ (n := r)]; simp

theorem intact_split {α : Type} [Inhabited α] (f l : List α) (m : α) (h : f.length = l.length + 80) (h1 : f.take l.length = l) (h2 : ∀ j, l.length ≤ j → j < l.length + 80 → nth f j = m) : f = l ++ List.replicate 80 m := by
  apply same_ext (by simp [h])
  intro j hj
  by_cases hl : j < l.length
  · rw [nth_append_left _ _ _ hl, ← nth_take f l.length j hl, h1]
  · rw [nth_append_right _ _ _ (by omega), nth_replicate _ _ _ (by omega)]; exact h2 j (by omega) (by omega)
theorem intact_bad {α : Type} [Inhabited α] (f l : List α) (m : α) (j : Nat) (hj : l.length ≤ j) (hj2 : j < l.length + 80) (h : nth f j ≠ m) : f ≠ l ++ List.replicate 80 m := by
  intro e; apply h; rw [e, nth_append_right _ _ _ hj, nth_replicate _ _ _ (by omega)]

end Go.Proofs.Ytmhdhnipljonlaa
namespace Go.Proofs.Ytmhdhnipljonlaa
open Go.RowKit
set_option linter.unusedSimpArgs false
set_option linter.unusedVariables false
/-- What a block holds, and how much it can hold. -/
abbrev KB := Nat → List UInt8 × Nat
abbrev OwnB (base : Nat) (w : World) (x : Nat) (c : List UInt8 × Nat) : Prop := Own bv base 5 w (.slice (some ⟨x, 0, none⟩) c.1.length c.2) c.1
/-- The blocks of B hold what K says. -/
structure Bks (base : Nat) (w : World) (B : List Nat) (K : KB) : Prop where
  own : ∀ x ∈ B, OwnB base w x (K x)
/-- A slice shows bytes of the blocks. -/
structure Sh (B : List Nat) (K : KB) (s : Sl) (l : List UInt8) : Prop where
  n : s.n = l.length
  k : s.n ≤ s.k
  m : s.k ≤ maxLen
  nul : s.a = none → s.k = 0
  ex : l ≠ [] → ∃ b off, s.a = some ⟨b, off, none⟩ ∧ b ∈ B ∧ off + l.length ≤ (K b).1.length ∧ ((K b).1.drop off).take l.length = l
/-- A slice with room behind it is the end of its block. -/
def Gr (B : List Nat) (K : KB) (s : Sl) (l : List UInt8) : Prop := s.n < s.k → ∃ b, s.a = some ⟨b, 0, none⟩ ∧ b ∈ B ∧ K b = (l, s.k)
/-- The block that a slice may grow in. -/
def gb (s : Sl) : List Nat := if s.n < s.k then blk (slv s) else []
/-- More blocks, and more in them. -/
structure Ext (B : List Nat) (K : KB) (B' : List Nat) (K' : KB) : Prop where
  sub : ∀ x ∈ B, x ∈ B'
  pre : ∀ x ∈ B, ∃ t, (K' x).1 = (K x).1 ++ t
section
variable {base : Nat} {w w' : World} {B B' B'' : List Nat} {K K' K'' : KB} {s : Sl} {l : List UInt8}
theorem Ext.refl (B : List Nat) (K : KB) : Ext B K B K := ⟨fun _ h => h, fun _ _ => ⟨[], (List.append_nil _).symm⟩⟩
theorem Ext.trans (h : Ext B K B' K') (k : Ext B' K' B'' K'') : Ext B K B'' K'' :=
  ⟨fun x hx => k.sub x (h.sub x hx), fun x hx => by
    obtain ⟨t, ht⟩ := h.pre x hx
    obtain ⟨u, hu⟩ := k.pre x (h.sub x hx)
    exact ⟨t ++ u, by rw [hu, ht, List.append_assoc]⟩⟩
theorem Bks.upd (h : Bks base w B K) {S : List Nat} (hu : Upd S w w') (hs : ∀ x ∈ B, x ∉ S) : Bks base w' B K :=
  ⟨fun x hx => (h.own x hx).upd hu (fun y hy => by simp [blk] at hy; subst hy; exact hs _ hx)⟩
theorem Bks.ge (h : Bks base w B K) : ∀ x ∈ B, base ≤ x ∧ x < w.heap.size := fun x hx => (h.own x hx).ge x (by simp [blk])
theorem Bks.typ (h : Bks base w B K) : ∀ x ∈ B, ∃ C f, w.heap[x]? = some (.cells C 5 f) := fun x hx => by
  rcases (h.own x hx).2 with ⟨he, _⟩ | ⟨g, cap, cur, he, _, hg, _⟩
  · simp at he
  · injection he with e1 e2 e3; injection e1 with e1; injection e1 with e1 e4; subst e1; exact ⟨_, _, hg⟩
theorem Sh.ext (h : Sh B K s l) (he : Ext B K B' K') : Sh B' K' s l := by
  refine ⟨h.n, h.k, h.m, h.nul, fun hne => ?_⟩
  obtain ⟨b, off, h1, h2, h3, h4⟩ := h.ex hne
  obtain ⟨t, ht⟩ := he.pre b h2
  refine ⟨b, off, h1, he.sub b h2, by rw [ht, List.length_append]; omega, ?_⟩
  rw [ht, List.drop_append_of_le_length (by omega), List.take_append_of_le_length (by rw [List.length_drop]; omega)]
  exact h4
theorem Sh.rd (hB : Bks base w B K) (h : Sh B K s l) : Bytes w (slv s) l := by
  have h1 := h.n
  have h2 := h.k
  have h3 := h.m
  have h4 := h.ex
  obtain ⟨a, n, k⟩ := s
  dsimp only at h1 h2 h3 h4
  subst h1
  refine ⟨a, k, rfl, h2, h3, fun hne => ?_⟩
  obtain ⟨b, off, rfl, hb, h5, h6⟩ := h4 hne
  refine ⟨b, off, rfl, fun j hj => ?_⟩
  obtain ⟨a', k', he, -, -, hc⟩ := (hB.own b hb).rd
  injection he with e1 e2 e3
  subst e1
  obtain ⟨b', off', e4, hc⟩ := hc (fun q => by rw [q] at h5; simp only [List.length_nil] at h5; omega)
  injection e4 with e4; injection e4 with e4 e5; subst e4; subst e5
  have hq := hc (off + j) (by omega)
  rw [Nat.zero_add] at hq
  have hn : nth l j = nth (K b).1 (off + j) := by
    have : nth (((K b).1.drop off).take l.length) j = nth l j := by rw [h6]
    rw [← this, nth_take _ _ _ hj, nth_drop]
  rw [hn]; exact hq
theorem gb_in (hg : Gr B K s l) : ∀ x ∈ gb s, x ∈ B ∧ K x = (l, s.k) ∧ s.a = some ⟨x, 0, none⟩ := by
  intro x hx
  unfold gb at hx
  split at hx
  · rename_i h
    obtain ⟨b, h1, h2, h3⟩ := hg h
    rw [show slv s = .slice s.a s.n s.k from rfl, h1] at hx
    simp [blk] at hx; subst hx
    exact ⟨h2, h3, h1⟩
  · simp at hx
theorem Gr.full (h : s.k ≤ s.n) : Gr B K s l := fun q => absurd q (by omega)
theorem gb_full (h : s.k ≤ s.n) : gb s = [] := by unfold gb; rw [if_neg (by omega)]
theorem Sh.nil : Sh B K ⟨none, 0, 0⟩ [] := ⟨rfl, Nat.le_refl _, Nat.zero_le _, fun _ => rfl, fun h => absurd rfl h⟩
/-- The first bytes, without room behind them. -/
theorem Sh.cut (h : Sh B K s l) (n : Nat) (hn : n ≤ l.length) : Sh B K ⟨s.a, n, n⟩ (l.take n) := by
  have h1 := h.n
  have h2 := h.k
  have h3 := h.m
  refine ⟨by rw [List.length_take]; show n = _; omega, Nat.le_refl _, by show n ≤ _; omega, fun q => by have := h.nul q; show n = 0; omega, fun hne => ?_⟩
  have hl : l ≠ [] := fun q => hne (by rw [q]; simp)
  obtain ⟨b, off, e1, e2, e3, e4⟩ := h.ex hl
  refine ⟨b, off, e1, e2, by rw [List.length_take]; omega, ?_⟩
  rw [List.length_take, Nat.min_eq_left hn, ← e4, List.take_take, Nat.min_eq_left hn]
/-- A new block. -/
theorem Bks.new (hB : Bks base w B K) {w' : World} {v : Value} {l : List UInt8} (ho : Own bv w.heap.size 5 w' v l) (hu : Upd [] w w') (hbase : base ≤ w.heap.size) :
    ∃ s B' K', v = slv s ∧ Bks base w' B' K' ∧ Ext B K B' K' ∧ (∀ x ∈ B', x ∈ B ∨ w.heap.size ≤ x) ∧ Sh B' K' s l ∧ Gr B' K' s l ∧ (∀ x ∈ gb s, w.heap.size ≤ x) ∧ (∀ x ∈ B, K' x = K x) := by
  have ho' := ho
  obtain ⟨h1, h2⟩ := ho'
  rcases h2 with ⟨rfl, hn⟩ | ⟨g, cap, cur, rfl, hb, hg, hc, hm, hs, ht⟩
  · obtain rfl : l = [] := List.eq_nil_of_length_eq_zero hn
    exact ⟨⟨none, 0, 0⟩, B, K, rfl, hB.upd hu (by simp), Ext.refl _ _, fun x hx => .inl hx, Sh.nil, Gr.full (Nat.le_refl _), fun x hx => by rw [gb_full (Nat.le_refl _)] at hx; simp at hx, fun _ _ => rfl⟩
  · have hne : ∀ x ∈ B, x ≠ g := fun x hx q => by have := (hB.ge x hx).2; omega
    have hk : ∀ x ∈ B, (if x = g then (l, cap) else K x) = K x := fun x hx => if_neg (hne x hx)
    refine ⟨⟨some ⟨g, 0, none⟩, l.length, cap⟩, g :: B, fun x => if x = g then (l, cap) else K x, rfl, ⟨fun x hx => ?_⟩, ⟨fun x hx => by simp [hx], fun x hx => ⟨[], by rw [hk x hx, List.append_nil]⟩⟩, fun x hx => ?_, ⟨rfl, hc, hm, fun q => by simp at q, fun _ => ⟨g, 0, rfl, by simp, by simp, by simp⟩⟩, fun _ => ⟨g, rfl, by simp, by simp⟩, fun x hx => ?_, hk⟩
    · rcases List.mem_cons.1 hx with rfl | hx
      · show OwnB base w' x (if x = x then (l, cap) else K x)
        rw [if_pos rfl]; exact ho.base_le hbase
      · show OwnB base w' x (if x = g then (l, cap) else K x)
        rw [hk x hx]; exact (hB.own x hx).upd hu (by simp)
    · rcases List.mem_cons.1 hx with rfl | hx
      · exact .inr hb
      · exact .inl hx
    · unfold gb at hx
      split at hx
      · simp [blk] at hx; omega
      · simp at hx
theorem Gr.keep (h : Gr B K s l) (hs : ∀ x ∈ B, x ∈ B') (hk : ∀ x ∈ B, K' x = K x) : Gr B' K' s l := fun q => by
  obtain ⟨b, h1, h2, h3⟩ := h q
  exact ⟨b, h1, hs b h2, by rw [hk b h2, h3]⟩
/-- Behind an append: the new slice, the blocks, and what becomes of others. -/
def Grew (base : Nat) (w : World) (B : List Nat) (K : KB) (s : Sl) (l : List UInt8) (v' : Value) (w' : World) : Prop :=
  ∃ s' B' K', v' = slv s' ∧ Bks base w' B' K' ∧ Ext B K B' K' ∧ (∀ x ∈ B', x ∈ B ∨ w.heap.size ≤ x) ∧ Sh B' K' s' l ∧ Gr B' K' s' l ∧ Upd B w w' ∧ (∀ s2 l2, Gr B K s2 l2 → Ap (gb s2) (gb s) → Gr B' K' s2 l2 ∧ Ap (gb s2) (gb s'))
theorem infoB8 : (Try.prog.info? 5).map (fun i => (i.zero, i.size, i.bytes)) = some (some (.int .u8 0), 1, 1) := by kernel_rfl
theorem app_step {ty : TypeId} {u : Value} {p : List UInt8} (hB : Bks base w B K) (hs : Sh B K s l) (hg : Gr B K s l) (hp : Bytes w u p) (hne : p ≠ []) (hlen : l.length + p.length ≤ 1000000000) (hbase : base ≤ w.heap.size) :
    ∃ v' w', (Builtin.append_ #[27, 27] ty #[slv s, u]).run Try.prog w = .ok v' w' ∧ Grew base w B K s (l ++ p) v' w' := by
  have hrd := hs.rd hB
  have h1 := hs.n
  have h2 := hs.k
  have h3 := hs.m
  have h4 := hs.nul
  have hmax : l.length + p.length ≤ maxLen := by unfold maxLen; omega
  obtain ⟨i, i1, i2, i3, i4⟩ := info_parts infoB8
  obtain ⟨A, cap, rfl, hle, hcm, hcell0⟩ := hp
  obtain ⟨pb, poff, rfl, hcell⟩ := hcell0 hne
  have hnews : ∀ j u, (p.map bv)[j]? = some u → w.cell? ((⟨pb, poff, none⟩ : Addr).add j) = some u := fun j u hj => by
    rw [add_none]
    rw [List.getElem?_map] at hj
    obtain ⟨x, hx, rfl⟩ := Option.map_eq_some_iff.1 hj
    rw [hcell j (List.getElem?_eq_some_iff.1 hx).1, nth_of p j x hx]
  have hpos : 0 < p.length := List.length_pos_iff.2 hne
  by_cases hroom : l.length + p.length ≤ s.k
  · -- there is room
    obtain ⟨b, hb, hbB, hK⟩ := hg (by omega)
    have hown := hB.own b hbB
    rw [hK] at hown
    obtain ⟨o1, o2⟩ := hown
    rcases o2 with ⟨he, _⟩ | ⟨g, cap', cur, he, hbg, hgc, hnc, hcm', hcs, htk⟩
    · simp at he
    injection he with e1 e2 e3
    injection e1 with e1; injection e1 with e1 e5; subst e1
    dsimp only at e3 hcs htk
    rw [Nat.mul_one] at hcs htk
    have hfit : l.length * i.size + (p.map bv).length ≤ cur.size := by rw [i3, Nat.mul_one, List.length_map, hcs, ← e3]; exact hroom
    have hr := run_append_room (P := Try.prog) w 27 ty 5 i Try.underlying27 i1 b l.length s.k cur hgc ⟨pb, poff, none⟩ p.length cap (p.map bv) (by simp [i3]) hnews (oneCell_map bv_one p) hroom hfit
    rw [i3, Nat.mul_one, List.length_map, htk] at hr
    rw [show slv s = .slice s.a s.n s.k from rfl, hb, h1]
    generalize hys : (l.map bv ++ p.map bv ++ cur.toList.drop (l.length + p.length)).toArray = ys at hr
    have hys2 : ys.toList = (l ++ p).map bv ++ cur.toList.drop (l.length + p.length) := by rw [← hys]; simp
    have hysz : ys.size = s.k := by
      rw [← hys]
      simp only [List.size_toArray, List.length_append, List.length_map, List.length_drop, Array.length_toList, hcs]
      omega
    have hnew : OwnB base (w.setRow b ys) b (l ++ p, s.k) := by
      refine ⟨by simp, .inr ⟨b, s.k, ys, rfl, hbg, setRow_heap w b cur ys _ _ hgc, by simp; omega, h3, by rw [hysz, Nat.mul_one], ?_⟩⟩
      rw [hys2, Nat.mul_one, List.take_append_of_le_length (by simp)]
      exact List.take_of_length_le (by simp)
    have hu : Upd [b] w (w.setRow b ys) := ⟨rfl, rfl, rfl, by simp, fun k _ hk => setRow_other w b k _ (by simpa using hk)⟩
    refine ⟨_, _, hr, ⟨some ⟨b, 0, none⟩, l.length + p.length, s.k⟩, B, fun x => if x = b then (l ++ p, s.k) else K x, rfl, ⟨fun x hx => ?_⟩, ⟨fun _ h => h, fun x hx => ?_⟩, fun x hx => .inl hx, ⟨by simp, hroom, h3, fun q => by simp at q, fun _ => ⟨b, 0, rfl, hbB, by show 0 + _ ≤ (if b = b then (l ++ p, s.k) else K b).1.length; rw [if_pos rfl]; simp, by show ((if b = b then (l ++ p, s.k) else K b).1.drop 0).take _ = _; rw [if_pos rfl]; exact List.take_length⟩⟩, fun _ => ⟨b, rfl, hbB, by show (if b = b then (l ++ p, s.k) else K b) = _; rw [if_pos rfl]⟩, hu.mono (fun x hx => by simp at hx; subst hx; exact .inl hbB), fun s2 l2 g2 hap => ?_⟩
    · show OwnB base (w.setRow b ys) x (if x = b then (l ++ p, s.k) else K x)
      split
      · rename_i h; subst h; exact hnew
      · rename_i h; exact (hB.own x hx).upd hu (fun y hy => by simp [blk] at hy; subst hy; simpa using h)
    · show ∃ t, (if x = b then (l ++ p, s.k) else K x).1 = (K x).1 ++ t
      split
      · rename_i h; subst h; rw [hK]; exact ⟨p, rfl⟩
      · exact ⟨[], (List.append_nil _).symm⟩
    · have hgb : gb s = [b] := by unfold gb; rw [if_pos (by omega), show slv s = .slice s.a s.n s.k from rfl, hb]; rfl
      rw [hgb] at hap
      refine ⟨fun q => ?_, fun x hx => ?_⟩
      · obtain ⟨b2, q1, q2, q3⟩ := g2 q
        have hn2 : b2 ≠ b := fun e => hap b2 (by unfold gb; rw [if_pos q, show slv s2 = .slice s2.a s2.n s2.k from rfl, q1]; simp [blk]) (by simp [e])
        exact ⟨b2, q1, q2, by show (if b2 = b then (l ++ p, s.k) else K b2) = _; rw [if_neg hn2, q3]⟩
      · have h9 := hap x hx
        unfold gb
        split
        · simpa [blk] using h9
        · simp
  · -- it grows
    have key : ∃ v' w', (Builtin.append_ #[27, 27] ty #[slv s, .slice (some ⟨pb, poff, none⟩) p.length cap]).run Try.prog w = .ok v' w' ∧ Own bv w.heap.size 5 w' v' (l ++ p) ∧ Upd [] w w' := by
      obtain ⟨a, n, k⟩ := s
      dsimp only at h1 h2 h3 h4 hroom hrd
      subst h1
      cases a with
      | some ad =>
        have holds : ∀ j u, (l.map bv)[j]? = some u → w.cell? (ad.add j) = some u := fun j u hj => by
          rw [List.getElem?_map] at hj
          obtain ⟨x, hx, rfl⟩ := Option.map_eq_some_iff.1 hj
          have hjl := (List.getElem?_eq_some_iff.1 hx).1
          obtain ⟨a', k', he, -, -, hc⟩ := hrd
          have e1 : some ad = a' := (Value.slice.inj he).1
          obtain ⟨b, off, e4, hc⟩ := hc (by intro q; rw [q] at hjl; simp at hjl)
          obtain rfl : ad = ⟨b, off, none⟩ := Option.some.inj (e1.trans e4)
          rw [add_none, hc j hjl, nth_of l j x hx]
        obtain ⟨v', w', hr, r1, r2⟩ := run_append_arg_grows (P := Try.prog) w 27 ty 5 i _ 1 1 Try.underlying27 i1 i2 i3 i4 rfl (by decide) ad l.length k (l.map bv) (by simp) holds ⟨pb, poff, none⟩ p.length cap (p.map bv) (by simp) hnews (by omega) hmax (by omega)
        exact ⟨v', w', hr, by unfold Own; rw [List.length_append, List.map_append]; exact r1, Upd.of_grown r2⟩
      | none =>
        obtain rfl : k = 0 := h4 rfl
        obtain rfl : l = [] := List.eq_nil_of_length_eq_zero (by omega)
        obtain ⟨v', w', hr, r1, r2, _⟩ := run_append_own (P := Try.prog) w w.heap.size 27 ty 5 i _ 1 1 Try.underlying27 i1 i2 i3 i4 rfl (by decide) (.slice none 0 0) 0 [] (World.ownsRow_nil w _ _ 1) ⟨pb, poff, none⟩ p.length cap (p.map bv) (by simp) hnews (oneCell_map bv_one p) (by simpa using hmax) (by simp at hlen ⊢; omega) (Nat.le_refl _)
        refine ⟨v', w', hr, by unfold Own; rw [List.length_append, List.map_append]; exact r1, Upd.of_grown r2⟩
    obtain ⟨v', w', hr, ho, hu⟩ := key
    obtain ⟨s', B', K', rfl, k1, k2, k3, k4, k5, k6, k7⟩ := hB.new ho hu hbase
    refine ⟨_, _, hr, s', B', K', rfl, k1, k2, k3, k4, k5, hu.mono (by simp), fun s2 l2 g2 hap => ⟨g2.keep k2.sub k7, fun x hx hx' => ?_⟩⟩
    have := k6 x hx'
    have := (hB.ge x (gb_in g2 x hx).1).2
    omega
end
end Go.Proofs.Ytmhdhnipljonlaa
namespace Go.Proofs.Ytmhdhnipljonlaa
open Go.RowKit
set_option linter.unusedSimpArgs false
set_option linter.unusedVariables false
set_option linter.unusedSectionVars false
/-- An order of keys. -/
structure KOrd {κ : Type} (lt : κ → κ → Bool) : Prop where
  irr : ∀ a, lt a a = false
  trans : ∀ a b c, lt a b = true → lt b c = true → lt a c = true
  tot : ∀ a b, lt a b = false → lt b a = false → a = b
section
variable {κ ν : Type} [Inhabited κ] [Inhabited ν] [DecidableEq κ] {lt : κ → κ → Bool}
def below (lt : κ → κ → Bool) (l : List (κ × ν)) (k : κ) : Nat := (l.takeWhile fun p => lt p.1 k).length
def isIn (lt : κ → κ → Bool) (l : List (κ × ν)) (k : κ) : Bool := decide (below lt l k < l.length ∧ (nth l (below lt l k)).1 = k)
def tSet (lt : κ → κ → Bool) (l : List (κ × ν)) (k : κ) (v : ν) : List (κ × ν) := l.take (below lt l k) ++ (k, v) :: l.drop (below lt l k + if isIn lt l k then 1 else 0)
def tDel (lt : κ → κ → Bool) (l : List (κ × ν)) (k : κ) : List (κ × ν) := if isIn lt l k then l.take (below lt l k) ++ l.drop (below lt l k + 1) else l
def Rising (lt : κ → κ → Bool) (l : List (κ × ν)) : Prop := ∀ i j, i < j → j < l.length → lt (nth l i).1 (nth l j).1 = true
theorem below_le (l : List (κ × ν)) (k : κ) : below lt l k ≤ l.length := by
  unfold below
  induction l with
  | nil => simp
  | cons p l ih => rw [List.takeWhile_cons]; split <;> simp; exact ih
theorem below_lt : ∀ (l : List (κ × ν)) (k : κ) (j : Nat), j < below lt l k → lt (nth l j).1 k = true
  | [], k, j, h => by simp [below] at h
  | p :: l, k, j, h => by
    unfold below at h
    rw [List.takeWhile_cons] at h
    split at h
    · rename_i hp
      cases j with
      | zero => rw [nth_cons_zero]; exact hp
      | succ j => rw [nth_cons_succ]; exact below_lt l k j (by simpa [below] using h)
    · simp at h
theorem below_ge : ∀ (l : List (κ × ν)) (k : κ), below lt l k < l.length → lt (nth l (below lt l k)).1 k = false
  | [], k, h => by simp [below] at h
  | p :: l, k, h => by
    cases hp : lt p.1 k with
    | false =>
      have : below lt (p :: l) k = 0 := by unfold below; rw [List.takeWhile_cons]; simp [hp]
      rw [this, nth_cons_zero]; exact hp
    | true =>
      have e : below lt (p :: l) k = below lt l k + 1 := by unfold below; rw [List.takeWhile_cons]; simp [hp]
      rw [e, nth_cons_succ]
      exact below_ge l k (by rw [e] at h; simpa using h)
theorem below_eq (l : List (κ × ν)) (k : κ) (i : Nat) (h1 : i ≤ l.length) (h2 : ∀ j, j < i → lt (nth l j).1 k = true) (h3 : i < l.length → lt (nth l i).1 k = false) : below lt l k = i := by
  rcases Nat.lt_trichotomy (below lt l k) i with h | h | h
  · have a := below_ge l k (Nat.lt_of_lt_of_le h h1)
    rw [h2 _ h] at a; exact absurd a (by simp)
  · exact h
  · have a := below_lt l k i h
    have b := h3 (Nat.lt_of_lt_of_le h (below_le l k))
    rw [a] at b; exact absurd b (by simp)
def tGet (lt : κ → κ → Bool) (z : ν) (l : List (κ × ν)) (k : κ) : ν × Bool := if isIn lt l k then ((nth l (below lt l k)).2, true) else (z, false)
def tAt (zk : κ) (zv : ν) (l : List (κ × ν)) (i : Int) : κ × ν × Bool := if 0 ≤ i ∧ i < l.length then ((nth l i.toNat).1, (nth l i.toNat).2, true) else (zk, zv, false)
theorem tSet_len (l : List (κ × ν)) (k : κ) (v : ν) : (tSet lt l k v).length ≤ l.length + 1 := by
  unfold tSet
  have := below_le (lt := lt) l k
  rw [List.length_append, List.length_take, List.length_cons, List.length_drop]
  split <;> omega
theorem tDel_len (l : List (κ × ν)) (k : κ) : (tDel lt l k).length ≤ l.length := by
  unfold tDel
  split
  · rw [List.length_append, List.length_take, List.length_drop]; omega
  · exact Nat.le_refl _
theorem tSet_in (l : List (κ × ν)) (k : κ) (v : ν) (h : isIn lt l k = true) : tSet lt l k v = l.set (below lt l k) ((nth l (below lt l k)).1, v) := by
  unfold tSet
  rw [h]
  unfold isIn at h
  obtain ⟨h1, h2⟩ := of_decide_eq_true h
  rw [h2, List.set_eq_take_append_cons_drop, if_pos h1]
  rfl
theorem Rising.mono (ho : KOrd lt) {l : List (κ × ν)} (h : Rising lt l) (k : κ) (i j : Nat) (hij : i ≤ j) (hj : j < l.length) (hl : lt (nth l j).1 k = true) : lt (nth l i).1 k = true := by
  rcases Nat.lt_or_eq_of_le hij with e | e
  · exact ho.trans _ _ _ (h i j e hj) hl
  · rw [e]; exact hl
theorem Rising.nil : Rising lt ([] : List (κ × ν)) := fun i j _ h => by simp at h
theorem Rising.take {l : List (κ × ν)} (h : Rising lt l) (n : Nat) : Rising lt (l.take n) := fun i j hij hj => by
  rw [List.length_take] at hj
  rw [nth_take l n i (by omega), nth_take l n j (by omega)]; exact h i j hij (by omega)
theorem Rising.drop {l : List (κ × ν)} (h : Rising lt l) (n : Nat) : Rising lt (l.drop n) := fun i j hij hj => by
  rw [List.length_drop] at hj
  rw [nth_drop, nth_drop]; exact h _ _ (by omega) (by omega)
theorem Rising.app {l m : List (κ × ν)} (hl : Rising lt l) (hm : Rising lt m) (hlm : ∀ i j, i < l.length → j < m.length → lt (nth l i).1 (nth m j).1 = true) : Rising lt (l ++ m) := fun i j hij hj => by
  rw [List.length_append] at hj
  by_cases h1 : j < l.length
  · rw [nth_append_left _ _ _ h1, nth_append_left _ _ _ (by omega)]; exact hl i j hij h1
  · rw [nth_append_right _ _ j (by omega)]
    by_cases h2 : i < l.length
    · rw [nth_append_left _ _ _ h2]; exact hlm _ _ h2 (by omega)
    · rw [nth_append_right _ _ i (by omega)]; exact hm _ _ (by omega) (by omega)
theorem Rising.one (p : κ × ν) : Rising lt [p] := fun i j hij hj => by simp at hj; omega
/-- What stands from a place on is above the key, the key's own row left out. -/
theorem above (ho : KOrd lt) {l : List (κ × ν)} (h : Rising lt l) (k : κ) (j : Nat) (hj : below lt l k + (if isIn lt l k then 1 else 0) ≤ j) (hl : j < l.length) : lt k (nth l j).1 = true := by
  have hb : below lt l k < l.length := by split at hj <;> omega
  have h1 := below_ge l k hb
  by_cases hin : isIn lt l k = true
  · rw [if_pos hin] at hj
    unfold isIn at hin
    have e := (of_decide_eq_true hin).2
    have := h (below lt l k) j (by omega) hl
    rwa [e] at this
  · rw [if_neg hin] at hj
    have hne : (nth l (below lt l k)).1 ≠ k := by
      intro e; apply hin; unfold isIn; exact decide_eq_true ⟨hb, e⟩
    have h2 : lt k (nth l (below lt l k)).1 = true := by
      cases hc : lt k (nth l (below lt l k)).1 with
      | true => rfl
      | false => exact absurd (ho.tot _ _ h1 hc) hne
    rcases Nat.lt_or_eq_of_le hj with q | q
    · exact ho.trans _ _ _ h2 (h _ _ (by simpa using q) hl)
    · rw [Nat.add_zero] at q; rw [← q]; exact h2
theorem Rising.set_ (ho : KOrd lt) {l : List (κ × ν)} (h : Rising lt l) (k : κ) (v : ν) : Rising lt (tSet lt l k v) := by
  unfold tSet
  refine (h.take _).app ?_ ?_
  · have : (k, v) :: l.drop (below lt l k + if isIn lt l k then 1 else 0) = [(k, v)] ++ l.drop (below lt l k + if isIn lt l k then 1 else 0) := rfl
    rw [this]
    refine (Rising.one _).app (h.drop _) ?_
    intro i j hi hj
    simp at hi; subst hi
    rw [List.length_drop] at hj
    rw [nth_drop]
    exact above ho h k _ (by omega) (by omega)
  · intro i j hi hj
    rw [List.length_take] at hi
    rw [nth_take _ _ _ (by omega)]
    have h1 := below_lt (lt := lt) l k i (by omega)
    cases j with
    | zero => rw [nth_cons_zero]; exact h1
    | succ j =>
      rw [nth_cons_succ, nth_drop]
      rw [List.length_cons, List.length_drop] at hj
      exact ho.trans _ _ _ h1 (above ho h k _ (by omega) (by omega))
theorem Rising.del (ho : KOrd lt) {l : List (κ × ν)} (h : Rising lt l) (k : κ) : Rising lt (tDel lt l k) := by
  unfold tDel
  split
  · refine (h.take _).app (h.drop _) ?_
    intro i j hi hj
    rw [List.length_take] at hi
    rw [List.length_drop] at hj
    rw [nth_take _ _ _ (by omega), nth_drop]
    exact h _ _ (by omega) (by omega)
  · exact h
end
theorem intOrd : KOrd (fun a b : Int => decide (a < b)) := ⟨fun a => by simp, fun a b c => by simp; omega, fun a b => by simp; omega⟩
end Go.Proofs.Ytmhdhnipljonlaa
namespace Go.Proofs.Ytmhdhnipljonlaa
open Go.RowKit
set_option linter.unusedSimpArgs false
set_option linter.unusedVariables false
set_option linter.unusedSectionVars false
section
variable {κ ν : Type} [Inhabited κ] [Inhabited ν] [DecidableEq κ] {lt : κ → κ → Bool}
theorem lt_below (ho : KOrd lt) {l : List (κ × ν)} (h : Rising lt l) (k : κ) (i : Nat) (hi : i < l.length) : lt (nth l i).1 k = decide (i < below lt l k) := by
  by_cases hb : i < below lt l k
  · rw [below_lt l k i hb, decide_eq_true hb]
  · rw [decide_eq_false hb]
    cases hq : lt (nth l i).1 k with
    | false => rfl
    | true =>
      have h1 := below_ge (lt := lt) l k (by omega)
      rw [h.mono ho k (below lt l k) i (by omega) hi hq] at h1
      exact absurd h1 (by simp)
theorem below_at (ho : KOrd lt) {l : List (κ × ν)} (h : Rising lt l) (i : Nat) (hi : i < l.length) : below lt l (nth l i).1 = i :=
  below_eq l _ i (by omega) (fun j hj => h j i hj hi) (fun _ => ho.irr _)
theorem isIn_at (ho : KOrd lt) {l : List (κ × ν)} (h : Rising lt l) (i : Nat) (hi : i < l.length) : isIn lt l (nth l i).1 = true := by
  unfold isIn
  rw [below_at ho h i hi]
  exact decide_eq_true ⟨hi, rfl⟩
theorem tGet_at (ho : KOrd lt) (z : ν) {l : List (κ × ν)} (h : Rising lt l) (i : Nat) (hi : i < l.length) : tGet lt z l (nth l i).1 = ((nth l i).2, true) := by
  unfold tGet
  rw [isIn_at ho h i hi, below_at ho h i hi]; rfl
theorem tAt_at (zk : κ) (zv : ν) (l : List (κ × ν)) (i : Nat) (hi : i < l.length) : tAt zk zv l (i : Int) = ((nth l i).1, (nth l i).2, true) := by
  unfold tAt
  rw [if_pos ⟨by omega, by omega⟩]; rfl
theorem nth_keys (l : List (κ × ν)) (i : Nat) (hi : i < l.length) : nth (l.map (·.1)) i = (nth l i).1 := by
  rw [nth_get _ _ (by simpa using hi), nth_get _ _ hi]; simp
theorem tSet_mem (l : List (κ × ν)) (k : κ) (v : ν) (p : κ × ν) (h : p ∈ tSet lt l k v) : p = (k, v) ∨ p ∈ l := by
  unfold tSet at h
  rcases List.mem_append.1 h with h | h
  · exact .inr (List.mem_of_mem_take h)
  · rcases List.mem_cons.1 h with h | h
    · exact .inl h
    · exact .inr (List.mem_of_mem_drop h)
theorem tDel_mem (l : List (κ × ν)) (k : κ) (p : κ × ν) (h : p ∈ tDel lt l k) : p ∈ l := by
  unfold tDel at h
  split at h
  · rcases List.mem_append.1 h with h | h
    · exact List.mem_of_mem_take h
    · exact List.mem_of_mem_drop h
  · exact h
theorem nth_mem {l : List (κ × ν)} (i : Nat) (hi : i < l.length) : nth l i ∈ l := by rw [nth_get l i hi]; exact List.getElem_mem hi
theorem min_below (ho : KOrd lt) {l : List (κ × ν)} (h : Rising lt l) (k : κ) (i : Nat) (hi : i < l.length) : min (i + 1) (below lt l k) = min i (below lt l k) + (if lt (nth l i).1 k then 1 else 0) := by
  rw [lt_below ho h k i hi]
  by_cases hb : i < below lt l k
  · rw [decide_eq_true hb, if_pos rfl]; omega
  · rw [decide_eq_false hb, if_neg (by simp)]; omega
end
section
variable {κ ν κ' ν' : Type} [Inhabited κ] [Inhabited ν] [DecidableEq κ] [Inhabited κ'] [Inhabited ν'] [DecidableEq κ'] {lt : κ → κ → Bool} {lt' : κ' → κ' → Bool} (f : κ → κ') (h : ν → ν') (ok : κ → Prop)
/-- A table's rows with other names for keys and things, the order kept. -/
def tMap (l : List (κ × ν)) : List (κ' × ν') := l.map fun p => (f p.1, h p.2)
theorem tMap_nth (l : List (κ × ν)) (i : Nat) (hi : i < l.length) : nth (tMap f h l) i = (f (nth l i).1, h (nth l i).2) := by
  unfold tMap
  rw [nth_get _ _ (by simpa using hi), nth_get _ _ hi]; simp
variable (hf : ∀ a b, ok a → ok b → lt' (f a) (f b) = lt a b) (hi : ∀ a b, ok a → ok b → f a = f b → a = b)
include hf
theorem tMap_below (l : List (κ × ν)) (hl : ∀ p ∈ l, ok p.1) (k : κ) (hk : ok k) : below lt' (tMap f h l) (f k) = below lt l k := by
  unfold below tMap
  induction l with
  | nil => rfl
  | cons p l ih =>
    rw [List.map_cons, List.takeWhile_cons, List.takeWhile_cons]
    rw [hf p.1 k (hl p (by simp)) hk]
    split
    · rw [List.length_cons, List.length_cons, ih (fun q hq => hl q (by simp [hq]))]
    · rfl
include hi
theorem tMap_isIn (l : List (κ × ν)) (hl : ∀ p ∈ l, ok p.1) (k : κ) (hk : ok k) : isIn lt' (tMap f h l) (f k) = isIn lt l k := by
  unfold isIn
  rw [tMap_below f h ok hf l hl k hk]
  have hlen : (tMap f h l).length = l.length := by simp [tMap]
  rw [hlen]
  apply decide_eq_decide.2
  constructor
  · rintro ⟨h1, h2⟩
    rw [tMap_nth f h l _ h1] at h2
    exact ⟨h1, hi _ _ (hl _ (nth_mem _ h1)) hk h2⟩
  · rintro ⟨h1, h2⟩
    refine ⟨h1, ?_⟩
    rw [tMap_nth f h l _ h1]
    exact congrArg f h2
theorem tMap_set (l : List (κ × ν)) (hl : ∀ p ∈ l, ok p.1) (k : κ) (hk : ok k) (v : ν) : tSet lt' (tMap f h l) (f k) (h v) = tMap f h (tSet lt l k v) := by
  unfold tSet
  rw [tMap_isIn f h ok hf hi l hl k hk, tMap_below f h ok hf l hl k hk]
  unfold tMap
  simp [List.map_take, List.map_drop]
theorem tMap_del (l : List (κ × ν)) (hl : ∀ p ∈ l, ok p.1) (k : κ) (hk : ok k) : tDel lt' (tMap f h l) (f k) = tMap f h (tDel lt l k) := by
  unfold tDel
  rw [tMap_isIn f h ok hf hi l hl k hk, tMap_below f h ok hf l hl k hk]
  unfold tMap
  split <;> simp [List.map_take, List.map_drop]
theorem tMap_get (z : ν') (l : List (κ × ν)) (hl : ∀ p ∈ l, ok p.1) (k : κ) (hk : ok k) (z0 : ν) : tGet lt' z (tMap f h l) (f k) = if isIn lt l k then (h (tGet lt z0 l k).1, true) else (z, false) := by
  unfold tGet
  rw [tMap_isIn f h ok hf hi l hl k hk, tMap_below f h ok hf l hl k hk]
  split
  · rename_i hin
    unfold isIn at hin
    rw [tMap_nth f h l _ (of_decide_eq_true hin).1]
  · rfl
end
end Go.Proofs.Ytmhdhnipljonlaa
namespace Go.Proofs.Ytmhdhnipljonlaa
open Go.RowKit
set_option linter.unusedSimpArgs false
set_option linter.unusedVariables false
theorem bytesLoop_eq (s : ByteArray) : ∀ (n i : Nat) (r : List UInt8), s.size - i = n → ByteArray.toList.loop s i r = r.reverse ++ s.data.toList.drop i := by
  intro n
  induction n with
  | zero =>
    intro i r h
    unfold ByteArray.toList.loop
    have hs : s.data.size = s.size := rfl
    rw [if_neg (by omega), List.drop_eq_nil_of_le (by simp; omega)]; simp
  | succ n ih =>
    intro i r h
    unfold ByteArray.toList.loop
    have hs : s.data.size = s.size := rfl
    have hi : i < s.data.toList.length := by simp; omega
    rw [if_pos (by omega), ih (i + 1) _ (by omega), List.drop_eq_getElem_cons hi]
    have hd : i < s.data.size := by omega
    simp [ByteArray.get!]
    exact getElem!_pos s.data i hd
theorem strList_eq (s : ByteArray) : s.toList = s.data.toList := by
  unfold ByteArray.toList; rw [bytesLoop_eq s s.size 0 [] rfl]; simp
theorem str_inj (s t : ByteArray) (h : s.toList = t.toList) : s = t := by
  rw [strList_eq, strList_eq] at h
  cases s; cases t; congr 1; exact Array.toList_inj.1 h
theorem str_ne {s t : ByteArray} (h : (!s.toList == t.toList) = true) : s ≠ t := by rintro rfl; simp at h
theorem str_eq {s t : ByteArray} (h : (!s.toList == t.toList) = false) : s = t := str_inj _ _ (by simpa using h)
abbrev sv (s : ByteArray) : Value := .string s
end Go.Proofs.Ytmhdhnipljonlaa
namespace Go.Proofs.Ytmhdhnipljonlaa
open Go.RowKit
set_option linter.unusedSimpArgs false
set_option linter.unusedVariables false
theorem bl_irr : ∀ a : List UInt8, Op.bytesLess a a = false
  | [] => rfl
  | x :: a => by simp [Op.bytesLess, bl_irr a]
theorem bl_cons (x y : UInt8) (a b : List UInt8) : Op.bytesLess (x :: a) (y :: b) = true ↔ x.toNat < y.toNat ∨ (x = y ∧ Op.bytesLess a b = true) := by
  simp [Op.bytesLess, UInt8.lt_iff_toNat_lt]
theorem bl_trans : ∀ a b c : List UInt8, Op.bytesLess a b = true → Op.bytesLess b c = true → Op.bytesLess a c = true
  | [], [], c, h, _ => by simp [Op.bytesLess] at h
  | [], _ :: _, [], _, h => by simp [Op.bytesLess] at h
  | [], _ :: _, _ :: _, _, _ => by simp [Op.bytesLess]
  | _ :: _, [], _, h, _ => by simp [Op.bytesLess] at h
  | _ :: _, _ :: _, [], _, h => by simp [Op.bytesLess] at h
  | x :: a, y :: b, z :: c, h, k => by
    rw [bl_cons] at h k ⊢
    rcases h with h | ⟨rfl, h⟩
    · rcases k with k | ⟨rfl, k⟩
      · exact .inl (by omega)
      · exact .inl h
    · rcases k with k | ⟨rfl, k⟩
      · exact .inl k
      · exact .inr ⟨rfl, bl_trans a b c h k⟩
theorem bl_tot : ∀ a b : List UInt8, Op.bytesLess a b = false → Op.bytesLess b a = false → a = b
  | [], [], _, _ => rfl
  | [], _ :: _, h, _ => by simp [Op.bytesLess] at h
  | _ :: _, [], _, h => by simp [Op.bytesLess] at h
  | x :: a, y :: b, h, k => by
    have h1 : ¬ (x.toNat < y.toNat ∨ (x = y ∧ Op.bytesLess a b = true)) := fun q => by rw [(bl_cons x y a b).2 q] at h; exact absurd h (by simp)
    have k1 : ¬ (y.toNat < x.toNat ∨ (y = x ∧ Op.bytesLess b a = true)) := fun q => by rw [(bl_cons y x b a).2 q] at k; exact absurd k (by simp)
    have e : x = y := UInt8.toNat_inj.1 (by omega)
    subst e
    have h2 : Op.bytesLess a b = false := by
      cases hq : Op.bytesLess a b with
      | false => rfl
      | true => exact absurd (.inr ⟨rfl, hq⟩) h1
    have k2 : Op.bytesLess b a = false := by
      cases hq : Op.bytesLess b a with
      | false => rfl
      | true => exact absurd (.inr ⟨rfl, hq⟩) k1
    rw [bl_tot a b h2 k2]
abbrev strLt (a b : ByteArray) : Bool := Op.bytesLess a.toList b.toList
theorem strOrd : KOrd strLt := ⟨fun a => bl_irr _, fun a b c => bl_trans _ _ _, fun a b h k => str_inj _ _ (bl_tot _ _ h k)⟩
instance : DecidableEq ByteArray := fun a b => decidable_of_iff (a.toList = b.toList) ⟨str_inj a b, fun h => by rw [h]⟩
end Go.Proofs.Ytmhdhnipljonlaa
namespace Go.Proofs.Ytmhdhnipljonlaa
open Go.RowKit
/-- A name is 1 to 32 bytes from 33 to 126. -/
def nameOk (s : ByteArray) : Bool := decide (1 ≤ s.size ∧ s.size ≤ 32 ∧ ∀ j (h : j < s.size), 33 ≤ (s[j]).toNat ∧ (s[j]).toNat ≤ 126)
end Go.Proofs.Ytmhdhnipljonlaa
namespace Go.Proofs.Ytmhdhnipljonlaa
open Go.RowKit
set_option linter.unusedSimpArgs false
set_option linter.unusedVariables false
abbrev DF := List (ByteArray × List UInt8)
def dTotal (fs : DF) : Nat := (fs.map fun p => p.2.length).sum
/-- A raw write. -/
structure Wr where
  kd : Int
  nm : ByteArray
  tn : ByteArray
  p : List UInt8
  n : Int
instance : Inhabited Wr := ⟨⟨0, ⟨#[]⟩, ⟨#[]⟩, [], 0⟩⟩
abbrev inD (fs : DF) (s : ByteArray) : Bool := isIn strLt fs s
def dGet (fs : DF) (s : ByteArray) : List UInt8 × Bool := tGet strLt [] fs s
theorem dGet_in (fs : DF) (s : ByteArray) : (dGet fs s).2 = inD fs s := by unfold dGet tGet inD; cases isIn strLt fs s <;> rfl
theorem dGet_no {fs : DF} {s : ByteArray} (h : inD fs s = false) : dGet fs s = ([], false) := by unfold dGet tGet; rw [show isIn strLt fs s = _ from h]; rfl
def wApply (x : Wr) (fs : DF) : DF :=
  if x.kd = 1 then tSet strLt fs x.nm [] else
  if x.kd = 2 then tSet strLt fs x.nm ((dGet fs x.nm).1 ++ x.p) else
  if x.kd = 3 then (if inD fs x.nm then tSet strLt (tDel strLt fs x.nm) x.tn (dGet fs x.nm).1 else fs) else
  if x.kd = 4 then tSet strLt fs x.nm ((dGet fs x.nm).1.take x.n.toNat) else
  if x.kd = 5 then tDel strLt fs x.nm else fs
def wAll (fs : DF) (l : List Wr) : DF := l.foldl (fun f x => wApply x f) fs
structure WrOk (x : Wr) (fs : DF) : Prop where
  len : fs.length ≤ 5000
  kd : 1 ≤ x.kd ∧ x.kd ≤ 5
  put : x.kd = 2 → x.p ≠ [] ∧ (dGet fs x.nm).1.length + x.p.length ≤ 16777216
  cut : x.kd = 4 → 0 ≤ x.n ∧ x.n ≤ (dGet fs x.nm).1.length
  tot : dTotal (wApply x fs) ≤ 16777216
  has : x.kd ≠ 1 → inD fs x.nm = true
  new : x.kd = 1 → inD fs x.nm = false
def LogOk : DF → List Wr → Prop
  | _, [] => True
  | fs, x :: l => WrOk x fs ∧ LogOk (wApply x fs) l
theorem LogOk.snoc : ∀ {fs : DF} {l : List Wr} {x : Wr}, LogOk fs l → WrOk x (wAll fs l) → LogOk fs (l ++ [x])
  | fs, [], x, _, h => ⟨h, trivial⟩
  | fs, y :: l, x, h, k => ⟨h.1, LogOk.snoc h.2 k⟩
theorem LogOk.at_ : ∀ {fs : DF} {l : List Wr} (k : Nat), LogOk fs l → k < l.length → WrOk (nth l k) (wAll fs (l.take k))
  | fs, [], k, _, h => by simp at h
  | fs, y :: l, 0, h, _ => h.1
  | fs, y :: l, k + 1, h, hk => by
    rw [nth_cons_succ, List.take_succ_cons]
    exact LogOk.at_ (fs := wApply y fs) k h.2 (by simpa using hk)
theorem LogOk.take : ∀ {fs : DF} {l : List Wr} (k : Nat), LogOk fs l → LogOk fs (l.take k)
  | fs, [], k, _ => by simp [LogOk]
  | fs, y :: l, 0, h => trivial
  | fs, y :: l, k + 1, h => ⟨h.1, LogOk.take k h.2⟩
theorem wAll_snoc (fs : DF) (l : List Wr) (x : Wr) : wAll fs (l ++ [x]) = wApply x (wAll fs l) := by unfold wAll; rw [List.foldl_append]; rfl
theorem take_succ_nth {α : Type} [Inhabited α] (l : List α) (k : Nat) (h : k < l.length) : l.take (k + 1) = l.take k ++ [nth l k] := by rw [List.take_add_one, nth_get _ _ h, List.getElem?_eq_getElem h]; rfl
theorem wAll_take (fs : DF) (l : List Wr) (k : Nat) (h : k < l.length) : wAll fs (l.take (k + 1)) = wApply (nth l k) (wAll fs (l.take k)) := by rw [take_succ_nth l k h, wAll_snoc]
theorem wApply_rising {fs : DF} (h : Rising strLt fs) (x : Wr) : Rising strLt (wApply x fs) := by
  unfold wApply
  split
  · exact h.set_ strOrd _ _
  split
  · exact h.set_ strOrd _ _
  split
  · split
    · exact (h.del strOrd _).set_ strOrd _ _
    · exact h
  split
  · exact h.set_ strOrd _ _
  split
  · exact h.del strOrd _
  · exact h
theorem wAll_rising {fs : DF} (h : Rising strLt fs) : ∀ l : List Wr, Rising strLt (wAll fs l)
  | [] => h
  | x :: l => wAll_rising (wApply_rising h x) l
theorem total_app (a b : DF) : dTotal (a ++ b) = dTotal a + dTotal b := by unfold dTotal; rw [List.map_append, List.sum_append]
theorem total_cons (p : ByteArray × List UInt8) (b : DF) : dTotal (p :: b) = p.2.length + dTotal b := by unfold dTotal; rw [List.map_cons, List.sum_cons]
theorem split_at (fs : DF) (i : Nat) (h : i < fs.length) : fs.take i ++ nth fs i :: fs.drop (i + 1) = fs := by
  rw [nth_get _ _ h, List.getElem_cons_drop, List.take_append_drop]
theorem total_take (fs : DF) (i : Nat) (h : i < fs.length) : dTotal (fs.take (i + 1)) = dTotal (fs.take i) + (nth fs i).2.length := by
  rw [take_succ_nth fs i h, total_app, total_cons]; rfl
theorem total_le (fs : DF) (i : Nat) : dTotal (fs.take i) ≤ dTotal fs := by
  have := total_app (fs.take i) (fs.drop i)
  rw [List.take_append_drop] at this; omega
theorem in_at {fs : DF} {s : ByteArray} (h : inD fs s = true) : below strLt fs s < fs.length ∧ (nth fs (below strLt fs s)).1 = s := by unfold inD isIn at h; exact of_decide_eq_true h
theorem dGet_yes {fs : DF} {s : ByteArray} (h : inD fs s = true) : dGet fs s = ((nth fs (below strLt fs s)).2, true) := by unfold dGet tGet; rw [show isIn strLt fs s = _ from h]; rfl
theorem total_set_in {fs : DF} {s : ByteArray} (v : List UInt8) (h : inD fs s = true) : dTotal (tSet strLt fs s v) + (dGet fs s).1.length = dTotal fs + v.length := by
  obtain ⟨h1, h2⟩ := in_at h
  have h3 := split_at fs _ h1
  have h4 : dTotal fs = dTotal (fs.take (below strLt fs s)) + ((nth fs (below strLt fs s)).2.length + dTotal (fs.drop (below strLt fs s + 1))) := by
    conv => lhs; rw [← h3]
    rw [total_app, total_cons]
  unfold tSet
  rw [show isIn strLt fs s = true from h, if_pos rfl, total_app, total_cons, dGet_yes h, h4]
  show dTotal _ + (v.length + _) + (nth fs (below strLt fs s)).2.length = _
  omega
theorem total_set_no {fs : DF} {s : ByteArray} (v : List UInt8) (h : inD fs s = false) : dTotal (tSet strLt fs s v) = dTotal fs + v.length := by
  have h4 := total_app (fs.take (below strLt fs s)) (fs.drop (below strLt fs s))
  rw [List.take_append_drop] at h4
  unfold tSet
  rw [show isIn strLt fs s = false from h, if_neg (by simp), total_app, total_cons, Nat.add_zero, h4]
  show _ + (v.length + _) = _
  omega
theorem total_del {fs : DF} {s : ByteArray} (h : inD fs s = true) : dTotal (tDel strLt fs s) + (dGet fs s).1.length = dTotal fs := by
  obtain ⟨h1, h2⟩ := in_at h
  have h3 := split_at fs _ h1
  have h4 : dTotal fs = dTotal (fs.take (below strLt fs s)) + ((nth fs (below strLt fs s)).2.length + dTotal (fs.drop (below strLt fs s + 1))) := by
    conv => lhs; rw [← h3]
    rw [total_app, total_cons]
  unfold tDel
  rw [show isIn strLt fs s = true from h, if_pos rfl, total_app, dGet_yes h, h4]
  show dTotal _ + _ + (nth fs (below strLt fs s)).2.length = _
  omega
theorem total_set_le {fs : DF} (s : ByteArray) (v : List UInt8) : dTotal (tSet strLt fs s v) ≤ dTotal fs + v.length := by
  cases h : inD fs s with
  | true => have := total_set_in v h; omega
  | false => have := total_set_no v h; omega
theorem get_le_total (fs : DF) (s : ByteArray) : (dGet fs s).1.length ≤ dTotal fs := by
  cases h : inD fs s with
  | true => have := total_del h; omega
  | false => rw [dGet_no h]; simp
theorem set_len_in {fs : DF} {s : ByteArray} (v : List UInt8) (h : inD fs s = true) : (tSet strLt fs s v).length = fs.length := by
  rw [tSet_in fs s v h, List.length_set]
theorem below_set {fs : DF} (hr : Rising strLt fs) (s : ByteArray) (v : List UInt8) : below strLt (tSet strLt fs s v) s = below strLt fs s := by
  have hle := below_le (lt := strLt) fs s
  have htk : (fs.take (below strLt fs s)).length = below strLt fs s := by rw [List.length_take]; omega
  refine below_eq _ _ _ (by unfold tSet; simp; omega) (fun j hj => ?_) (fun _ => ?_)
  · unfold tSet
    rw [nth_append_left _ _ _ (by rw [htk]; exact hj), nth_take _ _ _ hj]
    exact below_lt fs s j hj
  · unfold tSet
    rw [nth_append_right _ _ _ (by rw [htk]; exact Nat.le_refl _), htk, Nat.sub_self, nth_cons_zero]
    exact strOrd.irr s
theorem nth_set_at (fs : DF) (s : ByteArray) (v : List UInt8) : nth (tSet strLt fs s v) (below strLt fs s) = (s, v) := by
  have hle := below_le (lt := strLt) fs s
  have htk : (fs.take (below strLt fs s)).length = below strLt fs s := by rw [List.length_take]; omega
  unfold tSet
  rw [nth_append_right _ _ _ (by rw [htk]; exact Nat.le_refl _), htk, Nat.sub_self, nth_cons_zero]
theorem in_set {fs : DF} (hr : Rising strLt fs) (s : ByteArray) (v : List UInt8) : inD (tSet strLt fs s v) s = true := by
  have hle := below_le (lt := strLt) fs s
  unfold inD isIn
  rw [below_set hr, nth_set_at]
  exact decide_eq_true ⟨by unfold tSet; simp; omega, rfl⟩
theorem get_set {fs : DF} (hr : Rising strLt fs) (s : ByteArray) (v : List UInt8) : dGet (tSet strLt fs s v) s = (v, true) := by
  rw [dGet_yes (in_set hr s v), below_set hr, nth_set_at]
/-- A disk's state. -/
structure DS where
  now : DF
  mark : DF
  log : List Wr
def dDo (x : Wr) (s : DS) : DS := ⟨wApply x s.now, s.mark, s.log ++ [x]⟩
structure DOk (s : DS) : Prop where
  ris : Rising strLt s.now
  rim : Rising strLt s.mark
  eq : s.now = wAll s.mark s.log
  log : LogOk s.mark s.log
  tot : dTotal s.now ≤ 16777216
  totm : dTotal s.mark ≤ 16777216
theorem DOk.do_ {s : DS} (h : DOk s) {x : Wr} (hx : WrOk x s.now) : DOk (dDo x s) :=
  ⟨wApply_rising h.ris x, h.rim, by unfold dDo; dsimp only; rw [wAll_snoc, ← h.eq], h.log.snoc (by rw [← h.eq]; exact hx), hx.tot, h.totm⟩
abbrev wMake (nm : ByteArray) : Wr := ⟨1, nm, ⟨#[]⟩, [], 0⟩
abbrev wPut (nm : ByteArray) (p : List UInt8) : Wr := ⟨2, nm, ⟨#[]⟩, p, 0⟩
abbrev wRen (nm tn : ByteArray) : Wr := ⟨3, nm, tn, [], 0⟩
abbrev wCut (nm : ByteArray) (n : Int) : Wr := ⟨4, nm, ⟨#[]⟩, [], n⟩
abbrev wRem (nm : ByteArray) : Wr := ⟨5, nm, ⟨#[]⟩, [], 0⟩
def chunks (p : List UInt8) : List (List UInt8) := (List.range ((p.length + 31) / 32)).map fun i => (p.drop (32 * i)).take 32
def dPut (nm : ByteArray) (s : DS) (l : List (List UInt8)) : DS := l.foldl (fun s c => dDo (wPut nm c) s) s
theorem chunks_len (p : List UInt8) : (chunks p).length = (p.length + 31) / 32 := by unfold chunks; simp
theorem chunks_nth (p : List UInt8) (i : Nat) (h : i < (chunks p).length) : nth (chunks p) i = (p.drop (32 * i)).take 32 := by
  unfold chunks at h ⊢
  rw [nth_get _ _ h]; simp
theorem dPut_snoc (nm : ByteArray) (s : DS) (l : List (List UInt8)) (c : List UInt8) : dPut nm s (l ++ [c]) = dDo (wPut nm c) (dPut nm s l) := by unfold dPut; rw [List.foldl_append]; rfl
theorem dPut_take (nm : ByteArray) (s : DS) (p : List UInt8) (i : Nat) (h : i < (chunks p).length) : dPut nm s ((chunks p).take (i + 1)) = dDo (wPut nm ((p.drop (32 * i)).take 32)) (dPut nm s ((chunks p).take i)) := by
  rw [take_succ_nth _ _ h, dPut_snoc, chunks_nth p i h]
theorem put_now (nm : ByteArray) (c : List UInt8) (s : DS) : (dDo (wPut nm c) s).now = tSet strLt s.now nm ((dGet s.now nm).1 ++ c) := rfl
/-- Behind so many chunks. -/
structure PutOk (nm : ByteArray) (s0 s : DS) (n : Nat) : Prop where
  ok : DOk s
  has : inD s.now nm = true
  len : s.now.length = s0.now.length
  tot : dTotal s.now = dTotal s0.now + n
  log : s.log.length ≤ s0.log.length + n
  mark : s.mark = s0.mark
theorem PutOk.step {nm : ByteArray} {s0 s : DS} {n : Nat} (h : PutOk nm s0 s n) (c : List UInt8) (hc : c ≠ []) (hl : s0.now.length ≤ 5000) (ht : dTotal s0.now + (n + c.length) ≤ 16777216) : WrOk (wPut nm c) s.now ∧ PutOk nm s0 (dDo (wPut nm c) s) (n + c.length) := by
  have h1 := total_set_in ((dGet s.now nm).1 ++ c) h.has
  have h2 := get_le_total s.now nm
  rw [List.length_append] at h1
  have h3 := h.tot
  have hcl : 0 < c.length := List.length_pos_iff.2 hc
  have hw : WrOk (wPut nm c) s.now := ⟨by rw [h.len]; exact hl, ⟨by show (1 : Int) ≤ 2; decide, by show (2 : Int) ≤ 5; decide⟩, fun _ => ⟨hc, by show (dGet s.now nm).1.length + c.length ≤ _; omega⟩, fun q => absurd q (show ¬ (2 : Int) = 4 by decide), by show dTotal (tSet strLt s.now nm ((dGet s.now nm).1 ++ c)) ≤ _; omega, fun _ => h.has, fun q => absurd q (show ¬ (2 : Int) = 1 by decide)⟩
  refine ⟨hw, h.ok.do_ hw, in_set h.ok.ris _ _, by rw [put_now, set_len_in _ h.has]; exact h.len, by rw [put_now]; omega, ?_, h.mark⟩
  have := h.log
  unfold dDo; simp; omega
theorem PutOk.all {nm : ByteArray} {s0 : DS} (p : List UInt8) (h : DOk s0) (hin : inD s0.now nm = true) (hl : s0.now.length ≤ 5000) (ht : dTotal s0.now + p.length ≤ 16777216) : ∀ i, i ≤ (chunks p).length → PutOk nm s0 (dPut nm s0 ((chunks p).take i)) (min (32 * i) p.length)
  | 0, _ => ⟨h, hin, rfl, by simp [dPut], by simp [dPut], rfl⟩
  | i + 1, hi => by
    have hlen := chunks_len p
    rw [dPut_take nm s0 p i (by omega)]
    have ih := PutOk.all p h hin hl ht i (by omega)
    have hlt : 32 * i < p.length := by omega
    have hcl : ((p.drop (32 * i)).take 32).length = min 32 (p.length - 32 * i) := by rw [List.length_take, List.length_drop]
    have := (ih.step ((p.drop (32 * i)).take 32) (fun q => by rw [q] at hcl; simp at hcl; omega) hl (by rw [hcl]; omega)).2
    rw [hcl] at this
    rw [show min (32 * (i + 1)) p.length = min (32 * i) p.length + min 32 (p.length - 32 * i) by omega]
    exact this
def dAppend (s : DS) (nm : ByteArray) (p : List UInt8) : Int × DS :=
  if nameOk nm then (if 16777216 < dTotal s.now + p.length then (9, s) else (0, dPut nm (if inD s.now nm then s else dDo (wMake nm) s) (chunks p))) else (14, s)
def dRename (s : DS) (nm tn : ByteArray) : Int × DS := if nameOk tn then (if inD s.now nm then (0, dDo (wRen nm tn) s) else (7, s)) else (14, s)
def dCut (s : DS) (nm : ByteArray) (n : Int) : Int × DS := if inD s.now nm then (if n < 0 ∨ (dGet s.now nm).1.length < n then (1, s) else (0, dDo (wCut nm n) s)) else (7, s)
def dRemove (s : DS) (nm : ByteArray) : Int × DS := if inD s.now nm then (0, dDo (wRem nm) s) else (7, s)
def dMark (s : DS) : DS := ⟨s.now, s.now, []⟩
def dBackF (s : DS) (n : Int) : DF := wAll s.mark (s.log.take n.toNat)
def dBack (s : DS) (n : Int) : DS := ⟨dBackF s n, dBackF s n, []⟩
theorem DOk.make {s : DS} (h : DOk s) (nm : ByteArray) (hn : inD s.now nm = false) (hl : s.now.length ≤ 5000) : WrOk (wMake nm) s.now ∧ DOk (dDo (wMake nm) s) ∧ inD (dDo (wMake nm) s).now nm = true ∧ dTotal (dDo (wMake nm) s).now = dTotal s.now ∧ (dDo (wMake nm) s).now.length ≤ s.now.length + 1 := by
  have ht := total_set_no (s := nm) [] hn
  have hw : WrOk (wMake nm) s.now := ⟨hl, ⟨by show (1 : Int) ≤ 1; decide, by show (1 : Int) ≤ 5; decide⟩, fun q => absurd q (show ¬ (1 : Int) = 2 by decide), fun q => absurd q (show ¬ (1 : Int) = 4 by decide), by show dTotal (tSet strLt s.now nm []) ≤ _; have := h.tot; simp at ht; omega, fun q => absurd (show (1 : Int) = 1 from rfl) q, fun _ => hn⟩
  have he : (dDo (wMake nm) s).now = tSet strLt s.now nm [] := rfl
  refine ⟨hw, h.do_ hw, ?_, ?_, ?_⟩
  · rw [he]; exact in_set h.ris _ _
  · rw [he, ht]; rfl
  · rw [he]; exact tSet_len _ _ _
theorem DOk.ren {s : DS} (h : DOk s) (nm tn : ByteArray) (hn : inD s.now nm = true) (hl : s.now.length ≤ 5000) : WrOk (wRen nm tn) s.now ∧ DOk (dDo (wRen nm tn) s) := by
  suffices hw : WrOk (wRen nm tn) s.now from ⟨hw, h.do_ hw⟩
  refine ⟨hl, ⟨by show (1 : Int) ≤ 3; decide, by show (3 : Int) ≤ 5; decide⟩, fun q => absurd q (show ¬ (3 : Int) = 2 by decide), fun q => absurd q (show ¬ (3 : Int) = 4 by decide), ?_, fun _ => hn, fun q => absurd q (show ¬ (3 : Int) = 1 by decide)⟩
  show dTotal (if inD s.now nm = true then tSet strLt (tDel strLt s.now nm) tn (dGet s.now nm).1 else s.now) ≤ _
  rw [if_pos hn]
  have h1 := total_set_le (fs := tDel strLt s.now nm) tn (dGet s.now nm).1
  have h2 := total_del hn
  have := h.tot
  omega
theorem DOk.cut {s : DS} (h : DOk s) (nm : ByteArray) (n : Int) (hn : inD s.now nm = true) (h0 : 0 ≤ n) (hle : n ≤ (dGet s.now nm).1.length) (hl : s.now.length ≤ 5000) : WrOk (wCut nm n) s.now ∧ DOk (dDo (wCut nm n) s) := by
  suffices hw : WrOk (wCut nm n) s.now from ⟨hw, h.do_ hw⟩
  refine ⟨hl, ⟨by show (1 : Int) ≤ 4; decide, by show (4 : Int) ≤ 5; decide⟩, fun q => absurd q (show ¬ (4 : Int) = 2 by decide), fun _ => ⟨h0, hle⟩, ?_, fun _ => hn, fun q => absurd q (show ¬ (4 : Int) = 1 by decide)⟩
  show dTotal (tSet strLt s.now nm ((dGet s.now nm).1.take n.toNat)) ≤ _
  have h1 := total_set_in ((dGet s.now nm).1.take n.toNat) hn
  rw [List.length_take] at h1
  have := h.tot
  omega
theorem DOk.rem {s : DS} (h : DOk s) (nm : ByteArray) (hn : inD s.now nm = true) (hl : s.now.length ≤ 5000) : WrOk (wRem nm) s.now ∧ DOk (dDo (wRem nm) s) := by
  suffices hw : WrOk (wRem nm) s.now from ⟨hw, h.do_ hw⟩
  refine ⟨hl, ⟨by show (1 : Int) ≤ 5; decide, by show (5 : Int) ≤ 5; decide⟩, fun q => absurd q (show ¬ (5 : Int) = 2 by decide), fun q => absurd q (show ¬ (5 : Int) = 4 by decide), ?_, fun _ => hn, fun q => absurd q (show ¬ (5 : Int) = 1 by decide)⟩
  show dTotal (tDel strLt s.now nm) ≤ _
  have h1 := total_del hn
  have := h.tot
  omega
theorem wAll_tot : ∀ {fs : DF} {l : List Wr}, LogOk fs l → dTotal fs ≤ 16777216 → dTotal (wAll fs l) ≤ 16777216
  | fs, [], _, h => h
  | fs, x :: l, h, _ => wAll_tot (fs := wApply x fs) h.2 h.1.tot
theorem DOk.mark {s : DS} (h : DOk s) : DOk (dMark s) := ⟨h.ris, h.ris, rfl, trivial, h.tot, h.tot⟩
theorem DOk.back {s : DS} (h : DOk s) (n : Int) : DOk (dBack s n) :=
  have hr := wAll_rising h.rim (s.log.take n.toNat)
  have ht := wAll_tot (h.log.take n.toNat) h.totm
  ⟨hr, hr, rfl, trivial, ht, ht⟩
theorem DOk.zero : DOk ⟨[], [], []⟩ := ⟨Rising.nil, Rising.nil, rfl, trivial, by simp [dTotal], by simp [dTotal]⟩
theorem DOk.append {s : DS} (h : DOk s) (nm : ByteArray) (p : List UInt8) (hl : s.now.length ≤ 4999) : DOk (dAppend s nm p).2 := by
  unfold dAppend
  split
  · split
    · exact h
    · rename_i ht
      dsimp only
      cases hin : inD s.now nm with
      | true =>
        rw [if_pos rfl]
        have := (PutOk.all p h hin (by omega) (by omega) (chunks p).length (Nat.le_refl _)).ok
        rwa [List.take_length] at this
      | false =>
        rw [if_neg (by simp)]
        obtain ⟨h1, h2, h3, h4, h5⟩ := h.make nm hin (by omega)
        have := (PutOk.all p h2 h3 (by omega) (by omega) (chunks p).length (Nat.le_refl _)).ok
        rwa [List.take_length] at this
  · exact h
end Go.Proofs.Ytmhdhnipljonlaa
namespace Go.Proofs.Ytmhdhnipljonlaa
open Go.RowKit
set_option linter.unusedSimpArgs false
set_option linter.unusedVariables false
theorem flatMap_at {α : Type} [Inhabited α] {sz : Nat} {c : α → List Value} (hsz : ∀ x, (c x).length = sz) (hpos : 0 < sz) (l : List α) (k : Nat) (u : Value) (h : (l.flatMap c)[k]? = some u) :
    k / sz < l.length ∧ (c (nth l (k / sz)))[k % sz]? = some u := by
  have hk := (List.getElem?_eq_some_iff.1 h).1
  rw [flatMap_len hsz] at hk
  have h1 : k / sz < l.length := Nat.div_lt_of_lt_mul (by rw [Nat.mul_comm]; exact hk)
  refine ⟨h1, ?_⟩
  have h2 := flatMap_get hsz l (k / sz) (k % sz) h1 (Nat.mod_lt _ hpos)
  rw [Nat.mul_comm, Nat.div_add_mod] at h2
  rw [← h2, h]
theorem madeCells_flat {α : Type} [Inhabited α] {sz : Nat} {c : α → List Value} (hsz : ∀ x, (c x).length = sz) (hpos : 0 < sz) (z : Array Value) (x : α) (hz : z.toList = c x) (n : Nat) : madeCells z (n * sz) = ((List.replicate n x).flatMap c).toArray := by
  have hzs : z.size = sz := by rw [← Array.length_toList, hz, hsz]
  apply Array.toList_inj.1
  apply List.ext_getElem?
  intro j
  have hrep : ((List.replicate n x).flatMap c).length = n * sz := by rw [flatMap_len hsz, List.length_replicate]
  by_cases hj : j < n * sz
  · have h1 : j / sz < (List.replicate n x).length := by rw [List.length_replicate]; exact Nat.div_lt_of_lt_mul (by rw [Nat.mul_comm]; exact hj)
    have h2 := flatMap_get hsz (List.replicate n x) (j / sz) (j % sz) h1 (Nat.mod_lt _ hpos)
    rw [Nat.mul_comm, Nat.div_add_mod] at h2
    show (madeCells z (n * sz)).toList[j]? = ((List.replicate n x).flatMap c)[j]?
    rw [h2, nth_replicate n x _ (by simpa using h1), ← hz]
    have hm : j % sz < z.size := by rw [hzs]; exact Nat.mod_lt _ hpos
    simp only [madeCells, Array.toList_map, Array.toList_range, List.getElem?_map, List.getElem?_range hj, Option.map_some, hzs]
    rw [getElem!_pos z _ hm]; simp [hm]
  · rw [List.getElem?_eq_none (by simp [madeCells]; omega), List.getElem?_eq_none (by simp only [hrep]; omega)]
theorem blk_slice (ao : Option Addr) (n k n' k' : Nat) : blk (.slice ao n k) = blk (.slice ao n' k') := by cases ao <;> rfl
theorem cells_new {W : World} {C : Array Value} {cs : List Value} {e : TypeId} {fr : Nat × Nat} {g : Nat} (hg : g = W.heap.size) (hC : C = cs.toArray) : ∀ i u, cs[i]? = some u → (W.alloc (.cells C e fr)).cell? ⟨g, i, none⟩ = some u := by
  intro i u h
  subst hg; subst hC
  rw [cell_of_row _ W.heap.size i _ e fr (heap_alloc_new W _)]
  simpa using h
theorem Blk.fresh {w W : World} {C : Array Value} {xs : List Value} {e : TypeId} {g : Nat} (hg : g = w.heap.size) (hC : C = xs.toArray) (hu : Upd [] (w.alloc (.cells C e)) W) : Blk W g e xs := by
  subst hg; subst hC; exact (Blk.new w e xs).upd hu (by simp)
section
variable {P : Program} {ops : Array Oper} {rest : List Oper} {o : Oper} {a : Act} {w w' : World} {Q : Exit → Act → World → Prop} {K : Act → World → Prop} {E : Prop}
theorem run_appN {α : Type} [Inhabited α] {sz : Nat} {c : α → List Value} (hsz : ∀ x, (c x).length = sz) (hpos : 0 < sz) (hone : ∀ x, ∀ u ∈ c x, u.oneCell' = true) {t ty e : TypeId}
    {z : Value} {bytes base : Nat} (ht : P.underlying t = some (.slice e)) (hi : (P.info? e).map (fun i => (i.zero, i.size, i.bytes)) = some (some z, sz, bytes)) (hz : z.cells.size = sz)
    (v u : Value) (l m : List α) (hv : OwnN sz c base e w v l) (hu : RdN sz c w u m) (hb : (l.length + m.length) * bytes ≤ 140737488355328) (hl : l.length + m.length ≤ maxLen) (hbase : base ≤ w.heap.size) :
    ∃ v' w', (Builtin.append_ #[t, t] ty #[v, u]).run P w = .ok v' w' ∧ OwnN sz c base e w' v' (l ++ m) ∧ Upd (blk v) w w' ∧ (∀ x ∈ blk v', x ∈ blk v ∨ w.heap.size ≤ x) := by
  obtain ⟨i, h1, h2, h3, h4⟩ := info_parts hi
  obtain ⟨A, cap, rfl, hle, hcm, hcell0⟩ := hu
  by_cases hne : m = []
  · subst hne
    have hsz' : (P.info? e).map (·.size) = some sz := by simp [h1, h3]
    obtain ⟨ao, n, k, rfl, hnk⟩ : ∃ ao n k, v = .slice ao n k ∧ n ≤ k := by
      rcases hv.2 with ⟨rfl, _⟩ | ⟨g, cap', cur, rfl, _, _, q, _⟩
      · exact ⟨none, 0, 0, rfl, Nat.le_refl _⟩
      · exact ⟨_, _, _, rfl, q⟩
    exact ⟨_, w, run_app_nothing ht hsz' ao A n k cap hnk, by rw [List.append_nil]; exact hv, Upd.refl _ _, fun x hx => .inl hx⟩
  · obtain ⟨b, off, rfl, hcell⟩ := hcell0 hne
    have hnews : ∀ j u, (m.flatMap c)[j]? = some u → w.cell? ((⟨b, off, none⟩ : Addr).add j) = some u := fun j u hj => by
      rw [add_none]
      obtain ⟨q1, q2⟩ := flatMap_at hsz hpos m j u hj
      have q3 := hcell (j / sz) q1 (j % sz) (Nat.mod_lt _ hpos)
      rw [Nat.mul_comm (j / sz) sz, Nat.div_add_mod] at q3
      rw [q3, q2]
    obtain ⟨v', w', hr, g1, g2, _, g3⟩ := run_append_own_at (P := P) w base t ty e i z sz bytes ht h1 h2 h3 h4 hz hpos v l.length (l.flatMap c) hv ⟨b, off, none⟩ m.length cap (m.flatMap c) (flatMap_len hsz m) hnews
      (fun u hu => by obtain ⟨x, _, hx⟩ := List.mem_flatMap.1 hu; exact hone x u hx) hl hb hbase
    have hown : OwnN sz c base e w' v' (l ++ m) := by
      unfold OwnN; rw [List.length_append, List.flatMap_append]; exact g1
    refine ⟨v', w', hr, hown, by rw [blk_own]; exact Upd.of_grown g2, ?_⟩
    intro x hx
    rw [blk_own] at hx
    rcases g3 with g3 | g3
    · rw [g3, ← blk_own] at hx; exact .inl hx
    · rw [g3] at hx; simp at hx; exact .inr (by omega)
theorem wp_app_of (s x : Operand) {t : TypeId} (ho : o.op = .call { callee := .builtin .append, args := #[s, x], argTypes := #[t, t] }) (v u : Value) (hs : a.eval s = v) (hx : a.eval x = u)
    {R : Value → World → Prop} (hr : ∃ v' w', (Builtin.append_ #[t, t] o.type #[v, u]).run P w = .ok v' w' ∧ R v' w') (h : ∀ v' w', R v' w' → K (a.put o.dst v') w') : o.wp P a w K Q := by
  obtain ⟨v', w', hr, hR⟩ := hr
  unfold Oper.wp execOp
  simp only [ho, resolve, invoke, builtin, Sem.run_bind, Sem.run_pure, Result.andThen_ok, List.map_toArray, List.map_cons, List.map_nil, hs, hx, hr]
  exact h v' w' hR
theorem wpList_app_of (hgd : o.guard = none) (s x : Operand) {t : TypeId} (ho : o.op = .call { callee := .builtin .append, args := #[s, x], argTypes := #[t, t] }) (v u : Value) (hs : a.eval s = v) (hx : a.eval x = u)
    {R : Value → World → Prop} (hr : ∃ v' w', (Builtin.append_ #[t, t] o.type #[v, u]).run P w = .ok v' w' ∧ R v' w') (h : ∀ v' w', R v' w' → wpList P ops Q rest (a.put o.dst v') w') : wpList P ops Q (o :: rest) a w :=
  wpList_plain hgd fun K hK => wp_app_of s x ho v u hs hx hr fun v' w' hR => hK _ _ (h v' w' hR)
theorem step_app_of (hgd : o.guard = none) (s x : Operand) {t : TypeId} (ho : o.op = .call { callee := .builtin .append, args := #[s, x], argTypes := #[t, t] }) (v u : Value) (hs : a.eval s = v) (hx : a.eval x = u)
    {R : Value → World → Prop} (hr : ∃ v' w', (Builtin.append_ #[t, t] o.type #[v, u]).run P w = .ok v' w' ∧ R v' w') (h : ∀ v' w', R v' w' → K (a.put o.dst v') w') :
    if Region.wanted o (yielded ops a.tmps) = true then Oper.wp P o a w K Q else E := by
  have hw : Region.wanted o (yielded ops a.tmps) = true := by simp [Region.wanted, hgd]
  rw [if_pos hw]
  exact wp_app_of s x ho v u hs hx hr h
end
end Go.Proofs.Ytmhdhnipljonlaa
namespace Go.Proofs.Ytmhdhnipljonlaa
open Go.ChangeShapes Go.WideShapes Go.ChangeAt Go.RowKit
set_option linter.unusedSimpArgs false
set_option linter.unusedVariables false

theorem trodAll_below {H : Type} {enc : TypeId × Value → H} {P : Program} (hl : laidOutB P = true) {W W' : World} (hb : Below W.heap.size W W') :
    ∀ (ts : List TypeId) (vs : List Value) (ds : List (DataW H)) (ps : List MemPlace), (∀ t ∈ ts, P.readableRec t = true ∧ t < P.types.size) →
      DataW.TrodAll enc P W 0 (fun _ => true) true ts vs ds ps → DataW.TrodAll enc P W' 0 (fun b => decide (b < W.heap.size)) true ts vs ds ps
  | [], [], [], ps, _, h => h
  | t :: ts, v :: vs, d :: ds, ps, hr, h => by
    obtain ⟨p, q, h1, h2, rfl⟩ := h
    have hlt : ∀ x ∈ p, x.block < W.heap.size := by obtain ⟨m, hm⟩ := h1; exact DataW.trod_lt m _ _ _ hm
    exact ⟨p, q, Below.trod hl (hr t (by simp)).1 (hr t (by simp)).2 h1 hb hlt, trodAll_below hl hb ts vs ds q (fun t' ht' => hr t' (List.mem_cons_of_mem _ ht')) h2, rfl⟩
  | [], [], _ :: _, _, _, h | [], _ :: _, _, _, _, h | _ :: _, [], _, _, _, h | _ :: _, _ :: _, [], _, _, h => by simp [DataW.TrodAll] at h

theorem trodAll_len {H : Type} {enc : TypeId × Value → H} {P : Program} {W : World} {sp : Nat → Bool} :
    ∀ (ts : List TypeId) (vs : List Value) (ds : List (DataW H)) (ps : List MemPlace), DataW.TrodAll enc P W 0 sp true ts vs ds ps → ds.length = ts.length
  | [], [], [], ps, h => rfl
  | t :: ts, v :: vs, d :: ds, ps, h => by
    obtain ⟨p, q, h1, h2, rfl⟩ := h
    simp [trodAll_len ts vs ds q h2]
  | [], [], _ :: _, _, h | [], _ :: _, _, _, h | _ :: _, [], _, _, h | _ :: _, _ :: _, [], _, h => by simp [DataW.TrodAll] at h

/-- What a law's walk owes. -/
def LawCalls (P : Program) (f : FuncId) (fn : Func) (H : Type) (enc : TypeId × Value → H) (k : List (DataW H) → Prop) : Prop :=
  ∀ (W : World) (base : Nat) (args : Array Value) (ds : List (DataW H)) (ps : List MemPlace),
    (∀ (j : Nat) t v, fn.params[j]? = some t → args[j]? = some v → Value.okWide P W .any base t v) →
    DataW.TrodAll enc P W 0 (fun _ => true) true fn.params.toList args.toList ds ps →
    (DataW.weightsEach P fn.params.toList ds).all (· ≤ reachBytes) = true → k ds →
    Calls P f args W fun e W' => e = .returned (.bool true) ∧ Upd [] W W'

theorem law_post {H : Type} {enc : TypeId × Value → H} {P : Program} {fn : Func} {s : ChangeSpec} (hl : laidOutB P = true) (hr : ∀ t ∈ fn.params.toList, P.readableRec t = true ∧ t < P.types.size)
    (hs : s.vars = []) (tb : TypeId) (hres : fn.resultTypes = #[tb]) (hb : P.underlying tb = some .bool)
    (hfn : ∀ (ds : List (DataW H)), ds.length = fn.params.size → (s.fn H ds).results = [.lit (.bool true)] ∧ (s.fn H ds).args = ds ∧ (s.fn H ds).vars = [])
    {W W' : World} {args : Array Value} {ds gs : List (DataW H)} {before : List MemPlace}
    (hW : DataW.Whole enc P fn.params.toList s.vars false W args.toList ds gs before) (hu : Upd [] W W') :
    s.post enc P fn false true false false W args (.bool true) W' := by
  have hW' := hW
  obtain ⟨p, q, hA, hV, rfl, hfz, hnd⟩ := hW
  have hlen := trodAll_len _ _ _ _ hA
  rw [hs] at hV
  obtain ⟨rfl, rfl⟩ := trodVars_none hV
  obtain ⟨g1, g2, g3⟩ := hfn ds (by simpa using hlen)
  refine ⟨ds, [], p ++ [], [], p, [], hW', ?_, ?_, ?_, hu.below.frame _, fun h => by cases h⟩
  · rw [List.append_nil, g1, hres]; exact trodAll_mk1 (shut_bool hb _)
  · rw [List.append_nil, g2]; exact trodAll_below hl hu.below _ _ _ _ hr hA
  · rw [List.append_nil, g3, hs]; rfl

theorem law_said {C : Checked} {os : Os} {f : FuncId} {fn : Func} {s : ChangeSpec} {H : Type} {enc : TypeId × Value → H}
    (own : ownKnob C.prog.godebug = none) (started : os.Started) (noInit : C.prog.inits.idxOf? f = none) (hf : C.prog.funcs[f]? = some fn)
    (witness : ∃ (w : World) (tape : Tape) (i : Input), w.os = os ∧ (w.forCall tape i).Shaped C.prog ∧ i.vars = [] ∧ Input.okWide C.prog (w.forCall tape i) .any w.heap.size f i ∧
      s.pre6 enc C.prog fn [] false (w.forCall tape i).memory i.args ∧ ({} : Assume).holds C.prog (lone (Frame.enter C.prog f i.args .normal) [] (w.forCall tape i)))
    (hl : laidOutB C.prog = true) (hr : ∀ t ∈ fn.params.toList, C.prog.readableRec t = true ∧ t < C.prog.types.size)
    (hs : s.vars = []) (tb : TypeId) (hres : fn.resultTypes = #[tb]) (hb : C.prog.underlying tb = some .bool)
    (hfn : ∀ (ds : List (DataW H)), ds.length = fn.params.size → (s.fn H ds).results = [.lit (.bool true)] ∧ (s.fn H ds).args = ds ∧ (s.fn H ds).vars = [])
    (walk : LawCalls C.prog f fn H enc (fun _ => True)) :
    ReturnsInHanded {} C os f .any (s.pre6 enc C.prog fn [] false) (s.post enc C.prog fn false true false false) := by
  refine returnsInHanded_of_change_sized own started noInit hf witness ?_
  intro W base args ds gs before hval hW hc hsz hh
  have hW2 := hW
  obtain ⟨p, q, hA, hV, rfl, hfz, hnd⟩ := hW2
  have hV' := hV
  rw [hs] at hV'
  obtain ⟨rfl, rfl⟩ := trodVars_none hV'
  have hvt : s.plain.varTypes C.prog = [] := by unfold DataSpec.varTypes; show List.filterMap _ s.vars = []; rw [hs]; rfl
  rw [hvt, List.append_nil, List.append_nil] at hsz
  refine (walk W base args ds p hval hA hsz trivial).mono fun e W' ⟨he, hu⟩ => ?_
  subst he
  exact ⟨_, rfl, law_post hl hr hs tb hres hb hfn hW hu⟩

theorem law_upto {C : Checked} {os : Os} {f : FuncId} {fn : Func} {s : OpenSpec} {k : (H : Type) → List (DataW H) → Bool} (hk : s.cond = some k) {F : Stop.Interp} {H : Type} {enc : TypeId × Value → H}
    (own : ownKnob C.prog.godebug = none) (started : os.Started) (noInit : C.prog.inits.idxOf? f = none) (hf : C.prog.funcs[f]? = some fn)
    (witness : ∃ (w : World) (tape : Tape) (i : Input), w.os = os ∧ (w.forCall tape i).Shaped C.prog ∧ i.vars = [] ∧ Input.okWide C.prog (w.forCall tape i) .any w.heap.size f i ∧
      s.pre6 enc C.prog fn [] false (w.forCall tape i).memory i.args ∧ ({} : Assume).holds C.prog (lone (Frame.enter C.prog f i.args .normal) [] (w.forCall tape i)))
    (hl : laidOutB C.prog = true) (hr : ∀ t ∈ fn.params.toList, C.prog.readableRec t = true ∧ t < C.prog.types.size)
    (hs : (s.at F).vars = []) (hs' : s.vars = []) (hs2 : s.bare.plain.vars = []) (tb : TypeId) (hres : fn.resultTypes = #[tb]) (hb : C.prog.underlying tb = some .bool)
    (hfn : ∀ (ds : List (DataW H)), ds.length = fn.params.size → ((s.at F).fn H ds).results = [.lit (.bool true)] ∧ ((s.at F).fn H ds).args = ds ∧ ((s.at F).fn H ds).vars = [])
    (walk : LawCalls C.prog f fn H enc (fun ds => k H ds = true)) :
    ReturnsInHanded {} C os f .any (s.pre6 enc C.prog fn [] false) ((s.at F).post enc C.prog fn false true false false) := by
  refine returnsInHanded_of_cond_sized hk own started noInit hf witness ?_
  intro W base args ds gs before hval hW hc hkk hsz hh
  have hW2 := hW
  obtain ⟨p, q, hA, hV, rfl, hfz, hnd⟩ := hW2
  have hV' := hV
  rw [hs'] at hV'
  obtain ⟨rfl, rfl⟩ := trodVars_none hV'
  have hvt : s.bare.plain.varTypes C.prog = [] := by unfold DataSpec.varTypes; rw [hs2]; rfl
  rw [hvt, List.append_nil, List.append_nil] at hsz
  rw [List.append_nil] at hkk
  refine (walk W base args ds p hval hA hsz hkk).mono fun e W' ⟨he, hu⟩ => ?_
  subst he
  exact ⟨_, rfl, law_post hl hr hs tb hres hb hfn (by rw [hs'] at hW; rw [hs]; exact hW) hu⟩
end Go.Proofs.Ytmhdhnipljonlaa
