/- Texts of the proof, joined: Words of our own on worlds and slices: nothing of the program stands here. Numbers joined out of bytes: or of a high part and a low one is their sum. Chapter 2 as plain mathematics: numbers as bytes. The book's functions: what needs no program. The book's Within. The book's functions at bytes. A store into a list of the call's own. A list of the call's own just laid; its forms. The step from a walk of a law to its statement, once for all laws: the law returns true and turns nothing that was there. Arguments opened: what a law's arguments are, in our own words. Chapter 2: more, Num. Texts as lists of bytes. Texts appended to bytes; texts read. Chapter 2: Text, Flag, List. A slice of bytes as a string. -/
import Derived.WalkKit
import Derived.Lib.Hide
import Derived.Deep.QuietTactic
import Derived.BigQuiet
import Derived.WalkSpells
import Derived.WalkLawsBesides
import Derived.Lib.SlBytesConst
import Derived.Laws.CopyOwn
import Derived.Maps.AppendAt
import Derived.Laws.BitsAllLaws
import Derived.Test.YtmhojaiajhdlcaaGreatRows
import Derived.ProofKit
import Derived.OpenShut
import Derived.ShutString
import Derived.ChangeOld
import Derived.JoinedCond
import Derived.SizedLaws
import Derived.Deep.Slices
import Derived.Deep.CondSized
import Derived.Lib.AppendStr
namespace Go.Proofs.YtmhojaiajhdlcaaGreat
open Go.RowKit
set_option linter.unusedSimpArgs false
set_option linter.unusedVariables false

/-- An element of a list, by its place. -/
def nth {α : Type} [Inhabited α] (l : List α) (k : Nat) : α := l.getD k default
theorem nth_get {α : Type} [Inhabited α] (l : List α) (k : Nat) (h : k < l.length) : nth l k = l[k] := by simp [nth, List.getD, h]
theorem nth_of {α : Type} [Inhabited α] (l : List α) (k : Nat) (x : α) (h : l[k]? = some x) : nth l k = x := by simp [nth, List.getD, h]
theorem nth_cons_zero {α : Type} [Inhabited α] (x : α) (l : List α) : nth (x :: l) 0 = x := rfl
theorem nth_cons_succ {α : Type} [Inhabited α] (x : α) (l : List α) (k : Nat) : nth (x :: l) (k + 1) = nth l k := rfl

/-- Beside the blocks of S, what was there is as it was. -/
structure Upd (S : List Nat) (w w' : World) : Prop where
  os : w'.os = w.os
  tape : w'.tape = w.tape
  output : w'.output = w.output
  size : w.heap.size ≤ w'.heap.size
  block : ∀ k, k < w.heap.size → k ∉ S → w'.heap[k]? = w.heap[k]?
theorem Upd.refl (S : List Nat) (w : World) : Upd S w w := ⟨rfl, rfl, rfl, Nat.le_refl _, fun _ _ _ => rfl⟩
theorem Upd.trans {S S' T : List Nat} {a b c : World} (h : Upd S a b) (k : Upd S' b c) (hs : ∀ x ∈ S, x ∈ T) (hs' : ∀ x ∈ S', x ∈ T ∨ a.heap.size ≤ x) : Upd T a c :=
  ⟨k.os.trans h.os, k.tape.trans h.tape, k.output.trans h.output, Nat.le_trans h.size k.size, fun i hi hn => by
    rw [k.block i (Nat.lt_of_lt_of_le hi h.size) (fun e => by rcases hs' i e with q | q; exact hn q; omega), h.block i hi (fun e => hn (hs i e))]⟩
theorem Upd.mono {S T : List Nat} {a b : World} (h : Upd S a b) (hs : ∀ x ∈ S, x ∈ T ∨ a.heap.size ≤ x) : Upd T a b :=
  (Upd.refl T a).trans h (fun x hx => hx) hs
theorem Upd.drew {S : List Nat} {a b : World} (h : Upd S a b) : Upd S a b.drew := ⟨h.os, h.tape, h.output, h.size, h.block⟩
theorem Upd.drewN {S : List Nat} {a b : World} (h : Upd S a b) (n : Nat) : Upd S a (b.drewN n) := ⟨h.os, h.tape, h.output, h.size, h.block⟩
theorem Upd.alloc {S : List Nat} {a b : World} (h : Upd S a b) (o : Obj) : Upd S a (b.alloc o) :=
  ⟨h.os, h.tape, h.output, by have := h.size; simp; omega, fun k hk hn => by rw [Below.heap_alloc _ _ _ (Nat.lt_of_lt_of_le hk h.size)]; exact h.block k hk hn⟩
theorem Upd.setCell {S : List Nat} {a b : World} (h : Upd S a b) (p : Addr) (u : Value) (hp : p.block ∈ S ∨ a.heap.size ≤ p.block) : Upd S a (b.setCell p u) :=
  ⟨h.os, h.tape, h.output, by have := h.size; simp; omega, fun k hk hn => by
    rw [Below.heap_setCell _ _ _ _ (fun e => by subst e; rcases hp with q | q; exact hn q; omega)]; exact h.block k hk hn⟩
theorem Upd.of_grown {w w' : World} {row : Option Nat} (hg : w.grownBy w' row) : Upd row.toList w w' :=
  ⟨hg.os, hg.tape, hg.output, hg.size, fun k hk hn => hg.block k hk (fun e => hn (by rw [← e]; simp))⟩
theorem Upd.below {w w' : World} (h : Upd [] w w') : Below w.heap.size w w' := ⟨h.os, h.tape, h.output, h.size, fun k hk => h.block k hk (by simp)⟩
theorem Upd.of_below {w w' : World} (h : Below w.heap.size w w') : Upd [] w w' := ⟨h.os, h.tape, h.output, h.size, fun k hk _ => h.block k hk⟩
theorem Upd.cell {S : List Nat} {w w' : World} (h : Upd S w w') {p : Addr} {v : Value} (hv : w.cell? p = some v) (hp : p.block ∉ S) : w'.cell? p = some v :=
  (World.cell?_of_block (w := w) (h.block p.block (World.block_lt_of_cell? w p hv) hp)).trans hv
theorem Upd.heap {S : List Nat} {w w' : World} (h : Upd S w w') {k : Nat} {o : Obj} (hv : w.heap[k]? = some o) (hp : k ∉ S) : w'.heap[k]? = some o :=
  (h.block k (Array.getElem?_eq_some_iff.1 hv).1 hp).trans hv

/-- A list that a slice's value shows in a world, an element a cell. -/
def Rd {α : Type} [Inhabited α] (c : α → Value) (w : World) (v : Value) (l : List α) : Prop :=
  ∃ a cap, v = .slice a l.length cap ∧ l.length ≤ cap ∧ cap ≤ maxLen ∧
    (l ≠ [] → ∃ b off, a = some ⟨b, off, none⟩ ∧ ∀ j, j < l.length → w.cell? ⟨b, off + j, none⟩ = some (c (nth l j)))
/-- The block of a slice. -/
def blk : Value → List Nat
  | .slice (some a) _ _ => [a.block]
  | _ => []
theorem Rd.upd {α : Type} [Inhabited α] {c : α → Value} {w w' : World} {v : Value} {l : List α} (h : Rd c w v l) {S : List Nat} (hu : Upd S w w') (hs : ∀ x ∈ blk v, x ∉ S) : Rd c w' v l := by
  obtain ⟨a, cap, rfl, h1, h2, h3⟩ := h
  refine ⟨a, cap, rfl, h1, h2, fun hne => ?_⟩
  obtain ⟨b, off, rfl, hc⟩ := h3 hne
  exact ⟨b, off, rfl, fun j hj => hu.cell (hc j hj) (hs b (by simp [blk]))⟩
theorem Rd.upd0 {α : Type} [Inhabited α] {c : α → Value} {w w' : World} {v : Value} {l : List α} (h : Rd c w v l) (hu : Upd [] w w') : Rd c w' v l :=
  h.upd hu (by simp)
theorem Rd.lt {α : Type} [Inhabited α] {c : α → Value} {w : World} {v : Value} {l : List α} (h : Rd c w v l) (hne : l ≠ []) : ∀ x ∈ blk v, x < w.heap.size := by
  obtain ⟨a, cap, rfl, h1, h2, h3⟩ := h
  obtain ⟨b, off, rfl, hc⟩ := h3 hne
  intro x hx
  simp [blk] at hx; subst hx
  have := hc 0 (by cases l; exact absurd rfl hne; simp)
  exact World.block_lt_of_cell? w _ this
/-- Behind changes to blocks that came later, or to none of its own: the list is still shown. -/
theorem Rd.later {α : Type} [Inhabited α] {c : α → Value} {w w1 w' : World} {v : Value} {l : List α} (h : Rd c w v l) {S : List Nat} (h1 : Rd c w1 v l) (hu : Upd S w1 w') (hs : ∀ x ∈ S, w.heap.size ≤ x) : Rd c w' v l := by
  by_cases hne : l = []
  · obtain ⟨a, cap, rfl, g1, g2, g3⟩ := h
    exact ⟨a, cap, rfl, g1, g2, fun q => absurd hne q⟩
  · exact h1.upd hu (fun x hx hS => by have := h.lt hne x hx; have := hs x hS; omega)

/-- A slice of bytes. -/
abbrev bv (x : UInt8) : Value := .int .u8 (x.toNat : Int)
abbrev Bytes (w : World) (v : Value) (l : List UInt8) : Prop := Rd bv w v l

/-- A list in a block of the call's own. -/
def Own {α : Type} (c : α → Value) (base : Nat) (e : TypeId) (w : World) (v : Value) (l : List α) : Prop := w.ownsRow base e 1 v l.length (l.map c)
theorem Own.rd {α : Type} [Inhabited α] {c : α → Value} {base : Nat} {e : TypeId} {w : World} {v : Value} {l : List α} (h : Own c base e w v l) : Rd c w v l := by
  obtain ⟨h1, h2⟩ := h
  rcases h2 with ⟨rfl, hn⟩ | ⟨g, cap, cur, rfl, hb, hg, hc, hm, hs, ht⟩
  · exact ⟨none, 0, by rw [hn], by omega, Nat.zero_le _, fun q => absurd (List.eq_nil_of_length_eq_zero hn) q⟩
  · refine ⟨_, cap, rfl, hc, hm, fun _ => ⟨g, 0, rfl, fun j hj => ?_⟩⟩
    rw [cell_of_row w g (0 + j) cur e (0, 0) hg]
    have : (l.map c)[j]? = some (c (nth l j)) := by rw [List.getElem?_map, List.getElem?_eq_getElem hj, nth_get l j hj]; rfl
    rw [← ht, List.getElem?_take] at this
    simpa [hj] using this
theorem blk_own (v : Value) : blk v = v.ownBlock.toList := by
  cases v with
  | slice a _ _ => cases a <;> rfl
  | _ => rfl
theorem Own.upd {α : Type} {c : α → Value} {base : Nat} {e : TypeId} {w w' : World} {v : Value} {l : List α} (h : Own c base e w v l) {S : List Nat} (hu : Upd S w w') (hs : ∀ x ∈ blk v, x ∉ S) : Own c base e w' v l := by
  obtain ⟨h1, h2⟩ := h
  refine ⟨h1, ?_⟩
  rcases h2 with h2 | ⟨g, cap, cur, rfl, hb, hg, r⟩
  · exact .inl h2
  · exact .inr ⟨g, cap, cur, rfl, hb, hu.heap hg (hs g (by simp [blk])), r⟩
theorem Own.ge {α : Type} {c : α → Value} {base : Nat} {e : TypeId} {w : World} {v : Value} {l : List α} (h : Own c base e w v l) : ∀ x ∈ blk v, base ≤ x ∧ x < w.heap.size := by
  intro x hx
  rw [blk_own] at hx
  exact World.ownsRow.lt h x (by simpa using hx)
theorem Own.base_le {α : Type} {c : α → Value} {base base' : Nat} {e : TypeId} {w : World} {v : Value} {l : List α} (h : Own c base e w v l) (hb : base' ≤ base) : Own c base' e w v l := by
  obtain ⟨h1, h2⟩ := h
  refine ⟨h1, ?_⟩
  rcases h2 with h2 | ⟨g, cap, cur, rfl, hb', hg, r⟩
  · exact .inl h2
  · exact .inr ⟨g, cap, cur, rfl, by omega, hg, r⟩

/-- A list just laid in a new block. -/
theorem Rd.lit {α : Type} [Inhabited α] {c : α → Value} {w : World} (l : List α) {C : Array Value} {e : TypeId} {fr : Nat × Nat} {g n k : Nat} (hg : g = w.heap.size) (hC : C = (l.map c).toArray) (hn : n = l.length) (hk : n ≤ k) (hm : k ≤ maxLen) :
    Rd c (w.alloc (.cells C e fr)) (.slice (some ⟨g, 0, none⟩) n k) l := by
  subst hg; subst hn; subst hC
  refine ⟨_, _, rfl, hk, hm, fun _ => ⟨_, 0, rfl, fun j hj => ?_⟩⟩
  rw [cell_of_row _ w.heap.size (0 + j) _ e fr (heap_alloc_new w _)]
  simp [nth_get l j hj, hj]
theorem Rd.nil {α : Type} [Inhabited α] {c : α → Value} (w : World) : Rd c w (.slice none 0 0) ([] : List α) :=
  ⟨none, 0, rfl, Nat.le_refl _, Nat.zero_le _, fun h => absurd rfl h⟩
theorem Rd.alloc {α : Type} [Inhabited α] {c : α → Value} {w : World} {v : Value} {l : List α} (h : Rd c w v l) (o : Obj) : Rd c (w.alloc o) v l := h.upd0 ((Upd.refl _ _).alloc _)
theorem Rd.drew {α : Type} [Inhabited α] {c : α → Value} {w : World} {v : Value} {l : List α} (h : Rd c w v l) : Rd c w.drew v l := h
theorem Rd.drewN {α : Type} [Inhabited α] {c : α → Value} {w : World} {v : Value} {l : List α} (h : Rd c w v l) (n : Nat) : Rd c (w.drewN n) v l := h
theorem Rd.setCell {α : Type} [Inhabited α] {c : α → Value} {w : World} {v : Value} {l : List α} (h : Rd c w v l) (p : Addr) (u : Value) (hp : p.block ∉ blk v) : Rd c (w.setCell p u) v l :=
  h.upd (S := [p.block]) ((Upd.refl _ _).setCell _ _ (.inl (by simp))) (fun x hx hy => hp (by simp at hy; rw [← hy]; exact hx))

theorem conv_lit {P : Program} {t e : TypeId} (ht : P.underlying t = some (.slice e)) (he : P.underlying e = some (.int .u8)) (w : World) (C : Array Value) (g n c : Nat) (hg : g = w.heap.size) :
    (convert t t (.slice (some ⟨g, 0, none⟩) n c)).run P (w.alloc (.cells C e)) = .ok (.slice (some ⟨g, 0, none⟩) n c) (w.alloc (.cells C e (C.size, C.size + 1))) := by
  subst hg; exact Lib.run_convert_bytes_const w t e C n c ht he

/-- A block that is known whole. -/
def Blk (w : World) (g : Nat) (e : TypeId) (xs : List Value) : Prop := w.heap[g]? = some (.cells xs.toArray e (0, 0))
theorem Blk.lt {w : World} {g : Nat} {e : TypeId} {xs : List Value} (h : Blk w g e xs) : g < w.heap.size := (Array.getElem?_eq_some_iff.1 h).1
theorem Blk.upd {w w' : World} {g : Nat} {e : TypeId} {xs : List Value} (h : Blk w g e xs) {S : List Nat} (hu : Upd S w w') (hs : g ∉ S) : Blk w' g e xs := hu.heap h hs
theorem Blk.cell {w : World} {g : Nat} {e : TypeId} {xs : List Value} (h : Blk w g e xs) (i : Nat) : w.cell? ⟨g, i, none⟩ = xs[i]? := by
  rw [cell_of_row w g i _ e (0, 0) h]; simp
theorem Blk.frozen {w : World} {g : Nat} {e : TypeId} {xs : List Value} (h : Blk w g e xs) (i : Nat) : w.frozen? ⟨g, i, none⟩ = false := frozen_of_row w g i _ e h
theorem Blk.set_ {w : World} {g : Nat} {e : TypeId} {xs : List Value} (h : Blk w g e xs) (i : Nat) (u : Value) : Blk (w.setCell ⟨g, i, none⟩ u) g e (xs.set i u) := by
  have := heap_setCell_same w g i _ e u h
  unfold Blk; rw [this]; simp
theorem Blk.new (w : World) (e : TypeId) (xs : List Value) : Blk (w.alloc (.cells xs.toArray e)) w.heap.size e xs := heap_alloc_new w _
theorem Blk.drewN {w : World} {g : Nat} {e : TypeId} {xs : List Value} (h : Blk w g e xs) (n : Nat) : Blk (w.drewN n) g e xs := h
/-- A piece of a known block. -/
theorem Blk.rd {α : Type} [Inhabited α] {c : α → Value} {w : World} {g : Nat} {e : TypeId} {xs : List Value} (h : Blk w g e xs) (l : List α) (o n k : Nat) (hn : n = l.length) (hk : n ≤ k) (hm : k ≤ maxLen)
    (hx : ∀ j, j < l.length → xs[o + j]? = some (c (nth l j))) : Rd c w (.slice (some ⟨g, o, none⟩) n k) l := by
  subst hn
  exact ⟨_, _, rfl, hk, hm, fun _ => ⟨g, o, rfl, fun j hj => by rw [h.cell]; exact hx j hj⟩⟩
theorem Blk.rd_pre {α : Type} [Inhabited α] {c : α → Value} {w : World} {g : Nat} {e : TypeId} {ys : List Value} (l : List α) (n k : Nat) (h : Blk w g e (l.map c ++ ys)) (hn : n = l.length) (hk : n ≤ k) (hm : k ≤ maxLen) : Rd c w (.slice (some ⟨g, 0, none⟩) n k) l :=
  h.rd l 0 n k hn hk hm (fun j hj => by rw [Nat.zero_add, List.getElem?_append_left (by simpa using hj)]; simp [nth_get l j hj, hj])

section
variable {P : Program} {ops : Array Oper} {rest : List Oper} {o : Oper} {a : Act} {w : World} {Q : Exit → Act → World → Prop}
theorem toList_madeOne (z : Value) (hz : z.cells = #[z]) (n : Nat) : (madeCells z.cells n) = (List.replicate n z).toArray := by
  apply Array.toList_inj.1
  rw [hz, toList_madeCells_one]
theorem run_mk {t e : TypeId} {z : Value} {bytes : Nat} (ht : P.underlying t = some (.slice e)) (hi : (P.info? e).map (fun i => (i.zero, i.size, i.bytes)) = some (some z, 1, bytes)) (hz : z.cells = #[z])
    (u : World) (n m : Nat) (L C : Int) (hL : L = (n : Int)) (hC : C = (m : Int)) (hnm : n ≤ m) (hb : bytes * m ≤ 281474976710656) (hm : m ≤ 9223372036854775807) :
    (Instr.makeSlice t (.int .i64 L) (.int .i64 C)).run P u = .ok (.slice (some ⟨u.heap.size, 0, none⟩) n m) (u.alloc (.cells (List.replicate m z).toArray e)) := by
  obtain ⟨i, h1, h2, h3, h4⟩ := info_parts hi
  subst hL; subst hC
  have h := run_make (P := P) u t e i z ht h1 h2 .i64 .i64 (n : Int) (m : Int) (by omega) (by omega) (by rw [h4, ← Int.natCast_mul]; omega) (by omega)
  rw [h, h3, Nat.mul_one, Int.toNat_natCast, Int.toNat_natCast, toList_madeOne z hz]

theorem oneCell_map {α : Type} {c : α → Value} (hc : ∀ x, (c x).oneCell' = true) (l : List α) : ∀ u ∈ l.map c, u.oneCell' = true := by
  intro u hu; obtain ⟨x, _, rfl⟩ := List.mem_map.1 hu; exact hc x
theorem add_none (b off j : Nat) : (⟨b, off, none⟩ : Addr).add j = ⟨b, off + j, none⟩ := by unfold Addr.add; split <;> simp_all

/-- copy into a known block. -/
theorem wpList_cp {α : Type} [Inhabited α] {c : α → Value} (hc : ∀ x, (c x).oneCell' = true) (hgd : o.guard = none) (d s : Operand) (dT sT e : TypeId) (ho : o.op = .call { callee := .builtin .copy, args := #[d, s], argTypes := #[dT, sT] })
    (hu : P.underlying dT = some (.slice e)) (hsz : (P.info? e).map (·.size) = some 1) (g dLen dCap : Nat) (v : Value) (hd : a.eval d = .slice (some ⟨g, 0, none⟩) dLen dCap) (hs : a.eval s = v)
    (l : List α) (hv : Rd c w v l) (t : TypeId) (xs : List Value) (hg : Blk w g t xs) (hle : l.length ≤ dLen) (hfit : l.length ≤ xs.length)
    (h : ∀ w', Blk w' g t (l.map c ++ xs.drop l.length) → Upd [g] w w' → w'.heap.size = w.heap.size → wpList P ops Q rest (a.put o.dst (goInt l.length)) w') : wpList P ops Q (o :: rest) a w := by
  obtain ⟨A, cap, rfl, h1, h2, h3⟩ := hv
  have key : ∃ w', (Builtin.copy_ #[dT, sT] o.type #[.slice (some ⟨g, 0, none⟩) dLen dCap, .slice A l.length cap]).run P w = .ok (goInt l.length) w' ∧ Blk w' g t (l.map c ++ xs.drop l.length) ∧ Upd [g] w w' ∧ w'.heap.size = w.heap.size := by
    by_cases hne : l = []
    · subst hne
      refine ⟨w, ?_, by simpa using hg, Upd.refl _ _, rfl⟩
      exact run_copy_none (P := P) w dT sT o.type e _ A dLen dCap 0 cap hu hsz (by simp)
    · obtain ⟨b, off, rfl, hcell⟩ := h3 hne
      have hr := run_copy_row (P := P) w dT sT o.type e g 0 dLen dCap ⟨b, off, none⟩ l.length cap xs.toArray t (l.map c) hu hsz hg (by rw [List.length_map]; exact (Nat.min_eq_left hle).symm)
        (fun j v hj => by
          rw [add_none]
          rw [List.getElem?_map] at hj
          obtain ⟨x, hx, rfl⟩ := Option.map_eq_some_iff.1 hj
          have hjl := (List.getElem?_eq_some_iff.1 hx).1
          rw [hcell j hjl, nth_of l j x hx]) (by simpa using hfit) (oneCell_map hc l)
      simp only [List.take_zero, List.nil_append, Nat.zero_add, List.length_map] at hr
      refine ⟨_, hr, ?_, ⟨rfl, rfl, rfl, by simp, fun k _ hk => setRow_other w g k _ (by simpa using hk)⟩, by simp⟩
      exact setRow_heap w g xs.toArray _ t _ hg
  obtain ⟨w', hr, k1, k2, k3⟩ := key
  refine wpList_plain hgd fun K hK => ?_
  unfold Oper.wp execOp
  simp only [ho, resolve, invoke, builtin, Sem.run_bind, Sem.run_pure, Result.andThen_ok, List.map_toArray, List.map_cons, List.map_nil, hd, hs, hr]
  exact hK _ _ (h w' k1 k2 k3)

theorem run_app_nothing {t ty e : TypeId} {size : Nat} (ht : P.underlying t = some (.slice e)) (hi : (P.info? e).map (·.size) = some size) (ao bo : Option Addr) (n cap k : Nat) (hn : n ≤ cap) :
    (Builtin.append_ #[t, t] ty #[.slice ao n cap, .slice bo 0 k]).run P w = .ok (.slice ao n cap) w := by
  obtain ⟨i, hi, hsize⟩ : ∃ i, P.info? e = some i ∧ i.size = size := by
    cases hq : P.info? e with
    | none => simp [hq] at hi
    | some i => exact ⟨i, rfl, by simpa [hq] using hi⟩
  have h0 : n + 0 ≤ cap := by omega
  cases ao <;> cases bo <;> simp [Builtin.append_, run_underlying ht, Builtin.lenOf, Builtin.firstCells, sizeOf, typeInfo, hi, storeCells, loadCells, loadCellsFrom, hn]

/-- append of a list onto a list of the call's own: the run. -/
theorem run_app {α : Type} [Inhabited α] {c : α → Value} (hc : ∀ x, (c x).oneCell' = true) {t ty e : TypeId} {z : Value} {bytes base : Nat} (ht : P.underlying t = some (.slice e)) (hi : (P.info? e).map (fun i => (i.zero, i.size, i.bytes)) = some (some z, 1, bytes)) (hz : z.cells = #[z])
    (v u : Value) (l m : List α) (hv : Own c base e w v l) (hu : Rd c w u m) (hb : (l.length + m.length) * bytes ≤ 140737488355328) (hl : l.length + m.length ≤ maxLen) (hbase : base ≤ w.heap.size) :
    ∃ v' w', (Builtin.append_ #[t, t] ty #[v, u]).run P w = .ok v' w' ∧ Own c base e w' v' (l ++ m) ∧ Upd (blk v) w w' ∧ (∀ x ∈ blk v', x ∈ blk v ∨ w.heap.size ≤ x) := by
  obtain ⟨i, h1, h2, h3, h4⟩ := info_parts hi
  obtain ⟨A, cap, rfl, hle, hcm, hcell0⟩ := hu
  by_cases hne : m = []
  · subst hne
    have hsz : (P.info? e).map (·.size) = some 1 := by simp [h1, h3]
    obtain ⟨ao, n, k, rfl, hnk⟩ : ∃ ao n k, v = .slice ao n k ∧ n ≤ k := by
      rcases hv.2 with ⟨rfl, _⟩ | ⟨g, cap', cur, rfl, _, _, q, _⟩
      · exact ⟨none, 0, 0, rfl, Nat.le_refl _⟩
      · exact ⟨_, _, _, rfl, q⟩
    exact ⟨_, w, run_app_nothing ht hsz ao A n k cap hnk, by rw [List.append_nil]; exact hv, Upd.refl _ _, fun x hx => .inl hx⟩
  · obtain ⟨b, off, rfl, hcell⟩ := hcell0 hne
    have hnews : ∀ j u, (m.map c)[j]? = some u → w.cell? ((⟨b, off, none⟩ : Addr).add j) = some u := fun j u hj => by
      rw [add_none]
      rw [List.getElem?_map] at hj
      obtain ⟨x, hx, rfl⟩ := Option.map_eq_some_iff.1 hj
      rw [hcell j (List.getElem?_eq_some_iff.1 hx).1, nth_of m j x hx]
    obtain ⟨v', w', hr, g1, g2, _, g3⟩ := run_append_own_at (P := P) w base t ty e i z 1 bytes ht h1 h2 h3 h4 (by rw [hz]; rfl) (by decide) v l.length (l.map c) hv ⟨b, off, none⟩ m.length cap (m.map c) (by simp) hnews (oneCell_map hc m) hl hb hbase
    have hown : Own c base e w' v' (l ++ m) := by
      unfold Own; rw [List.length_append, List.map_append]; exact g1
    refine ⟨v', w', hr, hown, by rw [blk_own]; exact Upd.of_grown g2, ?_⟩
    intro x hx
    rw [blk_own] at hx
    rcases g3 with g3 | g3
    · rw [g3, ← blk_own] at hx; exact .inl hx
    · rw [g3] at hx; simp at hx; exact .inr (by omega)

/-- append of a list onto a list of the call's own. -/
theorem wpList_app {α : Type} [Inhabited α] {c : α → Value} (hc : ∀ x, (c x).oneCell' = true) (hgd : o.guard = none) (s x : Operand) {t e : TypeId} (ho : o.op = .call { callee := .builtin .append, args := #[s, x], argTypes := #[t, t] })
    {z : Value} {bytes base : Nat} (ht : P.underlying t = some (.slice e)) (hi : (P.info? e).map (fun i => (i.zero, i.size, i.bytes)) = some (some z, 1, bytes)) (hz : z.cells = #[z])
    (v u : Value) (l m : List α) (hs : a.eval s = v) (hx : a.eval x = u) (hv : Own c base e w v l) (hu : Rd c w u m) (hb : (l.length + m.length) * bytes ≤ 140737488355328) (hl : l.length + m.length ≤ maxLen) (hbase : base ≤ w.heap.size)
    (h : ∀ v' w', Own c base e w' v' (l ++ m) → Upd (blk v) w w' → (∀ x ∈ blk v', x ∈ blk v ∨ w.heap.size ≤ x) → wpList P ops Q rest (a.put o.dst v') w') : wpList P ops Q (o :: rest) a w := by
  obtain ⟨v', w', hr, k1, k2, k3⟩ := run_app (P := P) (ty := o.type) hc ht hi hz v u l m hv hu hb hl hbase
  refine wpList_plain hgd fun K hK => ?_
  unfold Oper.wp execOp
  simp only [ho, resolve, invoke, builtin, Sem.run_bind, Sem.run_pure, Result.andThen_ok, List.map_toArray, List.map_cons, List.map_nil, hs, hx, hr]
  exact hK _ _ (h v' w' k1 k2 k3)
end

theorem nth_take {α : Type} [Inhabited α] (l : List α) (n j : Nat) (h : j < n) : nth (l.take n) j = nth l j := by simp [nth, List.getD, h]
theorem nth_append_left {α : Type} [Inhabited α] (l m : List α) (j : Nat) (h : j < l.length) : nth (l ++ m) j = nth l j := by simp [nth, List.getD, List.getElem?_append_left h]
theorem nth_append_right {α : Type} [Inhabited α] (l m : List α) (j : Nat) (h : l.length ≤ j) : nth (l ++ m) j = nth m (j - l.length) := by simp [nth, List.getD, List.getElem?_append_right h]
theorem nth_drop {α : Type} [Inhabited α] (l : List α) (n j : Nat) : nth (l.drop n) j = nth l (n + j) := by simp [nth, List.getD]
theorem nth_replicate {α : Type} [Inhabited α] (n : Nat) (x : α) (j : Nat) (h : j < n) : nth (List.replicate n x) j = x := by simp [nth, List.getD, h]
/-- The first elements of a list that is shown. -/
theorem Rd.take {α : Type} [Inhabited α] {c : α → Value} {w : World} {a : Option Addr} {n cap : Nat} {l : List α} (h : Rd c w (.slice a n cap) l) (k : Nat) (hk : k ≤ l.length) : Rd c w (.slice a k cap) (l.take k) := by
  obtain ⟨a', cap', he, h1, h2, h3⟩ := h
  injection he with e1 e2 e3; subst e1; subst e2; subst e3
  refine ⟨_, _, by rw [List.length_take, Nat.min_eq_left hk], by rw [List.length_take]; omega, h2, fun hne => ?_⟩
  obtain ⟨b, off, rfl, hc⟩ := h3 (fun q => hne (by rw [q]; simp))
  refine ⟨b, off, rfl, fun j hj => ?_⟩
  rw [List.length_take] at hj
  rw [nth_take l k j (by omega)]; exact hc j (by omega)
/-- What stands behind the first elements. -/
theorem Rd.drop {α : Type} [Inhabited α] {c : α → Value} {w : World} {a : Option Addr} {n cap : Nat} {l : List α} (h : Rd c w (.slice a n cap) l) (k : Nat) (hk : k ≤ l.length) :
    Rd c w (.slice (if cap = k then a else a.map (·.add k)) (n - k) (cap - k)) (l.drop k) := by
  obtain ⟨a', cap', he, h1, h2, h3⟩ := h
  injection he with e1 e2 e3; subst e1; subst e2; subst e3
  refine ⟨_, _, by rw [List.length_drop], by rw [List.length_drop]; omega, by omega, fun hne => ?_⟩
  have hlt : k < l.length := by
    rcases Nat.lt_or_ge k l.length with q | q
    · exact q
    · exact absurd (List.drop_eq_nil_of_le q) hne
  obtain ⟨b, off, rfl, hc⟩ := h3 (fun q => by subst q; simp at hlt)
  refine ⟨b, off + k, by rw [if_neg (by omega)]; simp [add_none], fun j hj => ?_⟩
  rw [List.length_drop] at hj
  rw [nth_drop, Nat.add_assoc]; exact hc _ (by omega)

theorem Upd.seq {a b c : World} (h : Upd [] a b) (k : Upd [] b c) : Upd [] a c := h.trans k (by simp) (by simp)

theorem Own.form {α : Type} {c : α → Value} {base : Nat} {e : TypeId} {w : World} {v : Value} {l : List α} (h : Own c base e w v l) (hne : l ≠ []) :
    ∃ g k ys, v = .slice (some ⟨g, 0, none⟩) l.length k ∧ base ≤ g ∧ Blk w g e (l.map c ++ ys) ∧ l.length ≤ k ∧ k ≤ maxLen := by
  obtain ⟨h1, h2⟩ := h
  rcases h2 with ⟨_, hn⟩ | ⟨g, cap, cur, rfl, hb, hg, hc, hm, hs, ht⟩
  · exact absurd (List.eq_nil_of_length_eq_zero hn) hne
  · refine ⟨g, cap, cur.toList.drop l.length, rfl, hb, ?_, hc, hm⟩
    rw [← ht, Nat.mul_one, List.take_append_drop]
    unfold Blk; simpa using hg
theorem Rd.sub {α : Type} [Inhabited α] {c : α → Value} {w : World} {a : Option Addr} {n cap : Nat} {l : List α} (h : Rd c w (.slice a n cap) l) (i k : Nat) (hi : i ≤ k) (hk : k ≤ l.length) :
    Rd c w (.slice (if cap = i then a else a.map (·.add i)) (k - i) (cap - i)) ((l.drop i).take (k - i)) := (h.drop i (by omega)).take (k - i) (by rw [List.length_drop]; omega)
end Go.Proofs.YtmhojaiajhdlcaaGreat
namespace Go.Proofs.YtmhojaiajhdlcaaGreat
open Go.RowKit
set_option linter.unusedSimpArgs false
set_option linter.unusedVariables false
theorem or_hl (x y j : Nat) (hx : x % 2 ^ j = 0) (hy : y < 2 ^ j) : x ||| y = x + y := by
  have h := Nat.shiftLeft_add_eq_or_of_lt hy (x / 2 ^ j)
  rw [Nat.shiftLeft_eq, Nat.div_mul_cancel (Nat.dvd_of_mod_eq_zero hx)] at h
  exact h.symm
theorem u32_hl (x y j : Nat) (hx : x % 2 ^ j = 0) (hy : y < 2 ^ j) (hs : x + y < 4294967296) : bits .or .u32 (x : Int) (y : Int) = ((x + y : Nat) : Int) := by
  rw [u32_or_nat x y (by omega) (by omega), or_hl x y j hx hy]
theorem i64_or_nat (a b : Nat) (ha : a < 9223372036854775808) (hb : b < 9223372036854775808) : bits .or .i64 (a : Int) (b : Int) = ((a ||| b : Nat) : Int) := by
  have hx : a ||| b < 2 ^ 63 := Nat.or_lt_two_pow (by omega) (by omega)
  show IntKind.i64.wrap ((BitVec.ofInt 64 (a : Int) ||| BitVec.ofInt 64 (b : Int)).toNat : Int) = _
  rw [BitVec.toNat_or, ofInt_u64 a (by omega), ofInt_u64 b (by omega)]
  simp [IntKind.wrap, IntKind.bits, IntKind.signed]
  omega
theorem i64_hl (x y j : Nat) (hx : x % 2 ^ j = 0) (hy : y < 2 ^ j) (hs : x + y < 9223372036854775808) : bits .or .i64 (x : Int) (y : Int) = ((x + y : Nat) : Int) := by
  rw [i64_or_nat x y (by omega) (by omega), or_hl x y j hx hy]
theorem u64_hl (x y j : Nat) (hx : x % 2 ^ j = 0) (hy : y < 2 ^ j) (hs : x + y < 18446744073709551616) : bits .or .u64 (x : Int) (y : Int) = ((x + y : Nat) : Int) := by
  rw [u64_or_nat x y (by omega) (by omega), or_hl x y j hx hy]
/-- Four bytes as a number, the highest first. -/
def num4 (l : List UInt8) : Nat := (nth l 0).toNat * 16777216 + (nth l 1).toNat * 65536 + (nth l 2).toNat * 256 + (nth l 3).toNat
/-- A number in four bytes. -/
def four (n : Nat) : List UInt8 := [UInt8.ofNat (n / 16777216), UInt8.ofNat (n / 65536), UInt8.ofNat (n / 256), UInt8.ofNat n]
theorem num4_lt (l : List UInt8) : num4 l < 4294967296 := by
  have h0 := (nth l 0).toNat_lt; have h1 := (nth l 1).toNat_lt; have h2 := (nth l 2).toNat_lt; have h3 := (nth l 3).toNat_lt
  unfold num4; omega
theorem num4_four (n : Nat) (h : n < 4294967296) (m : List UInt8) : num4 (four n ++ m) = n := by
  simp only [num4, four, List.cons_append, nth_cons_zero, nth_cons_succ, UInt8.toNat_ofNat']
  omega
theorem four_len (n : Nat) : (four n).length = 4 := rfl
theorem num4_u32 (a b c d : UInt8) : bits .or .u32 (bits .or .u32 (bits .or .u32 ((a.toNat * 16777216 : Nat) : Int) ((b.toNat * 65536 : Nat) : Int)) ((c.toNat * 256 : Nat) : Int)) (d.toNat : Int) = ((a.toNat * 16777216 + b.toNat * 65536 + c.toNat * 256 + d.toNat : Nat) : Int) := by
  have h0 := a.toNat_lt; have h1 := b.toNat_lt; have h2 := c.toNat_lt; have h3 := d.toNat_lt
  rw [u32_hl _ _ 24 (by omega) (by omega) (by omega), u32_hl _ _ 16 (by omega) (by omega) (by omega), u32_hl _ _ 8 (by omega) (by omega) (by omega)]
theorem num4_i64 (a b c d : UInt8) : bits .or .i64 (bits .or .i64 (bits .or .i64 ((a.toNat * 16777216 : Nat) : Int) ((b.toNat * 65536 : Nat) : Int)) ((c.toNat * 256 : Nat) : Int)) (d.toNat : Int) = ((a.toNat * 16777216 + b.toNat * 65536 + c.toNat * 256 + d.toNat : Nat) : Int) := by
  have h0 := a.toNat_lt; have h1 := b.toNat_lt; have h2 := c.toNat_lt; have h3 := d.toNat_lt
  rw [i64_hl _ _ 24 (by omega) (by omega) (by omega), i64_hl _ _ 16 (by omega) (by omega) (by omega), i64_hl _ _ 8 (by omega) (by omega) (by omega)]
theorem u8_32 (x : UInt8) : (x.toNat : Int) % 4294967296 = ((x.toNat : Nat) : Int) := by have := x.toNat_lt; omega
theorem u8_sh (x : UInt8) (m : Nat) (hm : m ≤ 16777216) : (x.toNat : Int) % 4294967296 * (m : Int) % 4294967296 = ((x.toNat * m : Nat) : Int) := by
  have := x.toNat_lt
  have h2 : x.toNat * m ≤ 255 * 16777216 := Nat.mul_le_mul (by omega) hm
  rw [u8_32, ← Int.natCast_mul]; omega
theorem num4_walk (a b c d : UInt8) : bits .or .u32 (bits .or .u32 (bits .or .u32 ((a.toNat : Int) % 4294967296 * 16777216 % 4294967296) ((b.toNat : Int) % 4294967296 * 65536 % 4294967296)) ((c.toNat : Int) % 4294967296 * 256 % 4294967296)) ((d.toNat : Int) % 4294967296) = ((a.toNat * 16777216 + b.toNat * 65536 + c.toNat * 256 + d.toNat : Nat) : Int) := by
  rw [← num4_u32, u8_32 d]
  have h1 := u8_sh a 16777216 (by omega); have h2 := u8_sh b 65536 (by omega); have h3 := u8_sh c 256 (by omega)
  rw [show ((16777216 : Nat) : Int) = 16777216 from rfl] at h1
  rw [show ((65536 : Nat) : Int) = 65536 from rfl] at h2
  rw [show ((256 : Nat) : Int) = 256 from rfl] at h3
  rw [h1, h2, h3]
theorem wrap64_id (n : Int) (h : -9223372036854775808 ≤ n) (h2 : n ≤ 9223372036854775807) : wrap64 n = n := by
  unfold wrap64; omega
theorem u8_64 (x : UInt8) (m : Nat) (hm : m ≤ 16777216) : wrap64 (wrap64 (x.toNat : Int) * (m : Int)) = ((x.toNat * m : Nat) : Int) := by
  have := x.toNat_lt
  have h2 : x.toNat * m ≤ 255 * 16777216 := Nat.mul_le_mul (by omega) hm
  rw [wrap64_id (x.toNat : Int) (by omega) (by omega), ← Int.natCast_mul, wrap64_id _ (by omega) (by omega)]
theorem num4_walk64 (a b c d : UInt8) : bits .or .i64 (bits .or .i64 (bits .or .i64 (wrap64 (wrap64 (a.toNat : Int) * 16777216)) (wrap64 (wrap64 (b.toNat : Int) * 65536))) (wrap64 (wrap64 (c.toNat : Int) * 256))) (wrap64 (d.toNat : Int)) = ((a.toNat * 16777216 + b.toNat * 65536 + c.toNat * 256 + d.toNat : Nat) : Int) := by
  have hd := d.toNat_lt
  rw [← num4_i64, wrap64_id (d.toNat : Int) (by omega) (by omega)]
  have h1 := u8_64 a 16777216 (by omega); have h2 := u8_64 b 65536 (by omega); have h3 := u8_64 c 256 (by omega)
  rw [show ((16777216 : Nat) : Int) = 16777216 from rfl] at h1
  rw [show ((65536 : Nat) : Int) = 65536 from rfl] at h2
  rw [show ((256 : Nat) : Int) = 256 from rfl] at h3
  rw [h1, h2, h3]
end Go.Proofs.YtmhojaiajhdlcaaGreat
namespace Go.Proofs.YtmhojaiajhdlcaaGreat
set_option linter.unusedSimpArgs false
set_option linter.unusedVariables false
/-- How many bytes a number has. -/
def nb (n : Nat) : Nat := if h : n = 0 then 0 else nb (n / 256) + 1
decreasing_by omega
theorem nb_zero : nb 0 = 0 := by unfold nb; simp
theorem nb_pos (n : Nat) (h : n ≠ 0) : nb n = nb (n / 256) + 1 := by rw [nb]; simp [h]
theorem nb_lt : ∀ (k n : Nat), k < nb n ↔ 0 < n / 256 ^ k
  | 0, n => by
    by_cases h : n = 0
    · subst h; simp [nb_zero]
    · rw [nb_pos n h]; simp; omega
  | k + 1, n => by
    have e : n / 256 ^ (k + 1) = n / 256 / 256 ^ k := by rw [Nat.pow_succ', Nat.div_div_eq_div_mul]
    by_cases h : n = 0
    · subst h; simp [nb_zero]
    · rw [nb_pos n h, e, ← nb_lt k (n / 256)]; omega
theorem nb_le8 (n : Nat) (h : n < 18446744073709551616) : nb n ≤ 8 := by
  rcases Nat.lt_or_ge 8 (nb n) with q | q
  · have := (nb_lt 8 n).1 q
    have e : (256 : Nat) ^ 8 = 18446744073709551616 := by decide
    rw [e] at this
    have := Nat.div_eq_of_lt h
    omega
  · exact q
/-- So many bytes of a number, the highest first. -/
def beB : Nat → Nat → List UInt8
  | 0, _ => []
  | k + 1, n => UInt8.ofNat (n / 256 ^ k) :: beB k n
theorem beB_len : ∀ k n, (beB k n).length = k
  | 0, _ => rfl
  | k + 1, n => by simp [beB, beB_len k n]
def encNum (n : Nat) : List UInt8 := UInt8.ofNat (nb n) :: beB (nb n) n
theorem encNum_len (n : Nat) : (encNum n).length = 1 + nb n := by simp [encNum, beB_len]; omega
/-- Bytes as a number, the highest first. -/
def beN (l : List UInt8) : Nat := l.foldl (fun a x => a * 256 + x.toNat) 0
theorem beN_from (a : Nat) (l : List UInt8) : l.foldl (fun a x => a * 256 + x.toNat) a = a * 256 ^ l.length + beN l := by
  unfold beN
  induction l generalizing a with
  | nil => simp
  | cons x l ih =>
    simp only [List.foldl_cons, List.length_cons]
    rw [ih, ih (0 * 256 + x.toNat)]
    simp only [Nat.zero_mul, Nat.zero_add, Nat.pow_succ', Nat.add_mul]
    rw [Nat.mul_assoc, Nat.add_assoc]
theorem beN_cons (x : UInt8) (l : List UInt8) : beN (x :: l) = x.toNat * 256 ^ l.length + beN l := by
  have := beN_from (0 * 256 + x.toNat) l
  simp only [Nat.zero_mul, Nat.zero_add] at this
  rw [← this]; simp [beN]
theorem beN_snoc (l : List UInt8) (x : UInt8) : beN (l ++ [x]) = beN l * 256 + x.toNat := by simp [beN, List.foldl_append]
theorem beN_lt (l : List UInt8) : beN l < 256 ^ l.length := by
  induction l with
  | nil => simp [beN]
  | cons x l ih =>
    rw [beN_cons, List.length_cons, Nat.pow_succ']
    have hx := x.toNat_lt
    have : x.toNat * 256 ^ l.length ≤ 255 * 256 ^ l.length := Nat.mul_le_mul_right _ (by omega)
    omega
theorem beN_beB : ∀ k n, beN (beB k n) = n % 256 ^ k
  | 0, n => by simp [beB, beN]; omega
  | k + 1, n => by
    rw [beB, beN_cons, beB_len, beN_beB k n, UInt8.toNat_ofNat']
    have h1 : n % 256 ^ (k + 1) = (n / 256 ^ k % 256) * 256 ^ k + n % 256 ^ k := by
      rw [Nat.pow_succ, Nat.mod_mul, Nat.add_comm, Nat.mul_comm]
    rw [h1]
theorem lt_pow_nb (n : Nat) : n < 256 ^ nb n := by
  rcases Nat.lt_or_ge n (256 ^ nb n) with h | h
  · exact h
  · have := Nat.div_pos h (Nat.pow_pos (by decide))
    have := (nb_lt (nb n) n).2 this
    omega
theorem beN_enc (n : Nat) : beN (beB (nb n) n) = n := by rw [beN_beB]; exact Nat.mod_eq_of_lt (lt_pow_nb n)
theorem beB_first (n : Nat) (h : n ≠ 0) : ∃ l, beB (nb n) n = UInt8.ofNat (n / 256 ^ (nb n - 1)) :: l ∧ (UInt8.ofNat (n / 256 ^ (nb n - 1))) ≠ 0 := by
  obtain ⟨m, hm⟩ : ∃ m, nb n = m + 1 := ⟨nb n - 1, by rw [nb_pos n h]; omega⟩
  refine ⟨beB m n, by rw [hm]; rfl, ?_⟩
  rw [hm, Nat.add_sub_cancel]
  intro e
  have h1 := (nb_lt m n).1 (by omega)
  have h2 : n / 256 ^ m < 256 := by
    apply Nat.div_lt_of_lt_mul
    have := lt_pow_nb n
    rwa [hm, Nat.pow_succ] at this
  have h3 := congrArg UInt8.toNat e
  rw [UInt8.toNat_ofNat'] at h3
  simp at h3
  omega
/-- A number read: its value, how many bytes, the error. -/
def numAt : List UInt8 → Nat × Nat × Nat
  | [] => (0, 0, 3)
  | c :: r => if 8 < c.toNat then (0, 0, 4) else if r.length < c.toNat then (0, 0, 3)
    else if (0 < c.toNat ∧ nth r 0 = 0) ∨ 9223372036854775808 ≤ beN (r.take c.toNat) then (0, 0, 4) else (beN (r.take c.toNat), 1 + c.toNat, 0)
theorem numAt_cons (c : UInt8) (r : List UInt8) : numAt (c :: r) = if 8 < c.toNat then (0, 0, 4) else if r.length < c.toNat then (0, 0, 3)
    else if (0 < c.toNat ∧ nth r 0 = 0) ∨ 9223372036854775808 ≤ beN (r.take c.toNat) then (0, 0, 4) else (beN (r.take c.toNat), 1 + c.toNat, 0) := rfl
/-- Where a reader stands, and its error. -/
abbrev RSt := Nat × Nat
def rdNum (B : List UInt8) (s : RSt) : Nat × RSt :=
  if s.2 ≠ 0 then (0, s) else if (numAt (B.drop s.1)).2.2 ≠ 0 then (0, s.1, (numAt (B.drop s.1)).2.2) else ((numAt (B.drop s.1)).1, s.1 + (numAt (B.drop s.1)).2.1, 0)
def rdUpto (B : List UInt8) (most : Int) (s : RSt) : Nat × RSt :=
  if (rdNum B s).2.2 = 0 ∧ most < ((rdNum B s).1 : Int) then (0, s.1, 2) else rdNum B s
def rdText (B : List UInt8) (most : Int) (s : RSt) : List UInt8 × RSt :=
  if (rdUpto B most s).2.2 ≠ 0 then ([], (rdUpto B most s).2)
  else if B.length - (rdUpto B most s).2.1 < (rdUpto B most s).1 then ([], s.1, 3)
  else ((B.drop (rdUpto B most s).2.1).take (rdUpto B most s).1, (rdUpto B most s).2.1 + (rdUpto B most s).1, 0)
def rdFlag (B : List UInt8) (s : RSt) : Bool × RSt :=
  if (rdNum B s).2.2 = 0 ∧ 1 < (rdNum B s).1 then (false, s.1, 4) else (decide ((rdNum B s).2.2 = 0 ∧ (rdNum B s).1 = 1), (rdNum B s).2)
def rdEnd (B : List UInt8) (s : RSt) : RSt := if s.2 = 0 ∧ s.1 < B.length then (s.1, 5) else s
def rdNums (B : List UInt8) : Nat → RSt → List Int × RSt
  | 0, s => ([], s)
  | n + 1, s => if s.2 ≠ 0 then ([], s) else (((rdNum B s).1 : Int) :: (rdNums B n (rdNum B s).2).1, (rdNums B n (rdNum B s).2).2)
def rdItemsAt (B : List UInt8) (most : Int) (s : RSt) : RSt :=
  if (rdUpto B most s).2.2 = 0 ∧ B.length - (rdUpto B most s).2.1 < (rdUpto B most s).1 then (s.1, 3) else (rdUpto B most s).2
def rdItems (B : List UInt8) (most : Int) (s : RSt) : List Int × RSt :=
  if (rdNums B (rdUpto B most s).1 (rdItemsAt B most s)).2.2 ≠ 0 then ([], (rdNums B (rdUpto B most s).1 (rdItemsAt B most s)).2) else rdNums B (rdUpto B most s).1 (rdItemsAt B most s)
theorem numAt_used (r : List UInt8) (h : (numAt r).2.2 = 0) : 1 ≤ (numAt r).2.1 ∧ (numAt r).2.1 ≤ r.length ∧ (numAt r).2.1 ≤ 9 ∧ (numAt r).1 < 9223372036854775808 := by
  cases r with
  | nil => simp [numAt] at h
  | cons c r =>
    rw [numAt_cons] at h ⊢
    split at h
    · simp at h
    · rename_i h1
      rw [if_neg h1]
      split at h
      · simp at h
      · rename_i h2
        rw [if_neg h2]
        split at h
        · simp at h
        · rename_i h3
          rw [if_neg h3]
          simp only [List.length_cons]
          omega
theorem numAt_bad (r : List UInt8) (h : (numAt r).2.2 ≠ 0) : (numAt r).2.2 ≤ 5 := by
  cases r with
  | nil => simp [numAt]
  | cons c r => rw [numAt_cons]; repeat' split
                all_goals simp
theorem rdNum_le (B : List UInt8) (s : RSt) (h : s.1 ≤ B.length) (h2 : s.2 ≤ 5) : (rdNum B s).1 < 9223372036854775808 ∧ s.1 ≤ (rdNum B s).2.1 ∧ (rdNum B s).2.1 ≤ B.length ∧ (rdNum B s).2.2 ≤ 5 ∧ ((rdNum B s).2.2 ≠ 0 → (rdNum B s).1 = 0 ∧ (rdNum B s).2.1 = s.1) := by
  unfold rdNum
  split
  · simp; omega
  · split
    · rename_i h1 h3
      have := numAt_bad _ h3
      simp; omega
    · rename_i h1 h3
      have := numAt_used (B.drop s.1) (by simpa using h3)
      rw [List.length_drop] at this
      simp; omega
theorem rdUpto_le (B : List UInt8) (m : Int) (s : RSt) (h : s.1 ≤ B.length) (h2 : s.2 ≤ 5) : (rdUpto B m s).1 < 9223372036854775808 ∧ s.1 ≤ (rdUpto B m s).2.1 ∧ (rdUpto B m s).2.1 ≤ B.length ∧ (rdUpto B m s).2.2 ≤ 5 ∧ ((rdUpto B m s).2.2 ≠ 0 → (rdUpto B m s).1 = 0 ∧ (rdUpto B m s).2.1 = s.1) := by
  have := rdNum_le B s h h2
  unfold rdUpto
  split
  · simp; omega
  · exact this
/-- What was written is read. -/
theorem numAt_enc (n : Nat) (h : n < 9223372036854775808) (r : List UInt8) : numAt (encNum n ++ r) = (n, 1 + nb n, 0) := by
  have h8 := nb_le8 n (by omega)
  have hc : (UInt8.ofNat (nb n)).toNat = nb n := by rw [UInt8.toNat_ofNat']; omega
  have ht : (beB (nb n) n ++ r).take (nb n) = beB (nb n) n := List.take_left' (beB_len _ _)
  unfold encNum
  rw [List.cons_append, numAt_cons, hc, if_neg (by omega), if_neg (by rw [List.length_append, beB_len]; omega), ht, beN_enc, if_neg]
  rintro (⟨h1, h2⟩ | h2)
  · have hn : n ≠ 0 := by rintro rfl; simp [nb_zero] at h1
    obtain ⟨l, e1, e2⟩ := beB_first n hn
    rw [e1, List.cons_append, nth_cons_zero] at h2
    exact e2 h2
  · omega
/-- A number that is cut off ends too early. -/
theorem numAt_cut (n : Nat) (h : n < 9223372036854775808) (k : Nat) (hk : k < (encNum n).length) : numAt ((encNum n).take k) = (0, 0, 3) := by
  have h8 := nb_le8 n (by omega)
  have hc : (UInt8.ofNat (nb n)).toNat = nb n := by rw [UInt8.toNat_ofNat']; omega
  rw [encNum_len] at hk
  cases k with
  | zero => rfl
  | succ k =>
    unfold encNum
    rw [List.take_succ_cons, numAt_cons, hc, if_neg (by omega), if_pos (by rw [List.length_take, beB_len]; omega)]
/-- Bytes that are read as a number are those that write it. -/
theorem enc_of_numAt (r : List UInt8) (h : (numAt r).2.2 = 0) : encNum (numAt r).1 = r.take (numAt r).2.1 := by
  cases r with
  | nil => simp [numAt] at h
  | cons c r =>
    rw [numAt_cons] at h ⊢
    split at h
    · simp at h
    · rename_i h1
      rw [if_neg h1]
      split at h
      · simp at h
      · rename_i h2
        rw [if_neg h2]
        split at h
        · simp at h
        · rename_i h3
          rw [if_neg h3]
          simp only
          rw [Nat.add_comm, List.take_succ_cons]
          have hl : (r.take c.toNat).length = c.toNat := by rw [List.length_take]; omega
          have h4 : 0 < c.toNat → nth (r.take c.toNat) 0 ≠ 0 := fun q e => h3 (.inl ⟨q, by rw [nth_take _ _ _ q] at e; exact e⟩)
          generalize r.take c.toNat = m at *
          have key : ∀ (m : List UInt8), (0 < m.length → nth m 0 ≠ 0) → nb (beN m) = m.length ∧ beB m.length (beN m) = m := by
            intro m hm
            have hb : ∀ (l : List UInt8) (a : Nat), beB l.length (a * 256 ^ l.length + beN l) = l := by
              intro l
              induction l with
              | nil => intro a; rfl
              | cons x l ih =>
                intro a
                have hlt := beN_lt l
                have hx := x.toNat_lt
                rw [List.length_cons, beB, beN_cons]
                have e1 : a * 256 ^ (l.length + 1) + (x.toNat * 256 ^ l.length + beN l) = (a * 256 + x.toNat) * 256 ^ l.length + beN l := by
                  rw [Nat.pow_succ', Nat.add_mul, Nat.mul_assoc, Nat.add_assoc]
                rw [e1, ih (a * 256 + x.toNat)]
                congr 1
                rw [Nat.add_comm, Nat.add_mul_div_right _ _ (Nat.pow_pos (by decide)), Nat.div_eq_of_lt hlt, Nat.zero_add]
                apply UInt8.toNat_inj.1
                rw [UInt8.toNat_ofNat']; omega
            refine ⟨?_, by have := hb m 0; simpa using this⟩
            cases m with
            | nil => simp [beN, nb_zero]
            | cons x m =>
              have hx : x ≠ 0 := by have := hm (by simp); rwa [nth_cons_zero] at this
              have hx2 : 1 ≤ x.toNat := by
                rcases Nat.eq_zero_or_pos x.toNat with q | q
                · exact absurd (UInt8.toNat_inj.1 (by rw [q]; rfl)) hx
                · exact q
              have h1 := beN_lt (x :: m)
              have h2 : 256 ^ m.length ≤ beN (x :: m) := by
                rw [beN_cons]
                have : 1 * 256 ^ m.length ≤ x.toNat * 256 ^ m.length := Nat.mul_le_mul_right _ hx2
                omega
              have h3 := (nb_lt m.length (beN (x :: m))).2 (Nat.div_pos h2 (Nat.pow_pos (by decide)))
              rcases Nat.lt_or_ge (x :: m).length (nb (beN (x :: m))) with q | q
              · have := (nb_lt _ _).1 q
                rw [Nat.div_eq_of_lt h1] at this; omega
              · simp only [List.length_cons] at q ⊢; omega
          obtain ⟨k1, k2⟩ := key m (by rw [hl]; exact h4)
          unfold encNum
          rw [k1, k2, hl]
          congr 1
          apply UInt8.toNat_inj.1
          rw [UInt8.toNat_ofNat']
          have := c.toNat_lt; omega
end Go.Proofs.YtmhojaiajhdlcaaGreat
namespace Go.Proofs.YtmhojaiajhdlcaaGreat
open Go.RowKit
set_option linter.unusedSimpArgs false
set_option linter.unusedVariables false
theorem same_ext {α : Type} [Inhabited α] {l m : List α} (h : l.length = m.length) (he : ∀ j, j < l.length → nth l j = nth m j) : l = m := by
  apply List.ext_getElem h
  intro i h1 h2
  have := he i h1
  rwa [nth_get l i h1, nth_get m i h2] at this
theorem byte_eq {x y : UInt8} : (((x.toNat : Int) != (y.toNat : Int)) = true ↔ x ≠ y) := by
  simp only [bne_iff_ne, ne_eq, Int.natCast_inj]
  exact not_congr ⟨fun h => UInt8.toNat_inj.1 h, fun h => by rw [h]⟩

/-- A number brought into a range. -/
def within (n lo hi : Int) : Int := lo + n % (hi - lo + 1)
theorem within_in (n lo hi : Int) (h : lo ≤ hi) : lo ≤ within n lo hi ∧ within n lo hi ≤ hi := by
  unfold within
  have h1 := Int.emod_nonneg n (show hi - lo + 1 ≠ 0 by omega)
  have h2 := Int.emod_lt_of_pos n (show 0 < hi - lo + 1 by omega)
  omega
theorem within_neg (n d : Int) (hd : 0 < d) (h : n.tmod d < 0) : n.tmod d + d = n % d := by
  have h1 := Int.tmod_eq_emod (a := n) (b := d)
  have h2 := Int.emod_nonneg n (show d ≠ 0 by omega)
  split at h1 <;> omega
theorem within_pos (n d : Int) (hd : 0 < d) (h : 0 ≤ n.tmod d) : n.tmod d = n % d := by
  have h1 := Int.tmod_eq_emod (a := n) (b := d)
  have h2 := Int.emod_lt_of_pos n (show 0 < d by omega)
  split at h1
  · omega
  · have : (d.natAbs : Int) = d := by omega
    omega
theorem tmod_bd (n d : Int) (hd : 0 < d) : n.tmod d ≤ d - 1 ∧ -(d - 1) ≤ n.tmod d := by
  have h1 := Int.tmod_eq_emod (a := n) (b := d)
  have h2 := Int.emod_lt_of_pos n (show 0 < d by omega)
  have h3 := Int.emod_nonneg n (show d ≠ 0 by omega)
  have h4 : (d.natAbs : Int) = d := by omega
  split at h1
  · omega
  · rename_i hc
    have h5 : ¬ d ∣ n := fun q => hc (.inr q)
    have h6 : n % d ≠ 0 := fun q => h5 (Int.dvd_of_emod_eq_zero q)
    omega
theorem bv_one (x : UInt8) : (bv x).oneCell' = true := rfl

/-- A list with room behind it, all of one mark: a block of the call's own. -/
def Roomed {α : Type} (c : α → Value) (e : TypeId) (w w' : World) (v : Value) (l : List α) (mark : α) : Prop :=
  v = .slice (some ⟨w.heap.size, 0, none⟩) (l.length + 80) (l.length + 80) ∧ Blk w' w.heap.size e ((l ++ List.replicate 80 mark).map c) ∧ Upd [] w w'
theorem set_mid {α : Type} (a : List α) (k r : Nat) (m z : α) (i : Nat) (hi : i = a.length + k) (hr : 0 < r) : (a ++ (List.replicate k m ++ List.replicate r z)).set i m = a ++ (List.replicate (k + 1) m ++ List.replicate (r - 1) z) := by
  subst hi
  rw [List.set_append_right _ _ (by omega), Nat.add_sub_cancel_left, List.set_append_right _ _ (by simp)]
  obtain ⟨r, rfl⟩ : ∃ q, r = q + 1 := ⟨r - 1, by omega⟩
  rw [List.replicate_succ' (n := k), List.replicate_succ (n := r)]; simp

theorem intact_split {α : Type} [Inhabited α] (f l : List α) (m : α) (h : f.length = l.length + 80) (h1 : f.take l.length = l) (h2 : ∀ j, l.length ≤ j → j < l.length + 80 → nth f j = m) : f = l ++ List.replicate 80 m := by
  apply same_ext (by simp [h])
  intro j hj
  by_cases hl : j < l.length
  · rw [nth_append_left _ _ _ hl, ← nth_take f l.length j hl, h1]
  · rw [nth_append_right _ _ _ (by omega), nth_replicate _ _ _ (by omega)]; exact h2 j (by omega) (by omega)
theorem intact_bad {α : Type} [Inhabited α] (f l : List α) (m : α) (j : Nat) (hj : l.length ≤ j) (hj2 : j < l.length + 80) (h : nth f j ≠ m) : f ≠ l ++ List.replicate 80 m := by
  intro e; apply h; rw [e, nth_append_right _ _ _ hj, nth_replicate _ _ _ (by omega)]

end Go.Proofs.YtmhojaiajhdlcaaGreat
namespace Go.Proofs.YtmhojaiajhdlcaaGreat
open Go.RowKit
set_option linter.unusedSimpArgs false
set_option linter.unusedVariables false
set_option maxHeartbeats 400000 in
theorem within_any (n lo hi : Int) (w : World) (hn : -9223372036854775808 ≤ n ∧ n ≤ 9223372036854775807) (h : lo ≤ hi) (hl : 0 ≤ lo) (hh : hi ≤ 4611686018427387904) :
    Calls Tryz.prog 17 #[.int .i64 n, .int .i64 lo, .int .i64 hi] w fun e w' => e = .returned (.int .i64 (within n lo hi)) ∧ w = w' := by
  have hp : 0 < hi - lo + 1 := by omega
  obtain ⟨b2, b3⟩ := tmod_bd n (hi - lo + 1) hp
  have hz : ((hi - lo + 1) == 0) = false := by rw [beq_eq_false_iff_ne]; omega
  obtain ⟨hn1, hn2⟩ := hn
  by_cases hs : n.tmod (hi - lo + 1) < 0
  · have HF : Hid (lo + (n.tmod (hi - lo + 1) + hi - lo + 1) = within n lo hi) := by
      unfold Hid within; rw [← within_neg n (hi - lo + 1) hp hs]; omega
    go_enter Tryz.func17, Tryz.ntmps17
    go_wp2
    go_ret
    exact ⟨congrArg (fun n => Ending.returned (.int .i64 n)) HF.out, rfl⟩
  · have HF : Hid (lo + n.tmod (hi - lo + 1) = within n lo hi) := by
      unfold Hid within; rw [← within_pos n (hi - lo + 1) hp (by omega)]
    go_enter Tryz.func17, Tryz.ntmps17
    go_wp2
    go_ret
    exact ⟨congrArg (fun n => Ending.returned (.int .i64 n)) HF.out, rfl⟩

end Go.Proofs.YtmhojaiajhdlcaaGreat
namespace Go.Proofs.YtmhojaiajhdlcaaGreat
open Go.RowKit
set_option linter.unusedSimpArgs false
set_option linter.unusedVariables false

set_option maxHeartbeats 400000 in
theorem sameByte_any (v u : Value) (l m : List UInt8) (w : World) (h : Bytes w v l) (h2 : Bytes w u m) :
    Calls Tryz.prog 13 #[v, u] w fun e w' => e = .returned (.bool (decide (l = m))) ∧ ∃ n, w' = w.drewN n := by
  obtain ⟨a, cap, rfl, hlc, hm, hc⟩ := h
  obtain ⟨a2, cap2, rfl, hlc2, hm2, hc2⟩ := h2
  have hm' : l.length ≤ 9223372036854775807 := by unfold maxLen at hm; omega
  have hm2' : m.length ≤ 9223372036854775807 := by unfold maxLen at hm2; omega
  clear hm hlc hm2 hlc2
  by_cases hlen : l.length = m.length
  · have HL := Lib.hid hlen
    have t1 : ((l.length : Int) != (m.length : Int)) = false := by rw [bne_eq_false_iff_eq]; omega
    have H1 := Lib.hid hc
    have H2 := Lib.hid hc2
    clear hlen hc hc2
    go_enter Tryz.func13, Tryz.ntmps13
    go_wp2
    go_loopw [5] (fun i wr => ∃ k n : Nat, wr = w.drewN n ∧ k ≤ l.length ∧ i = .int .i64 k ∧ Hid (∀ j, j < k → nth l j = nth m j)) (fun i _ => l.length - (intOf i).toNat)
    case atStart => exact ⟨0, 0, rfl, Nat.zero_le _, rfl, fun j hj => absurd hj (by omega)⟩
    case round =>
      obtain ⟨k, n, rfl, hk, rfl, hs⟩ := hrel
      by_cases hlt : k < l.length
      · obtain ⟨b, off, rfl, hc'⟩ := H1.out (by intro h; simp [h] at hlt)
        have hlt2 : k < m.length := by rw [← HL.out]; exact hlt
        obtain ⟨b2, off2, rfl, hc2'⟩ := H2.out (by intro h; simp [h] at hlt2)
        have hck := hc' k hlt
        have hck2 := hc2' k hlt2
        clear hc' hc2'
        have q1 : (k : Int) < (l.length : Int) := by omega
        have q2 : (k : Int) < (m.length : Int) := by omega
        go_wp2
        go_quiet (fail)
        go_wp2
        · have hne : ((nth l k).toNat : Int) ≠ ((nth m k).toNat : Int) := by first | assumption | exact bne_iff_ne.1 (by assumption)
          go_ret
          exact ⟨congrArg (fun b => Ending.returned (.bool b)) (decide_eq_false (fun e => by rw [e] at hne; exact hne rfl)).symm, _, World.drewN_drewN ..⟩
        · have heq : nth l k = nth m k := UInt8.toNat_inj.1 (by have : ((nth l k).toNat : Int) = ((nth m k).toNat : Int) := by first | assumption | exact bne_eq_false_iff_eq.1 (by assumption)
                                                                omega)
          go_roundw
          case rel => exact ⟨k + 1, _, rfl, by omega, by go_num, fun j hj => by
            by_cases e : j = k
            · rw [e]; exact heq
            · exact hs.out j (by omega)⟩
          case measure => simp [intOf]; omega
      · obtain rfl : k = l.length := by omega
        go_wp2
        go_ret
        exact ⟨congrArg (fun b => Ending.returned (.bool b)) (decide_eq_true (same_ext HL.out hs.out)).symm, _, rfl⟩
  · have t1 : ((l.length : Int) != (m.length : Int)) = true := by rw [bne_iff_ne]; omega
    have t2 : decide (l = m) = false := by simp; intro h; exact hlen (by rw [h])
    have T2 := Lib.hid t2
    clear hlen t2
    go_enter Tryz.func13, Tryz.ntmps13
    go_wp2
    go_ret
    exact ⟨congrArg (fun b => Ending.returned (.bool b)) T2.out.symm, 0, rfl⟩

theorem infoByte : (Tryz.prog.info? 5).map (fun i => (i.zero, i.size, i.bytes)) = some (some (.int .u8 0), 1, 1) := by kernel_rfl
theorem sizeByte : (Tryz.prog.info? 5).map (·.size) = some 1 := by kernel_rfl
theorem sameByte_ok (v u : Value) (l : List UInt8) (w : World) (h : Bytes w v l) (h2 : Bytes w u l) :
    Calls Tryz.prog 13 #[v, u] w fun e w' => e = .returned (.bool true) ∧ ∃ n, w' = w.drewN n := by
  have h := sameByte_any v u l l w h h2
  rw [decide_eq_true rfl] at h; exact h
end Go.Proofs.YtmhojaiajhdlcaaGreat
namespace Go.Proofs.YtmhojaiajhdlcaaGreat
open Go.RowKit
set_option linter.unusedSimpArgs false
set_option linter.unusedVariables false
theorem Own.set_ {α : Type} {c : α → Value} {base : Nat} {e : TypeId} {w : World} {g n cap : Nat} {l : List α} (h : Own c base e w (.slice (some ⟨g, 0, none⟩) n cap) l) (k : Nat) (hk : k < l.length) (y : α) :
    Own c base e (w.setCell ⟨g, k, none⟩ (c y)) (.slice (some ⟨g, 0, none⟩) n cap) (l.set k y) := by
  obtain ⟨h1, h2⟩ := h
  rcases h2 with ⟨he, _⟩ | ⟨g', cap', cur, he, hb, hg, hc, hm, hs, ht⟩
  · simp at he
  · injection he with e1 e2 e3
    injection e1 with e1; injection e1 with e1
    subst e1; subst e2; subst e3
    refine ⟨by simp, .inr ⟨g, cap, cur.setIfInBounds k (c y), by simp, hb, ?_, by simpa using hc, hm, by simpa using hs, ?_⟩⟩
    · exact heap_setCell_same w g k cur e (c y) hg
    · rw [List.length_set, Array.toList_setIfInBounds, List.take_set, ht, List.map_set]
theorem Own.form0 {α : Type} {c : α → Value} {base : Nat} {e : TypeId} {w : World} {v : Value} {l : List α} (h : Own c base e w v l) (hne : l ≠ []) : ∃ g cap, v = .slice (some ⟨g, 0, none⟩) l.length cap ∧ base ≤ g ∧ l.length ≤ cap ∧ cap ≤ maxLen := by
  obtain ⟨g, k, ys, h1, h2, h3, h4, h5⟩ := h.form hne
  exact ⟨g, k, h1, h2, h4, h5⟩
theorem Own.cell {α : Type} [Inhabited α] {c : α → Value} {base : Nat} {e : TypeId} {w : World} {g n cap : Nat} {l : List α} (h : Own c base e w (.slice (some ⟨g, 0, none⟩) n cap) l) (k : Nat) (hk : k < l.length) : w.cell? ⟨g, k, none⟩ = some (c (nth l k)) := by
  obtain ⟨a', cap', he, _, _, h3⟩ := h.rd
  injection he with e1 e2 e3
  obtain ⟨b, off, hb, hc⟩ := h3 (fun q => by rw [q] at hk; simp at hk)
  rw [← e1] at hb; injection hb with hb; injection hb with hb1 hb2
  subst hb1; subst hb2
  have := hc k hk
  rwa [Nat.zero_add] at this
theorem Own.frozen {α : Type} [Inhabited α] {c : α → Value} {base : Nat} {e : TypeId} {w : World} {g n cap : Nat} {l : List α} (h : Own c base e w (.slice (some ⟨g, 0, none⟩) n cap) l) (k : Nat) : w.frozen? ⟨g, k, none⟩ = false := by
  obtain ⟨h1, h2⟩ := h
  rcases h2 with ⟨he, _⟩ | ⟨g', cap', cur, he, hb, hg, hc, hm, hs, ht⟩
  · simp at he
  · injection he with e1 e2 e3
    injection e1 with e1; injection e1 with e1
    subst e1
    exact frozen_of_row w g k cur e hg
end Go.Proofs.YtmhojaiajhdlcaaGreat
namespace Go.Proofs.YtmhojaiajhdlcaaGreat
open Go.RowKit
set_option linter.unusedSimpArgs false
set_option linter.unusedVariables false
theorem Own.lit {α : Type} {c : α → Value} {w : World} {base : Nat} (l : List α) {C : Array Value} {e : TypeId} {g n k : Nat} (hb : base ≤ w.heap.size) (hg : g = w.heap.size) (hC : C = (l.map c).toArray) (hn : n = l.length) (hk : k = n) (hm : k ≤ maxLen) :
    Own c base e (w.alloc (.cells C e)) (.slice (some ⟨g, 0, none⟩) n k) l := by
  subst hg; subst hC; subst hn; subst hk
  exact ⟨by simp, .inr ⟨_, _, _, rfl, hb, heap_alloc_new w _, Nat.le_refl _, hm, by simp, by simp [List.take_of_length_le]⟩⟩
theorem Own.room {α : Type} {c : α → Value} {w : World} {base : Nat} {C : Array Value} {e : TypeId} {g k : Nat} (hb : base ≤ w.heap.size) (hg : g = w.heap.size) (hC : C.size = k) (hm : k ≤ maxLen) :
    Own c base e (w.alloc (.cells C e)) (.slice (some ⟨g, 0, none⟩) 0 k) ([] : List α) := by
  subst hg
  exact World.ownsRow_made w C k hb hm (by omega)
theorem Own.nil {α : Type} {c : α → Value} (base : Nat) (e : TypeId) (w : World) : Own c base e w (.slice none 0 0) ([] : List α) := World.ownsRow_nil _ _ _ _
end Go.Proofs.YtmhojaiajhdlcaaGreat
namespace Go.Proofs.YtmhojaiajhdlcaaGreat
open Go.ChangeShapes Go.WideShapes Go.ChangeAt Go.RowKit
set_option linter.unusedSimpArgs false
set_option linter.unusedVariables false

theorem trodAll_below {H : Type} {enc : TypeId × Value → H} {P : Program} (hl : laidOutB P = true) {W W' : World} (hb : Below W.heap.size W W') :
    ∀ (ts : List TypeId) (vs : List Value) (ds : List (DataW H)) (ps : List MemPlace), (∀ t ∈ ts, P.readableRec t = true ∧ t < P.types.size) →
      DataW.TrodAll enc P W 0 (fun _ => true) true ts vs ds ps → DataW.TrodAll enc P W' 0 (fun b => decide (b < W.heap.size)) true ts vs ds ps
  | [], [], [], ps, _, h => h
  | t :: ts, v :: vs, d :: ds, ps, hr, h => by
    obtain ⟨p, q, h1, h2, rfl⟩ := h
    have hlt : ∀ x ∈ p, x.block < W.heap.size := by obtain ⟨m, hm⟩ := h1; exact DataW.trod_lt m _ _ _ hm
    exact ⟨p, q, Below.trod hl (hr t (by simp)).1 (hr t (by simp)).2 h1 hb hlt, trodAll_below hl hb ts vs ds q (fun t' ht' => hr t' (List.mem_cons_of_mem _ ht')) h2, rfl⟩
  | [], [], _ :: _, _, _, h | [], _ :: _, _, _, _, h | _ :: _, [], _, _, _, h | _ :: _, _ :: _, [], _, _, h => by simp [DataW.TrodAll] at h

theorem trodAll_len {H : Type} {enc : TypeId × Value → H} {P : Program} {W : World} {sp : Nat → Bool} :
    ∀ (ts : List TypeId) (vs : List Value) (ds : List (DataW H)) (ps : List MemPlace), DataW.TrodAll enc P W 0 sp true ts vs ds ps → ds.length = ts.length
  | [], [], [], ps, h => rfl
  | t :: ts, v :: vs, d :: ds, ps, h => by
    obtain ⟨p, q, h1, h2, rfl⟩ := h
    simp [trodAll_len ts vs ds q h2]
  | [], [], _ :: _, _, h | [], _ :: _, _, _, h | _ :: _, [], _, _, h | _ :: _, _ :: _, [], _, h => by simp [DataW.TrodAll] at h

/-- What a law's walk owes. -/
def LawCalls (P : Program) (f : FuncId) (fn : Func) (H : Type) (enc : TypeId × Value → H) (k : List (DataW H) → Prop) : Prop :=
  ∀ (W : World) (base : Nat) (args : Array Value) (ds : List (DataW H)) (ps : List MemPlace),
    (∀ (j : Nat) t v, fn.params[j]? = some t → args[j]? = some v → Value.okWide P W .any base t v) →
    DataW.TrodAll enc P W 0 (fun _ => true) true fn.params.toList args.toList ds ps →
    (DataW.weightsEach P fn.params.toList ds).all (· ≤ reachBytes) = true → k ds →
    Calls P f args W fun e W' => e = .returned (.bool true) ∧ Upd [] W W'

theorem law_post {H : Type} {enc : TypeId × Value → H} {P : Program} {fn : Func} {s : ChangeSpec} (hl : laidOutB P = true) (hr : ∀ t ∈ fn.params.toList, P.readableRec t = true ∧ t < P.types.size)
    (hs : s.vars = []) (tb : TypeId) (hres : fn.resultTypes = #[tb]) (hb : P.underlying tb = some .bool)
    (hfn : ∀ (ds : List (DataW H)), ds.length = fn.params.size → (s.fn H ds).results = [.lit (.bool true)] ∧ (s.fn H ds).args = ds ∧ (s.fn H ds).vars = [])
    {W W' : World} {args : Array Value} {ds gs : List (DataW H)} {before : List MemPlace}
    (hW : DataW.Whole enc P fn.params.toList s.vars false W args.toList ds gs before) (hu : Upd [] W W') :
    s.post enc P fn false true false false W args (.bool true) W' := by
  have hW' := hW
  obtain ⟨p, q, hA, hV, rfl, hfz, hnd⟩ := hW
  have hlen := trodAll_len _ _ _ _ hA
  rw [hs] at hV
  obtain ⟨rfl, rfl⟩ := trodVars_none hV
  obtain ⟨g1, g2, g3⟩ := hfn ds (by simpa using hlen)
  refine ⟨ds, [], p ++ [], [], p, [], hW', ?_, ?_, ?_, hu.below.frame _, fun h => by cases h⟩
  · rw [List.append_nil, g1, hres]; exact trodAll_mk1 (shut_bool hb _)
  · rw [List.append_nil, g2]; exact trodAll_below hl hu.below _ _ _ _ hr hA
  · rw [List.append_nil, g3, hs]; rfl

theorem law_said {C : Checked} {os : Os} {f : FuncId} {fn : Func} {s : ChangeSpec} {H : Type} {enc : TypeId × Value → H}
    (own : ownKnob C.prog.godebug = none) (started : os.Started) (noInit : C.prog.inits.idxOf? f = none) (hf : C.prog.funcs[f]? = some fn)
    (witness : ∃ (w : World) (tape : Tape) (i : Input), w.os = os ∧ (w.forCall tape i).Shaped C.prog ∧ i.vars = [] ∧ Input.okWide C.prog (w.forCall tape i) .any w.heap.size f i ∧
      s.pre6 enc C.prog fn [] false (w.forCall tape i).memory i.args ∧ ({} : Assume).holds C.prog (lone (Frame.enter C.prog f i.args .normal) [] (w.forCall tape i)))
    (hl : laidOutB C.prog = true) (hr : ∀ t ∈ fn.params.toList, C.prog.readableRec t = true ∧ t < C.prog.types.size)
    (hs : s.vars = []) (tb : TypeId) (hres : fn.resultTypes = #[tb]) (hb : C.prog.underlying tb = some .bool)
    (hfn : ∀ (ds : List (DataW H)), ds.length = fn.params.size → (s.fn H ds).results = [.lit (.bool true)] ∧ (s.fn H ds).args = ds ∧ (s.fn H ds).vars = [])
    (walk : LawCalls C.prog f fn H enc (fun _ => True)) :
    ReturnsInHanded {} C os f .any (s.pre6 enc C.prog fn [] false) (s.post enc C.prog fn false true false false) := by
  refine returnsInHanded_of_change_sized own started noInit hf witness ?_
  intro W base args ds gs before hval hW hc hsz hh
  have hW2 := hW
  obtain ⟨p, q, hA, hV, rfl, hfz, hnd⟩ := hW2
  have hV' := hV
  rw [hs] at hV'
  obtain ⟨rfl, rfl⟩ := trodVars_none hV'
  have hvt : s.plain.varTypes C.prog = [] := by unfold DataSpec.varTypes; show List.filterMap _ s.vars = []; rw [hs]; rfl
  rw [hvt, List.append_nil, List.append_nil] at hsz
  refine (walk W base args ds p hval hA hsz trivial).mono fun e W' ⟨he, hu⟩ => ?_
  subst he
  exact ⟨_, rfl, law_post hl hr hs tb hres hb hfn hW hu⟩

theorem law_upto {C : Checked} {os : Os} {f : FuncId} {fn : Func} {s : OpenSpec} {k : (H : Type) → List (DataW H) → Bool} (hk : s.cond = some k) {F : Stop.Interp} {H : Type} {enc : TypeId × Value → H}
    (own : ownKnob C.prog.godebug = none) (started : os.Started) (noInit : C.prog.inits.idxOf? f = none) (hf : C.prog.funcs[f]? = some fn)
    (witness : ∃ (w : World) (tape : Tape) (i : Input), w.os = os ∧ (w.forCall tape i).Shaped C.prog ∧ i.vars = [] ∧ Input.okWide C.prog (w.forCall tape i) .any w.heap.size f i ∧
      s.pre6 enc C.prog fn [] false (w.forCall tape i).memory i.args ∧ ({} : Assume).holds C.prog (lone (Frame.enter C.prog f i.args .normal) [] (w.forCall tape i)))
    (hl : laidOutB C.prog = true) (hr : ∀ t ∈ fn.params.toList, C.prog.readableRec t = true ∧ t < C.prog.types.size)
    (hs : (s.at F).vars = []) (hs' : s.vars = []) (hs2 : s.bare.plain.vars = []) (tb : TypeId) (hres : fn.resultTypes = #[tb]) (hb : C.prog.underlying tb = some .bool)
    (hfn : ∀ (ds : List (DataW H)), ds.length = fn.params.size → ((s.at F).fn H ds).results = [.lit (.bool true)] ∧ ((s.at F).fn H ds).args = ds ∧ ((s.at F).fn H ds).vars = [])
    (walk : LawCalls C.prog f fn H enc (fun ds => k H ds = true)) :
    ReturnsInHanded {} C os f .any (s.pre6 enc C.prog fn [] false) ((s.at F).post enc C.prog fn false true false false) := by
  refine returnsInHanded_of_cond_sized hk own started noInit hf witness ?_
  intro W base args ds gs before hval hW hc hkk hsz hh
  have hW2 := hW
  obtain ⟨p, q, hA, hV, rfl, hfz, hnd⟩ := hW2
  have hV' := hV
  rw [hs'] at hV'
  obtain ⟨rfl, rfl⟩ := trodVars_none hV'
  have hvt : s.bare.plain.varTypes C.prog = [] := by unfold DataSpec.varTypes; rw [hs2]; rfl
  rw [hvt, List.append_nil, List.append_nil] at hsz
  rw [List.append_nil] at hkk
  refine (walk W base args ds p hval hA hsz hkk).mono fun e W' ⟨he, hu⟩ => ?_
  subst he
  exact ⟨_, rfl, law_post hl hr hs tb hres hb hfn (by rw [hs'] at hW; rw [hs]; exact hW) hu⟩
end Go.Proofs.YtmhojaiajhdlcaaGreat
namespace Go.Proofs.YtmhojaiajhdlcaaGreat
open Go.ChangeShapes Go.WideShapes Go.ChangeAt Go.RowKit Go.Deep
open Go.ChangeMaps (open_string shut_string)
set_option linter.unusedSimpArgs false
set_option linter.unusedVariables false

theorem exists_list {α : Type} [Inhabited α] (n : Nat) (p : Nat → α → Prop) (h : ∀ i, i < n → ∃ x, p i x) : ∃ l : List α, l.length = n ∧ ∀ i, i < n → p i (nth l i) := by
  induction n with
  | zero => exact ⟨[], rfl, fun i hi => absurd hi (by omega)⟩
  | succ n ih =>
    obtain ⟨l, hl, hp⟩ := ih (fun i hi => h i (by omega))
    obtain ⟨x, hx⟩ := h n (by omega)
    refine ⟨l ++ [x], by simp [hl], fun i hi => ?_⟩
    by_cases e : i = n
    · subst e; rw [nth_of _ _ x (by rw [List.getElem?_append_right (by omega)]; simp [hl])]; exact hx
    · rw [nth_of _ _ (nth l i) (by rw [List.getElem?_append_left (by omega), nth_get l i (by omega)]; exact List.getElem?_eq_getElem (by omega))]; exact hp i (by omega)

/-- So many elements has a reading. -/
def DLen {H : Type} (d : DataW H) (n : Nat) : Prop := n = 0 ∨ ∃ es sp, d = .slice es sp ∧ es.length = n
section
variable {H : Type} {enc : TypeId × Value → H} {P : Program} {w : World} {b0 : Nat} {held : Bool}
theorem open_rd {α : Type} [Inhabited α] (c : α → Value) (good : α → Prop) {t e : TypeId} {v : Value} {d : DataW H} {p : List MemPlace} (ht : P.underlying t = some (.slice e)) (hc : P.cellsOf e = 1)
    (hel : ∀ n v y, DataW.trod enc P w 0 (fun _ => true) held n e [v] = some y → ∃ x, v = c x ∧ good x)
    (hval : Value.okWide P w .any b0 t v) (h : DataW.Trod enc P w 0 (fun _ => true) held t v d p) :
    ∃ l : List α, Rd c w v l ∧ (∀ x ∈ l, good x) ∧ (∀ (ts : List TypeId) (ds : List (DataW H)) (j : Nat), (DataW.weightsEach P ts ds).all (· ≤ reachBytes) = true → ts[j]? = some t → ds[j]? = some d → l.length * P.bytesOf e ≤ reachBytes) ∧ DLen d l.length := by
  obtain ⟨a0, len0, cap0, rfl⟩ := okWide_slice ht hval
  obtain ⟨fuel, hf⟩ := h
  rcases open_slice1 ht hc hf with ⟨hcs, hx⟩ | ⟨a, len, cap, m, n, V, D, Pl, hcs, hb, hl, hm, hmm, hx, hi⟩
  · simp [Value.cells] at hcs
    obtain ⟨rfl, rfl, rfl⟩ := hcs
    exact ⟨[], Rd.nil w, by simp, by intros; simp, .inl rfl⟩
  · simp [Value.cells] at hcs
    obtain ⟨rfl, rfl, rfl⟩ := hcs
    simp only [if_true] at hmm
    subst hmm
    obtain ⟨l, hl', hp⟩ := exists_list len0 (fun i x => V i = c x ∧ good x) (fun i hi' => hel _ _ _ (hi i (by omega)).2)
    refine ⟨l, ?_, ?_, ?_, ?_⟩
    · refine ⟨_, _, by rw [hl'], by omega, hm, fun hne => ?_⟩
      have hpos : 0 < len0 := by rw [← hl']; exact List.length_pos_iff.2 hne
      obtain ⟨b, off, spot⟩ := a
      have hspot : spot = none := by simpa [Addr.add] using World.cell?_spot (hi 0 (by omega)).1
      subst hspot
      refine ⟨b, off, rfl, fun j hj => ?_⟩
      have h1 := (hi j (by omega)).1
      have h2 := hp j (by omega)
      have h3 : (⟨b, off, none⟩ : Addr).add j = ⟨b, off + j, none⟩ := by unfold Addr.add; split <;> simp_all
      rw [h3, h2.1] at h1
      exact h1
    · intro x hx'
      obtain ⟨i, hi', rfl⟩ := List.mem_iff_getElem.1 hx'
      have := (hp i (by omega)).2
      rwa [nth_get l i hi'] at this
    · intro ts ds j hall htj hdj
      have hd := congrArg Prod.fst hx
      simp only at hd
      rw [hd] at hdj
      have := sized_slice hall htj hdj ht
      simp only [List.length_map, List.length_range] at this
      exact Nat.le_trans (Nat.mul_le_mul_right _ (by omega)) this
    · exact .inr ⟨_, _, congrArg Prod.fst hx, by simp [hl']⟩

theorem el_int {k : IntKind} {e : TypeId} (he : P.underlying e = some (.int k)) (n : Nat) (v : Value) (y : DataW H × List MemPlace) (h : DataW.trod enc P w 0 (fun _ => true) held n e [v] = some y) :
    ∃ x : Int, v = .int k x ∧ (Lit.int k x).wf = true := by
  cases n with
  | zero => simp [DataW.trod] at h
  | succ n =>
    simp only [DataW.trod, he] at h
    cases v <;> simp at h
    rename_i k' x
    obtain ⟨⟨rfl, h2⟩, h3⟩ := h
    exact ⟨x, rfl, h2⟩
theorem el_byte {e : TypeId} (he : P.underlying e = some (.int .u8)) (n : Nat) (v : Value) (y : DataW H × List MemPlace) (h : DataW.trod enc P w 0 (fun _ => true) held n e [v] = some y) :
    ∃ x : UInt8, v = bv x ∧ True := by
  obtain ⟨x, rfl, hx⟩ := el_int he n v y h
  have hb : 0 ≤ x ∧ x ≤ 255 := by simpa [Lit.wf, IntKind.min, IntKind.max, IntKind.signed, IntKind.bits] using hx
  refine ⟨UInt8.ofNat x.toNat, ?_, trivial⟩
  have : (UInt8.ofNat x.toNat).toNat = x.toNat := by simp; omega
  rw [bv, this]; congr 1; omega
theorem open_bytes {t e : TypeId} {v : Value} {d : DataW H} {p : List MemPlace} (ht : P.underlying t = some (.slice e)) (he : P.underlying e = some (.int .u8)) (hc : P.cellsOf e = 1) (hby : P.bytesOf e = 1)
    (hval : Value.okWide P w .any b0 t v) (h : DataW.Trod enc P w 0 (fun _ => true) held t v d p) :
    ∃ l : List UInt8, Bytes w v l ∧ (∀ (ts : List TypeId) (ds : List (DataW H)) (j : Nat), (DataW.weightsEach P ts ds).all (· ≤ reachBytes) = true → ts[j]? = some t → ds[j]? = some d → l.length ≤ 140737488351232) ∧ DLen d l.length := by
  obtain ⟨l, h1, _, h3, h4⟩ := open_rd bv (fun _ => True) ht hc (el_byte he) hval h
  refine ⟨l, h1, fun ts ds j a b c => ?_, h4⟩
  have := h3 ts ds j a b c
  rw [hby, Nat.mul_one] at this
  exact this
abbrev iv (x : Int) : Value := .int .i64 x
def I64 (x : Int) : Prop := -9223372036854775808 ≤ x ∧ x ≤ 9223372036854775807
theorem i64_of {x : Int} (h : (Lit.int .i64 x).wf = true) : I64 x := by simpa [I64, Lit.wf, IntKind.min, IntKind.max, IntKind.signed, IntKind.bits] using h
theorem open_nums {t e : TypeId} {v : Value} {d : DataW H} {p : List MemPlace} (ht : P.underlying t = some (.slice e)) (he : P.underlying e = some (.int .i64)) (hc : P.cellsOf e = 1) (hby : P.bytesOf e = 8)
    (hval : Value.okWide P w .any b0 t v) (h : DataW.Trod enc P w 0 (fun _ => true) held t v d p) :
    ∃ l : List Int, Rd iv w v l ∧ (∀ x ∈ l, I64 x) ∧ (∀ (ts : List TypeId) (ds : List (DataW H)) (j : Nat), (DataW.weightsEach P ts ds).all (· ≤ reachBytes) = true → ts[j]? = some t → ds[j]? = some d → l.length * 8 ≤ 140737488351232) ∧ DLen d l.length := by
  obtain ⟨l, h1, h2, h3, h4⟩ := open_rd iv (fun x => (Lit.int .i64 x).wf = true) ht hc (fun n v y hh => el_int he n v y hh) hval h
  refine ⟨l, h1, fun x hx => i64_of (h2 x hx), fun ts ds j a b c => ?_, h4⟩
  have := h3 ts ds j a b c
  rw [hby] at this
  exact this
theorem open_num {t : TypeId} {v : Value} {d : DataW H} {p : List MemPlace} (ht : P.underlying t = some (.int .i64)) (hval : Value.okWide P w .any b0 t v) (h : DataW.Trod enc P w 0 (fun _ => true) held t v d p) :
    ∃ x : Int, v = iv x ∧ I64 x := by
  obtain ⟨a, rfl, _, _, hw⟩ := open_int ht hval h
  exact ⟨a, rfl, i64_of hw⟩
theorem open_u32 {t : TypeId} {v : Value} {d : DataW H} {p : List MemPlace} (ht : P.underlying t = some (.int .u32)) (hval : Value.okWide P w .any b0 t v) (h : DataW.Trod enc P w 0 (fun _ => true) held t v d p) :
    ∃ x : BitVec 32, v = .int .u32 (x.toNat : Int) := by
  obtain ⟨a, rfl, _, _, hw⟩ := open_int ht hval h
  have hb : 0 ≤ a ∧ a ≤ 4294967295 := by simpa [Lit.wf, IntKind.min, IntKind.max, IntKind.signed, IntKind.bits] using hw
  refine ⟨BitVec.ofNat 32 a.toNat, ?_⟩
  rw [BitVec.toNat_ofNat, Nat.mod_eq_of_lt (by omega)]; congr 1; omega

/-- A slice that is read: its value, and the reading of it. -/
theorem trod_slice_form {t e : TypeId} {n : Nat} {v : Value} {y : DataW H × List MemPlace} (ht : P.underlying t = some (.slice e)) (h : DataW.trod enc P w 0 (fun _ => true) held n t [v] = some y) :
    ∃ a k c, v = .slice a k c := by
  rcases open_slice ht h with ⟨hcs, _⟩ | ⟨a, len, cap, m, n, D, Pl, hcs, _⟩
  · simp at hcs; exact ⟨_, _, _, hcs⟩
  · simp at hcs; exact ⟨_, _, _, hcs⟩
theorem el_bytes {t e : TypeId} (ht : P.underlying t = some (.slice e)) (he : P.underlying e = some (.int .u8)) (hc : P.cellsOf e = 1) (n : Nat) (v : Value) (y : DataW H × List MemPlace) (h : DataW.trod enc P w 0 (fun _ => true) held n t [v] = some y) :
    ∃ x : Value, v = id x ∧ ∃ l : List UInt8, Bytes w x l := by
  obtain ⟨a0, len0, cap0, rfl⟩ := trod_slice_form ht h
  refine ⟨_, rfl, ?_⟩
  rcases open_slice1 ht hc h with ⟨hcs, hx⟩ | ⟨a, len, cap, m, n, V, D, Pl, hcs, hb, hl, hm, hmm, hx, hi⟩
  · simp at hcs
    obtain ⟨rfl, rfl, rfl⟩ := hcs
    exact ⟨[], Rd.nil w⟩
  · simp at hcs
    obtain ⟨rfl, rfl, rfl⟩ := hcs
    simp only [if_true] at hmm
    subst hmm
    obtain ⟨l, hl', hp⟩ := exists_list len0 (fun i x => V i = bv x ∧ True) (fun i hi' => el_byte he _ _ _ (hi i (by omega)).2)
    refine ⟨l, _, _, by rw [hl'], by omega, hm, fun hne => ?_⟩
    have hpos : 0 < len0 := by rw [← hl']; exact List.length_pos_iff.2 hne
    obtain ⟨b, off, spot⟩ := a
    have hspot : spot = none := by simpa [Addr.add] using World.cell?_spot (hi 0 (by omega)).1
    subst hspot
    refine ⟨b, off, rfl, fun j hj => ?_⟩
    have h1 := (hi j (by omega)).1
    have h2 := hp j (by omega)
    have h3 : (⟨b, off, none⟩ : Addr).add j = ⟨b, off + j, none⟩ := by unfold Addr.add; split <;> simp_all
    rw [h3, h2.1] at h1
    exact h1
theorem open_parts {t t2 e : TypeId} {v : Value} {d : DataW H} {p : List MemPlace} (ht : P.underlying t = some (.slice t2)) (hc2 : P.cellsOf t2 = 1) (ht2 : P.underlying t2 = some (.slice e)) (he : P.underlying e = some (.int .u8)) (hc : P.cellsOf e = 1)
    (hval : Value.okWide P w .any b0 t v) (h : DataW.Trod enc P w 0 (fun _ => true) held t v d p) :
    ∃ (vs : List Value) (ls : List (List UInt8)), vs.length = ls.length ∧ Rd id w v vs ∧ ∀ j, j < ls.length → Bytes w (nth vs j) (nth ls j) := by
  obtain ⟨vs, h1, h2, _, _⟩ := open_rd (α := Value) id (fun x => ∃ l : List UInt8, Bytes w x l) ht hc2 (el_bytes ht2 he hc) hval h
  obtain ⟨ls, hl, hp⟩ := exists_list vs.length (fun i l => Bytes w (nth vs i) l) (fun i hi => h2 _ (by rw [nth_get vs i hi]; exact List.getElem_mem hi))
  exact ⟨vs, ls, hl.symm, h1, fun j hj => hp j (by omega)⟩
end
end Go.Proofs.YtmhojaiajhdlcaaGreat
namespace Go.Proofs.YtmhojaiajhdlcaaGreat
open Go.RowKit
set_option linter.unusedSimpArgs false
set_option linter.unusedVariables false
set_option maxHeartbeats 1000000 in
theorem fMore_any (v : Value) (l : List UInt8) (r : Nat) (R : Int) (hR : R = (r : Int)) (w : World) (h : Bytes w v l) (hz : l.length ≤ 100000000000) (hr : r ≤ 100000000000) :
    Calls Tryz.prog 103 #[v, .int .i64 R] w fun e w' => ∃ x, e = .returned x ∧ Own bv w.heap.size 5 w' x l ∧ Upd [] w w' := by
  subst hR
  have H := Lib.hid h
  obtain ⟨a, cap, rfl, -, -, -⟩ := h
  have hmk := fun u => run_mk (P := Tryz.prog) Tryz.underlying28 infoByte rfl u 0 (l.length + r) 0 ((l.length : Int) + r) (by omega) (by omega) (by omega) (by omega) (by omega)
  go_enter Tryz.func103, Tryz.ntmps103
  go_wp2_with (at_builtin; refine wpList_app bv_one rfl (.tmp 11) (.tmp 12) rfl Tryz.underlying28 infoByte rfl (.slice (some ⟨w.heap.size, 0, none⟩) 0 (l.length + r)) (.slice a l.length cap) [] l rfl rfl (Own.room (base := w.heap.size) (Nat.le_refl _) rfl (by simp) (by unfold maxLen; omega)) (H.out.alloc _) (by simp; omega) (by unfold maxLen; simp; omega) (by simp) ?_; intro v1 w1 ho hu hbk; rw [List.nil_append] at ho; have HU : Hid (Upd [] w w1) := ((Upd.refl [] w).alloc _).trans hu (by simp) (by simp [blk]); have HO := Lib.hid ho; clear ho hu hbk)
  go_ret
  exact ⟨_, rfl, HO.out, HU.out⟩
theorem pow256 (k : Nat) : (256 : Nat) ^ k = 2 ^ (8 * k) := by rw [Nat.pow_mul]
theorem shr_pos (m k : Nat) (h : k < nb m) : (0 : Int) < (m : Int) / 2 ^ (8 * k) := by
  have h1 := (nb_lt k m).1 h
  rw [pow256] at h1
  have : ((m / 2 ^ (8 * k) : Nat) : Int) = (m : Int) / 2 ^ (8 * k) := by rw [Int.natCast_ediv, Int.natCast_pow]; rfl
  omega
theorem shr_zero (m k : Nat) (h : ¬ k < nb m) : (m : Int) / 2 ^ (8 * k) = 0 := by
  have h1 : ¬ 0 < m / 256 ^ k := fun q => h ((nb_lt k m).2 q)
  rw [pow256] at h1
  have : ((m / 2 ^ (8 * k) : Nat) : Int) = (m : Int) / 2 ^ (8 * k) := by rw [Int.natCast_ediv, Int.natCast_pow]; rfl
  rw [← this, Nat.eq_zero_of_not_pos h1]; rfl
theorem byte_at (m k : Nat) : Value.int .u8 ((m : Int) / 2 ^ (8 * k) % 256) = bv (UInt8.ofNat (m / 256 ^ k)) := by
  have : ((m / 2 ^ (8 * k) : Nat) : Int) = (m : Int) / 2 ^ (8 * k) := by rw [Int.natCast_ediv, Int.natCast_pow]; rfl
  rw [← this, bv, UInt8.toNat_ofNat', pow256]; rfl
theorem byte_small (k : Nat) (h : k < 256) : bv (UInt8.ofNat k) = Value.int .u8 (k : Int) := by
  rw [bv, UInt8.toNat_ofNat', Nat.mod_eq_of_lt h]
set_option maxHeartbeats 4000000 in
theorem fNumN_any (v : Value) (l : List UInt8) (m : Nat) (w : World) (h : Bytes w v l) (hz : l.length ≤ 90000000000) (hm : m < 9223372036854775808) :
    Calls Tryz.prog 58 #[v, .int .i64 (m : Int)] w fun e w' => ∃ x, e = .returned x ∧ Own bv w.heap.size 5 w' x (l ++ encNum m) ∧ Upd [] w w' := by
  have H := Lib.hid h
  have h8 := nb_le8 m (by omega)
  obtain ⟨a, cap, rfl, -, -, -⟩ := h
  go_enter Tryz.func58, Tryz.ntmps58
  go_wp2_with fail
  with_reducible refine (fMore_any _ l 9 9 rfl _ H.out (by omega) (by omega)).mono ?_
  rintro e w1 ⟨v1, rfl, ho1, hu1⟩
  have HO1 := Lib.hid ho1
  have HU1 := Lib.hid hu1
  clear ho1 hu1
  go_wp2_with fail
  go_loop [7] (fun i => ∃ k : Nat, i = .int .i64 (k : Int) ∧ k ≤ nb m) (fun i => 8 - (intOf i).toNat)
  case atStart => exact ⟨0, rfl, Nat.zero_le _⟩
  case round =>
    obtain ⟨k, rfl, hk⟩ := hrel
    by_cases hlt : k < nb m
    · have hk8 : k < 8 := by omega
      have hsh := shr_pos m k hlt
      go_wp2_with fail
      go_round
      case rel => exact ⟨k + 1, by go_num, by omega⟩
      case measure => simp [intOf]; omega
    · have hkm : nb m = k := by omega
      have hk8 : k ≤ 8 := by omega
      have hsh := shr_zero m k hlt
      by_cases hq : k < 8
      · have hq2 : (k : Int) < 8 := by omega
        have hkb : k < 256 := by omega
        have HLIT := Lib.hid (Rd.lit (w := w1) (c := bv) [UInt8.ofNat k] (C := #[.int .u8 (k : Int)]) (e := 5) (fr := (0, 0)) (g := w1.heap.size) (n := 1) (k := 1) rfl (by rw [List.map_singleton, byte_small k hkb]) rfl (Nat.le_refl _) (by decide))
        have HEN : Hid (l ++ encNum m = (l ++ [UInt8.ofNat k]) ++ beB k m) := by unfold Hid encNum; rw [hkm]; simp
        have hs1 := HU1.out.size
        have HKM := Lib.hid hkm
        clear hkm hlt
        go_wp2_with (at_builtin; refine wpList_app bv_one rfl (.tmp 26) (.tmp 29) rfl Tryz.underlying28 infoByte rfl v1 (.slice (some ⟨w1.heap.size, 0, none⟩) 1 1) l [UInt8.ofNat k] rfl rfl (HO1.out.upd ((Upd.refl [] w1).alloc _) (by simp)) HLIT.out (by simp; omega) (by unfold maxLen; simp; omega) (by simp; omega) ?_; intro v2 w2 ho hu hbk; have HU2 : Hid (Upd [] w w2) := (HU1.out.alloc _).trans hu (by simp) (fun x hx => .inr (HO1.out.ge x hx).1); have HO2 := Lib.hid ho; clear ho hu hbk)
        go_loopw [5, 8] (fun b i wr => ∃ (r : Nat) (c : List UInt8), i = .int .i64 ((r : Int) - 1) ∧ r ≤ k ∧ c.length + r = l.length + 1 + k ∧ Hid (Own bv w.heap.size 5 wr b c) ∧ Hid (Upd [] w wr) ∧ Hid (c ++ beB r m = l ++ encNum m)) (fun _ i _ => (intOf i + 1).toNat)
        case atStart => exact ⟨k, l ++ [UInt8.ofNat k], by go_num, Nat.le_refl _, by simp, HO2, HU2, HEN.out.symm⟩
        case round =>
          obtain ⟨r, c, rfl, hr, hcl, hob, hu, hen⟩ := hrel
          cases r with
          | zero =>
            have HR : Hid (c = l ++ encNum m) := by have := hen.out; unfold Hid; rw [beB, List.append_nil] at this; exact this
            go_wp2_with fail
            go_ret
            exact ⟨_, rfl, by rw [← HR.out]; exact hob.out, hu.out⟩
          | succ r =>
            have q1 : ((r + 1 : Nat) : Int) - 1 = (r : Int) := by omega
            rw [q1]
            clear q1
            have hr8 : r ≤ 8 := by omega
            have HEN2 : Hid ((c ++ [UInt8.ofNat (m / 256 ^ r)]) ++ beB r m = l ++ encNum m) := by have := hen.out; unfold Hid; rw [beB] at this; rw [← this]; simp
            have HLIT2 := Lib.hid (Rd.lit (w := wr) (c := bv) [UInt8.ofNat (m / 256 ^ r)] (C := #[.int .u8 ((m : Int) / 2 ^ (8 * r) % 256)]) (e := 5) (fr := (0, 0)) (g := wr.heap.size) (n := 1) (k := 1) rfl (by rw [List.map_singleton, byte_at]) rfl (Nat.le_refl _) (by decide))
            have hs2 := hu.out.size
            generalize UInt8.ofNat (m / 256 ^ r) = y at *
            obtain ⟨ab, cb, rfl, -⟩ := hob.out.rd
            go_wp2_with (at_builtin; refine wpList_app bv_one rfl (.tmp 37) (.tmp 44) rfl Tryz.underlying28 infoByte rfl (.slice ab c.length cb) (.slice (some ⟨wr.heap.size, 0, none⟩) 1 1) c [y] rfl rfl (hob.out.upd ((Upd.refl [] wr).alloc _) (by simp)) HLIT2.out (by simp; omega) (by unfold maxLen; simp; omega) (by simp; omega) ?_; intro v4 w4 ho hu4 hbk; have HU4 : Hid (Upd [] w w4) := (hu.out.alloc _).trans hu4 (by simp) (fun x hx => .inr (hob.out.ge x hx).1); have HO4 := Lib.hid ho; clear ho hu4 hbk)
            go_roundw
            case rel => exact ⟨r, c ++ [y], by go_num, by omega, by simp; omega, HO4, HU4, HEN2⟩
            case measure => simp [intOf]; try omega
      · have hq2 : ¬ (k : Int) < 8 := by omega
        have hkb : k < 256 := by omega
        have HLIT := Lib.hid (Rd.lit (w := w1) (c := bv) [UInt8.ofNat k] (C := #[.int .u8 (k : Int)]) (e := 5) (fr := (0, 0)) (g := w1.heap.size) (n := 1) (k := 1) rfl (by rw [List.map_singleton, byte_small k hkb]) rfl (Nat.le_refl _) (by decide))
        have HEN : Hid (l ++ encNum m = (l ++ [UInt8.ofNat k]) ++ beB k m) := by unfold Hid encNum; rw [hkm]; simp
        have hs1 := HU1.out.size
        have HKM := Lib.hid hkm
        clear hkm hlt
        go_wp2_with (at_builtin; refine wpList_app bv_one rfl (.tmp 26) (.tmp 29) rfl Tryz.underlying28 infoByte rfl v1 (.slice (some ⟨w1.heap.size, 0, none⟩) 1 1) l [UInt8.ofNat k] rfl rfl (HO1.out.upd ((Upd.refl [] w1).alloc _) (by simp)) HLIT.out (by simp; omega) (by unfold maxLen; simp; omega) (by simp; omega) ?_; intro v2 w2 ho hu hbk; have HU2 : Hid (Upd [] w w2) := (HU1.out.alloc _).trans hu (by simp) (fun x hx => .inr (HO1.out.ge x hx).1); have HO2 := Lib.hid ho; clear ho hu hbk)
        go_loopw [5, 8] (fun b i wr => ∃ (r : Nat) (c : List UInt8), i = .int .i64 ((r : Int) - 1) ∧ r ≤ k ∧ c.length + r = l.length + 1 + k ∧ Hid (Own bv w.heap.size 5 wr b c) ∧ Hid (Upd [] w wr) ∧ Hid (c ++ beB r m = l ++ encNum m)) (fun _ i _ => (intOf i + 1).toNat)
        case atStart => exact ⟨k, l ++ [UInt8.ofNat k], by go_num, Nat.le_refl _, by simp, HO2, HU2, HEN.out.symm⟩
        case round =>
          obtain ⟨r, c, rfl, hr, hcl, hob, hu, hen⟩ := hrel
          cases r with
          | zero =>
            have HR : Hid (c = l ++ encNum m) := by have := hen.out; unfold Hid; rw [beB, List.append_nil] at this; exact this
            go_wp2_with fail
            go_ret
            exact ⟨_, rfl, by rw [← HR.out]; exact hob.out, hu.out⟩
          | succ r =>
            have q1 : ((r + 1 : Nat) : Int) - 1 = (r : Int) := by omega
            rw [q1]
            clear q1
            have hr8 : r ≤ 8 := by omega
            have HEN2 : Hid ((c ++ [UInt8.ofNat (m / 256 ^ r)]) ++ beB r m = l ++ encNum m) := by have := hen.out; unfold Hid; rw [beB] at this; rw [← this]; simp
            have HLIT2 := Lib.hid (Rd.lit (w := wr) (c := bv) [UInt8.ofNat (m / 256 ^ r)] (C := #[.int .u8 ((m : Int) / 2 ^ (8 * r) % 256)]) (e := 5) (fr := (0, 0)) (g := wr.heap.size) (n := 1) (k := 1) rfl (by rw [List.map_singleton, byte_at]) rfl (Nat.le_refl _) (by decide))
            have hs2 := hu.out.size
            generalize UInt8.ofNat (m / 256 ^ r) = y at *
            obtain ⟨ab, cb, rfl, -⟩ := hob.out.rd
            go_wp2_with (at_builtin; refine wpList_app bv_one rfl (.tmp 37) (.tmp 44) rfl Tryz.underlying28 infoByte rfl (.slice ab c.length cb) (.slice (some ⟨wr.heap.size, 0, none⟩) 1 1) c [y] rfl rfl (hob.out.upd ((Upd.refl [] wr).alloc _) (by simp)) HLIT2.out (by simp; omega) (by unfold maxLen; simp; omega) (by simp; omega) ?_; intro v4 w4 ho hu4 hbk; have HU4 : Hid (Upd [] w w4) := (hu.out.alloc _).trans hu4 (by simp) (fun x hx => .inr (hob.out.ge x hx).1); have HO4 := Lib.hid ho; clear ho hu4 hbk)
            go_roundw
            case rel => exact ⟨r, c ++ [y], by go_num, by omega, by simp; omega, HO4, HU4, HEN2⟩
            case measure => simp [intOf]; try omega
theorem enc_zero : encNum 0 = [0] := by unfold encNum; rw [nb_zero]; rfl
set_option maxHeartbeats 4000000 in
theorem fNumNeg_any (v : Value) (l : List UInt8) (M : Int) (w : World) (h : Bytes w v l) (hz : l.length ≤ 90000000000) (hM : M < 0) (hM1 : -9223372036854775808 ≤ M) :
    Calls Tryz.prog 58 #[v, .int .i64 M] w fun e w' => ∃ x, e = .returned x ∧ Own bv w.heap.size 5 w' x (l ++ encNum 0) ∧ Upd [] w w' := by
  have H := Lib.hid h
  obtain ⟨a, cap, rfl, -, -, -⟩ := h
  go_enter Tryz.func58, Tryz.ntmps58
  go_wp2_with fail
  with_reducible refine (fMore_any _ l 9 9 rfl _ H.out (by omega) (by omega)).mono ?_
  rintro e w1 ⟨v1, rfl, ho1, hu1⟩
  have HO1 := Lib.hid ho1
  have HU1 := Lib.hid hu1
  have hs1 := HU1.out.size
  clear ho1 hu1
  go_wp2_with fail
  go_loop [7] (fun i => i = .int .i64 0) (fun _ => 0)
  case atStart => rfl
  case round =>
    subst hrel
    have HLIT := Lib.hid (Rd.lit (w := w1) (c := bv) [(0 : UInt8)] (C := #[.int .u8 0]) (e := 5) (fr := (0, 0)) (g := w1.heap.size) (n := 1) (k := 1) rfl rfl rfl (Nat.le_refl _) (by decide))
    go_wp2_with (at_builtin; refine wpList_app bv_one rfl (.tmp 26) (.tmp 29) rfl Tryz.underlying28 infoByte rfl v1 (.slice (some ⟨w1.heap.size, 0, none⟩) 1 1) l [(0 : UInt8)] rfl rfl (HO1.out.upd ((Upd.refl [] w1).alloc _) (by simp)) HLIT.out (by simp; omega) (by unfold maxLen; simp; omega) (by simp; omega) ?_; intro v2 w2 ho hu hbk; have HU2 : Hid (Upd [] w w2) := (HU1.out.alloc _).trans hu (by simp) (fun x hx => .inr (HO1.out.ge x hx).1); have HO2 := Lib.hid ho; clear ho hu hbk)
    go_loop [5, 8] (fun b i => b = v2 ∧ i = .int .i64 (-1)) (fun _ _ => 0)
    case atStart => exact ⟨rfl, rfl⟩
    case round =>
      obtain ⟨rfl, rfl⟩ := hrel
      go_wp2_with fail
      go_ret
      exact ⟨_, rfl, by rw [enc_zero]; exact HO2.out, HU2.out⟩
/-- Num, of any number. -/
theorem fNum_any (v : Value) (l : List UInt8) (M : Int) (w : World) (h : Bytes w v l) (hz : l.length ≤ 90000000000) (hM : I64 M) :
    Calls Tryz.prog 58 #[v, .int .i64 M] w fun e w' => ∃ x, e = .returned x ∧ Own bv w.heap.size 5 w' x (l ++ encNum M.toNat) ∧ Upd [] w w' := by
  obtain ⟨h1, h2⟩ := hM
  by_cases hn : M < 0
  · have : M.toNat = 0 := by omega
    rw [this]; exact fNumNeg_any v l M w h hz hn h1
  · obtain ⟨m, rfl⟩ := Int.eq_ofNat_of_zero_le (show 0 ≤ M by omega)
    exact fNumN_any v l m w h hz (by omega)
end Go.Proofs.YtmhojaiajhdlcaaGreat
namespace Go.Proofs.YtmhojaiajhdlcaaGreat
open Go.RowKit
set_option linter.unusedSimpArgs false
set_option linter.unusedVariables false
theorem bytesLoop_eq (s : ByteArray) : ∀ (n i : Nat) (r : List UInt8), s.size - i = n → ByteArray.toList.loop s i r = r.reverse ++ s.data.toList.drop i := by
  intro n
  induction n with
  | zero =>
    intro i r h
    unfold ByteArray.toList.loop
    have hs : s.data.size = s.size := rfl
    rw [if_neg (by omega), List.drop_eq_nil_of_le (by simp; omega)]; simp
  | succ n ih =>
    intro i r h
    unfold ByteArray.toList.loop
    have hs : s.data.size = s.size := rfl
    have hi : i < s.data.toList.length := by simp; omega
    rw [if_pos (by omega), ih (i + 1) _ (by omega), List.drop_eq_getElem_cons hi]
    have hd : i < s.data.size := by omega
    simp [ByteArray.get!]
    exact getElem!_pos s.data i hd
theorem strList_eq (s : ByteArray) : s.toList = s.data.toList := by
  unfold ByteArray.toList; rw [bytesLoop_eq s s.size 0 [] rfl]; simp
theorem str_inj (s t : ByteArray) (h : s.toList = t.toList) : s = t := by
  rw [strList_eq, strList_eq] at h
  cases s; cases t; congr 1; exact Array.toList_inj.1 h
theorem str_ne {s t : ByteArray} (h : (!s.toList == t.toList) = true) : s ≠ t := by rintro rfl; simp at h
theorem str_eq {s t : ByteArray} (h : (!s.toList == t.toList) = false) : s = t := str_inj _ _ (by simpa using h)
abbrev sv (s : ByteArray) : Value := .string s
end Go.Proofs.YtmhojaiajhdlcaaGreat
namespace Go.Proofs.YtmhojaiajhdlcaaGreat
open Go.RowKit Go.Lib
set_option linter.unusedSimpArgs false
set_option linter.unusedVariables false

theorem strCells_eq (s : ByteArray) : strCells s = s.data.toList.map bv := by simp [strCells, bv]
theorem Own.ne {α β : Type} {c : α → Value} {c' : β → Value} {base base' : Nat} {e e' : TypeId} {w : World} {v v' : Value} {l : List α} {l' : List β} (h : Own c base e w v l) (k : Own c' base' e' w v' l') (hne : e ≠ e') : ∀ x ∈ blk v, x ∉ blk v' := by
  intro x hx hx'
  rcases h.2 with ⟨rfl, _⟩ | ⟨g, cap, cur, rfl, hb, hg, _⟩
  · simp [blk] at hx
  · rcases k.2 with ⟨rfl, _⟩ | ⟨g', cap', cur', rfl, hb', hg', _⟩
    · simp [blk] at hx'
    · simp [blk] at hx hx'; subst hx; subst hx'
      rw [hg] at hg'
      simp at hg'
      exact hne hg'.2
theorem wpList_app_str {P : Program} {ops : Array Oper} {rest : List Oper} {o : Oper} {a : Act} {w : World} {Q : Exit → Act → World → Prop}
    (hgd : o.guard = none) (s x : Operand) {t ts e : TypeId} (ho : o.op = .call { callee := .builtin .append, args := #[s, x], argTypes := #[t, ts] })
    {base : Nat} (ht : P.underlying t = some (.slice e)) (hts : P.underlying ts = some .string) (hi : (P.info? e).map (fun i => (i.zero, i.size, i.bytes)) = some (some (.int .u8 0), 1, 1))
    (v : Value) (S : ByteArray) (l : List UInt8) (hs : a.eval s = v) (hx : a.eval x = .string S) (hv : Own bv base e w v l) (hb : l.length + S.size ≤ 140737488355328) (hl : l.length + S.size ≤ maxLen) (hbase : base ≤ w.heap.size)
    (h : ∀ v' w', Own bv base e w' v' (l ++ S.data.toList) → Upd (blk v) w w' → wpList P ops Q rest (a.put o.dst v') w') : wpList P ops Q (o :: rest) a w := by
  obtain ⟨i, h1, h2, h3, h4⟩ := info_parts hi
  obtain ⟨v', w', hr, k1, k2, _⟩ := run_append_own_string (P := P) w base t ts o.type e i ht hts h1 h2 h3 h4 v l.length (l.map bv) hv S hl hb hbase
  have hown : Own bv base e w' v' (l ++ S.data.toList) := by
    unfold Own
    have hz : S.data.toList.length = S.size := by simp
    rw [List.length_append, List.map_append, hz, ← strCells_eq]; exact k1
  refine wpList_plain hgd fun K hK => ?_
  unfold Oper.wp execOp
  simp only [ho, resolve, invoke, builtin, Sem.run_bind, Sem.run_pure, Result.andThen_ok, List.map_toArray, List.map_cons, List.map_nil, hs, hx, hr]
  exact hK _ _ (h v' w' hown (by rw [blk_own]; exact Upd.of_grown k2))
end Go.Proofs.YtmhojaiajhdlcaaGreat
namespace Go.Proofs.YtmhojaiajhdlcaaGreat
open Go.RowKit
set_option linter.unusedSimpArgs false
set_option linter.unusedVariables false
theorem i64_mk {x : Int} (h : -9223372036854775808 ≤ x) (h2 : x ≤ 9223372036854775807) : I64 x := ⟨h, h2⟩
def encText (s : ByteArray) : List UInt8 := encNum s.size ++ s.data.toList
def encFlag (f : Bool) : List UInt8 := encNum (if f then 1 else 0)
def encList (l : List Int) : List UInt8 := encNum l.length ++ l.flatMap (fun x => encNum x.toNat)
set_option maxHeartbeats 1000000 in
theorem fText_any (v : Value) (l : List UInt8) (S : ByteArray) (w : World) (h : Bytes w v l) (hz : l.length ≤ 80000000000) (hs : S.size ≤ 10000000000) :
    Calls Tryz.prog 59 #[v, .string S] w fun e w' => ∃ x, e = .returned x ∧ Own bv w.heap.size 5 w' x (l ++ encText S) ∧ Upd [] w w' := by
  have H := Lib.hid h
  have h8 := nb_le8 S.size (by omega)
  have hel := encNum_len S.size
  have HE : Hid (l ++ encText S = (l ++ encNum S.size) ++ S.data.toList) := by unfold Hid encText; rw [List.append_assoc]
  go_enter Tryz.func59, Tryz.ntmps59
  go_wp2_with fail
  with_reducible refine (fMore_any _ l (9 + S.size) (9 + (S.size : Int)) (by omega) _ H.out (by omega) (by omega)).mono ?_
  rintro e w1 ⟨v1, rfl, ho1, hu1⟩
  have HO1 := Lib.hid ho1
  have HU1 := Lib.hid hu1
  clear ho1 hu1
  go_wp2_with fail
  with_reducible refine (fNum_any _ l (S.size : Int) _ HO1.out.rd (by omega) (i64_mk (by omega) (by omega))).mono ?_
  rintro e w2 ⟨v2, rfl, ho2, hu2⟩
  have HO2 := Lib.hid (ho2.base_le HU1.out.size)
  have HU2 := Lib.hid (HU1.out.seq hu2)
  have hs2 := HU2.out.size
  clear ho2 hu2
  rw [Int.toNat_natCast] at HO2
  have hl2 : (l ++ encNum S.size).length = l.length + (1 + nb S.size) := by rw [List.length_append, hel]
  generalize l ++ encNum S.size = l2 at *
  go_wp2_with (at_builtin; refine wpList_app_str rfl (.tmp 14) (.tmp 15) rfl Tryz.underlying28 Tryz.underlying9 infoByte v2 S l2 rfl rfl HO2.out (by omega) (by unfold maxLen; omega) hs2 ?_; intro v3 w3 ho hu; have HU3 : Hid (Upd [] w w3) := HU2.out.trans hu (by simp) (fun x hx => .inr (HO2.out.ge x hx).1); have HO3 := Lib.hid ho; clear ho hu)
  go_ret
  exact ⟨_, rfl, by rw [HE.out]; exact HO3.out, HU3.out⟩
end Go.Proofs.YtmhojaiajhdlcaaGreat
namespace Go.Proofs.YtmhojaiajhdlcaaGreat
open Go.RowKit
set_option linter.unusedSimpArgs false
set_option linter.unusedVariables false
def strOf (l : List UInt8) : ByteArray := ⟨l.toArray⟩
theorem convb_str {P : Program} {src dst e : TypeId} (hs : P.underlying src = some (.slice e)) (he : P.underlying e = some (.int .u8)) (hd : P.underlying dst = some .string) (w : World) (v : Value) (l : List UInt8) (h : Bytes w v l) :
    (convert src dst v).run P w = .ok (.string (strOf l)) w := by
  obtain ⟨a, cap, rfl, h1, h2, h3⟩ := h
  by_cases hne : l = []
  · subst hne
    cases a with
    | none => rw [run_convert_bytes_string w src dst e _ _ _ hs he hd]; simp [Conv.bytesToString]; rfl
    | some a => exact run_convert_bytes_back w src dst e a cap [] hs he hd (fun j hj => absurd hj (by simp))
  · obtain ⟨b, off, rfl, hc⟩ := h3 hne
    exact run_convert_bytes_back w src dst e _ cap l hs he hd (fun j hj => by rw [add_none, hc j hj, nth_get l j hj])
end Go.Proofs.YtmhojaiajhdlcaaGreat
