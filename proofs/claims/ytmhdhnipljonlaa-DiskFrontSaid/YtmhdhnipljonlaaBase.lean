/- Words of our own on worlds and slices: nothing of the program stands here. -/
import Derived.WalkKit
import Derived.Lib.Hide
import Derived.Deep.QuietTactic
import Derived.BigQuiet
import Derived.WalkSpells
import Derived.WalkLawsBesides
import Derived.Lib.SlBytesConst
import Derived.Laws.CopyOwn
import Derived.Maps.AppendAt
namespace Go.Proofs.Ytmhdhnipljonlaa
open Go.RowKit
set_option linter.unusedSimpArgs false
set_option linter.unusedVariables false

/-- An element of a list, by its place. -/
def nth {α : Type} [Inhabited α] (l : List α) (k : Nat) : α := l.getD k default
theorem nth_get {α : Type} [Inhabited α] (l : List α) (k : Nat) (h : k < l.length) : nth l k = l[k] := by simp [nth, List.getD, h]
theorem nth_of {α : Type} [Inhabited α] (l : List α) (k : Nat) (x : α) (h : l[k]? = some x) : nth l k = x := by simp [nth, List.getD, h]
theorem nth_cons_zero {α : Type} [Inhabited α] (x : α) (l : List α) : nth (x :: l) 0 = x := rfl
theorem nth_cons_succ {α : Type} [Inhabited α] (x : α) (l : List α) (k : Nat) : nth (x :: l) (k + 1) = nth l k := rfl

/-- Beside the blocks of S, what was there is as it was. -/
structure Upd (S : List Nat) (w w' : World) : Prop where
  os : w'.os = w.os
  tape : w'.tape = w.tape
  output : w'.output = w.output
  size : w.heap.size ≤ w'.heap.size
  block : ∀ k, k < w.heap.size → k ∉ S → w'.heap[k]? = w.heap[k]?
theorem Upd.refl (S : List Nat) (w : World) : Upd S w w := ⟨rfl, rfl, rfl, Nat.le_refl _, fun _ _ _ => rfl⟩
theorem Upd.trans {S S' T : List Nat} {a b c : World} (h : Upd S a b) (k : Upd S' b c) (hs : ∀ x ∈ S, x ∈ T) (hs' : ∀ x ∈ S', x ∈ T ∨ a.heap.size ≤ x) : Upd T a c :=
  ⟨k.os.trans h.os, k.tape.trans h.tape, k.output.trans h.output, Nat.le_trans h.size k.size, fun i hi hn => by
    rw [k.block i (Nat.lt_of_lt_of_le hi h.size) (fun e => by rcases hs' i e with q | q; exact hn q; omega), h.block i hi (fun e => hn (hs i e))]⟩
theorem Upd.mono {S T : List Nat} {a b : World} (h : Upd S a b) (hs : ∀ x ∈ S, x ∈ T ∨ a.heap.size ≤ x) : Upd T a b :=
  (Upd.refl T a).trans h (fun x hx => hx) hs
theorem Upd.drew {S : List Nat} {a b : World} (h : Upd S a b) : Upd S a b.drew := ⟨h.os, h.tape, h.output, h.size, h.block⟩
theorem Upd.drewN {S : List Nat} {a b : World} (h : Upd S a b) (n : Nat) : Upd S a (b.drewN n) := ⟨h.os, h.tape, h.output, h.size, h.block⟩
theorem Upd.alloc {S : List Nat} {a b : World} (h : Upd S a b) (o : Obj) : Upd S a (b.alloc o) :=
  ⟨h.os, h.tape, h.output, by have := h.size; simp; omega, fun k hk hn => by rw [Below.heap_alloc _ _ _ (Nat.lt_of_lt_of_le hk h.size)]; exact h.block k hk hn⟩
theorem Upd.setCell {S : List Nat} {a b : World} (h : Upd S a b) (p : Addr) (u : Value) (hp : p.block ∈ S ∨ a.heap.size ≤ p.block) : Upd S a (b.setCell p u) :=
  ⟨h.os, h.tape, h.output, by have := h.size; simp; omega, fun k hk hn => by
    rw [Below.heap_setCell _ _ _ _ (fun e => by subst e; rcases hp with q | q; exact hn q; omega)]; exact h.block k hk hn⟩
theorem Upd.of_grown {w w' : World} {row : Option Nat} (hg : w.grownBy w' row) : Upd row.toList w w' :=
  ⟨hg.os, hg.tape, hg.output, hg.size, fun k hk hn => hg.block k hk (fun e => hn (by rw [← e]; simp))⟩
theorem Upd.below {w w' : World} (h : Upd [] w w') : Below w.heap.size w w' := ⟨h.os, h.tape, h.output, h.size, fun k hk => h.block k hk (by simp)⟩
theorem Upd.of_below {w w' : World} (h : Below w.heap.size w w') : Upd [] w w' := ⟨h.os, h.tape, h.output, h.size, fun k hk _ => h.block k hk⟩
theorem Upd.cell {S : List Nat} {w w' : World} (h : Upd S w w') {p : Addr} {v : Value} (hv : w.cell? p = some v) (hp : p.block ∉ S) : w'.cell? p = some v :=
  (World.cell?_of_block (w := w) (h.block p.block (World.block_lt_of_cell? w p hv) hp)).trans hv
theorem Upd.heap {S : List Nat} {w w' : World} (h : Upd S w w') {k : Nat} {o : Obj} (hv : w.heap[k]? = some o) (hp : k ∉ S) : w'.heap[k]? = some o :=
  (h.block k (Array.getElem?_eq_some_iff.1 hv).1 hp).trans hv

/-- A list that a slice's value shows in a world, an element a cell. -/
def Rd {α : Type} [Inhabited α] (c : α → Value) (w : World) (v : Value) (l : List α) : Prop :=
  ∃ a cap, v = .slice a l.length cap ∧ l.length ≤ cap ∧ cap ≤ maxLen ∧
    (l ≠ [] → ∃ b off, a = some ⟨b, off, none⟩ ∧ ∀ j, j < l.length → w.cell? ⟨b, off + j, none⟩ = some (c (nth l j)))
/-- The block of a slice. -/
def blk : Value → List Nat
  | .slice (some a) _ _ => [a.block]
  | _ => []
theorem Rd.upd {α : Type} [Inhabited α] {c : α → Value} {w w' : World} {v : Value} {l : List α} (h : Rd c w v l) {S : List Nat} (hu : Upd S w w') (hs : ∀ x ∈ blk v, x ∉ S) : Rd c w' v l := by
  obtain ⟨a, cap, rfl, h1, h2, h3⟩ := h
  refine ⟨a, cap, rfl, h1, h2, fun hne => ?_⟩
  obtain ⟨b, off, rfl, hc⟩ := h3 hne
  exact ⟨b, off, rfl, fun j hj => hu.cell (hc j hj) (hs b (by simp [blk]))⟩
theorem Rd.upd0 {α : Type} [Inhabited α] {c : α → Value} {w w' : World} {v : Value} {l : List α} (h : Rd c w v l) (hu : Upd [] w w') : Rd c w' v l :=
  h.upd hu (by simp)
theorem Rd.lt {α : Type} [Inhabited α] {c : α → Value} {w : World} {v : Value} {l : List α} (h : Rd c w v l) (hne : l ≠ []) : ∀ x ∈ blk v, x < w.heap.size := by
  obtain ⟨a, cap, rfl, h1, h2, h3⟩ := h
  obtain ⟨b, off, rfl, hc⟩ := h3 hne
  intro x hx
  simp [blk] at hx; subst hx
  have := hc 0 (by cases l; exact absurd rfl hne; simp)
  exact World.block_lt_of_cell? w _ this
/-- Behind changes to blocks that came later, or to none of its own: the list is still shown. -/
theorem Rd.later {α : Type} [Inhabited α] {c : α → Value} {w w1 w' : World} {v : Value} {l : List α} (h : Rd c w v l) {S : List Nat} (h1 : Rd c w1 v l) (hu : Upd S w1 w') (hs : ∀ x ∈ S, w.heap.size ≤ x) : Rd c w' v l := by
  by_cases hne : l = []
  · obtain ⟨a, cap, rfl, g1, g2, g3⟩ := h
    exact ⟨a, cap, rfl, g1, g2, fun q => absurd hne q⟩
  · exact h1.upd hu (fun x hx hS => by have := h.lt hne x hx; have := hs x hS; omega)

/-- A slice of bytes. -/
abbrev bv (x : UInt8) : Value := .int .u8 (x.toNat : Int)
abbrev Bytes (w : World) (v : Value) (l : List UInt8) : Prop := Rd bv w v l

/-- A list in a block of the call's own. -/
def Own {α : Type} (c : α → Value) (base : Nat) (e : TypeId) (w : World) (v : Value) (l : List α) : Prop := w.ownsRow base e 1 v l.length (l.map c)
theorem Own.rd {α : Type} [Inhabited α] {c : α → Value} {base : Nat} {e : TypeId} {w : World} {v : Value} {l : List α} (h : Own c base e w v l) : Rd c w v l := by
  obtain ⟨h1, h2⟩ := h
  rcases h2 with ⟨rfl, hn⟩ | ⟨g, cap, cur, rfl, hb, hg, hc, hm, hs, ht⟩
  · exact ⟨none, 0, by rw [hn], by omega, Nat.zero_le _, fun q => absurd (List.eq_nil_of_length_eq_zero hn) q⟩
  · refine ⟨_, cap, rfl, hc, hm, fun _ => ⟨g, 0, rfl, fun j hj => ?_⟩⟩
    rw [cell_of_row w g (0 + j) cur e (0, 0) hg]
    have : (l.map c)[j]? = some (c (nth l j)) := by rw [List.getElem?_map, List.getElem?_eq_getElem hj, nth_get l j hj]; rfl
    rw [← ht, List.getElem?_take] at this
    simpa [hj] using this
theorem blk_own (v : Value) : blk v = v.ownBlock.toList := by
  cases v with
  | slice a _ _ => cases a <;> rfl
  | _ => rfl
theorem Own.upd {α : Type} {c : α → Value} {base : Nat} {e : TypeId} {w w' : World} {v : Value} {l : List α} (h : Own c base e w v l) {S : List Nat} (hu : Upd S w w') (hs : ∀ x ∈ blk v, x ∉ S) : Own c base e w' v l := by
  obtain ⟨h1, h2⟩ := h
  refine ⟨h1, ?_⟩
  rcases h2 with h2 | ⟨g, cap, cur, rfl, hb, hg, r⟩
  · exact .inl h2
  · exact .inr ⟨g, cap, cur, rfl, hb, hu.heap hg (hs g (by simp [blk])), r⟩
theorem Own.ge {α : Type} {c : α → Value} {base : Nat} {e : TypeId} {w : World} {v : Value} {l : List α} (h : Own c base e w v l) : ∀ x ∈ blk v, base ≤ x ∧ x < w.heap.size := by
  intro x hx
  rw [blk_own] at hx
  exact World.ownsRow.lt h x (by simpa using hx)
theorem Own.base_le {α : Type} {c : α → Value} {base base' : Nat} {e : TypeId} {w : World} {v : Value} {l : List α} (h : Own c base e w v l) (hb : base' ≤ base) : Own c base' e w v l := by
  obtain ⟨h1, h2⟩ := h
  refine ⟨h1, ?_⟩
  rcases h2 with h2 | ⟨g, cap, cur, rfl, hb', hg, r⟩
  · exact .inl h2
  · exact .inr ⟨g, cap, cur, rfl, by omega, hg, r⟩

/-- A list just laid in a new block. -/
theorem Rd.lit {α : Type} [Inhabited α] {c : α → Value} {w : World} (l : List α) {C : Array Value} {e : TypeId} {fr : Nat × Nat} {g n k : Nat} (hg : g = w.heap.size) (hC : C = (l.map c).toArray) (hn : n = l.length) (hk : n ≤ k) (hm : k ≤ maxLen) :
    Rd c (w.alloc (.cells C e fr)) (.slice (some ⟨g, 0, none⟩) n k) l := by
  subst hg; subst hn; subst hC
  refine ⟨_, _, rfl, hk, hm, fun _ => ⟨_, 0, rfl, fun j hj => ?_⟩⟩
  rw [cell_of_row _ w.heap.size (0 + j) _ e fr (heap_alloc_new w _)]
  simp [nth_get l j hj, hj]
theorem Rd.nil {α : Type} [Inhabited α] {c : α → Value} (w : World) : Rd c w (.slice none 0 0) ([] : List α) :=
  ⟨none, 0, rfl, Nat.le_refl _, Nat.zero_le _, fun h => absurd rfl h⟩
theorem Rd.alloc {α : Type} [Inhabited α] {c : α → Value} {w : World} {v : Value} {l : List α} (h : Rd c w v l) (o : Obj) : Rd c (w.alloc o) v l := h.upd0 ((Upd.refl _ _).alloc _)
theorem Rd.drew {α : Type} [Inhabited α] {c : α → Value} {w : World} {v : Value} {l : List α} (h : Rd c w v l) : Rd c w.drew v l := h
theorem Rd.drewN {α : Type} [Inhabited α] {c : α → Value} {w : World} {v : Value} {l : List α} (h : Rd c w v l) (n : Nat) : Rd c (w.drewN n) v l := h
theorem Rd.setCell {α : Type} [Inhabited α] {c : α → Value} {w : World} {v : Value} {l : List α} (h : Rd c w v l) (p : Addr) (u : Value) (hp : p.block ∉ blk v) : Rd c (w.setCell p u) v l :=
  h.upd (S := [p.block]) ((Upd.refl _ _).setCell _ _ (.inl (by simp))) (fun x hx hy => hp (by simp at hy; rw [← hy]; exact hx))

theorem conv_lit {P : Program} {t e : TypeId} (ht : P.underlying t = some (.slice e)) (he : P.underlying e = some (.int .u8)) (w : World) (C : Array Value) (g n c : Nat) (hg : g = w.heap.size) :
    (convert t t (.slice (some ⟨g, 0, none⟩) n c)).run P (w.alloc (.cells C e)) = .ok (.slice (some ⟨g, 0, none⟩) n c) (w.alloc (.cells C e (C.size, C.size + 1))) := by
  subst hg; exact Lib.run_convert_bytes_const w t e C n c ht he

/-- A block that is known whole. -/
def Blk (w : World) (g : Nat) (e : TypeId) (xs : List Value) : Prop := w.heap[g]? = some (.cells xs.toArray e (0, 0))
theorem Blk.lt {w : World} {g : Nat} {e : TypeId} {xs : List Value} (h : Blk w g e xs) : g < w.heap.size := (Array.getElem?_eq_some_iff.1 h).1
theorem Blk.upd {w w' : World} {g : Nat} {e : TypeId} {xs : List Value} (h : Blk w g e xs) {S : List Nat} (hu : Upd S w w') (hs : g ∉ S) : Blk w' g e xs := hu.heap h hs
theorem Blk.cell {w : World} {g : Nat} {e : TypeId} {xs : List Value} (h : Blk w g e xs) (i : Nat) : w.cell? ⟨g, i, none⟩ = xs[i]? := by
  rw [cell_of_row w g i _ e (0, 0) h]; simp
theorem Blk.frozen {w : World} {g : Nat} {e : TypeId} {xs : List Value} (h : Blk w g e xs) (i : Nat) : w.frozen? ⟨g, i, none⟩ = false := frozen_of_row w g i _ e h
theorem Blk.set_ {w : World} {g : Nat} {e : TypeId} {xs : List Value} (h : Blk w g e xs) (i : Nat) (u : Value) : Blk (w.setCell ⟨g, i, none⟩ u) g e (xs.set i u) := by
  have := heap_setCell_same w g i _ e u h
  unfold Blk; rw [this]; simp
theorem Blk.new (w : World) (e : TypeId) (xs : List Value) : Blk (w.alloc (.cells xs.toArray e)) w.heap.size e xs := heap_alloc_new w _
theorem Blk.drewN {w : World} {g : Nat} {e : TypeId} {xs : List Value} (h : Blk w g e xs) (n : Nat) : Blk (w.drewN n) g e xs := h
/-- A piece of a known block. -/
theorem Blk.rd {α : Type} [Inhabited α] {c : α → Value} {w : World} {g : Nat} {e : TypeId} {xs : List Value} (h : Blk w g e xs) (l : List α) (o n k : Nat) (hn : n = l.length) (hk : n ≤ k) (hm : k ≤ maxLen)
    (hx : ∀ j, j < l.length → xs[o + j]? = some (c (nth l j))) : Rd c w (.slice (some ⟨g, o, none⟩) n k) l := by
  subst hn
  exact ⟨_, _, rfl, hk, hm, fun _ => ⟨g, o, rfl, fun j hj => by rw [h.cell]; exact hx j hj⟩⟩
theorem Blk.rd_pre {α : Type} [Inhabited α] {c : α → Value} {w : World} {g : Nat} {e : TypeId} {ys : List Value} (l : List α) (n k : Nat) (h : Blk w g e (l.map c ++ ys)) (hn : n = l.length) (hk : n ≤ k) (hm : k ≤ maxLen) : Rd c w (.slice (some ⟨g, 0, none⟩) n k) l :=
  h.rd l 0 n k hn hk hm (fun j hj => by rw [Nat.zero_add, List.getElem?_append_left (by simpa using hj)]; simp [nth_get l j hj, hj])

section
variable {P : Program} {ops : Array Oper} {rest : List Oper} {o : Oper} {a : Act} {w : World} {Q : Exit → Act → World → Prop}
theorem toList_madeOne (z : Value) (hz : z.cells = #[z]) (n : Nat) : (madeCells z.cells n) = (List.replicate n z).toArray := by
  apply Array.toList_inj.1
  rw [hz, toList_madeCells_one]
theorem run_mk {t e : TypeId} {z : Value} {bytes : Nat} (ht : P.underlying t = some (.slice e)) (hi : (P.info? e).map (fun i => (i.zero, i.size, i.bytes)) = some (some z, 1, bytes)) (hz : z.cells = #[z])
    (u : World) (n m : Nat) (L C : Int) (hL : L = (n : Int)) (hC : C = (m : Int)) (hnm : n ≤ m) (hb : bytes * m ≤ 281474976710656) (hm : m ≤ 9223372036854775807) :
    (Instr.makeSlice t (.int .i64 L) (.int .i64 C)).run P u = .ok (.slice (some ⟨u.heap.size, 0, none⟩) n m) (u.alloc (.cells (List.replicate m z).toArray e)) := by
  obtain ⟨i, h1, h2, h3, h4⟩ := info_parts hi
  subst hL; subst hC
  have h := run_make (P := P) u t e i z ht h1 h2 .i64 .i64 (n : Int) (m : Int) (by omega) (by omega) (by rw [h4, ← Int.natCast_mul]; omega) (by omega)
  rw [h, h3, Nat.mul_one, Int.toNat_natCast, Int.toNat_natCast, toList_madeOne z hz]

theorem oneCell_map {α : Type} {c : α → Value} (hc : ∀ x, (c x).oneCell' = true) (l : List α) : ∀ u ∈ l.map c, u.oneCell' = true := by
  intro u hu; obtain ⟨x, _, rfl⟩ := List.mem_map.1 hu; exact hc x
theorem add_none (b off j : Nat) : (⟨b, off, none⟩ : Addr).add j = ⟨b, off + j, none⟩ := by unfold Addr.add; split <;> simp_all

/-- copy into a known block. -/
theorem wpList_cp {α : Type} [Inhabited α] {c : α → Value} (hc : ∀ x, (c x).oneCell' = true) (hgd : o.guard = none) (d s : Operand) (dT sT e : TypeId) (ho : o.op = .call { callee := .builtin .copy, args := #[d, s], argTypes := #[dT, sT] })
    (hu : P.underlying dT = some (.slice e)) (hsz : (P.info? e).map (·.size) = some 1) (g dLen dCap : Nat) (v : Value) (hd : a.eval d = .slice (some ⟨g, 0, none⟩) dLen dCap) (hs : a.eval s = v)
    (l : List α) (hv : Rd c w v l) (t : TypeId) (xs : List Value) (hg : Blk w g t xs) (hle : l.length ≤ dLen) (hfit : l.length ≤ xs.length)
    (h : ∀ w', Blk w' g t (l.map c ++ xs.drop l.length) → Upd [g] w w' → w'.heap.size = w.heap.size → wpList P ops Q rest (a.put o.dst (goInt l.length)) w') : wpList P ops Q (o :: rest) a w := by
  obtain ⟨A, cap, rfl, h1, h2, h3⟩ := hv
  have key : ∃ w', (Builtin.copy_ #[dT, sT] o.type #[.slice (some ⟨g, 0, none⟩) dLen dCap, .slice A l.length cap]).run P w = .ok (goInt l.length) w' ∧ Blk w' g t (l.map c ++ xs.drop l.length) ∧ Upd [g] w w' ∧ w'.heap.size = w.heap.size := by
    by_cases hne : l = []
    · subst hne
      refine ⟨w, ?_, by simpa using hg, Upd.refl _ _, rfl⟩
      exact run_copy_none (P := P) w dT sT o.type e _ A dLen dCap 0 cap hu hsz (by simp)
    · obtain ⟨b, off, rfl, hcell⟩ := h3 hne
      have hr := run_copy_row (P := P) w dT sT o.type e g 0 dLen dCap ⟨b, off, none⟩ l.length cap xs.toArray t (l.map c) hu hsz hg (by rw [List.length_map]; exact (Nat.min_eq_left hle).symm)
        (fun j v hj => by
          rw [add_none]
          rw [List.getElem?_map] at hj
          obtain ⟨x, hx, rfl⟩ := Option.map_eq_some_iff.1 hj
          have hjl := (List.getElem?_eq_some_iff.1 hx).1
          rw [hcell j hjl, nth_of l j x hx]) (by simpa using hfit) (oneCell_map hc l)
      simp only [List.take_zero, List.nil_append, Nat.zero_add, List.length_map] at hr
      refine ⟨_, hr, ?_, ⟨rfl, rfl, rfl, by simp, fun k _ hk => setRow_other w g k _ (by simpa using hk)⟩, by simp⟩
      exact setRow_heap w g xs.toArray _ t _ hg
  obtain ⟨w', hr, k1, k2, k3⟩ := key
  refine wpList_plain hgd fun K hK => ?_
  unfold Oper.wp execOp
  simp only [ho, resolve, invoke, builtin, Sem.run_bind, Sem.run_pure, Result.andThen_ok, List.map_toArray, List.map_cons, List.map_nil, hd, hs, hr]
  exact hK _ _ (h w' k1 k2 k3)

theorem run_app_nothing {t ty e : TypeId} {size : Nat} (ht : P.underlying t = some (.slice e)) (hi : (P.info? e).map (·.size) = some size) (ao bo : Option Addr) (n cap k : Nat) (hn : n ≤ cap) :
    (Builtin.append_ #[t, t] ty #[.slice ao n cap, .slice bo 0 k]).run P w = .ok (.slice ao n cap) w := by
  obtain ⟨i, hi, hsize⟩ : ∃ i, P.info? e = some i ∧ i.size = size := by
    cases hq : P.info? e with
    | none => simp [hq] at hi
    | some i => exact ⟨i, rfl, by simpa [hq] using hi⟩
  have h0 : n + 0 ≤ cap := by omega
  cases ao <;> cases bo <;> simp [Builtin.append_, run_underlying ht, Builtin.lenOf, Builtin.firstCells, sizeOf, typeInfo, hi, storeCells, loadCells, loadCellsFrom, hn]

/-- append of a list onto a list of the call's own: the run. -/
theorem run_app {α : Type} [Inhabited α] {c : α → Value} (hc : ∀ x, (c x).oneCell' = true) {t ty e : TypeId} {z : Value} {bytes base : Nat} (ht : P.underlying t = some (.slice e)) (hi : (P.info? e).map (fun i => (i.zero, i.size, i.bytes)) = some (some z, 1, bytes)) (hz : z.cells = #[z])
    (v u : Value) (l m : List α) (hv : Own c base e w v l) (hu : Rd c w u m) (hb : (l.length + m.length) * bytes ≤ 140737488355328) (hl : l.length + m.length ≤ maxLen) (hbase : base ≤ w.heap.size) :
    ∃ v' w', (Builtin.append_ #[t, t] ty #[v, u]).run P w = .ok v' w' ∧ Own c base e w' v' (l ++ m) ∧ Upd (blk v) w w' ∧ (∀ x ∈ blk v', x ∈ blk v ∨ w.heap.size ≤ x) := by
  obtain ⟨i, h1, h2, h3, h4⟩ := info_parts hi
  obtain ⟨A, cap, rfl, hle, hcm, hcell0⟩ := hu
  by_cases hne : m = []
  · subst hne
    have hsz : (P.info? e).map (·.size) = some 1 := by simp [h1, h3]
    obtain ⟨ao, n, k, rfl, hnk⟩ : ∃ ao n k, v = .slice ao n k ∧ n ≤ k := by
      rcases hv.2 with ⟨rfl, _⟩ | ⟨g, cap', cur, rfl, _, _, q, _⟩
      · exact ⟨none, 0, 0, rfl, Nat.le_refl _⟩
      · exact ⟨_, _, _, rfl, q⟩
    exact ⟨_, w, run_app_nothing ht hsz ao A n k cap hnk, by rw [List.append_nil]; exact hv, Upd.refl _ _, fun x hx => .inl hx⟩
  · obtain ⟨b, off, rfl, hcell⟩ := hcell0 hne
    have hnews : ∀ j u, (m.map c)[j]? = some u → w.cell? ((⟨b, off, none⟩ : Addr).add j) = some u := fun j u hj => by
      rw [add_none]
      rw [List.getElem?_map] at hj
      obtain ⟨x, hx, rfl⟩ := Option.map_eq_some_iff.1 hj
      rw [hcell j (List.getElem?_eq_some_iff.1 hx).1, nth_of m j x hx]
    obtain ⟨v', w', hr, g1, g2, _, g3⟩ := run_append_own_at (P := P) w base t ty e i z 1 bytes ht h1 h2 h3 h4 (by rw [hz]; rfl) (by decide) v l.length (l.map c) hv ⟨b, off, none⟩ m.length cap (m.map c) (by simp) hnews (oneCell_map hc m) hl hb hbase
    have hown : Own c base e w' v' (l ++ m) := by
      unfold Own; rw [List.length_append, List.map_append]; exact g1
    refine ⟨v', w', hr, hown, by rw [blk_own]; exact Upd.of_grown g2, ?_⟩
    intro x hx
    rw [blk_own] at hx
    rcases g3 with g3 | g3
    · rw [g3, ← blk_own] at hx; exact .inl hx
    · rw [g3] at hx; simp at hx; exact .inr (by omega)

/-- append of a list onto a list of the call's own. -/
theorem wpList_app {α : Type} [Inhabited α] {c : α → Value} (hc : ∀ x, (c x).oneCell' = true) (hgd : o.guard = none) (s x : Operand) {t e : TypeId} (ho : o.op = .call { callee := .builtin .append, args := #[s, x], argTypes := #[t, t] })
    {z : Value} {bytes base : Nat} (ht : P.underlying t = some (.slice e)) (hi : (P.info? e).map (fun i => (i.zero, i.size, i.bytes)) = some (some z, 1, bytes)) (hz : z.cells = #[z])
    (v u : Value) (l m : List α) (hs : a.eval s = v) (hx : a.eval x = u) (hv : Own c base e w v l) (hu : Rd c w u m) (hb : (l.length + m.length) * bytes ≤ 140737488355328) (hl : l.length + m.length ≤ maxLen) (hbase : base ≤ w.heap.size)
    (h : ∀ v' w', Own c base e w' v' (l ++ m) → Upd (blk v) w w' → (∀ x ∈ blk v', x ∈ blk v ∨ w.heap.size ≤ x) → wpList P ops Q rest (a.put o.dst v') w') : wpList P ops Q (o :: rest) a w := by
  obtain ⟨v', w', hr, k1, k2, k3⟩ := run_app (P := P) (ty := o.type) hc ht hi hz v u l m hv hu hb hl hbase
  refine wpList_plain hgd fun K hK => ?_
  unfold Oper.wp execOp
  simp only [ho, resolve, invoke, builtin, Sem.run_bind, Sem.run_pure, Result.andThen_ok, List.map_toArray, List.map_cons, List.map_nil, hs, hx, hr]
  exact hK _ _ (h v' w' k1 k2 k3)
end

theorem nth_take {α : Type} [Inhabited α] (l : List α) (n j : Nat) (h : j < n) : nth (l.take n) j = nth l j := by simp [nth, List.getD, h]
theorem nth_append_left {α : Type} [Inhabited α] (l m : List α) (j : Nat) (h : j < l.length) : nth (l ++ m) j = nth l j := by simp [nth, List.getD, List.getElem?_append_left h]
theorem nth_append_right {α : Type} [Inhabited α] (l m : List α) (j : Nat) (h : l.length ≤ j) : nth (l ++ m) j = nth m (j - l.length) := by simp [nth, List.getD, List.getElem?_append_right h]
theorem nth_drop {α : Type} [Inhabited α] (l : List α) (n j : Nat) : nth (l.drop n) j = nth l (n + j) := by simp [nth, List.getD]
theorem nth_replicate {α : Type} [Inhabited α] (n : Nat) (x : α) (j : Nat) (h : j < n) : nth (List.replicate n x) j = x := by simp [nth, List.getD, h]
/-- The first elements of a list that is shown. -/
theorem Rd.take {α : Type} [Inhabited α] {c : α → Value} {w : World} {a : Option Addr} {n cap : Nat} {l : List α} (h : Rd c w (.slice a n cap) l) (k : Nat) (hk : k ≤ l.length) : Rd c w (.slice a k cap) (l.take k) := by
  obtain ⟨a', cap', he, h1, h2, h3⟩ := h
  injection he with e1 e2 e3; subst e1; subst e2; subst e3
  refine ⟨_, _, by rw [List.length_take, Nat.min_eq_left hk], by rw [List.length_take]; omega, h2, fun hne => ?_⟩
  obtain ⟨b, off, rfl, hc⟩ := h3 (fun q => hne (by rw [q]; simp))
  refine ⟨b, off, rfl, fun j hj => ?_⟩
  rw [List.length_take] at hj
  rw [nth_take l k j (by omega)]; exact hc j (by omega)
/-- What stands behind the first elements. -/
theorem Rd.drop {α : Type} [Inhabited α] {c : α → Value} {w : World} {a : Option Addr} {n cap : Nat} {l : List α} (h : Rd c w (.slice a n cap) l) (k : Nat) (hk : k ≤ l.length) :
    Rd c w (.slice (if cap = k then a else a.map (·.add k)) (n - k) (cap - k)) (l.drop k) := by
  obtain ⟨a', cap', he, h1, h2, h3⟩ := h
  injection he with e1 e2 e3; subst e1; subst e2; subst e3
  refine ⟨_, _, by rw [List.length_drop], by rw [List.length_drop]; omega, by omega, fun hne => ?_⟩
  have hlt : k < l.length := by
    rcases Nat.lt_or_ge k l.length with q | q
    · exact q
    · exact absurd (List.drop_eq_nil_of_le q) hne
  obtain ⟨b, off, rfl, hc⟩ := h3 (fun q => by subst q; simp at hlt)
  refine ⟨b, off + k, by rw [if_neg (by omega)]; simp [add_none], fun j hj => ?_⟩
  rw [List.length_drop] at hj
  rw [nth_drop, Nat.add_assoc]; exact hc _ (by omega)

theorem Upd.seq {a b c : World} (h : Upd [] a b) (k : Upd [] b c) : Upd [] a c := h.trans k (by simp) (by simp)

theorem Own.form {α : Type} {c : α → Value} {base : Nat} {e : TypeId} {w : World} {v : Value} {l : List α} (h : Own c base e w v l) (hne : l ≠ []) :
    ∃ g k ys, v = .slice (some ⟨g, 0, none⟩) l.length k ∧ base ≤ g ∧ Blk w g e (l.map c ++ ys) ∧ l.length ≤ k ∧ k ≤ maxLen := by
  obtain ⟨h1, h2⟩ := h
  rcases h2 with ⟨_, hn⟩ | ⟨g, cap, cur, rfl, hb, hg, hc, hm, hs, ht⟩
  · exact absurd (List.eq_nil_of_length_eq_zero hn) hne
  · refine ⟨g, cap, cur.toList.drop l.length, rfl, hb, ?_, hc, hm⟩
    rw [← ht, Nat.mul_one, List.take_append_drop]
    unfold Blk; simpa using hg
theorem Rd.sub {α : Type} [Inhabited α] {c : α → Value} {w : World} {a : Option Addr} {n cap : Nat} {l : List α} (h : Rd c w (.slice a n cap) l) (i k : Nat) (hi : i ≤ k) (hk : k ≤ l.length) :
    Rd c w (.slice (if cap = i then a else a.map (·.add i)) (k - i) (cap - i)) ((l.drop i).take (k - i)) := (h.drop i (by omega)).take (k - i) (by rw [List.length_drop]; omega)
end Go.Proofs.Ytmhdhnipljonlaa
