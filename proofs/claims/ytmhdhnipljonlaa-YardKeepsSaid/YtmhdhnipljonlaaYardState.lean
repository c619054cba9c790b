/- Chapter 21: a yard in memory. -/
import Derived.Test.YtmhdhnipljonlaaYardName
import Derived.Test.YtmhdhnipljonlaaApart
import Derived.Test.YtmhdhnipljonlaaTabLaw
namespace Go.Proofs.Ytmhdhnipljonlaa
open Go.RowKit
set_option linter.unusedSimpArgs false
set_option linter.unusedVariables false
/-- Files by rising inos, each its name and its bytes. -/
abbrev FL := List (Int × (ByteArray × List UInt8))
/-- The same, with the slices that have the bytes. -/
abbrev CL := List (Int × ((ByteArray × Sl) × List UInt8))
abbrev rowsOf (cs : CL) : List (Int × (ByteArray × Sl)) := tMap id (·.1) cs
abbrev filesOf (cs : CL) : FL := tMap id (fun v : (ByteArray × Sl) × List UInt8 => (v.1.1, v.2)) cs
abbrev ltY : Int → Int → Bool := fun a b => decide (a < b)
theorem ty_one {w : World} {x : Nat} {C C' : Array Value} {e e' : TypeId} {f f' : Nat × Nat} (h : w.heap[x]? = some (.cells C e f)) (h' : w.heap[x]? = some (.cells C' e' f')) : e = e' := by
  rw [h] at h'
  injection h' with h1; injection h1
theorem if_ty {w0 w : World} {g : Nat} {F : List Nat} {l : List (Int × (ByteArray × Sl))} (h : TXIF w0 w g F l) : ∀ x ∈ F, ∃ C f e, w.heap[x]? = some (.cells C e f) ∧ (e = 127 ∨ e = 132) := by
  intro x hx
  obtain ⟨lv, rfl, ht⟩ := h.ex
  rcases List.mem_cons.1 hx with rfl | hx
  · exact ⟨_, _, _, ht.tab, .inl rfl⟩
  · obtain ⟨C, f, hq⟩ := ht.rows.typ x hx
    exact ⟨C, f, _, hq, .inr rfl⟩
theorem ij_ty {w0 w : World} {g : Nat} {F : List Nat} {l : List (Int × Int)} (h : TXIJ w0 w g F l) : ∀ x ∈ F, ∃ C f e, w.heap[x]? = some (.cells C e f) ∧ (e = 130 ∨ e = 136) := by
  intro x hx
  obtain ⟨lv, rfl, ht⟩ := h.ex
  rcases List.mem_cons.1 hx with rfl | hx
  · exact ⟨_, _, _, ht.tab, .inl rfl⟩
  · obtain ⟨C, f, hq⟩ := ht.rows.typ x hx
    exact ⟨C, f, _, hq, .inr rfl⟩
theorem Own.typ {α : Type} {c : α → Value} {base : Nat} {e : TypeId} {w : World} {v : Value} {l : List α} (h : Own c base e w v l) : ∀ x ∈ blk v, ∃ C f, w.heap[x]? = some (.cells C e f) := by
  intro x hx
  rcases h.2 with ⟨rfl, _⟩ | ⟨g, cap, cur, rfl, _, hg, _⟩
  · simp [blk] at hx
  · simp [blk] at hx; subst hx; exact ⟨_, _, hg⟩
theorem if_ij {w0 w : World} {g g2 : Nat} {F G : List Nat} {l : List (Int × (ByteArray × Sl))} {m : List (Int × Int)} (h : TXIF w0 w g F l) (k : TXIJ w0 w g2 G m) : Ap F G := by
  intro x hx hG
  obtain ⟨C, f, e, h1, h2⟩ := if_ty h x hx
  obtain ⟨C', f', e', h1', h2'⟩ := ij_ty k x hG
  have := ty_one h1 h1'
  rcases h2 with h2 | h2 <;> rcases h2' with h2' | h2' <;> (rw [h2, h2'] at this; exact absurd this (by decide))
theorem if_own {w0 w : World} {g base : Nat} {F : List Nat} {l : List (Int × (ByteArray × Sl))} {v : Value} {m : List UInt8} (h : TXIF w0 w g F l) (k : Own bv base 5 w v m) : Ap F (blk v) := by
  intro x hx hG
  obtain ⟨C, f, e, h1, h2⟩ := if_ty h x hx
  obtain ⟨C', f', h1'⟩ := k.typ x hG
  have := ty_one h1 h1'
  rcases h2 with h2 | h2 <;> (rw [h2] at this; exact absurd this (by decide))
theorem ij_own {w0 w : World} {g base : Nat} {F : List Nat} {l : List (Int × Int)} {v : Value} {m : List UInt8} (h : TXIJ w0 w g F l) (k : Own bv base 5 w v m) : Ap F (blk v) := by
  intro x hx hG
  obtain ⟨C, f, e, h1, h2⟩ := ij_ty h x hx
  obtain ⟨C', f', h1'⟩ := k.typ x hG
  have := ty_one h1 h1'
  rcases h2 with h2 | h2 <;> (rw [h2] at this; exact absurd this (by decide))
/-- A yard at gy. -/
structure YC (w0 w : World) (gy gf gt : Nat) (F T : List Nat) (cs : CL) (tk : List (Int × Int)) : Prop where
  yard : Blk w gy 95 [.pointer (some ⟨gf, 0, none⟩), .pointer (some ⟨gt, 0, none⟩)]
  gyb : w0.heap.size ≤ gy
  files : TXIF w0 w gf F (rowsOf cs)
  taken : TXIJ w0 w gt T tk
  own : ∀ c ∈ cs, Own bv w0.heap.size 5 w (slv c.2.1.2) c.2.2
  ap : ∀ c ∈ cs, ∀ d ∈ cs, c.1 ≠ d.1 → Ap (blk (slv c.2.1.2)) (blk (slv d.2.1.2))
section
variable {w0 w w' : World} {gy gf gt : Nat} {F T : List Nat} {cs : CL} {tk : List (Int × Int)}
theorem YC.old (h : YC w0 w gy gf gt F T cs tk) : Upd [] w0 w := h.files.old
theorem YC.upd0 (h : YC w0 w gy gf gt F T cs tk) (hu : Upd [] w w') : YC w0 w' gy gf gt F T cs tk :=
  ⟨h.yard.upd hu (by simp), h.gyb, h.files.upd0 hu, h.taken.upd0 hu, fun c hc => (h.own c hc).upd hu (by simp), h.ap⟩
theorem YC.gy_F (h : YC w0 w gy gf gt F T cs tk) : gy ∉ F := fun hx => by
  obtain ⟨C, f, e, h1, h2⟩ := if_ty h.files gy hx
  have := ty_one h1 h.yard
  rcases h2 with h2 | h2 <;> (rw [h2] at this; exact absurd this (by decide))
theorem YC.gy_T (h : YC w0 w gy gf gt F T cs tk) : gy ∉ T := fun hx => by
  obtain ⟨C, f, e, h1, h2⟩ := ij_ty h.taken gy hx
  have := ty_one h1 h.yard
  rcases h2 with h2 | h2 <;> (rw [h2] at this; exact absurd this (by decide))
theorem gy_own {e : List Value} {base : Nat} {v : Value} {m : List UInt8} (h : Blk w gy 95 e) (k : Own bv base 5 w v m) : gy ∉ blk v := fun hx => by
  obtain ⟨C', f', h1'⟩ := k.typ gy hx
  have := ty_one h1' h
  exact absurd this (by decide)
/-- The table of files is written: other slices, the same bytes in memory. -/
theorem YC.setFiles (h : YC w0 w gy gf gt F T cs tk) {F' : List Nat} {cs' : CL} (hf : TXIF w0 w' gf F' (rowsOf cs')) (hu : Upd F w w')
    (hown : ∀ c ∈ cs', Own bv w0.heap.size 5 w (slv c.2.1.2) c.2.2) (hap : ∀ c ∈ cs', ∀ d ∈ cs', c.1 ≠ d.1 → Ap (blk (slv c.2.1.2)) (blk (slv d.2.1.2))) : YC w0 w' gy gf gt F' T cs' tk :=
  ⟨h.yard.upd hu h.gy_F, h.gyb, hf, h.taken.upd hu (if_ij h.files h.taken).symm (fun x hx => (h.files.ge x hx).1), fun c hc => (hown c hc).upd hu (if_own h.files (hown c hc)).symm, hap⟩
theorem YC.setTaken (h : YC w0 w gy gf gt F T cs tk) {T' : List Nat} {tk' : List (Int × Int)} (ht : TXIJ w0 w' gt T' tk') (hu : Upd T w w') : YC w0 w' gy gf gt F T' cs tk' :=
  ⟨h.yard.upd hu h.gy_T, h.gyb, h.files.upd hu (if_ij h.files h.taken) (fun x hx => (h.taken.ge x hx).1), ht, fun c hc => (h.own c hc).upd hu (ij_own h.taken (h.own c hc)).symm, h.ap⟩
end
end Go.Proofs.Ytmhdhnipljonlaa
