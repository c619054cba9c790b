/- A sparse set as lists: no program here. -/
import Derived.Test.YtfpibngdpooedaaOwnN
namespace Go.Proofs.Ytfpibngdpooedaa
open Go.RowKit
set_option linter.unusedSimpArgs false
set_option linter.unusedVariables false

abbrev nv (k : Nat) : Value := .int .i64 (k : Int)
abbrev itC {α : Type} (c : α → Value) (p : Nat × α) : List Value := [.int .i64 (p.1 : Int), c p.2]
theorem itC_len {α : Type} (c : α → Value) : ∀ x : Nat × α, (itC c x).length = 2 := fun _ => rfl
/-- Is a number there? -/
def spHas {α : Type} [Inhabited α] (pl : List Nat) (it : List (Nat × α)) (i : Nat) : Bool := decide (i < pl.length ∧ nth pl i < it.length ∧ (nth it (nth pl i)).1 = i)
def spHasI {α : Type} [Inhabited α] (pl : List Nat) (it : List (Nat × α)) (i : Int) : Bool := decide (0 ≤ i) && spHas pl it i.toNat
theorem spHasI_neg {α : Type} [Inhabited α] (pl : List Nat) (it : List (Nat × α)) (i : Int) (h : i < 0) : spHasI pl it i = false := by
  unfold spHasI; rw [decide_eq_false (by omega)]; rfl
theorem spHasI_big {α : Type} [Inhabited α] (pl : List Nat) (it : List (Nat × α)) (i : Int) (h : pl.length ≤ i) : spHasI pl it i = false := by
  unfold spHasI spHas; rw [decide_eq_false (p := _ ∧ _) (by omega), Bool.and_false]
theorem spHasI_nat {α : Type} [Inhabited α] (pl : List Nat) (it : List (Nat × α)) (i : Nat) : spHasI pl it (i : Int) = spHas pl it i := by
  unfold spHasI; simp
/-- A sparse set in a world: its block g, its places' block gp, its things lv. -/
structure Spar {α : Type} (c : α → Value) (tS tI tP : TypeId) (base : Nat) (w : World) (g gp : Nat) (lv : Value) (pl : List Nat) (it : List (Nat × α)) : Prop where
  set_ : Blk w g tS [.slice (some ⟨gp, 0, none⟩) pl.length pl.length, lv]
  place : Blk w gp tP (pl.map nv)
  things : OwnN 2 (itC c) base tI w lv it
  gb : base ≤ g
  gpb : base ≤ gp
  ne1 : tS ≠ tP
  ne2 : tS ≠ tI
  ne3 : tP ≠ tI
  le : pl.length ≤ 4096
def spF (g gp : Nat) (lv : Value) : List Nat := g :: gp :: blk lv
section
variable {α : Type} {c : α → Value} {tS tI tP : TypeId} {base : Nat} {w w' : World} {g gp : Nat} {lv : Value} {pl : List Nat} {it : List (Nat × α)}
theorem Spar.upd (h : Spar c tS tI tP base w g gp lv pl it) {S : List Nat} (hu : Upd S w w') (hs : ∀ x ∈ spF g gp lv, x ∉ S) : Spar c tS tI tP base w' g gp lv pl it :=
  ⟨h.set_.upd hu (hs g (by simp [spF])), h.place.upd hu (hs gp (by simp [spF])), h.things.upd hu (fun x hx => hs x (by simp [spF, hx])), h.gb, h.gpb, h.ne1, h.ne2, h.ne3, h.le⟩
theorem Spar.upd0 (h : Spar c tS tI tP base w g gp lv pl it) (hu : Upd [] w w') : Spar c tS tI tP base w' g gp lv pl it := h.upd hu (by simp)
theorem Spar.g_gp (h : Spar c tS tI tP base w g gp lv pl it) : g ≠ gp := fun e => by
  have := h.place; exact h.set_.ne gp this h.ne1 e
theorem Spar.g_lv (h : Spar c tS tI tP base w g gp lv pl it) : g ∉ blk lv := fun e => by
  obtain ⟨C, f, hq⟩ := h.things.typ g e
  exact h.set_.ne g hq h.ne2 rfl
theorem Spar.gp_lv (h : Spar c tS tI tP base w g gp lv pl it) : gp ∉ blk lv := fun e => by
  obtain ⟨C, f, hq⟩ := h.things.typ gp e
  exact h.place.ne gp hq h.ne3 rfl
theorem Spar.lt (h : Spar c tS tI tP base w g gp lv pl it) : ∀ x ∈ spF g gp lv, base ≤ x ∧ x < w.heap.size := by
  intro x hx
  simp only [spF, List.mem_cons] at hx
  rcases hx with rfl | rfl | hx
  · exact ⟨h.gb, h.set_.lt⟩
  · exact ⟨h.gpb, h.place.lt⟩
  · exact h.things.ge x hx
theorem map_set_nv (l : List Nat) (i k : Nat) : (l.map nv).set i (nv k) = (l.set i k).map nv := by
  rw [List.map_set]
theorem nv_get (l : List Nat) (i : Nat) (h : i < l.length) : (l.map nv)[i]? = some (nv (nth l i)) := by
  rw [List.getElem?_map, List.getElem?_eq_getElem h, nth_get l i h]; rfl
end
end Go.Proofs.Ytfpibngdpooedaa
