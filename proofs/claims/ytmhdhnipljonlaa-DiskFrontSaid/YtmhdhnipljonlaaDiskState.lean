/- Chapter 22: a disk in memory. -/
import Derived.Test.YtmhdhnipljonlaaDiskApply
namespace Go.Proofs.Ytmhdhnipljonlaa
open Go.RowKit
set_option linter.unusedSimpArgs false
set_option linter.unusedVariables false
set_option linter.unusedSectionVars false
abbrev LW := Wr × Sl
abbrev lwCells (x : LW) : List Value := [.int .i64 x.1.kd, sv x.1.nm, sv x.1.tn, slv x.2, .int .i64 x.1.n]
theorem lwCells_len : ∀ x, (lwCells x).length = 5 := fun _ => rfl
theorem lwCells_one : ∀ x, ∀ u ∈ lwCells x, u.oneCell' = true := by intro x u hu; simp [lwCells] at hu; rcases hu with rfl | rfl | rfl | rfl | rfl <;> rfl
theorem infoLW : (Try.prog.info? 114).map (fun i => (i.zero, i.size, i.bytes)) = some (some (.agg #[.int .i64 0, .string ⟨#[]⟩, .string ⟨#[]⟩, .slice none 0 0, .int .i64 0]), 5, 72) := by kernel_rfl
theorem undLW : Try.prog.underlying 109 = some (.slice 114) := by kernel_rfl
theorem ownN_sl {base : Nat} {e : TypeId} {w : World} {v : Value} {l : List LW} (h : OwnN 5 lwCells base e w v l) : ∃ s : Sl, v = .slice s.a s.n s.k := by
  obtain ⟨a, k, h, _⟩ := h.rd lwCells_len
  exact ⟨⟨a, _, k⟩, h⟩
/-- A disk at gd. -/
structure DC (w0 w : World) (gd gn gm : Nat) (Fn Fm B : List Nat) (K : KB) (cn cm : CF) (lv : Value) (lg : List LW) : Prop where
  dk : Blk w gd 111 [.pointer (some ⟨gn, 0, none⟩), .pointer (some ⟨gm, 0, none⟩), lv]
  gdb : w0.heap.size ≤ gd
  now : TD w0 w gn Fn B K cn
  mark : TD w0 w gm Fm B K cm
  full : Full cm
  apt : Ap Fn Fm
  bks : Bks w0.heap.size w B K
  log : OwnN 5 lwCells w0.heap.size 114 w lv lg
  lsh : ∀ x ∈ lg, Sh B K x.2 x.1.p
def dfoot (gd : Nat) (Fn Fm B : List Nat) (lv : Value) : List Nat := gd :: (Fn ++ Fm ++ B ++ blk lv)
theorem dfoot_mem (gd : Nat) (Fn Fm B : List Nat) (lv : Value) (x : Nat) : x ∈ dfoot gd Fn Fm B lv ↔ x = gd ∨ x ∈ Fn ∨ x ∈ Fm ∨ x ∈ B ∨ x ∈ blk lv := by
  unfold dfoot
  simp only [List.mem_cons, List.mem_append]
  constructor
  · rintro (h | ((h | h) | h) | h)
    · exact .inl h
    · exact .inr (.inl h)
    · exact .inr (.inr (.inl h))
    · exact .inr (.inr (.inr (.inl h)))
    · exact .inr (.inr (.inr (.inr h)))
  · rintro (h | h | h | h | h)
    · exact .inl h
    · exact .inr (.inl (.inl (.inl h)))
    · exact .inr (.inl (.inl (.inr h)))
    · exact .inr (.inl (.inr h))
    · exact .inr (.inr h)
section
variable {w0 w w' : World} {gd gn gm : Nat} {Fn Fm B : List Nat} {K : KB} {cn cm : CF} {lv : Value} {lg : List LW}
theorem DC.old (h : DC w0 w gd gn gm Fn Fm B K cn cm lv lg) : Upd [] w0 w := h.now.tab.old
theorem DC.upd (h : DC w0 w gd gn gm Fn Fm B K cn cm lv lg) {S : List Nat} (hu : Upd S w w') (hs : ∀ x ∈ dfoot gd Fn Fm B lv, x ∉ S) (hS : ∀ x ∈ S, w0.heap.size ≤ x) : DC w0 w' gd gn gm Fn Fm B K cn cm lv lg :=
  ⟨h.dk.upd hu (hs gd ((dfoot_mem _ _ _ _ _ _).2 (.inl rfl))), h.gdb, h.now.upd hu (fun x hx => hs x ((dfoot_mem _ _ _ _ _ _).2 (.inr (.inl hx)))) hS, h.mark.upd hu (fun x hx => hs x ((dfoot_mem _ _ _ _ _ _).2 (.inr (.inr (.inl hx))))) hS, h.full, h.apt,
    h.bks.upd hu (fun x hx => hs x ((dfoot_mem _ _ _ _ _ _).2 (.inr (.inr (.inr (.inl hx)))))), h.log.upd hu (fun x hx => hs x ((dfoot_mem _ _ _ _ _ _).2 (.inr (.inr (.inr (.inr hx)))))), h.lsh⟩
theorem DC.upd0 (h : DC w0 w gd gn gm Fn Fm B K cn cm lv lg) (hu : Upd [] w w') : DC w0 w' gd gn gm Fn Fm B K cn cm lv lg := h.upd hu (by simp) (by simp)
theorem DC.ge (h : DC w0 w gd gn gm Fn Fm B K cn cm lv lg) : ∀ x ∈ dfoot gd Fn Fm B lv, w0.heap.size ≤ x ∧ x < w.heap.size := by
  intro x hx
  rcases (dfoot_mem _ _ _ _ _ _).1 hx with rfl | hx | hx | hx | hx
  · exact ⟨h.gdb, h.dk.lt⟩
  · exact h.now.tab.ge x hx
  · exact h.mark.tab.ge x hx
  · exact h.bks.ge x hx
  · exact h.log.ge x hx
theorem dk_F {l : List (ByteArray × Sl)} {g : Nat} {F : List Nat} {xs : List Value} (h : Blk w gd 111 xs) (k : TXSL w0 w g F l) : gd ∉ F := fun hx => by
  obtain ⟨C, f, e, h1, h2⟩ := sl_ty k gd hx
  have := ty_eq h1 h
  rcases h2 with h2 | h2 <;> (rw [h2] at this; exact absurd this (by decide))
theorem dk_B {base : Nat} {xs : List Value} (h : Blk w gd 111 xs) (k : Bks base w B K) : gd ∉ B := fun hx => by
  obtain ⟨C, f, h1⟩ := k.typ gd hx
  exact absurd (ty_eq h1 h) (by decide)
theorem dk_L {base : Nat} {xs : List Value} {v : Value} {l : List LW} (h : Blk w gd 111 xs) (k : OwnN 5 lwCells base 114 w v l) : gd ∉ blk v := fun hx => by
  obtain ⟨C, f, h1⟩ := k.typ gd hx
  exact absurd (ty_eq h1 h) (by decide)
theorem log_F {base : Nat} {v : Value} {lg : List LW} {l : List (ByteArray × Sl)} {g : Nat} {F : List Nat} (h : OwnN 5 lwCells base 114 w v lg) (k : TXSL w0 w g F l) : Ap (blk v) F := fun x hx hF => by
  obtain ⟨C', f', h1'⟩ := h.typ x hx
  obtain ⟨C, f, e, h1, h2⟩ := sl_ty k x hF
  have := ty_eq h1 h1'
  rcases h2 with h2 | h2 <;> (rw [h2] at this; exact absurd this (by decide))
theorem log_B {base base' : Nat} {v : Value} {lg : List LW} (h : OwnN 5 lwCells base 114 w v lg) (k : Bks base' w B K) : Ap (blk v) B := fun x hx hF => by
  obtain ⟨C', f', h1'⟩ := h.typ x hx
  obtain ⟨C, f, h1⟩ := k.typ x hF
  exact absurd (ty_eq h1 h1') (by decide)
/-- Behind a call that writes through the table of the files that are there. -/
theorem DC.step (h : DC w0 w gd gn gm Fn Fm B K cn cm lv lg) {Fn' B' : List Nat} {K' : KB} {cn' : CF} (h1 : TD w0 w' gn Fn' B' K' cn') (h2 : Bks w0.heap.size w' B' K') (h3 : Ext B K B' K') (hu : Upd (Fn ++ B) w w') (hf : ∀ x ∈ Fn', x ∈ Fn ∨ w.heap.size ≤ x) : DC w0 w' gd gn gm Fn' Fm B' K' cn' cm lv lg :=
  have hge : ∀ x ∈ Fn ++ B, w0.heap.size ≤ x := fun x hx => by
    rcases List.mem_append.1 hx with q | q
    · exact (h.now.tab.ge x q).1
    · exact (h.bks.ge x q).1
  ⟨h.dk.upd hu (fun hx => by
      rcases List.mem_append.1 hx with q | q
      · exact dk_F h.dk h.now.tab q
      · exact dk_B h.dk h.bks q), h.gdb, h1, (h.mark.upd hu (fun x hx hx' => by
      rcases List.mem_append.1 hx' with q | q
      · exact h.apt x q hx
      · exact sl_bks h.mark.tab h.bks x hx q) hge).ext h.full h3, h.full, h.apt.next hf (fun x hx => (h.mark.tab.ge x hx).2), h2, h.log.upd hu (fun x hx hx' => by
      rcases List.mem_append.1 hx' with q | q
      · exact log_F h.log h.now.tab x hx q
      · exact log_B h.log h.bks x hx q), fun x hx => (h.lsh x hx).ext h3⟩
end
/-- A disk, as the laws see it; G: its blocks. -/
structure DD (w0 w : World) (gd : Nat) (G : List Nat) (s : DS) : Prop where
  ex : ∃ gn gm Fn Fm B K cn cm lv lg, DC w0 w gd gn gm Fn Fm B K cn cm lv lg ∧ s = ⟨dfOf cn, dfOf cm, lg.map (·.1)⟩ ∧ DOk s ∧ G = dfoot gd Fn Fm B lv
def DOut (w0 w : World) (gd : Nat) (G : List Nat) (s' : DS) (w' : World) : Prop := ∃ G', DD w0 w' gd G' s' ∧ Upd G w w' ∧ (∀ x ∈ G', x ∈ G ∨ w.heap.size ≤ x)
section
variable {w0 w w' : World} {gd : Nat} {G : List Nat} {s : DS}
theorem DD.old (h : DD w0 w gd G s) : Upd [] w0 w := by
  obtain ⟨gn, gm, Fn, Fm, B, K, cn, cm, lv, lg, hc, -⟩ := h.ex
  exact hc.old
theorem DD.ge (h : DD w0 w gd G s) : ∀ x ∈ G, w0.heap.size ≤ x ∧ x < w.heap.size := by
  obtain ⟨gn, gm, Fn, Fm, B, K, cn, cm, lv, lg, hc, -, -, rfl⟩ := h.ex
  exact hc.ge
theorem DD.ok (h : DD w0 w gd G s) : DOk s := by
  obtain ⟨gn, gm, Fn, Fm, B, K, cn, cm, lv, lg, hc, -, ho, -⟩ := h.ex
  exact ho
theorem DD.upd (h : DD w0 w gd G s) {S : List Nat} (hu : Upd S w w') (hs : ∀ x ∈ G, x ∉ S) (hS : ∀ x ∈ S, w0.heap.size ≤ x) : DD w0 w' gd G s := by
  obtain ⟨gn, gm, Fn, Fm, B, K, cn, cm, lv, lg, hc, e, ho, rfl⟩ := h.ex
  exact ⟨gn, gm, Fn, Fm, B, K, cn, cm, lv, lg, hc.upd hu hs hS, e, ho, rfl⟩
theorem DD.upd0 (h : DD w0 w gd G s) (hu : Upd [] w w') : DD w0 w' gd G s := h.upd hu (by simp) (by simp)
theorem DD.out0 (h : DD w0 w gd G s) (hu : Upd [] w w') : DOut w0 w gd G s w' := ⟨G, h.upd0 hu, hu.mono (by simp), fun x hx => .inl hx⟩
theorem DD.g_in (h : DD w0 w gd G s) : gd ∈ G := by
  obtain ⟨gn, gm, Fn, Fm, B, K, cn, cm, lv, lg, hc, e, ho, rfl⟩ := h.ex
  exact (dfoot_mem _ _ _ _ _ _).2 (.inl rfl)
end
end Go.Proofs.Ytmhdhnipljonlaa
