/- Rows known whole: pieces, copies, appends and clears within them: the runs. -/
import Derived.Test.YtmhdhnipljonlaaCopyN
import Derived.Lib.AppendZerosOnto
import Derived.Lib.Overlaps
import Derived.Deep.RegionLaw
namespace Go.Proofs.Ytmhdhnipljonlaa
open Go.RowKit
set_option linter.unusedSimpArgs false
set_option linter.unusedVariables false
def lay_ (cur : Array Value) (o : Nat) (cs : List Value) : Array Value := (cur.toList.take o ++ cs ++ cur.toList.drop (o + cs.length)).toArray
theorem lay_get (cur : Array Value) (o : Nat) (cs : List Value) (hfit : o + cs.length ≤ cur.size) (i : Nat) : (lay_ cur o cs)[i]? = if i < o then cur[i]? else if i < o + cs.length then cs[i - o]? else cur[i]? := by
  unfold lay_
  rw [List.getElem?_toArray, List.append_assoc, List.getElem?_append, List.length_take, Array.length_toList, Nat.min_eq_left (by omega)]
  by_cases h1 : i < o
  · rw [if_pos h1, if_pos h1, List.getElem?_take, if_pos h1, Array.getElem?_toList]
  · rw [if_neg h1, if_neg h1, List.getElem?_append]
    by_cases h2 : i < o + cs.length
    · rw [if_pos (by omega), if_pos h2]
    · rw [if_neg (by omega), if_neg h2, List.getElem?_drop, Array.getElem?_toList]
      congr 1; omega
theorem lay_sz (cur : Array Value) (o : Nat) (cs : List Value) (hfit : o + cs.length ≤ cur.size) : (lay_ cur o cs).size = cur.size := by
  unfold lay_
  simp only [List.size_toArray, List.length_append, List.length_take, List.length_drop, Array.length_toList]
  omega
def Piece (cur : Array Value) (o : Nat) (cs : List Value) : Prop := ∀ j u, cs[j]? = some u → cur[o + j]? = some u
theorem Piece.lay (cur : Array Value) (o : Nat) (cs : List Value) (hfit : o + cs.length ≤ cur.size) : Piece (lay_ cur o cs) o cs := fun j u h => by
  have hj := (List.getElem?_eq_some_iff.1 h).1
  rw [lay_get cur o cs hfit, if_neg (by omega), if_pos (by omega), Nat.add_sub_cancel_left]; exact h
theorem Piece.stay {cur : Array Value} {p : Nat} {ds : List Value} (h : Piece cur p ds) (o : Nat) (cs : List Value) (hfit : o + cs.length ≤ cur.size) (hd : p + ds.length ≤ o ∨ o + cs.length ≤ p) : Piece (lay_ cur o cs) p ds := fun j u hu => by
  have hj := (List.getElem?_eq_some_iff.1 hu).1
  rw [lay_get cur o cs hfit]
  by_cases h1 : p + j < o
  · rw [if_pos h1]; exact h j u hu
  · rw [if_neg h1, if_neg (by omega)]; exact h j u hu
theorem Piece.app {cur : Array Value} {o : Nat} {a b : List Value} (h : Piece cur o a) (k : Piece cur (o + a.length) b) : Piece cur o (a ++ b) := fun j u hu => by
  rw [List.getElem?_append] at hu
  split at hu
  · exact h j u hu
  · rename_i hj
    have := k _ u hu
    rwa [show o + a.length + (j - a.length) = o + j by omega] at this
theorem Piece.left {cur : Array Value} {o : Nat} {a b : List Value} (h : Piece cur o (a ++ b)) : Piece cur o a := fun j u hu => by
  refine h j u ?_
  rw [List.getElem?_append_left (List.getElem?_eq_some_iff.1 hu).1]; exact hu
theorem Piece.right {cur : Array Value} {o : Nat} {a b : List Value} (h : Piece cur o (a ++ b)) : Piece cur (o + a.length) b := fun j u hu => by
  have := h (a.length + j) u (by rw [List.getElem?_append_right (by omega), Nat.add_sub_cancel_left]; exact hu)
  rwa [← Nat.add_assoc] at this
theorem Piece.of_take {cur : Array Value} {cs : List Value} {n : Nat} (h : cur.toList.take n = cs) : Piece cur 0 cs := fun j u hu => by
  rw [← h, List.getElem?_take] at hu
  split at hu
  · rw [Nat.zero_add, ← Array.getElem?_toList]; exact hu
  · simp at hu
theorem Piece.take {cur : Array Value} {cs : List Value} {n : Nat} (h : Piece cur 0 cs) (hn : n = cs.length) : cur.toList.take n = cs := by
  subst hn
  apply List.ext_getElem?
  intro j
  rw [List.getElem?_take]
  by_cases hj : j < cs.length
  · rw [if_pos hj, Array.getElem?_toList]
    have := h j cs[j] (List.getElem?_eq_getElem hj)
    rw [Nat.zero_add] at this
    rw [this, List.getElem?_eq_getElem hj]
  · rw [if_neg hj, List.getElem?_eq_none (by omega)]
theorem Piece.cell {w : World} {g : Nat} {cur : Array Value} {e : TypeId} {f : Nat × Nat} {o : Nat} {cs : List Value} (h : Piece cur o cs) (hg : w.heap[g]? = some (.cells cur e f)) : ∀ j u, cs[j]? = some u → w.cell? ⟨g, o + j, none⟩ = some u := fun j u hu => by
  rw [cell_of_row w g (o + j) cur e f hg]; exact h j u hu
theorem flat_split {α : Type} (c : α → List Value) (l : List α) (i : Nat) : l.flatMap c = (l.take i).flatMap c ++ (l.drop i).flatMap c := by
  rw [← List.flatMap_append, List.take_append_drop]
theorem OwnN.open_ {α : Type} {sz : Nat} {c : α → List Value} {base : Nat} {e : TypeId} {w : World} {g n cap : Nat} {l : List α} (hsz : ∀ x, (c x).length = sz) (h : OwnN sz c base e w (.slice (some ⟨g, 0, none⟩) n cap) l) :
    n = l.length ∧ base ≤ g ∧ l.length ≤ cap ∧ cap ≤ maxLen ∧ ∃ cur : Array Value, w.heap[g]? = some (.cells cur e (0, 0)) ∧ cur.size = cap * sz ∧ Piece cur 0 (l.flatMap c) := by
  obtain ⟨h1, h2⟩ := h
  rcases h2 with ⟨he, _⟩ | ⟨g', cap', cur, he, hb, hg, hc, hm, hs, ht⟩
  · simp at he
  · injection he with e1 e2 e3
    injection e1 with e1; injection e1 with e1
    subst e1; subst e2; subst e3
    exact ⟨rfl, hb, hc, hm, cur, hg, hs, Piece.of_take ht⟩
theorem OwnN.of_piece {α : Type} {sz : Nat} {c : α → List Value} {base : Nat} {e : TypeId} {w : World} {g n cap : Nat} {l : List α} (hsz : ∀ x, (c x).length = sz) (cur : Array Value) (hn : n = l.length) (hb : base ≤ g) (hc : l.length ≤ cap) (hm : cap ≤ maxLen)
    (hg : w.heap[g]? = some (.cells cur e (0, 0))) (hs : cur.size = cap * sz) (hp : Piece cur 0 (l.flatMap c)) : OwnN sz c base e w (.slice (some ⟨g, 0, none⟩) n cap) l := by
  subst hn
  exact ⟨flatMap_len hsz l, .inr ⟨g, cap, cur, rfl, hb, hg, hc, hm, hs, hp.take (flatMap_len hsz l).symm⟩⟩
theorem OwnN.slice_ {α : Type} {sz : Nat} {c : α → List Value} {base : Nat} {e : TypeId} {w : World} {v : Value} {l : List α} (h : OwnN sz c base e w v l) : ∃ ao n co, v = .slice ao n co := by
  rcases h.2 with ⟨rfl, _⟩ | ⟨_, _, _, rfl, _⟩
  · exact ⟨_, _, _, rfl⟩
  · exact ⟨_, _, _, rfl⟩
theorem Upd.setRow {S : List Nat} {a b : World} (h : Upd S a b) (g : Nat) (cs : Array Value) (hg : g ∈ S ∨ a.heap.size ≤ g) : Upd S a (b.setRow g cs) :=
  ⟨h.os, h.tape, h.output, by have := h.size; simp; omega, fun k hk hn => by
    rw [setRow_other b g k cs (fun e => by subst e; rcases hg with q | q; exact hn q; omega)]; exact h.block k hk hn⟩
section
variable {P : Program}
theorem run_copy_lay {dT sT ty elem t : TypeId} {sz g o dLen dCap : Nat} {a : Addr} {sLen sCap : Nat} {cur : Array Value} {cs : List Value} {k : Nat}
    (hu : P.underlying dT = some (.slice elem)) (hs : (P.info? elem).map (·.size) = some sz) (w : World)
    (hg : w.heap[g]? = some (.cells cur t (0, 0))) (hk : Nat.min sLen dLen = k) (hn : cs.length = k * sz)
    (hsrc : ∀ j v, cs[j]? = some v → w.cell? (a.add j) = some v) (hfit : o + cs.length ≤ cur.size) (h1 : ∀ v ∈ cs, v.oneCell' = true) :
    (Builtin.copy_ #[dT, sT] ty #[.slice (some ⟨g, o, none⟩) dLen dCap, .slice (some a) sLen sCap]).run P w = .ok (goInt k) (w.setRow g (lay_ cur o cs)) :=
  run_copyN w dT sT ty elem sz g o dLen dCap a sLen sCap cur t cs k hu hs hg hk hn hsrc hfit h1
theorem run_app_lay {t ty e et : TypeId} {sz : Nat} (ht : P.underlying t = some (.slice e)) (hi : (P.info? e).map (·.size) = some sz) {g n cap m c : Nat} {a : Addr} {cur : Array Value} {news : List Value} (w : World)
    (hg : w.heap[g]? = some (.cells cur et (0, 0))) (hl : news.length = m * sz) (hnews : ∀ j u, news[j]? = some u → w.cell? (a.add j) = some u) (h1 : ∀ u ∈ news, u.oneCell' = true)
    (hroom : n + m ≤ cap) (hfit : n * sz + news.length ≤ cur.size) :
    (Builtin.append_ #[t, t] ty #[.slice (some ⟨g, 0, none⟩) n cap, .slice (some a) m c]).run P w = .ok (.slice (some ⟨g, 0, none⟩) (n + m) cap) (w.setRow g (lay_ cur (n * sz) news)) := by
  obtain ⟨i, hi1, rfl⟩ : ∃ i, P.info? e = some i ∧ i.size = sz := by
    cases hq : P.info? e with
    | none => simp [hq] at hi
    | some i => exact ⟨i, rfl, by simpa [hq] using hi⟩
  have hfc := run_firstCells_some (P := P) w i.size m a m c news hl hnews
  have hst := run_storeCells_at (P := P) g (n * i.size) et news 0 cur w hg (by simpa using hfit) h1
  simp only [Nat.add_zero] at hst
  simp [Builtin.append_, run_underlying ht, sizeOf, typeInfo, hi1, Builtin.lenOf, hroom, hfc, Addr.add_lit, hst, lay_]
theorem run_clear_lay {t ty e et : TypeId} {z : Value} {sz bytes : Nat} (ht : P.underlying t = some (.slice e)) (hi : (P.info? e).map (fun i => (i.zero, i.size, i.bytes)) = some (some z, sz, bytes)) (hz : z.cells.size = sz) (h1 : ∀ u ∈ z.cells, u.oneCell' = true)
    {g o n c : Nat} {cur : Array Value} (w : World) (hn : 0 < n) (hg : w.heap[g]? = some (.cells cur et (0, 0))) (hfit : o + n * sz ≤ cur.size) :
    (Builtin.clear_ #[t] ty #[.slice (some ⟨g, o, none⟩) n c]).run P w = .ok (.tuple #[]) (w.setRow g (lay_ cur o (Builtin.zeroCells z.cells n).toList)) := by
  obtain ⟨n, rfl⟩ : ∃ k, n = k + 1 := ⟨n - 1, by omega⟩
  obtain ⟨i, i1, i2, i3, i4⟩ := info_parts hi
  have hzl : (Builtin.zeroCells z.cells (n + 1)).toList.length = (n + 1) * sz := by rw [Array.length_toList, size_zeroCells, hz]
  have hst := run_storeCells_at (P := P) g o et _ 0 cur w hg (by rw [hzl]; simpa using hfit) (zeroCells_one h1 (n + 1))
  simp only [Nat.add_zero] at hst
  have hzv : (zeroValue e).run P w = .ok z w := by simp [zeroValue, typeInfo, i1, i2]
  simp only [Builtin.clear_]
  simp [run_underlying ht, hzv, hst, lay_]
end
section
variable {P : Program} {ops : Array Oper} {rest : List Oper} {o : Oper} {a : Act} {w w' : World} {Q : Exit → Act → World → Prop} {K : Act → World → Prop} {E : Prop}
theorem wpList_clear_of (hgd : o.guard = none) (s : Operand) {t : TypeId} (ho : o.op = .call { callee := .builtin .clear, args := #[s], argTypes := #[t] }) (v : Value) (hs : a.eval s = v)
    {R : Value → World → Prop} (hr : ∃ v' w', (Builtin.clear_ #[t] o.type #[v]).run P w = .ok v' w' ∧ R v' w') (h : ∀ v' w', R v' w' → wpList P ops Q rest (a.put o.dst v') w') : wpList P ops Q (o :: rest) a w := by
  obtain ⟨v', w', hr, hR⟩ := hr
  refine wpList_plain hgd fun K hK => ?_
  unfold Oper.wp execOp
  simp only [ho, resolve, invoke, builtin, Sem.run_bind, Sem.run_pure, Result.andThen_ok, List.map_toArray, List.map_cons, List.map_nil, hs, hr]
  exact hK _ _ (h v' w' hR)
end
section
variable {P : Program} {ops : Array Oper} {rest : List Oper} {o : Oper} {a : Act} {w w' : World} {Q : Exit → Act → World → Prop} {K : Act → World → Prop} {E : Prop}
theorem step_app_eq (hgd : o.guard = none) (s x : Operand) (t : TypeId) (ho : o.op = .call { callee := .builtin .append, args := #[s, x], argTypes := #[t, t] }) (v u : Value) (hs : a.eval s = v) (hx : a.eval x = u)
    {v' : Value} (hr : (Builtin.append_ #[t, t] o.type #[v, u]).run P w = .ok v' w') (h : K (a.put o.dst v') w') :
    if Region.wanted o (yielded ops a.tmps) = true then Oper.wp P o a w K Q else E :=
  step_app_of hgd s x ho v u hs hx (R := fun p q => p = v' ∧ q = w') ⟨_, _, hr, rfl, rfl⟩ (fun _ _ ⟨h1, h2⟩ => by rw [h1, h2]; exact h)
theorem step_copy_eq (hgd : o.guard = none) (d s : Operand) (t t' : TypeId) (ho : o.op = .call { callee := .builtin .copy, args := #[d, s], argTypes := #[t, t'] }) (v u : Value) (hd : a.eval d = v) (hs : a.eval s = u)
    {v' : Value} (hr : (Builtin.copy_ #[t, t'] o.type #[v, u]).run P w = .ok v' w') (h : K (a.put o.dst v') w') :
    if Region.wanted o (yielded ops a.tmps) = true then Oper.wp P o a w K Q else E :=
  step_copy_of hgd d s ho v u hd hs (R := fun p q => p = v' ∧ q = w') ⟨_, _, hr, rfl, rfl⟩ (fun _ _ ⟨h1, h2⟩ => by rw [h1, h2]; exact h)
theorem wpList_copy_eq (hgd : o.guard = none) (d s : Operand) (t t' : TypeId) (ho : o.op = .call { callee := .builtin .copy, args := #[d, s], argTypes := #[t, t'] }) (v u : Value) (hd : a.eval d = v) (hs : a.eval s = u)
    {v' : Value} (hr : (Builtin.copy_ #[t, t'] o.type #[v, u]).run P w = .ok v' w') (h : wpList P ops Q rest (a.put o.dst v') w') : wpList P ops Q (o :: rest) a w :=
  wpList_copy_of hgd d s ho v u hd hs (R := fun p q => p = v' ∧ q = w') ⟨_, _, hr, rfl, rfl⟩ (fun _ _ ⟨h1, h2⟩ => by rw [h1, h2]; exact h)
theorem wpList_clear_eq (hgd : o.guard = none) (s : Operand) (t : TypeId) (ho : o.op = .call { callee := .builtin .clear, args := #[s], argTypes := #[t] }) (v : Value) (hs : a.eval s = v)
    {v' : Value} (hr : (Builtin.clear_ #[t] o.type #[v]).run P w = .ok v' w') (h : wpList P ops Q rest (a.put o.dst v') w') : wpList P ops Q (o :: rest) a w :=
  wpList_clear_of hgd s ho v hs (R := fun p q => p = v' ∧ q = w') ⟨_, _, hr, rfl, rfl⟩ (fun _ _ ⟨h1, h2⟩ => by rw [h1, h2]; exact h)
theorem wpList_app_eq (hgd : o.guard = none) (s x : Operand) (t t' : TypeId) (ho : o.op = .call { callee := .builtin .append, args := #[s, x], argTypes := #[t, t'] }) (v u : Value) (hs : a.eval s = v) (hx : a.eval x = u)
    {v' : Value} (hr : (Builtin.append_ #[t, t'] o.type #[v, u]).run P w = .ok v' w') (h : wpList P ops Q rest (a.put o.dst v') w') : wpList P ops Q (o :: rest) a w := by
  refine wpList_plain hgd fun K hK => ?_
  unfold Oper.wp execOp
  simp only [ho, resolve, invoke, builtin, Sem.run_bind, Sem.run_pure, Result.andThen_ok, List.map_toArray, List.map_cons, List.map_nil, hs, hx, hr]
  exact hK _ _ h
end
theorem mem_flat_one {α : Type} {c : α → List Value} (hone : ∀ x, ∀ u ∈ c x, u.oneCell' = true) (l : List α) : ∀ u ∈ l.flatMap c, u.oneCell' = true := fun u hu => by
  obtain ⟨x, _, hx⟩ := List.mem_flatMap.1 hu; exact hone x u hx
end Go.Proofs.Ytmhdhnipljonlaa
