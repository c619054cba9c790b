/- Slices of the call's own whose elements have several cells. -/
import Derived.Test.YtmhdhnipljonlaaRdN
namespace Go.Proofs.Ytmhdhnipljonlaa
open Go.RowKit
set_option linter.unusedSimpArgs false
set_option linter.unusedVariables false

theorem flatMap_get {α : Type} [Inhabited α] {sz : Nat} {c : α → List Value} (hsz : ∀ x, (c x).length = sz) : ∀ (l : List α) (j i : Nat), j < l.length → i < sz → (l.flatMap c)[j * sz + i]? = (c (nth l j))[i]?
  | [], j, i, hj, hi => by simp at hj
  | x :: l, 0, i, hj, hi => by
    rw [List.flatMap_cons, Nat.zero_mul, Nat.zero_add, List.getElem?_append_left (by rw [hsz]; exact hi), nth_cons_zero]
  | x :: l, j + 1, i, hj, hi => by
    have hq : (j + 1) * sz + i = sz + (j * sz + i) := by rw [Nat.add_mul]; omega
    rw [List.flatMap_cons, hq, List.getElem?_append_right (by rw [hsz]; omega), hsz, Nat.add_sub_cancel_left, nth_cons_succ]
    exact flatMap_get hsz l j i (by simpa using hj) hi
theorem flatMap_len {α : Type} {sz : Nat} {c : α → List Value} (hsz : ∀ x, (c x).length = sz) (l : List α) : (l.flatMap c).length = l.length * sz := by
  induction l with
  | nil => simp
  | cons x l ih => rw [List.flatMap_cons, List.length_append, hsz, ih, List.length_cons, Nat.add_mul, Nat.one_mul]; omega
/-- A list in a block of the call's own, an element so many cells. -/
def OwnN {α : Type} (sz : Nat) (c : α → List Value) (base : Nat) (e : TypeId) (w : World) (v : Value) (l : List α) : Prop := w.ownsRow base e sz v l.length (l.flatMap c)
theorem OwnN.rd {α : Type} [Inhabited α] {sz : Nat} {c : α → List Value} {base : Nat} {e : TypeId} {w : World} {v : Value} {l : List α} (hsz : ∀ x, (c x).length = sz) (h : OwnN sz c base e w v l) : RdN sz c w v l := by
  obtain ⟨h1, h2⟩ := h
  rcases h2 with ⟨rfl, hn⟩ | ⟨g, cap, cur, rfl, hb, hg, hc, hm, hs, ht⟩
  · exact ⟨none, 0, by rw [hn], by omega, Nat.zero_le _, fun q => absurd (List.eq_nil_of_length_eq_zero hn) q⟩
  · refine ⟨_, cap, rfl, hc, hm, fun _ => ⟨g, 0, rfl, fun j hj i hi => ?_⟩⟩
    rw [cell_of_row w g (0 + (j * sz + i)) cur e (0, 0) hg, ← flatMap_get hsz l j i hj hi, ← ht, List.getElem?_take]
    have hlt : j * sz + i < l.length * sz := by
      have := Nat.mul_le_mul_right sz (show j + 1 ≤ l.length from hj)
      rw [Nat.add_mul] at this; omega
    simp [hlt]
theorem OwnN.upd {α : Type} {sz : Nat} {c : α → List Value} {base : Nat} {e : TypeId} {w w' : World} {v : Value} {l : List α} (h : OwnN sz c base e w v l) {S : List Nat} (hu : Upd S w w') (hs : ∀ x ∈ blk v, x ∉ S) : OwnN sz c base e w' v l := by
  obtain ⟨h1, h2⟩ := h
  refine ⟨h1, ?_⟩
  rcases h2 with h2 | ⟨g, cap, cur, rfl, hb, hg, r⟩
  · exact .inl h2
  · exact .inr ⟨g, cap, cur, rfl, hb, hu.heap hg (hs g (by simp [blk])), r⟩
theorem OwnN.ge {α : Type} {sz : Nat} {c : α → List Value} {base : Nat} {e : TypeId} {w : World} {v : Value} {l : List α} (h : OwnN sz c base e w v l) : ∀ x ∈ blk v, base ≤ x ∧ x < w.heap.size := by
  intro x hx
  rw [blk_own] at hx
  exact World.ownsRow.lt h x (by simpa using hx)
theorem OwnN.typ {α : Type} {sz : Nat} {c : α → List Value} {base : Nat} {e : TypeId} {w : World} {v : Value} {l : List α} (h : OwnN sz c base e w v l) : ∀ x ∈ blk v, ∃ C f, w.heap[x]? = some (.cells C e f) := by
  intro x hx
  rcases h.2 with ⟨rfl, _⟩ | ⟨g, cap, cur, rfl, hb, hg, r⟩
  · simp [blk] at hx
  · simp [blk] at hx; subst hx; exact ⟨_, _, hg⟩
theorem OwnN.nil {α : Type} {sz : Nat} {c : α → List Value} (base : Nat) (e : TypeId) (w : World) : OwnN sz c base e w (.slice none 0 0) ([] : List α) := World.ownsRow_nil _ _ _ _
theorem Blk.ne {w : World} {g : Nat} {e e' : TypeId} {xs C : _} {f : Nat × Nat} (h : Blk w g e xs) (x : Nat) (k : w.heap[x]? = some (.cells C e' f)) (hne : e ≠ e') : g ≠ x := by
  rintro rfl
  unfold Blk at h; rw [h] at k; simp at k; exact hne k.2.1
section
variable {P : Program} {ops : Array Oper} {rest : List Oper} {o : Oper} {a : Act} {w : World} {Q : Exit → Act → World → Prop}
/-- append of a list onto a list of the call's own. -/
theorem wpList_appN {α : Type} [Inhabited α] {sz : Nat} {c : α → List Value} (hsz : ∀ x, (c x).length = sz) (hpos : 0 < sz) (hone : ∀ x, ∀ u ∈ c x, u.oneCell' = true) (hgd : o.guard = none) (s x : Operand) {t e : TypeId} (ho : o.op = .call { callee := .builtin .append, args := #[s, x], argTypes := #[t, t] })
    {z : Value} {bytes base : Nat} (ht : P.underlying t = some (.slice e)) (hi : (P.info? e).map (fun i => (i.zero, i.size, i.bytes)) = some (some z, sz, bytes)) (hz : z.cells.size = sz)
    (v : Value) (l : List α) (y : α) (hs : a.eval s = v) (g k : Nat) (hx : a.eval x = .slice (some ⟨g, 0, none⟩) 1 k) (hv : OwnN sz c base e w v l) (hu : ∀ i u, (c y)[i]? = some u → w.cell? ⟨g, i, none⟩ = some u) (hb : (l.length + 1) * bytes ≤ 140737488355328) (hl : l.length + 1 ≤ maxLen) (hbase : base ≤ w.heap.size)
    (h : ∀ v' w', OwnN sz c base e w' v' (l ++ [y]) → Upd (blk v) w w' → (∀ x ∈ blk v', x ∈ blk v ∨ w.heap.size ≤ x) → wpList P ops Q rest (a.put o.dst v') w') : wpList P ops Q (o :: rest) a w := by
  obtain ⟨i, h1, h2, h3, h4⟩ := info_parts hi
  obtain ⟨v', w', hr, g1, g2, _, g3⟩ := run_append_own_at (P := P) (ty := o.type) w base t e i z sz bytes ht h1 h2 h3 h4 hz hpos v l.length (l.flatMap c) hv ⟨g, 0, none⟩ 1 k (c y) (by rw [hsz]; simp) (fun j u hj => by rw [add_none, Nat.zero_add]; exact hu j u hj) (hone y) hl hb hbase
  have hown : OwnN sz c base e w' v' (l ++ [y]) := by
    unfold OwnN; rw [List.length_append, List.flatMap_append]; simpa using g1
  refine wpList_plain hgd fun K hK => ?_
  unfold Oper.wp execOp
  simp only [ho, resolve, invoke, builtin, Sem.run_bind, Sem.run_pure, Result.andThen_ok, List.map_toArray, List.map_cons, List.map_nil, hs, hx, hr]
  refine hK _ _ (h v' w' hown (by rw [blk_own]; exact Upd.of_grown g2) ?_)
  intro x hx
  rw [blk_own] at hx
  rcases g3 with g3 | g3
  · rw [g3, ← blk_own] at hx; exact .inl hx
  · rw [g3] at hx; simp at hx; exact .inr (by omega)
theorem zeroCells_one {zc : Array Value} (h : ∀ u ∈ zc, u.oneCell' = true) (n : Nat) : ∀ u ∈ (Builtin.zeroCells zc n).toList, u.oneCell' = true := by
  intro u hu
  simp only [Builtin.zeroCells, Array.toList_map, List.mem_map] at hu
  obtain ⟨i, hi, rfl⟩ := hu
  have hi' : i < n * zc.size := by simpa using hi
  have hpos : 0 < zc.size := by
    rcases Nat.eq_zero_or_pos zc.size with h0 | h0
    · rw [h0] at hi'; omega
    · exact h0
  have hlt := Nat.mod_lt i hpos
  rw [getElem!_pos zc _ hlt]
  exact h _ (Array.getElem_mem hlt)
/-- clear of a list of the call's own: what was there is zero; cut to nothing it is a list of the call's own again. -/
theorem wpList_clearN {α : Type} {sz : Nat} {c : α → List Value} (hgd : o.guard = none) (s : Operand) {t e : TypeId} (ho : o.op = .call { callee := .builtin .clear, args := #[s], argTypes := #[t] })
    {z : Value} {bytes base : Nat} (ht : P.underlying t = some (.slice e)) (hi : (P.info? e).map (fun i => (i.zero, i.size, i.bytes)) = some (some z, sz, bytes)) (hz : z.cells.size = sz) (h1 : ∀ u ∈ z.cells, u.oneCell' = true)
    (v : Value) (l : List α) (hs : a.eval s = v) (hv : OwnN sz c base e w v l)
    (h : ∀ w', Upd (blk v) w w' → w'.heap.size = w.heap.size → (∀ ao cap, v = .slice ao l.length cap → OwnN sz c base e w' (.slice ao 0 cap) ([] : List α)) → wpList P ops Q rest (a.put o.dst (.tuple #[])) w') : wpList P ops Q (o :: rest) a w := by
  obtain ⟨i, i1, i2, i3, i4⟩ := info_parts hi
  have key : ∃ w', (Builtin.clear_ #[t] o.type #[v]).run P w = .ok (.tuple #[]) w' ∧ Upd (blk v) w w' ∧ w'.heap.size = w.heap.size ∧ (∀ ao cap, v = .slice ao l.length cap → OwnN sz c base e w' (.slice ao 0 cap) ([] : List α)) := by
    rcases hv.2 with ⟨rfl, hn⟩ | ⟨g, cap, cur, rfl, hb, hg, hc, hm, hsz, htk⟩
    · refine ⟨w, ?_, Upd.refl _ _, rfl, ?_⟩
      · simp [Builtin.clear_, run_underlying ht]
      · intro ao cap he; injection he with e1 e2 e3; subst e1; subst e3; exact World.ownsRow_nil _ _ _ _
    · by_cases h0 : l.length = 0
      · refine ⟨w, ?_, Upd.refl _ _, rfl, ?_⟩
        · rw [h0]; simp [Builtin.clear_, run_underlying ht]
        · intro ao cap' he; injection he with e1 e2 e3; subst e1; subst e3
          exact ⟨by simp, .inr ⟨g, _, cur, rfl, hb, hg, by simp, hm, hsz, by simp⟩⟩
      · have hzl : (Builtin.zeroCells z.cells l.length).toList.length = l.length * sz := by rw [Array.length_toList, size_zeroCells, hz]
        have hfit : 0 + 0 + (Builtin.zeroCells z.cells l.length).toList.length ≤ cur.size := by
          rw [hzl, hsz]; have := Nat.mul_le_mul_right sz hc; omega
        have hst := run_storeCells_at (P := P) g 0 e _ 0 cur w hg hfit (zeroCells_one h1 l.length)
        have hlen : (List.take (0 + 0) cur.toList ++ (Builtin.zeroCells z.cells l.length).toList ++ List.drop (0 + 0 + (Builtin.zeroCells z.cells l.length).toList.length) cur.toList).toArray.size = cap * sz := by
          simp only [List.size_toArray, List.length_append, List.length_take, List.length_drop, hzl]
          rw [Array.length_toList, hsz]
          have := Nat.mul_le_mul_right sz hc
          omega
        generalize (List.take (0 + 0) cur.toList ++ (Builtin.zeroCells z.cells l.length).toList ++ List.drop (0 + 0 + (Builtin.zeroCells z.cells l.length).toList.length) cur.toList).toArray = ys at hst hlen
        refine ⟨w.setRow g ys, ?_, ⟨rfl, rfl, rfl, by simp, fun k _ hk => setRow_other w g k _ (by simpa [blk] using hk)⟩, by simp, ?_⟩
        · obtain ⟨m, hm'⟩ : ∃ m, l.length = m + 1 := ⟨l.length - 1, by omega⟩
          rw [hm'] at hst ⊢
          have hzv : (zeroValue e).run P w = .ok z w := by simp [zeroValue, typeInfo, i1, i2]
          simp only [Builtin.clear_]
          simp [run_underlying ht, hzv, hst]
        · intro ao cap' he; injection he with e1 e2 e3; subst e1; subst e3
          exact ⟨by simp, .inr ⟨g, _, _, rfl, hb, setRow_heap w g cur _ e _ hg, by simp, hm, hlen, by simp⟩⟩
  obtain ⟨w', hr, k1, k2, k3⟩ := key
  refine wpList_plain hgd fun K hK => ?_
  unfold Oper.wp execOp
  simp only [ho, resolve, invoke, builtin, Sem.run_bind, Sem.run_pure, Result.andThen_ok, List.map_toArray, List.map_cons, List.map_nil, hs, hr]
  exact hK _ _ (h w' k1 k2 k3)
end
end Go.Proofs.Ytmhdhnipljonlaa
