/- Arguments opened, with what the sizes of their inner lists are. -/
import Derived.Test.YthnmlifnlmdelaaOpen
namespace Go.Proofs.Ythnmlifnlmdelaa
open Go.ChangeShapes Go.WideShapes Go.ChangeAt Go.RowKit Go.Deep
open Go.ChangeMaps (open_string shut_string)
set_option linter.unusedSimpArgs false
set_option linter.unusedVariables false
section
variable {H : Type} {enc : TypeId × Value → H} {P : Program} {w : World} {b0 : Nat} {held : Bool}
theorem open_rdW {α : Type} [Inhabited α] (c : α → Value) (good : α → DataW H → Prop) {t e : TypeId} {v : Value} {d : DataW H} {p : List MemPlace} (ht : P.underlying t = some (.slice e)) (hc : P.cellsOf e = 1)
    (hel : ∀ n v y, DataW.trod enc P w 0 (fun _ => true) held n e [v] = some y → ∃ x, v = c x ∧ good x y.1)
    (hval : Value.okWide P w .any b0 t v) (h : DataW.Trod enc P w 0 (fun _ => true) held t v d p) :
    ∃ (l : List α) (D : Nat → DataW H), Rd c w v l ∧ (∀ i, i < l.length → good (nth l i) (D i)) ∧ (l.length = 0 ∨ ∃ sp, d = .slice ((List.range l.length).map D) sp) := by
  obtain ⟨a0, len0, cap0, rfl⟩ := okWide_slice ht hval
  obtain ⟨fuel, hf⟩ := h
  rcases open_slice1 ht hc hf with ⟨hcs, hx⟩ | ⟨a, len, cap, m, n, V, D, Pl, hcs, hb, hl, hm, hmm, hx, hi⟩
  · simp [Value.cells] at hcs
    obtain ⟨rfl, rfl, rfl⟩ := hcs
    exact ⟨[], fun _ => .nil, Rd.nil w, fun i hi => by simp at hi, .inl rfl⟩
  · simp [Value.cells] at hcs
    obtain ⟨rfl, rfl, rfl⟩ := hcs
    simp only [if_true] at hmm
    subst hmm
    obtain ⟨l, hl', hp⟩ := exists_list len0 (fun i x => V i = c x ∧ good x (D i)) (fun i hi' => hel _ _ _ (hi i (by omega)).2)
    refine ⟨l, D, ?_, fun i hi' => (hp i (by omega)).2, .inr ⟨_, by rw [hl']; exact congrArg Prod.fst hx⟩⟩
    refine ⟨_, _, by rw [hl'], by omega, hm, fun hne => ?_⟩
    have hpos : 0 < len0 := by rw [← hl']; exact List.length_pos_iff.2 hne
    obtain ⟨b, off, spot⟩ := a
    have hspot : spot = none := by simpa [Addr.add] using World.cell?_spot (hi 0 (by omega)).1
    subst hspot
    refine ⟨b, off, rfl, fun j hj => ?_⟩
    have h1 := (hi j (by omega)).1
    have h2 := hp j (by omega)
    rw [add_none, h2.1] at h1
    exact h1
theorem weights_in {e : TypeId} : ∀ {ds : List (DataW H)} {d : DataW H} {n : Nat}, d ∈ ds → n ∈ d.weights P e → n ∈ DataW.weightsAll P e ds
  | [], _, _, h, _ => by cases h
  | x :: r, d, n, h, hn => by
    simp only [DataW.weightsAll, List.mem_append]
    rcases List.mem_cons.1 h with rfl | h
    · exact .inl hn
    · exact .inr (weights_in h hn)
theorem weights_el {t e : TypeId} (ht : P.underlying t = some (.slice e)) {k : Nat} {D : Nat → DataW H} {sp : List (DataW H)} {i : Nat} (hi : i < k) {n : Nat} (hn : n ∈ (D i).weights P e) : n ∈ (DataW.slice ((List.range k).map D) sp).weights P t := by
  simp only [DataW.weights, ht, List.mem_cons, List.mem_append]
  exact .inr (.inl (weights_in (List.mem_map.2 ⟨i, List.mem_range.2 hi, rfl⟩) hn))
theorem el_bytesD {t e : TypeId} (ht : P.underlying t = some (.slice e)) (he : P.underlying e = some (.int .u8)) (hc : P.cellsOf e = 1) (n : Nat) (v : Value) (y : DataW H × List MemPlace) (h : DataW.trod enc P w 0 (fun _ => true) held n t [v] = some y) :
    ∃ x : Value, v = id x ∧ ∃ l : List UInt8, Bytes w x l ∧ DLen y.1 l.length := by
  obtain ⟨a0, len0, cap0, rfl⟩ := trod_slice_form ht h
  refine ⟨_, rfl, ?_⟩
  rcases open_slice1 ht hc h with ⟨hcs, hx⟩ | ⟨a, len, cap, m, n, V, D, Pl, hcs, hb, hl, hm, hmm, hx, hi⟩
  · simp at hcs
    obtain ⟨rfl, rfl, rfl⟩ := hcs
    exact ⟨[], Rd.nil w, .inl rfl⟩
  · simp at hcs
    obtain ⟨rfl, rfl, rfl⟩ := hcs
    simp only [if_true] at hmm
    subst hmm
    obtain ⟨l, hl', hp⟩ := exists_list len0 (fun i x => V i = bv x ∧ True) (fun i hi' => el_byte he _ _ _ (hi i (by omega)).2)
    refine ⟨l, ⟨_, _, by rw [hl'], by omega, hm, fun hne => ?_⟩, .inr ⟨_, _, congrArg Prod.fst hx, by simp [hl']⟩⟩
    have hpos : 0 < len0 := by rw [← hl']; exact List.length_pos_iff.2 hne
    obtain ⟨b, off, spot⟩ := a
    have hspot : spot = none := by simpa [Addr.add] using World.cell?_spot (hi 0 (by omega)).1
    subst hspot
    refine ⟨b, off, rfl, fun j hj => ?_⟩
    have h1 := (hi j (by omega)).1
    have h2 := hp j (by omega)
    rw [add_none, h2.1] at h1
    exact h1
theorem dlen_weights {t e : TypeId} (ht : P.underlying t = some (.slice e)) {d : DataW H} {k B : Nat} (h : DLen d k) (hw : ∀ n ∈ d.weights P t, n ≤ B) : k * P.bytesOf e ≤ B := by
  rcases h with rfl | ⟨es, sp, rfl, rfl⟩
  · simp
  · refine Nat.le_trans (Nat.mul_le_mul_right _ (Nat.le_add_right _ sp.length)) (hw _ ?_)
    simp [DataW.weights, ht]
/-- Lists of bytes, each of a size that a machine could bear. -/
theorem open_partsW {t t2 e : TypeId} {v : Value} {d : DataW H} {p : List MemPlace} (ht : P.underlying t = some (.slice t2)) (hc2 : P.cellsOf t2 = 1) (ht2 : P.underlying t2 = some (.slice e)) (he : P.underlying e = some (.int .u8)) (hc : P.cellsOf e = 1) (hby : P.bytesOf e = 1)
    (hval : Value.okWide P w .any b0 t v) (h : DataW.Trod enc P w 0 (fun _ => true) held t v d p) :
    ∃ (vs : List Value) (ls : List (List UInt8)), vs.length = ls.length ∧ Rd id w v vs ∧ (∀ j, j < ls.length → Bytes w (nth vs j) (nth ls j)) ∧
      (∀ (ts : List TypeId) (ds : List (DataW H)) (j : Nat), (DataW.weightsEach P ts ds).all (· ≤ reachBytes) = true → ts[j]? = some t → ds[j]? = some d → ∀ i, i < ls.length → (nth ls i).length ≤ 140737488351232) := by
  obtain ⟨vs, D, h1, h2, h3⟩ := open_rdW (α := Value) id (fun x d => ∃ l : List UInt8, Bytes w x l ∧ DLen d l.length) ht hc2 (el_bytesD ht2 he hc) hval h
  obtain ⟨ls, hl, hp⟩ := exists_list vs.length (fun i l => Bytes w (nth vs i) l ∧ DLen (D i) l.length) (fun i hi => h2 i hi)
  refine ⟨vs, ls, hl.symm, h1, fun j hj => (hp j (by omega)).1, fun ts ds j hall htj hdj i hi => ?_⟩
  rcases h3 with h3 | ⟨sp, rfl⟩
  · omega
  · have := dlen_weights ht2 (hp i (by omega)).2 (B := reachBytes) (fun n hn => by
      have := List.all_eq_true.1 hall _ (DataW.weights_mem_each htj hdj n (weights_el ht (by omega) hn))
      simpa using this)
    rw [hby, Nat.mul_one] at this
    exact this
end
end Go.Proofs.Ythnmlifnlmdelaa
