/- Arguments that are items. -/
import Derived.Test.YthnmlifnlmdelaaUpto
import Derived.Test.YthnmlifnlmdelaaOpenN
import Derived.Test.YthnmlifnlmdelaaSls
import Derived.Lib.SmallJoins
namespace Go.Proofs.Ythnmlifnlmdelaa
open Go.ChangeShapes Go.WideShapes Go.ChangeAt Go.RowKit Go.Deep Go.Joins
set_option linter.unusedSimpArgs false
set_option linter.unusedVariables false
/-- An item. -/
structure Itm where
  kd : Int
  n : Int
  mo : Int
  s : ByteArray
  f : Bool
  lv : Sl
  l : List Int
instance : Inhabited Itm := ⟨⟨0, 0, 0, .empty, false, default, []⟩⟩
abbrev itCells (x : Itm) : List Value := [.int .i64 x.kd, .int .i64 x.n, .int .i64 x.mo, .string x.s, .bool x.f, slv x.lv]
structure ItGood (w : World) (x : Itm) (b : Nat) : Prop where
  kd : I64 x.kd
  n : I64 x.n
  mo : I64 x.mo
  rd : Rd iv w (slv x.lv) x.l
  li : ∀ y ∈ x.l, I64 y
  ss : x.s.size ≤ b
  ls : x.l.length ≤ b
section
variable {H : Type} {enc : TypeId × Value → H} {P : Program} {w : World} {b0 : Nat} {held : Bool}
theorem el_fieldsD {e : TypeId} {fs : Array Field} {n : Nat} {cs : List Value} {y : DataW H × List MemPlace} (he : P.underlying e = some (.struct fs)) (hone : oneCellFields P fs = true) (hC : cs.length = fs.size)
    (h : DataW.trod enc P w 0 (fun _ => true) held n e cs = some y) (j : Nat) (f : Field) (hj : fs[j]? = some f) : ∃ (n' : Nat) (v : Value) (z : DataW H × List MemPlace), cs[j]? = some v ∧ DataW.trod enc P w 0 (fun _ => true) held n' f.type [v] = some z ∧ Rows.uptoBulk z.1 ≤ Rows.uptoBulk y.1 := by
  obtain ⟨ys, n', hn', hy, hlen, hyl, hf⟩ := DataW.trod_struct he h
  obtain ⟨ho, hk⟩ := hone_of hone j f hj
  have hjl : j < fs.size := (Array.getElem?_eq_some_iff.1 hj).1
  have h1 := hf j f hj
  rw [ho, hk] at h1
  have hone' : (cs.drop j).take 1 = [cs[j]'(by omega)] := by
    rw [List.drop_eq_getElem_cons (by omega)]; rfl
  rw [hone'] at h1
  have hys : ys[j]? = some (ys[j]'(by omega)) := List.getElem?_eq_getElem (by omega)
  refine ⟨n', _, _, List.getElem?_eq_getElem (by omega), h1.trans hys, ?_⟩
  rw [hy]
  have : (ys[j]'(by omega)).1 ∈ ys.map (·.1) := List.mem_map.2 ⟨_, List.getElem_mem _, rfl⟩
  have := bulk_part this
  simp only [Rows.uptoBulk]
  omega
theorem el_numsD {t e : TypeId} (ht : P.underlying t = some (.slice e)) (he : P.underlying e = some (.int .i64)) (hc : P.cellsOf e = 1) (n : Nat) (v : Value) (y : DataW H × List MemPlace) (h : DataW.trod enc P w 0 (fun _ => true) held n t [v] = some y) :
    ∃ (x : Sl) (l : List Int), v = slv x ∧ Rd iv w (slv x) l ∧ (∀ z ∈ l, I64 z) ∧ DLen y.1 l.length := by
  obtain ⟨a0, len0, cap0, rfl⟩ := trod_slice_form ht h
  rcases open_slice1 ht hc h with ⟨hcs, hx⟩ | ⟨a, len, cap, m, n, V, D, Pl, hcs, hb, hl, hm, hmm, hx, hi⟩
  · simp at hcs
    obtain ⟨rfl, rfl, rfl⟩ := hcs
    exact ⟨⟨none, 0, 0⟩, [], rfl, Rd.nil w, by simp, .inl rfl⟩
  · simp at hcs
    obtain ⟨rfl, rfl, rfl⟩ := hcs
    simp only [if_true] at hmm
    subst hmm
    obtain ⟨l, hl', hp⟩ := exists_list len0 (fun i x => V i = iv x ∧ I64 x) (fun i hi' => by
      obtain ⟨x, h1, h2⟩ := el_int he _ _ _ (hi i (by omega)).2
      exact ⟨x, h1, i64_of h2⟩)
    refine ⟨⟨some a, len0, _⟩, l, rfl, ⟨_, _, by rw [hl'], by omega, hm, fun hne => ?_⟩, fun z hz => ?_, .inr ⟨_, _, congrArg Prod.fst hx, by simp [hl']⟩⟩
    · have hpos : 0 < len0 := by rw [← hl']; exact List.length_pos_iff.2 hne
      obtain ⟨b, off, spot⟩ := a
      have hspot : spot = none := by simpa [Addr.add] using World.cell?_spot (hi 0 (by omega)).1
      subst hspot
      refine ⟨b, off, rfl, fun j hj => ?_⟩
      have h1 := (hi j (by omega)).1
      have h2 := hp j (by omega)
      rw [add_none, h2.1] at h1
      exact h1
    · obtain ⟨i, hi', rfl⟩ := List.mem_iff_getElem.1 hz
      have := (hp i (by omega)).2
      rwa [nth_get l i hi'] at this
theorem dlen_bulk {d : DataW H} {k : Nat} (h : DLen d k) : k ≤ Rows.uptoBulk d := by
  rcases h with rfl | ⟨es, sp, rfl, rfl⟩
  · exact Nat.zero_le _
  · have := bulk_len es
    simp only [Rows.uptoBulk]; omega
end
theorem cells_int : Try.checked.prog.cellsOf 3 = 1 := by kernel_rfl
theorem el_item {H : Type} {enc : TypeId × Value → H} {w : World} (n : Nat) (cs : List Value) (y : DataW H × List MemPlace) (hl : cs.length = 6) (h : DataW.trod enc Try.prog w 0 (fun _ => true) true n 58 cs = some y) :
    ∃ x : Itm, cs = itCells x ∧ ItGood w x (Rows.uptoBulk y.1) := by
  obtain ⟨_, v0, z0, h0, t0, b0⟩ := el_fieldsD Try.underlying58 (by kernel_rfl) hl h 0 _ rfl
  obtain ⟨_, v1, z1, h1, t1, b1⟩ := el_fieldsD Try.underlying58 (by kernel_rfl) hl h 1 _ rfl
  obtain ⟨_, v2, z2, h2, t2, b2⟩ := el_fieldsD Try.underlying58 (by kernel_rfl) hl h 2 _ rfl
  obtain ⟨_, v3, z3, h3, t3, b3⟩ := el_fieldsD Try.underlying58 (by kernel_rfl) hl h 3 _ rfl
  obtain ⟨_, v4, z4, h4, t4, b4⟩ := el_fieldsD Try.underlying58 (by kernel_rfl) hl h 4 _ rfl
  obtain ⟨m5, v5, z5, h5, t5, b5⟩ := el_fieldsD Try.underlying58 (by kernel_rfl) hl h 5 _ rfl
  obtain ⟨k0, rfl, g0⟩ := el_int Try.underlying3 _ _ _ t0
  obtain ⟨k1, rfl, g1⟩ := el_int Try.underlying3 _ _ _ t1
  obtain ⟨k2, rfl, g2⟩ := el_int Try.underlying3 _ _ _ t2
  obtain ⟨s, hs1, hs2, hs3⟩ := DataW.trod_string Try.underlying9 t3
  obtain ⟨f, hf1, _⟩ := DataW.trod_bool Try.underlying4 t4
  obtain ⟨lv, l, rfl, hl1, hl2, hl3⟩ := el_numsD Try.underlying38 Try.underlying3 cells_int _ _ _ t5
  simp at hs1 hf1
  subst hs1 hf1
  have hb3 : s.size ≤ Rows.uptoBulk z3.1 := by rw [hs2]; simp [Rows.uptoBulk]
  have hb5 := dlen_bulk hl3
  match cs, hl with
  | [a0, a1, a2, a3, a4, a5], _ =>
    simp at h0 h1 h2 h3 h4 h5
    exact ⟨⟨k0, k1, k2, s, f, lv, l⟩, by rw [h0, h1, h2, h3, h4, h5], ⟨i64_of g0, i64_of g1, i64_of g2, hl1, hl2, by show s.size ≤ _; omega, by show l.length ≤ _; omega⟩⟩
theorem cells_item : Try.checked.prog.cellsOf 58 = 6 := by kernel_rfl
theorem cells_item' : Try.prog.cellsOf 58 = 6 := by kernel_rfl
/-- An item that is handed in. -/
theorem open_item {H : Type} {enc : TypeId × Value → H} {w : World} {b0 : Nat} {v : Value} {d : DataW H} {p : List MemPlace} (hval : Value.okWide Try.prog w .any b0 58 v) (h : DataW.Trod enc Try.prog w 0 (fun _ => true) true 58 v d p) :
    ∃ x : Itm, v = .agg #[.int .i64 x.kd, .int .i64 x.n, .int .i64 x.mo, .string x.s, .bool x.f, slv x.lv] ∧ ItGood w x (Rows.uptoBulk d) := by
  obtain ⟨cs, rfl, hsz⟩ := okWide_struct Try.underlying58 hval
  obtain ⟨fuel, hf⟩ := h
  rw [cells_item'] at hsz
  have hcl : (Value.agg cs).cells.toList.length = 6 := by simpa [Value.cells] using hsz
  obtain ⟨x, hx, hg⟩ := el_item fuel _ _ (by simpa [Value.cells] using hsz) hf
  refine ⟨x, ?_, hg⟩
  have : cs.toList = itCells x := by simpa [Value.cells] using hx
  have h2 : cs = (itCells x).toArray := by rw [← this]
  rw [h2]
theorem item_small {H : Type} {ds : List (DataW H)} {d : DataW H} (hk : Rows.uptoSmall H ds = true) (hd : d ∈ ds) : Rows.uptoBulk d ≤ 1048576 := by
  have h1 : Rows.uptoBulkAll ds ≤ 1048576 := of_decide_eq_true hk
  have h2 := bulk_part hd
  omega
section
variable {H : Type} {enc : TypeId × Value → H} {P : Program} {w : World} {b0 : Nat} {held : Bool}
theorem open_rdND {α : Type} [Inhabited α] (sz : Nat) (c : α → List Value) (good : α → DataW H → Prop) {t e : TypeId} {v : Value} {d : DataW H} {p : List MemPlace} (ht : P.underlying t = some (.slice e)) (hc : P.cellsOf e = sz) (hpos : 0 < sz)
    (hel : ∀ n cs y, cs.length = sz → DataW.trod enc P w 0 (fun _ => true) held n e cs = some y → ∃ x, cs = c x ∧ good x y.1)
    (hval : Value.okWide P w .any b0 t v) (h : DataW.Trod enc P w 0 (fun _ => true) held t v d p) :
    ∃ (l : List α) (D : Nat → DataW H), RdN sz c w v l ∧ (∀ i, i < l.length → good (nth l i) (D i)) ∧ (l.length = 0 ∨ ∃ sp, d = .slice ((List.range l.length).map D) sp) := by
  obtain ⟨a0, len0, cap0, rfl⟩ := okWide_slice ht hval
  obtain ⟨fuel, hf⟩ := h
  rcases open_slice ht hf with ⟨hcs, hx⟩ | ⟨a, len, cap, m, n, D, Pl, hcs, hb, hl, hm, hmm, hx, hi⟩
  · simp [Value.cells] at hcs
    obtain ⟨rfl, rfl, rfl⟩ := hcs
    exact ⟨[], fun _ => .nil, ⟨none, 0, rfl, Nat.le_refl _, Nat.zero_le _, fun q => absurd rfl q⟩, fun i hi => by simp at hi, .inl rfl⟩
  · simp [Value.cells] at hcs
    obtain ⟨rfl, rfl, rfl⟩ := hcs
    simp only [if_true] at hmm
    subst hmm
    obtain ⟨l, hl', hp⟩ := exists_list len0 (fun i x => w.cells? 0 (a.add (i * sz)) sz = some (c x) ∧ good x (D i)) (fun i hi' => by
      obtain ⟨cs', hc1, hc2⟩ := hi i (by omega)
      rw [hc] at hc1
      obtain ⟨_, hcl, _⟩ := World.cells?_some hc1
      obtain ⟨x, rfl, hg⟩ := hel _ _ _ hcl hc2
      exact ⟨x, hc1, hg⟩)
    refine ⟨l, D, ?_, fun i hi' => (hp i (by omega)).2, .inr ⟨_, by rw [hl']; exact congrArg Prod.fst hx⟩⟩
    refine ⟨_, _, by rw [hl'], by omega, hm, fun hne => ?_⟩
    have hpos' : 0 < len0 := by rw [← hl']; exact List.length_pos_iff.2 hne
    obtain ⟨b, off, spot⟩ := a
    have hspot : spot = none := by
      have h0 := (hp 0 (by omega)).1
      obtain ⟨_, hcl, hat⟩ := World.cells?_some h0
      have h1 := hat 0 hpos
      rw [List.getElem?_eq_getElem (by omega)] at h1
      simpa [Addr.add] using World.cell?_spot h1
    subst hspot
    refine ⟨b, off, rfl, fun j hj i hi' => ?_⟩
    obtain ⟨_, hcl, hat⟩ := World.cells?_some (hp j (by omega)).1
    have h1 := hat i hi'
    rw [add_none, add_none] at h1
    rw [← Nat.add_assoc]; exact h1
end
/-- Items that are handed in, within the bound of the second form. -/
theorem open_items {H : Type} {enc : TypeId × Value → H} {w : World} {b0 : Nat} {v : Value} {d : DataW H} {p : List MemPlace} {ds : List (DataW H)} (hk : Rows.uptoSmall H ds = true) (hd : d ∈ ds) (hval : Value.okWide Try.prog w .any b0 54 v) (h : DataW.Trod enc Try.prog w 0 (fun _ => true) true 54 v d p) :
    ∃ l : List Itm, RdN 6 itCells w v l ∧ (∀ i, i < l.length → ItGood w (nth l i) 1048576) ∧ l.length ≤ 1048576 := by
  obtain ⟨l, D, h1, h2, h3⟩ := open_rdND 6 itCells (fun x d => ItGood w x (Rows.uptoBulk d)) Try.underlying54 cells_item' (by omega) (fun n cs y hl h => el_item n cs y hl h) hval h
  have hsm := item_small hk hd
  refine ⟨l, h1, fun i hi => ?_, ?_⟩
  · rcases h3 with h3 | ⟨sp, rfl⟩
    · omega
    · have hb : Rows.uptoBulk (D i) ≤ 1048576 := by
        have := bulk_part (show D i ∈ (List.range l.length).map D from List.mem_map.2 ⟨i, List.mem_range.2 hi, rfl⟩)
        simp only [Rows.uptoBulk] at hsm; omega
      obtain ⟨g1, g2, g3, g4, g5, g6, g7⟩ := h2 i hi
      exact ⟨g1, g2, g3, g4, g5, Nat.le_trans g6 hb, Nat.le_trans g7 hb⟩
  · rcases h3 with h3 | ⟨sp, rfl⟩
    · omega
    · have := bulk_len ((List.range l.length).map D)
      simp only [Rows.uptoBulk, List.length_map, List.length_range] at hsm this; omega
end Go.Proofs.Ythnmlifnlmdelaa
