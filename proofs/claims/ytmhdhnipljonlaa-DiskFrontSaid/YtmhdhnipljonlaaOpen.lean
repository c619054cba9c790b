/- Arguments opened: what a law's arguments are, in our own words. -/
import Derived.Test.YtmhdhnipljonlaaShell
namespace Go.Proofs.Ytmhdhnipljonlaa
open Go.ChangeShapes Go.WideShapes Go.ChangeAt Go.RowKit Go.Deep
open Go.ChangeMaps (open_string shut_string)
set_option linter.unusedSimpArgs false
set_option linter.unusedVariables false

theorem exists_list {α : Type} [Inhabited α] (n : Nat) (p : Nat → α → Prop) (h : ∀ i, i < n → ∃ x, p i x) : ∃ l : List α, l.length = n ∧ ∀ i, i < n → p i (nth l i) := by
  induction n with
  | zero => exact ⟨[], rfl, fun i hi => absurd hi (by omega)⟩
  | succ n ih =>
    obtain ⟨l, hl, hp⟩ := ih (fun i hi => h i (by omega))
    obtain ⟨x, hx⟩ := h n (by omega)
    refine ⟨l ++ [x], by simp [hl], fun i hi => ?_⟩
    by_cases e : i = n
    · subst e; rw [nth_of _ _ x (by rw [List.getElem?_append_right (by omega)]; simp [hl])]; exact hx
    · rw [nth_of _ _ (nth l i) (by rw [List.getElem?_append_left (by omega), nth_get l i (by omega)]; exact List.getElem?_eq_getElem (by omega))]; exact hp i (by omega)

/-- So many elements has a reading. -/
def DLen {H : Type} (d : DataW H) (n : Nat) : Prop := n = 0 ∨ ∃ es sp, d = .slice es sp ∧ es.length = n
section
variable {H : Type} {enc : TypeId × Value → H} {P : Program} {w : World} {b0 : Nat} {held : Bool}
theorem open_rd {α : Type} [Inhabited α] (c : α → Value) (good : α → Prop) {t e : TypeId} {v : Value} {d : DataW H} {p : List MemPlace} (ht : P.underlying t = some (.slice e)) (hc : P.cellsOf e = 1)
    (hel : ∀ n v y, DataW.trod enc P w 0 (fun _ => true) held n e [v] = some y → ∃ x, v = c x ∧ good x)
    (hval : Value.okWide P w .any b0 t v) (h : DataW.Trod enc P w 0 (fun _ => true) held t v d p) :
    ∃ l : List α, Rd c w v l ∧ (∀ x ∈ l, good x) ∧ (∀ (ts : List TypeId) (ds : List (DataW H)) (j : Nat), (DataW.weightsEach P ts ds).all (· ≤ reachBytes) = true → ts[j]? = some t → ds[j]? = some d → l.length * P.bytesOf e ≤ reachBytes) ∧ DLen d l.length := by
  obtain ⟨a0, len0, cap0, rfl⟩ := okWide_slice ht hval
  obtain ⟨fuel, hf⟩ := h
  rcases open_slice1 ht hc hf with ⟨hcs, hx⟩ | ⟨a, len, cap, m, n, V, D, Pl, hcs, hb, hl, hm, hmm, hx, hi⟩
  · simp [Value.cells] at hcs
    obtain ⟨rfl, rfl, rfl⟩ := hcs
    exact ⟨[], Rd.nil w, by simp, by intros; simp, .inl rfl⟩
  · simp [Value.cells] at hcs
    obtain ⟨rfl, rfl, rfl⟩ := hcs
    simp only [if_true] at hmm
    subst hmm
    obtain ⟨l, hl', hp⟩ := exists_list len0 (fun i x => V i = c x ∧ good x) (fun i hi' => hel _ _ _ (hi i (by omega)).2)
    refine ⟨l, ?_, ?_, ?_, ?_⟩
    · refine ⟨_, _, by rw [hl'], by omega, hm, fun hne => ?_⟩
      have hpos : 0 < len0 := by rw [← hl']; exact List.length_pos_iff.2 hne
      obtain ⟨b, off, spot⟩ := a
      have hspot : spot = none := by simpa [Addr.add] using World.cell?_spot (hi 0 (by omega)).1
      subst hspot
      refine ⟨b, off, rfl, fun j hj => ?_⟩
      have h1 := (hi j (by omega)).1
      have h2 := hp j (by omega)
      have h3 : (⟨b, off, none⟩ : Addr).add j = ⟨b, off + j, none⟩ := by unfold Addr.add; split <;> simp_all
      rw [h3, h2.1] at h1
      exact h1
    · intro x hx'
      obtain ⟨i, hi', rfl⟩ := List.mem_iff_getElem.1 hx'
      have := (hp i (by omega)).2
      rwa [nth_get l i hi'] at this
    · intro ts ds j hall htj hdj
      have hd := congrArg Prod.fst hx
      simp only at hd
      rw [hd] at hdj
      have := sized_slice hall htj hdj ht
      simp only [List.length_map, List.length_range] at this
      exact Nat.le_trans (Nat.mul_le_mul_right _ (by omega)) this
    · exact .inr ⟨_, _, congrArg Prod.fst hx, by simp [hl']⟩

theorem el_int {k : IntKind} {e : TypeId} (he : P.underlying e = some (.int k)) (n : Nat) (v : Value) (y : DataW H × List MemPlace) (h : DataW.trod enc P w 0 (fun _ => true) held n e [v] = some y) :
    ∃ x : Int, v = .int k x ∧ (Lit.int k x).wf = true := by
  cases n with
  | zero => simp [DataW.trod] at h
  | succ n =>
    simp only [DataW.trod, he] at h
    cases v <;> simp at h
    rename_i k' x
    obtain ⟨⟨rfl, h2⟩, h3⟩ := h
    exact ⟨x, rfl, h2⟩
theorem el_byte {e : TypeId} (he : P.underlying e = some (.int .u8)) (n : Nat) (v : Value) (y : DataW H × List MemPlace) (h : DataW.trod enc P w 0 (fun _ => true) held n e [v] = some y) :
    ∃ x : UInt8, v = bv x ∧ True := by
  obtain ⟨x, rfl, hx⟩ := el_int he n v y h
  have hb : 0 ≤ x ∧ x ≤ 255 := by simpa [Lit.wf, IntKind.min, IntKind.max, IntKind.signed, IntKind.bits] using hx
  refine ⟨UInt8.ofNat x.toNat, ?_, trivial⟩
  have : (UInt8.ofNat x.toNat).toNat = x.toNat := by simp; omega
  rw [bv, this]; congr 1; omega
theorem open_bytes {t e : TypeId} {v : Value} {d : DataW H} {p : List MemPlace} (ht : P.underlying t = some (.slice e)) (he : P.underlying e = some (.int .u8)) (hc : P.cellsOf e = 1) (hby : P.bytesOf e = 1)
    (hval : Value.okWide P w .any b0 t v) (h : DataW.Trod enc P w 0 (fun _ => true) held t v d p) :
    ∃ l : List UInt8, Bytes w v l ∧ (∀ (ts : List TypeId) (ds : List (DataW H)) (j : Nat), (DataW.weightsEach P ts ds).all (· ≤ reachBytes) = true → ts[j]? = some t → ds[j]? = some d → l.length ≤ 140737488351232) ∧ DLen d l.length := by
  obtain ⟨l, h1, _, h3, h4⟩ := open_rd bv (fun _ => True) ht hc (el_byte he) hval h
  refine ⟨l, h1, fun ts ds j a b c => ?_, h4⟩
  have := h3 ts ds j a b c
  rw [hby, Nat.mul_one] at this
  exact this
abbrev iv (x : Int) : Value := .int .i64 x
def I64 (x : Int) : Prop := -9223372036854775808 ≤ x ∧ x ≤ 9223372036854775807
theorem i64_of {x : Int} (h : (Lit.int .i64 x).wf = true) : I64 x := by simpa [I64, Lit.wf, IntKind.min, IntKind.max, IntKind.signed, IntKind.bits] using h
theorem open_nums {t e : TypeId} {v : Value} {d : DataW H} {p : List MemPlace} (ht : P.underlying t = some (.slice e)) (he : P.underlying e = some (.int .i64)) (hc : P.cellsOf e = 1) (hby : P.bytesOf e = 8)
    (hval : Value.okWide P w .any b0 t v) (h : DataW.Trod enc P w 0 (fun _ => true) held t v d p) :
    ∃ l : List Int, Rd iv w v l ∧ (∀ x ∈ l, I64 x) ∧ (∀ (ts : List TypeId) (ds : List (DataW H)) (j : Nat), (DataW.weightsEach P ts ds).all (· ≤ reachBytes) = true → ts[j]? = some t → ds[j]? = some d → l.length * 8 ≤ 140737488351232) ∧ DLen d l.length := by
  obtain ⟨l, h1, h2, h3, h4⟩ := open_rd iv (fun x => (Lit.int .i64 x).wf = true) ht hc (fun n v y hh => el_int he n v y hh) hval h
  refine ⟨l, h1, fun x hx => i64_of (h2 x hx), fun ts ds j a b c => ?_, h4⟩
  have := h3 ts ds j a b c
  rw [hby] at this
  exact this
theorem open_num {t : TypeId} {v : Value} {d : DataW H} {p : List MemPlace} (ht : P.underlying t = some (.int .i64)) (hval : Value.okWide P w .any b0 t v) (h : DataW.Trod enc P w 0 (fun _ => true) held t v d p) :
    ∃ x : Int, v = iv x ∧ I64 x := by
  obtain ⟨a, rfl, _, _, hw⟩ := open_int ht hval h
  exact ⟨a, rfl, i64_of hw⟩
theorem open_u32 {t : TypeId} {v : Value} {d : DataW H} {p : List MemPlace} (ht : P.underlying t = some (.int .u32)) (hval : Value.okWide P w .any b0 t v) (h : DataW.Trod enc P w 0 (fun _ => true) held t v d p) :
    ∃ x : BitVec 32, v = .int .u32 (x.toNat : Int) := by
  obtain ⟨a, rfl, _, _, hw⟩ := open_int ht hval h
  have hb : 0 ≤ a ∧ a ≤ 4294967295 := by simpa [Lit.wf, IntKind.min, IntKind.max, IntKind.signed, IntKind.bits] using hw
  refine ⟨BitVec.ofNat 32 a.toNat, ?_⟩
  rw [BitVec.toNat_ofNat, Nat.mod_eq_of_lt (by omega)]; congr 1; omega

/-- A slice that is read: its value, and the reading of it. -/
theorem trod_slice_form {t e : TypeId} {n : Nat} {v : Value} {y : DataW H × List MemPlace} (ht : P.underlying t = some (.slice e)) (h : DataW.trod enc P w 0 (fun _ => true) held n t [v] = some y) :
    ∃ a k c, v = .slice a k c := by
  rcases open_slice ht h with ⟨hcs, _⟩ | ⟨a, len, cap, m, n, D, Pl, hcs, _⟩
  · simp at hcs; exact ⟨_, _, _, hcs⟩
  · simp at hcs; exact ⟨_, _, _, hcs⟩
theorem el_bytes {t e : TypeId} (ht : P.underlying t = some (.slice e)) (he : P.underlying e = some (.int .u8)) (hc : P.cellsOf e = 1) (n : Nat) (v : Value) (y : DataW H × List MemPlace) (h : DataW.trod enc P w 0 (fun _ => true) held n t [v] = some y) :
    ∃ x : Value, v = id x ∧ ∃ l : List UInt8, Bytes w x l := by
  obtain ⟨a0, len0, cap0, rfl⟩ := trod_slice_form ht h
  refine ⟨_, rfl, ?_⟩
  rcases open_slice1 ht hc h with ⟨hcs, hx⟩ | ⟨a, len, cap, m, n, V, D, Pl, hcs, hb, hl, hm, hmm, hx, hi⟩
  · simp at hcs
    obtain ⟨rfl, rfl, rfl⟩ := hcs
    exact ⟨[], Rd.nil w⟩
  · simp at hcs
    obtain ⟨rfl, rfl, rfl⟩ := hcs
    simp only [if_true] at hmm
    subst hmm
    obtain ⟨l, hl', hp⟩ := exists_list len0 (fun i x => V i = bv x ∧ True) (fun i hi' => el_byte he _ _ _ (hi i (by omega)).2)
    refine ⟨l, _, _, by rw [hl'], by omega, hm, fun hne => ?_⟩
    have hpos : 0 < len0 := by rw [← hl']; exact List.length_pos_iff.2 hne
    obtain ⟨b, off, spot⟩ := a
    have hspot : spot = none := by simpa [Addr.add] using World.cell?_spot (hi 0 (by omega)).1
    subst hspot
    refine ⟨b, off, rfl, fun j hj => ?_⟩
    have h1 := (hi j (by omega)).1
    have h2 := hp j (by omega)
    have h3 : (⟨b, off, none⟩ : Addr).add j = ⟨b, off + j, none⟩ := by unfold Addr.add; split <;> simp_all
    rw [h3, h2.1] at h1
    exact h1
theorem open_parts {t t2 e : TypeId} {v : Value} {d : DataW H} {p : List MemPlace} (ht : P.underlying t = some (.slice t2)) (hc2 : P.cellsOf t2 = 1) (ht2 : P.underlying t2 = some (.slice e)) (he : P.underlying e = some (.int .u8)) (hc : P.cellsOf e = 1)
    (hval : Value.okWide P w .any b0 t v) (h : DataW.Trod enc P w 0 (fun _ => true) held t v d p) :
    ∃ (vs : List Value) (ls : List (List UInt8)), vs.length = ls.length ∧ Rd id w v vs ∧ ∀ j, j < ls.length → Bytes w (nth vs j) (nth ls j) := by
  obtain ⟨vs, h1, h2, _, _⟩ := open_rd (α := Value) id (fun x => ∃ l : List UInt8, Bytes w x l) ht hc2 (el_bytes ht2 he hc) hval h
  obtain ⟨ls, hl, hp⟩ := exists_list vs.length (fun i l => Bytes w (nth vs i) l) (fun i hi => h2 _ (by rw [nth_get vs i hi]; exact List.getElem_mem hi))
  exact ⟨vs, ls, hl.symm, h1, fun j hj => hp j (by omega)⟩
end
end Go.Proofs.Ytmhdhnipljonlaa
