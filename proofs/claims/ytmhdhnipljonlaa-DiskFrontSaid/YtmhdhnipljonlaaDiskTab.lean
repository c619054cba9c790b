/- Chapter 22: a table of files in memory. -/
import Derived.Test.YtmhdhnipljonlaaDiskKB
import Derived.Test.YtmhdhnipljonlaaDiskPlain
import Derived.Test.YtmhdhnipljonlaaTabSL9
namespace Go.Proofs.Ytmhdhnipljonlaa
open Go.RowKit
set_option linter.unusedSimpArgs false
set_option linter.unusedVariables false
set_option linter.unusedSectionVars false
abbrev CF := List (ByteArray × (Sl × List UInt8))
abbrev rowsF (cs : CF) : List (ByteArray × Sl) := tMap id (·.1) cs
abbrev dfOf (cs : CF) : DF := tMap id (·.2) cs
section
variable {ν μ : Type} [Inhabited ν] [Inhabited μ]
theorem strLt_irr (a b : ByteArray) (h : strLt a b = true) : a ≠ b := by rintro rfl; rw [strOrd.irr] at h; exact absurd h (by simp)
theorem mem_take_nthS {α : Type} [Inhabited α] {l : List α} {n : Nat} {p : α} (h : p ∈ l.take n) : ∃ i, i < n ∧ i < l.length ∧ nth l i = p := by
  obtain ⟨i, hi, rfl⟩ := List.mem_iff_getElem.1 h
  rw [List.length_take] at hi
  exact ⟨i, by omega, by omega, by rw [nth_get l i (by omega)]; simp⟩
theorem mem_drop_nthS {α : Type} [Inhabited α] {l : List α} {n : Nat} {p : α} (h : p ∈ l.drop n) : ∃ i, n ≤ i ∧ i < l.length ∧ nth l i = p := by
  obtain ⟨i, hi, rfl⟩ := List.mem_iff_getElem.1 h
  rw [List.length_drop] at hi
  exact ⟨n + i, by omega, by omega, by rw [nth_get l _ (by omega)]; simp⟩
theorem tSet_memS {l : List (ByteArray × ν)} (h : Rising strLt l) (k : ByteArray) (v : ν) (p : ByteArray × ν) (hp : p ∈ tSet strLt l k v) : p = (k, v) ∨ (p ∈ l ∧ p.1 ≠ k) := by
  unfold tSet at hp
  rcases List.mem_append.1 hp with hp | hp
  · obtain ⟨i, hi, hl, rfl⟩ := mem_take_nthS hp
    exact .inr ⟨nth_mem i hl, strLt_irr _ _ (below_lt l k i hi)⟩
  · rcases List.mem_cons.1 hp with hp | hp
    · exact .inl hp
    · obtain ⟨i, hi, hl, rfl⟩ := mem_drop_nthS hp
      exact .inr ⟨nth_mem i hl, (strLt_irr _ _ (above strOrd h k i hi hl)).symm⟩
theorem tDel_memS {l : List (ByteArray × ν)} (h : Rising strLt l) (k : ByteArray) (p : ByteArray × ν) (hp : p ∈ tDel strLt l k) : p ∈ l ∧ (isIn strLt l k = true → p.1 ≠ k) := by
  refine ⟨tDel_mem l k p hp, fun hin => ?_⟩
  unfold tDel at hp
  rw [if_pos hin] at hp
  rcases List.mem_append.1 hp with hp | hp
  · obtain ⟨i, hi, hl, rfl⟩ := mem_take_nthS hp
    exact strLt_irr _ _ (below_lt l k i hi)
  · obtain ⟨i, hi, hl, rfl⟩ := mem_drop_nthS hp
    exact (strLt_irr _ _ (above strOrd h k i (by rw [if_pos hin]; exact hi) hl)).symm
variable (f : ν → μ)
theorem mapS_isIn (l : List (ByteArray × ν)) (k : ByteArray) : isIn strLt (tMap id f l) k = isIn strLt l k := tMap_isIn (lt := strLt) (lt' := strLt) id f (fun _ => True) (fun _ _ _ _ => rfl) (fun _ _ _ _ h => h) l (fun _ _ => trivial) k trivial
theorem mapS_below (l : List (ByteArray × ν)) (k : ByteArray) : below strLt (tMap id f l) k = below strLt l k := tMap_below (lt := strLt) (lt' := strLt) id f (fun _ => True) (fun _ _ _ _ => rfl) l (fun _ _ => trivial) k trivial
theorem mapS_set (l : List (ByteArray × ν)) (k : ByteArray) (v : ν) : tSet strLt (tMap id f l) k (f v) = tMap id f (tSet strLt l k v) := tMap_set (lt := strLt) (lt' := strLt) id f (fun _ => True) (fun _ _ _ _ => rfl) (fun _ _ _ _ h => h) l (fun _ _ => trivial) k trivial v
theorem mapS_del (l : List (ByteArray × ν)) (k : ByteArray) : tDel strLt (tMap id f l) k = tMap id f (tDel strLt l k) := tMap_del (lt := strLt) (lt' := strLt) id f (fun _ => True) (fun _ _ _ _ => rfl) (fun _ _ _ _ h => h) l (fun _ _ => trivial) k trivial
theorem mapS_len (l : List (ByteArray × ν)) : (tMap (κ' := ByteArray) id f l).length = l.length := by simp [tMap]
theorem mapS_rising {l : List (ByteArray × ν)} (h : Rising strLt (tMap (κ' := ByteArray) id f l)) : Rising strLt l := fun i j hij hj => by
  have hl := mapS_len f l
  have := h i j hij (by rw [hl]; exact hj)
  rwa [tMap_nth id f l i (by omega), tMap_nth id f l j hj] at this
theorem mapS_rising' {l : List (ByteArray × ν)} (h : Rising strLt l) : Rising strLt (tMap (κ' := ByteArray) id f l) := fun i j hij hj => by
  have hl := mapS_len f l
  rw [tMap_nth id f l i (by omega), tMap_nth id f l j (by omega)]
  exact h i j hij (by omega)
end
theorem df_len (cs : CF) : (dfOf cs).length = cs.length := by simp [tMap]
theorem rowsF_len (cs : CF) : (rowsF cs).length = cs.length := by simp [tMap]
/-- A table of files at g. -/
structure TD (w0 w : World) (g : Nat) (F B : List Nat) (K : KB) (cs : CF) : Prop where
  tab : TXSL w0 w g F (rowsF cs)
  sh : ∀ c ∈ cs, Sh B K c.2.1 c.2.2
  gr : ∀ c ∈ cs, Gr B K c.2.1 c.2.2
  ap : ∀ c ∈ cs, ∀ d ∈ cs, c.1 ≠ d.1 → Ap (gb c.2.1) (gb d.2.1)
theorem sl_ty {w0 w : World} {g : Nat} {F : List Nat} {l : List (ByteArray × Sl)} (h : TXSL w0 w g F l) : ∀ x ∈ F, ∃ C f e, w.heap[x]? = some (.cells C e f) ∧ (e = 140 ∨ e = 143) := by
  intro x hx
  obtain ⟨lv, rfl, ht⟩ := h.ex
  rcases List.mem_cons.1 hx with rfl | hx
  · exact ⟨_, _, _, ht.tab, .inl rfl⟩
  · obtain ⟨C, f, hq⟩ := ht.rows.typ x hx
    exact ⟨C, f, _, hq, .inr rfl⟩
theorem ty_eq {w : World} {x : Nat} {C C' : Array Value} {e e' : TypeId} {f f' : Nat × Nat} (h : w.heap[x]? = some (.cells C e f)) (h' : w.heap[x]? = some (.cells C' e' f')) : e = e' := by
  rw [h] at h'
  injection h' with h1; injection h1
theorem sl_bks {w0 w : World} {g base : Nat} {F B : List Nat} {K : KB} {l : List (ByteArray × Sl)} (h : TXSL w0 w g F l) (k : Bks base w B K) : Ap F B := by
  intro x hx hB
  obtain ⟨C, f, e, h1, h2⟩ := sl_ty h x hx
  obtain ⟨C', f', h1'⟩ := k.typ x hB
  have := ty_eq h1 h1'
  rcases h2 with h2 | h2 <;> (rw [h2] at this; exact absurd this (by decide))
section
variable {w0 w w' : World} {g : Nat} {F B B' : List Nat} {K K' : KB} {cs : CF}
theorem TD.ris (h : TD w0 w g F B K cs) : Rising strLt cs := mapS_rising (fun x : Sl × List UInt8 => x.1) h.tab.ris
theorem TD.risD (h : TD w0 w g F B K cs) : Rising strLt (dfOf cs) := mapS_rising' (fun x : Sl × List UInt8 => x.2) h.ris
theorem TD.upd (h : TD w0 w g F B K cs) {S : List Nat} (hu : Upd S w w') (hs : ∀ x ∈ F, x ∉ S) (hS : ∀ x ∈ S, w0.heap.size ≤ x) : TD w0 w' g F B K cs := ⟨h.tab.upd hu hs hS, h.sh, h.gr, h.ap⟩
theorem TD.upd0 (h : TD w0 w g F B K cs) (hu : Upd [] w w') : TD w0 w' g F B K cs := h.upd hu (by simp) (by simp)
/-- Blocks are added; none of those that the table's files may grow in is written. -/
theorem TD.keep (h : TD w0 w g F B K cs) (he : Ext B K B' K') (hk : ∀ x ∈ B, K' x = K x) : TD w0 w g F B' K' cs :=
  ⟨h.tab, fun c hc => (h.sh c hc).ext he, fun c hc => (h.gr c hc).keep he.sub hk, h.ap⟩
/-- No file has room behind it. -/
def Full (cs : CF) : Prop := ∀ c ∈ cs, c.2.1.k ≤ c.2.1.n
theorem TD.ext (h : TD w0 w g F B K cs) (hf : Full cs) (he : Ext B K B' K') : TD w0 w g F B' K' cs :=
  ⟨h.tab, fun c hc => (h.sh c hc).ext he, fun c hc => Gr.full (hf c hc), h.ap⟩
theorem get_rows (cs : CF) (k : ByteArray) (h : isIn strLt cs k = true) : tGet strLt (⟨none, 0, 0⟩ : Sl) (rowsF cs) k = ((nth cs (below strLt cs k)).2.1, true) := by
  have hlt : below strLt cs k < cs.length := by unfold isIn at h; exact (of_decide_eq_true h).1
  unfold tGet
  rw [mapS_isIn (·.1) cs k, h, if_pos rfl, mapS_below (·.1) cs k, tMap_nth id (·.1) cs _ hlt]
theorem get_rows_no (cs : CF) (k : ByteArray) (h : isIn strLt cs k = false) : tGet strLt (⟨none, 0, 0⟩ : Sl) (rowsF cs) k = (⟨none, 0, 0⟩, false) := by
  unfold tGet
  rw [mapS_isIn (·.1) cs k, h]; rfl
theorem get_df (cs : CF) (k : ByteArray) (h : isIn strLt cs k = true) : dGet (dfOf cs) k = ((nth cs (below strLt cs k)).2.2, true) := by
  have hlt : below strLt cs k < cs.length := by unfold isIn at h; exact (of_decide_eq_true h).1
  unfold dGet tGet
  rw [mapS_isIn (·.2) cs k, h, if_pos rfl, mapS_below (·.2) cs k, tMap_nth id (·.2) cs _ hlt]
theorem in_df (cs : CF) (k : ByteArray) : inD (dfOf cs) k = isIn strLt cs k := mapS_isIn (·.2) cs k
/-- A file is found: its slice, and what is known of it; or there is none. -/
theorem TD.found (h : TD w0 w g F B K cs) (k : ByteArray) : ∃ s l b, tGet strLt (⟨none, 0, 0⟩ : Sl) (rowsF cs) k = (s, b) ∧ dGet (dfOf cs) k = (l, b) ∧ inD (dfOf cs) k = b ∧ Sh B K s l ∧ Gr B K s l ∧ (∀ d ∈ cs, d.1 ≠ k → Gr B K d.2.1 d.2.2 ∧ Ap (gb d.2.1) (gb s)) := by
  cases hin : isIn strLt cs k with
  | true =>
    have hd : below strLt cs k < cs.length ∧ (nth cs (below strLt cs k)).1 = k := by unfold isIn at hin; exact of_decide_eq_true hin
    have hm := nth_mem (l := cs) _ hd.1
    exact ⟨_, _, true, get_rows cs k hin, get_df cs k hin, by rw [in_df, hin], h.sh _ hm, h.gr _ hm, fun d hd' hne => ⟨h.gr d hd', h.ap d hd' _ hm (by rw [hd.2]; exact hne)⟩⟩
  | false =>
    refine ⟨⟨none, 0, 0⟩, [], false, get_rows_no cs k hin, dGet_no (by rw [in_df, hin]), by rw [in_df, hin], Sh.nil, Gr.full (Nat.le_refl _), fun d hd _ => ⟨h.gr d hd, fun x _ hx => ?_⟩⟩
    rw [gb_full (Nat.le_refl _)] at hx; simp at hx
/-- Behind a call on a table: the files are fs'. -/
def TDoes (w0 w : World) (g : Nat) (F B : List Nat) (K : KB) (fs' : DF) (w' : World) : Prop :=
  ∃ F' B' K' cs', TD w0 w' g F' B' K' cs' ∧ Bks w0.heap.size w' B' K' ∧ Ext B K B' K' ∧ dfOf cs' = fs' ∧ Upd (F ++ B) w w' ∧ (∀ x ∈ F', x ∈ F ∨ w.heap.size ≤ x) ∧ (∀ x ∈ B', x ∈ B ∨ w.heap.size ≤ x)
theorem td_set (k : ByteArray) (s : Sl) (l : List UInt8) (ht : TXSL w0 w g F (rowsF cs)) (hB : Bks w0.heap.size w B K) (hlen : cs.length ≤ 100000) (hc : ∀ d ∈ cs, d.1 ≠ k → Sh B K d.2.1 d.2.2 ∧ Gr B K d.2.1 d.2.2 ∧ Ap (gb d.2.1) (gb s)) (hap : ∀ c ∈ cs, ∀ d ∈ cs, c.1 ≠ d.1 → Ap (gb c.2.1) (gb d.2.1)) (hs : Sh B K s l) (hg : Gr B K s l) :
    Calls Try.prog 88 #[.pointer (some ⟨g, 0, none⟩), sv k, slv s] w fun e w' => (∃ r, e = .returned (.bool r)) ∧ ∃ F', TD w0 w' g F' B K (tSet strLt cs k (s, l)) ∧ Bks w0.heap.size w' B K ∧ Upd F w w' ∧ (∀ x ∈ F', x ∈ F ∨ w.heap.size ≤ x) := by
  have hr : Rising strLt cs := mapS_rising (fun x : Sl × List UInt8 => x.1) ht.ris
  refine (txSL_Set k s _ _ ht (by rw [rowsF_len]; exact hlen) trivial rfl rfl).mono ?_
  rintro e w' ⟨rfl, F', hf, hu, hfr⟩
  have hrow : tSet ltSL (rowsF cs) k s = rowsF (tSet strLt cs k (s, l)) := mapS_set (·.1) cs k (s, l)
  rw [hrow] at hf
  refine ⟨⟨_, rfl⟩, F', ⟨hf, fun c hm => ?_, fun c hm => ?_, fun c hm d hd hne => ?_⟩, hB.upd hu (sl_bks ht hB).symm, hu, hfr⟩
  · rcases tSet_memS hr k _ c hm with rfl | ⟨q, qk⟩
    · exact hs
    · exact (hc c q qk).1
  · rcases tSet_memS hr k _ c hm with rfl | ⟨q, qk⟩
    · exact hg
    · exact (hc c q qk).2.1
  · rcases tSet_memS hr k _ c hm with rfl | ⟨q, qk⟩ <;> rcases tSet_memS hr k _ d hd with rfl | ⟨r, rk⟩
    · exact absurd rfl hne
    · exact (hc d r rk).2.2.symm
    · exact (hc c q qk).2.2
    · exact hap c q d r hne
theorem td_del (k : ByteArray) (h : TD w0 w g F B K cs) (hB : Bks w0.heap.size w B K) (hlen : cs.length ≤ 100000) :
    Calls Try.prog 89 #[.pointer (some ⟨g, 0, none⟩), sv k] w fun e w' => (∃ r, e = .returned (.bool r)) ∧ ∃ F', TD w0 w' g F' B K (tDel strLt cs k) ∧ Bks w0.heap.size w' B K ∧ Upd F w w' ∧ (∀ x ∈ F', x ∈ F ∨ w.heap.size ≤ x) := by
  refine (txSL_Del k _ _ h.tab (by rw [rowsF_len]; exact hlen) trivial rfl rfl).mono ?_
  rintro e w' ⟨rfl, F', hf, hu, hfr⟩
  have hrow : tDel ltSL (rowsF cs) k = rowsF (tDel strLt cs k) := mapS_del (·.1) cs k
  rw [hrow] at hf
  exact ⟨⟨_, rfl⟩, F', ⟨hf, fun c hm => h.sh c (tDel_mem cs k c hm), fun c hm => h.gr c (tDel_mem cs k c hm), fun c hm d hd hne => h.ap c (tDel_mem cs k c hm) d (tDel_mem cs k d hd) hne⟩, hB.upd hu (sl_bks h.tab hB).symm, hu, hfr⟩
theorem df_set (cs : CF) (k : ByteArray) (s : Sl) (l : List UInt8) : dfOf (tSet strLt cs k (s, l)) = tSet strLt (dfOf cs) k l := (mapS_set (·.2) cs k (s, l)).symm
theorem df_del (cs : CF) (k : ByteArray) : dfOf (tDel strLt cs k) = tDel strLt (dfOf cs) k := (mapS_del (·.2) cs k).symm
end
end Go.Proofs.Ytmhdhnipljonlaa
