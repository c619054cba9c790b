/- Chapter 21: the table of files written, as a yard in memory sees it. -/
import Derived.Test.YtmhdhnipljonlaaYardPlain
namespace Go.Proofs.Ytmhdhnipljonlaa
open Go.RowKit
set_option linter.unusedSimpArgs false
set_option linter.unusedVariables false
theorem mem_take_nth {α : Type} [Inhabited α] {l : List α} {n : Nat} {p : α} (h : p ∈ l.take n) : ∃ i, i < n ∧ i < l.length ∧ nth l i = p := by
  obtain ⟨i, hi, rfl⟩ := List.mem_iff_getElem.1 h
  rw [List.length_take] at hi
  exact ⟨i, by omega, by omega, by rw [nth_get l i (by omega)]; simp⟩
theorem mem_drop_nth {α : Type} [Inhabited α] {l : List α} {n : Nat} {p : α} (h : p ∈ l.drop n) : ∃ i, n ≤ i ∧ i < l.length ∧ nth l i = p := by
  obtain ⟨i, hi, rfl⟩ := List.mem_iff_getElem.1 h
  rw [List.length_drop] at hi
  exact ⟨n + i, by omega, by omega, by rw [nth_get l _ (by omega)]; simp⟩
section
variable {ν : Type} [Inhabited ν]
theorem ltY_irr (a b : Int) (h : ltY a b = true) : a ≠ b := by simp [ltY] at h; omega
theorem tSet_memk {l : List (Int × ν)} (h : Rising ltY l) (k : Int) (v : ν) (p : Int × ν) (hp : p ∈ tSet ltY l k v) : p = (k, v) ∨ (p ∈ l ∧ p.1 ≠ k) := by
  unfold tSet at hp
  rcases List.mem_append.1 hp with hp | hp
  · obtain ⟨i, hi, hl, rfl⟩ := mem_take_nth hp
    exact .inr ⟨nth_mem i hl, ltY_irr _ _ (below_lt l k i hi)⟩
  · rcases List.mem_cons.1 hp with hp | hp
    · exact .inl hp
    · obtain ⟨i, hi, hl, rfl⟩ := mem_drop_nth hp
      exact .inr ⟨nth_mem i hl, (ltY_irr _ _ (above intOrd h k i hi hl)).symm⟩
theorem tDel_memk {l : List (Int × ν)} (h : Rising ltY l) (k : Int) (p : Int × ν) (hp : p ∈ tDel ltY l k) : p ∈ l ∧ (isIn ltY l k = true → p.1 ≠ k) := by
  refine ⟨tDel_mem l k p hp, fun hin => ?_⟩
  unfold tDel at hp
  rw [if_pos hin] at hp
  rcases List.mem_append.1 hp with hp | hp
  · obtain ⟨i, hi, hl, rfl⟩ := mem_take_nth hp
    exact ltY_irr _ _ (below_lt l k i hi)
  · obtain ⟨i, hi, hl, rfl⟩ := mem_drop_nth hp
    exact (ltY_irr _ _ (above intOrd h k i (by rw [if_pos hin]; exact hi) hl)).symm
variable {μ : Type} [Inhabited μ] (f : ν → μ)
theorem mapY_isIn (l : List (Int × ν)) (k : Int) : isIn ltY (tMap id f l) k = isIn ltY l k := tMap_isIn (lt := ltY) (lt' := ltY) id f (fun _ => True) (fun _ _ _ _ => rfl) (fun _ _ _ _ h => h) l (fun _ _ => trivial) k trivial
theorem mapY_below (l : List (Int × ν)) (k : Int) : below ltY (tMap id f l) k = below ltY l k := tMap_below (lt := ltY) (lt' := ltY) id f (fun _ => True) (fun _ _ _ _ => rfl) l (fun _ _ => trivial) k trivial
theorem mapY_set (l : List (Int × ν)) (k : Int) (v : ν) : tSet ltY (tMap id f l) k (f v) = tMap id f (tSet ltY l k v) := tMap_set (lt := ltY) (lt' := ltY) id f (fun _ => True) (fun _ _ _ _ => rfl) (fun _ _ _ _ h => h) l (fun _ _ => trivial) k trivial v
theorem mapY_del (l : List (Int × ν)) (k : Int) : tDel ltY (tMap id f l) k = tMap id f (tDel ltY l k) := tMap_del (lt := ltY) (lt' := ltY) id f (fun _ => True) (fun _ _ _ _ => rfl) (fun _ _ _ _ h => h) l (fun _ _ => trivial) k trivial
theorem mapY_rising {l : List (Int × ν)} (h : Rising ltY (tMap id f l)) : Rising ltY l := fun i j hij hj => by
  have hl : (tMap id f l).length = l.length := by simp [tMap]
  have := h i j hij (by rw [hl]; exact hj)
  rwa [tMap_nth id f l i (by omega), tMap_nth id f l j hj] at this
theorem mapY_rising' {l : List (Int × ν)} (h : Rising ltY l) : Rising ltY (tMap id f l) := fun i j hij hj => by
  have hl : (tMap id f l).length = l.length := by simp [tMap]
  rw [tMap_nth id f l i (by omega), tMap_nth id f l j (by omega)]
  exact h i j hij (by omega)
theorem mapY_free {l : List (Int × ν)} : freeIno (tMap id f l) = freeIno l := by
  unfold freeIno
  simp only [mapY_isIn]
  have hl : (tMap id f l).length = l.length := by simp [tMap]
  rw [hl]
end
theorem own_nil (base : Nat) (e : TypeId) (w : World) : Own bv base e w (slv ⟨none, 0, 0⟩) [] := World.ownsRow_nil _ _ _ _
theorem ap_none (G : List Nat) : Ap (blk (slv ⟨none, 0, 0⟩)) G := Ap.nil
theorem files_len (cs : CL) : (filesOf cs).length = cs.length := by simp [filesOf, tMap]
theorem nth_files (cs : CL) (i : Nat) (hi : i < cs.length) : nth (filesOf cs) i = ((nth cs i).1, (nth cs i).2.1.1, (nth cs i).2.2) := tMap_nth id (fun v : (ByteArray × Sl) × List UInt8 => (v.1.1, v.2)) cs i hi
section
variable {w0 w : World} {gy gf gt : Nat} {F T : List Nat} {cs : CL} {tk : List (Int × Int)}
theorem YC.p0 (h : YC w0 w gy gf gt F T cs tk) : w.cell? ⟨gy, 0, none⟩ = some (.pointer (some ⟨gf, 0, none⟩)) := h.yard.cell 0
theorem YC.p1 (h : YC w0 w gy gf gt F T cs tk) : w.cell? ⟨gy, 1, none⟩ = some (.pointer (some ⟨gt, 0, none⟩)) := h.yard.cell 1
theorem YC.ris (h : YC w0 w gy gf gt F T cs tk) : Rising ltY cs := mapY_rising (·.1) h.files.ris
theorem yFind_no (s : ByteArray) (h : YC w0 w gy gf gt F T cs tk) (hlen : cs.length ≤ 1000) (hn : hasN (filesOf cs) s = false) :
    Calls Try.prog 50 #[.pointer (some ⟨gy, 0, none⟩), sv s] w fun e w' => e = .returned (.tuple #[iv 0, fv zF]) ∧ Upd [] w w' := by
  have hle := findN_le (filesOf cs) s
  unfold hasN at hn
  have hn := of_decide_eq_false hn
  rw [files_len] at hle hn
  exact yFind_any s cs.length 0 _ _ h hlen (Nat.le_refl _) (fun j hj => by
    have := findN_lt (filesOf cs) s j (by omega)
    rwa [nth_files cs j hj] at this) (.inr ⟨rfl, rfl, rfl⟩)
theorem yFind_yes (s : ByteArray) (i : Nat) (h : YC w0 w gy gf gt F T cs tk) (hlen : cs.length ≤ 1000) (hn : hasN (filesOf cs) s = true) (hi : findN (filesOf cs) s = i) :
    Calls Try.prog 50 #[.pointer (some ⟨gy, 0, none⟩), sv s] w fun e w' => e = .returned (.tuple #[iv (nth cs i).1, fv (nth cs i).2.1]) ∧ Upd [] w w' := by
  subst hi
  unfold hasN at hn
  have hn := of_decide_eq_true hn
  have hat := findN_at (filesOf cs) s hn
  have hlo := fun j hj => findN_lt (filesOf cs) s j hj
  rw [files_len] at hn
  rw [nth_files cs _ hn] at hat
  exact yFind_any s _ _ _ _ h hlen (Nat.le_of_lt hn) (fun j hj => by
    have := hlo j hj
    rwa [nth_files cs j (by omega)] at this) (.inl ⟨hn, hat, rfl, rfl⟩)
/-- Set on the table of files. -/
theorem YC.set (h : YC w0 w gy gf gt F T cs tk) (hlen : cs.length ≤ 1000) (k : Int) (hk : I64 k) (nm : ByteArray) (sl : Sl) (p : List UInt8) (ho : Own bv w0.heap.size 5 w (slv sl) p) (hap : ∀ d ∈ cs, d.1 ≠ k → Ap (blk (slv sl)) (blk (slv d.2.1.2))) :
    Calls Try.prog 53 #[.pointer (some ⟨gf, 0, none⟩), iv k, fv (nm, sl)] w fun e w' => (∃ r, e = .returned (.bool r)) ∧ (∃ F', YC w0 w' gy gf gt F' T (tSet ltY cs k ((nm, sl), p)) tk ∧ Upd F w w' ∧ (∀ x ∈ F', x ∈ F ∨ w.heap.size ≤ x)) := by
  refine (txIF_Set k (nm, sl) _ _ h.files (by rw [rows_len]; omega) hk rfl rfl).mono ?_
  rintro e w' ⟨rfl, F', hf, hu, hfr⟩
  have hrow : tSet ltIF (rowsOf cs) k (nm, sl) = rowsOf (tSet ltY cs k ((nm, sl), p)) := mapY_set (·.1) cs k ((nm, sl), p)
  rw [hrow] at hf
  refine ⟨⟨_, rfl⟩, F', h.setFiles hf hu ?_ ?_, hu, hfr⟩
  · intro c hc
    rcases tSet_memk h.ris k _ c hc with rfl | ⟨q, -⟩
    · exact ho
    · exact h.own c q
  · intro c hc d hd hne
    rcases tSet_memk h.ris k _ c hc with rfl | ⟨q, qk⟩ <;> rcases tSet_memk h.ris k _ d hd with rfl | ⟨r, rk⟩
    · exact absurd rfl hne
    · exact hap d r rk
    · exact (hap c q qk).symm
    · exact h.ap c q d r hne
theorem YC.del (h : YC w0 w gy gf gt F T cs tk) (hlen : cs.length ≤ 1000) (k : Int) (hk : I64 k) :
    Calls Try.prog 54 #[.pointer (some ⟨gf, 0, none⟩), iv k] w fun e w' => (∃ r, e = .returned (.bool r)) ∧ (∃ F', YC w0 w' gy gf gt F' T (tDel ltY cs k) tk ∧ Upd F w w' ∧ (∀ x ∈ F', x ∈ F ∨ w.heap.size ≤ x)) := by
  refine (txIF_Del k _ _ h.files (by rw [rows_len]; omega) hk rfl rfl).mono ?_
  rintro e w' ⟨rfl, F', hf, hu, hfr⟩
  have hrow : tDel ltIF (rowsOf cs) k = rowsOf (tDel ltY cs k) := mapY_del (·.1) cs k
  rw [hrow] at hf
  exact ⟨⟨_, rfl⟩, F', h.setFiles hf hu (fun c hc => h.own c (tDel_mem cs k c hc)) (fun c hc d hd hne => h.ap c (tDel_mem cs k c hc) d (tDel_mem cs k d hd) hne), hu, hfr⟩
end
/-- A yard's blocks. -/
def foot (gy : Nat) (F T : List Nat) (cs : CL) : List Nat := gy :: (F ++ T ++ cs.flatMap fun c => blk (slv c.2.1.2))
theorem foot_mem (gy : Nat) (F T : List Nat) (cs : CL) (x : Nat) : x ∈ foot gy F T cs ↔ x = gy ∨ x ∈ F ∨ x ∈ T ∨ ∃ c ∈ cs, x ∈ blk (slv c.2.1.2) := by
  unfold foot
  simp only [List.mem_cons, List.mem_append, List.mem_flatMap]
  constructor
  · rintro (h | (h | h) | h)
    · exact .inl h
    · exact .inr (.inl h)
    · exact .inr (.inr (.inl h))
    · exact .inr (.inr (.inr h))
  · rintro (h | h | h | h)
    · exact .inl h
    · exact .inr (.inl (.inl h))
    · exact .inr (.inl (.inr h))
    · exact .inr (.inr h)
theorem YC.ge {w0 w : World} {gy gf gt : Nat} {F T : List Nat} {cs : CL} {tk : List (Int × Int)} (h : YC w0 w gy gf gt F T cs tk) : ∀ x ∈ foot gy F T cs, w0.heap.size ≤ x ∧ x < w.heap.size := by
  intro x hx
  rcases (foot_mem gy F T cs x).1 hx with rfl | hx | hx | ⟨c, hc, hx⟩
  · exact ⟨h.gyb, h.yard.lt⟩
  · exact h.files.ge x hx
  · exact h.taken.ge x hx
  · exact (h.own c hc).ge x hx
/-- A yard, as the laws see it; G: its blocks. -/
structure YD (w0 w : World) (gy : Nat) (G : List Nat) (fl : FL) (tk : List (Int × Int)) : Prop where
  ex : ∃ gf gt F T cs, YC w0 w gy gf gt F T cs tk ∧ filesOf cs = fl ∧ cs.length ≤ 12 ∧ (∀ c ∈ cs, 1 ≤ c.1 ∧ c.1 ≤ 12 ∧ c.2.2.length ≤ 65536) ∧ G = foot gy F T cs
/-- Behind a call: the files are fl', and nothing but the yard's blocks has changed. -/
def YOut (w0 w : World) (gy : Nat) (G : List Nat) (fl' : FL) (tk' : List (Int × Int)) (w' : World) : Prop := ∃ G', YD w0 w' gy G' fl' tk' ∧ Upd G w w' ∧ (∀ x ∈ G', x ∈ G ∨ w.heap.size ≤ x)
section
variable {w0 w w' : World} {gy : Nat} {G : List Nat} {fl : FL} {tk : List (Int × Int)}
theorem YD.old (h : YD w0 w gy G fl tk) : Upd [] w0 w := by
  obtain ⟨gf, gt, F, T, cs, hc, -⟩ := h.ex
  exact hc.old
theorem YD.ge (h : YD w0 w gy G fl tk) : ∀ x ∈ G, w0.heap.size ≤ x ∧ x < w.heap.size := by
  obtain ⟨gf, gt, F, T, cs, hc, -, -, -, rfl⟩ := h.ex
  exact hc.ge
theorem YD.ris (h : YD w0 w gy G fl tk) : Rising ltY fl ∧ fl.length ≤ 12 ∧ (∀ p ∈ fl, 1 ≤ p.1 ∧ p.1 ≤ 12 ∧ p.2.2.length ≤ 65536) := by
  obtain ⟨gf, gt, F, T, cs, hc, rfl, hl, hin, -⟩ := h.ex
  refine ⟨mapY_rising' _ hc.ris, by rw [files_len]; exact hl, fun p hp => ?_⟩
  unfold filesOf tMap at hp
  obtain ⟨c, hcm, rfl⟩ := List.mem_map.1 hp
  exact hin c hcm
theorem YC.upd {gf gt : Nat} {F T : List Nat} {cs : CL} (h : YC w0 w gy gf gt F T cs tk) {S : List Nat} (hu : Upd S w w') (hs : ∀ x ∈ foot gy F T cs, x ∉ S) (hS : ∀ x ∈ S, w0.heap.size ≤ x) : YC w0 w' gy gf gt F T cs tk :=
  ⟨h.yard.upd hu (hs gy ((foot_mem _ _ _ _ _).2 (.inl rfl))), h.gyb, h.files.upd hu (fun x hx => hs x ((foot_mem _ _ _ _ _).2 (.inr (.inl hx)))) hS, h.taken.upd hu (fun x hx => hs x ((foot_mem _ _ _ _ _).2 (.inr (.inr (.inl hx))))) hS, fun c hc => (h.own c hc).upd hu (fun x hx => hs x ((foot_mem _ _ _ _ _).2 (.inr (.inr (.inr ⟨c, hc, hx⟩))))), h.ap⟩
theorem YD.upd (h : YD w0 w gy G fl tk) {S : List Nat} (hu : Upd S w w') (hs : ∀ x ∈ G, x ∉ S) (hS : ∀ x ∈ S, w0.heap.size ≤ x) : YD w0 w' gy G fl tk := by
  obtain ⟨gf, gt, F, T, cs, hc, h1, h2, h3, rfl⟩ := h.ex
  exact ⟨gf, gt, F, T, cs, hc.upd hu hs hS, h1, h2, h3, rfl⟩
theorem YD.upd0 (h : YD w0 w gy G fl tk) (hu : Upd [] w w') : YD w0 w' gy G fl tk := h.upd hu (by simp) (by simp)
theorem YD.out0 (h : YD w0 w gy G fl tk) (hu : Upd [] w w') : YOut w0 w gy G fl tk w' := ⟨G, h.upd0 hu, hu.mono (by simp), fun x hx => .inl hx⟩
theorem YOut.of {gf' gt' : Nat} {F T F' T' : List Nat} {cs cs' : CL} {fl' : FL} {tk' : List (Int × Int)} (h' : YC w0 w' gy gf' gt' F' T' cs' tk') (hfl : filesOf cs' = fl') (hl : cs'.length ≤ 12) (hin : ∀ c ∈ cs', 1 ≤ c.1 ∧ c.1 ≤ 12 ∧ c.2.2.length ≤ 65536)
    (hu : Upd (foot gy F T cs) w w') (hF : ∀ x ∈ F', x ∈ foot gy F T cs ∨ w.heap.size ≤ x) (hT : ∀ x ∈ T', x ∈ foot gy F T cs ∨ w.heap.size ≤ x) (hcs : ∀ c ∈ cs', ∀ x ∈ blk (slv c.2.1.2), x ∈ foot gy F T cs ∨ w.heap.size ≤ x) : YOut w0 w gy (foot gy F T cs) fl' tk' w' := by
  refine ⟨foot gy F' T' cs', ⟨gf', gt', F', T', cs', h', hfl, hl, hin, rfl⟩, hu, fun x hx => ?_⟩
  rcases (foot_mem _ _ _ _ _).1 hx with rfl | hx | hx | ⟨c, hc, hx⟩
  · exact .inl ((foot_mem _ _ _ _ _).2 (.inl rfl))
  · exact hF x hx
  · exact hT x hx
  · exact hcs c hc x hx
theorem foot_F {gy : Nat} {F T : List Nat} {cs : CL} {x : Nat} (h : x ∈ F) : x ∈ foot gy F T cs := (foot_mem _ _ _ _ _).2 (.inr (.inl h))
theorem foot_T {gy : Nat} {F T : List Nat} {cs : CL} {x : Nat} (h : x ∈ T) : x ∈ foot gy F T cs := (foot_mem _ _ _ _ _).2 (.inr (.inr (.inl h)))
theorem foot_c {gy : Nat} {F T : List Nat} {cs : CL} {x : Nat} {c : Int × (ByteArray × Sl) × List UInt8} (hc : c ∈ cs) (h : x ∈ blk (slv c.2.1.2)) : x ∈ foot gy F T cs := (foot_mem _ _ _ _ _).2 (.inr (.inr (.inr ⟨c, hc, h⟩)))
end
end Go.Proofs.Ytmhdhnipljonlaa
