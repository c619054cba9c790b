/- Texts of the proof, joined: Chapter 22: a table of files in memory. Chapter 22: a raw write is done to a table of files. Chapter 22: a disk in memory. Chapter 22: one raw write. Chapter 22: a disk made, and read. Chapter 22: the bytes of all files together; a copy of the files; Mark. Chapter 22: Mark and Back. Chapter 22: may a file have that name?. Chapter 22: Rename, Cut, Remove. -/
import Derived.Test.YtmhojaiajhdlcaaGreatMj5
import Derived.Test.YtmhojaiajhdlcaaGreatMj4
import Derived.Test.YtmhojaiajhdlcaaGreatMj2
import Derived.Deep.RegionHeld3
import Derived.StillTailTactics
import Derived.Deep.RegionLaw
import Derived.Test.YtmhojaiajhdlcaaGreatRows
import Derived.Test.YtmhojaiajhdlcaaGreatMj3
import Derived.Test.YtmhojaiajhdlcaaGreatMj1
namespace Go.Proofs.YtmhojaiajhdlcaaGreat
open Go.RowKit
set_option linter.unusedSimpArgs false
set_option linter.unusedVariables false
set_option linter.unusedSectionVars false
abbrev CF := List (ByteArray × (Sl × List UInt8))
abbrev rowsF (cs : CF) : List (ByteArray × Sl) := tMap id (·.1) cs
abbrev dfOf (cs : CF) : DF := tMap id (·.2) cs
section
variable {ν μ : Type} [Inhabited ν] [Inhabited μ]
theorem strLt_irr (a b : ByteArray) (h : strLt a b = true) : a ≠ b := by rintro rfl; rw [strOrd.irr] at h; exact absurd h (by simp)
theorem mem_take_nthS {α : Type} [Inhabited α] {l : List α} {n : Nat} {p : α} (h : p ∈ l.take n) : ∃ i, i < n ∧ i < l.length ∧ nth l i = p := by
  obtain ⟨i, hi, rfl⟩ := List.mem_iff_getElem.1 h
  rw [List.length_take] at hi
  exact ⟨i, by omega, by omega, by rw [nth_get l i (by omega)]; simp⟩
theorem mem_drop_nthS {α : Type} [Inhabited α] {l : List α} {n : Nat} {p : α} (h : p ∈ l.drop n) : ∃ i, n ≤ i ∧ i < l.length ∧ nth l i = p := by
  obtain ⟨i, hi, rfl⟩ := List.mem_iff_getElem.1 h
  rw [List.length_drop] at hi
  exact ⟨n + i, by omega, by omega, by rw [nth_get l _ (by omega)]; simp⟩
theorem tSet_memS {l : List (ByteArray × ν)} (h : Rising strLt l) (k : ByteArray) (v : ν) (p : ByteArray × ν) (hp : p ∈ tSet strLt l k v) : p = (k, v) ∨ (p ∈ l ∧ p.1 ≠ k) := by
  unfold tSet at hp
  rcases List.mem_append.1 hp with hp | hp
  · obtain ⟨i, hi, hl, rfl⟩ := mem_take_nthS hp
    exact .inr ⟨nth_mem i hl, strLt_irr _ _ (below_lt l k i hi)⟩
  · rcases List.mem_cons.1 hp with hp | hp
    · exact .inl hp
    · obtain ⟨i, hi, hl, rfl⟩ := mem_drop_nthS hp
      exact .inr ⟨nth_mem i hl, (strLt_irr _ _ (above strOrd h k i hi hl)).symm⟩
theorem tDel_memS {l : List (ByteArray × ν)} (h : Rising strLt l) (k : ByteArray) (p : ByteArray × ν) (hp : p ∈ tDel strLt l k) : p ∈ l ∧ (isIn strLt l k = true → p.1 ≠ k) := by
  refine ⟨tDel_mem l k p hp, fun hin => ?_⟩
  unfold tDel at hp
  rw [if_pos hin] at hp
  rcases List.mem_append.1 hp with hp | hp
  · obtain ⟨i, hi, hl, rfl⟩ := mem_take_nthS hp
    exact strLt_irr _ _ (below_lt l k i hi)
  · obtain ⟨i, hi, hl, rfl⟩ := mem_drop_nthS hp
    exact (strLt_irr _ _ (above strOrd h k i (by rw [if_pos hin]; exact hi) hl)).symm
variable (f : ν → μ)
theorem mapS_isIn (l : List (ByteArray × ν)) (k : ByteArray) : isIn strLt (tMap id f l) k = isIn strLt l k := tMap_isIn (lt := strLt) (lt' := strLt) id f (fun _ => True) (fun _ _ _ _ => rfl) (fun _ _ _ _ h => h) l (fun _ _ => trivial) k trivial
theorem mapS_below (l : List (ByteArray × ν)) (k : ByteArray) : below strLt (tMap id f l) k = below strLt l k := tMap_below (lt := strLt) (lt' := strLt) id f (fun _ => True) (fun _ _ _ _ => rfl) l (fun _ _ => trivial) k trivial
theorem mapS_set (l : List (ByteArray × ν)) (k : ByteArray) (v : ν) : tSet strLt (tMap id f l) k (f v) = tMap id f (tSet strLt l k v) := tMap_set (lt := strLt) (lt' := strLt) id f (fun _ => True) (fun _ _ _ _ => rfl) (fun _ _ _ _ h => h) l (fun _ _ => trivial) k trivial v
theorem mapS_del (l : List (ByteArray × ν)) (k : ByteArray) : tDel strLt (tMap id f l) k = tMap id f (tDel strLt l k) := tMap_del (lt := strLt) (lt' := strLt) id f (fun _ => True) (fun _ _ _ _ => rfl) (fun _ _ _ _ h => h) l (fun _ _ => trivial) k trivial
theorem mapS_len (l : List (ByteArray × ν)) : (tMap (κ' := ByteArray) id f l).length = l.length := by simp [tMap]
theorem mapS_rising {l : List (ByteArray × ν)} (h : Rising strLt (tMap (κ' := ByteArray) id f l)) : Rising strLt l := fun i j hij hj => by
  have hl := mapS_len f l
  have := h i j hij (by rw [hl]; exact hj)
  rwa [tMap_nth id f l i (by omega), tMap_nth id f l j hj] at this
theorem mapS_rising' {l : List (ByteArray × ν)} (h : Rising strLt l) : Rising strLt (tMap (κ' := ByteArray) id f l) := fun i j hij hj => by
  have hl := mapS_len f l
  rw [tMap_nth id f l i (by omega), tMap_nth id f l j (by omega)]
  exact h i j hij (by omega)
end
theorem df_len (cs : CF) : (dfOf cs).length = cs.length := by simp [tMap]
theorem rowsF_len (cs : CF) : (rowsF cs).length = cs.length := by simp [tMap]
/-- A table of files at g. -/
structure TD (w0 w : World) (g : Nat) (F B : List Nat) (K : KB) (cs : CF) : Prop where
  tab : TXSL w0 w g F (rowsF cs)
  sh : ∀ c ∈ cs, Sh B K c.2.1 c.2.2
  gr : ∀ c ∈ cs, Gr B K c.2.1 c.2.2
  ap : ∀ c ∈ cs, ∀ d ∈ cs, c.1 ≠ d.1 → Ap (gb c.2.1) (gb d.2.1)
theorem sl_ty {w0 w : World} {g : Nat} {F : List Nat} {l : List (ByteArray × Sl)} (h : TXSL w0 w g F l) : ∀ x ∈ F, ∃ C f e, w.heap[x]? = some (.cells C e f) ∧ (e = 174 ∨ e = 180) := by
  intro x hx
  obtain ⟨lv, rfl, ht⟩ := h.ex
  rcases List.mem_cons.1 hx with rfl | hx
  · exact ⟨_, _, _, ht.tab, .inl rfl⟩
  · obtain ⟨C, f, hq⟩ := ht.rows.typ x hx
    exact ⟨C, f, _, hq, .inr rfl⟩
theorem ty_eq {w : World} {x : Nat} {C C' : Array Value} {e e' : TypeId} {f f' : Nat × Nat} (h : w.heap[x]? = some (.cells C e f)) (h' : w.heap[x]? = some (.cells C' e' f')) : e = e' := by
  rw [h] at h'
  injection h' with h1; injection h1
theorem sl_bks {w0 w : World} {g base : Nat} {F B : List Nat} {K : KB} {l : List (ByteArray × Sl)} (h : TXSL w0 w g F l) (k : Bks base w B K) : Ap F B := by
  intro x hx hB
  obtain ⟨C, f, e, h1, h2⟩ := sl_ty h x hx
  obtain ⟨C', f', h1'⟩ := k.typ x hB
  have := ty_eq h1 h1'
  rcases h2 with h2 | h2 <;> (rw [h2] at this; exact absurd this (by decide))
section
variable {w0 w w' : World} {g : Nat} {F B B' : List Nat} {K K' : KB} {cs : CF}
theorem TD.ris (h : TD w0 w g F B K cs) : Rising strLt cs := mapS_rising (fun x : Sl × List UInt8 => x.1) h.tab.ris
theorem TD.risD (h : TD w0 w g F B K cs) : Rising strLt (dfOf cs) := mapS_rising' (fun x : Sl × List UInt8 => x.2) h.ris
theorem TD.upd (h : TD w0 w g F B K cs) {S : List Nat} (hu : Upd S w w') (hs : ∀ x ∈ F, x ∉ S) (hS : ∀ x ∈ S, w0.heap.size ≤ x) : TD w0 w' g F B K cs := ⟨h.tab.upd hu hs hS, h.sh, h.gr, h.ap⟩
theorem TD.upd0 (h : TD w0 w g F B K cs) (hu : Upd [] w w') : TD w0 w' g F B K cs := h.upd hu (by simp) (by simp)
/-- Blocks are added; none of those that the table's files may grow in is written. -/
theorem TD.keep (h : TD w0 w g F B K cs) (he : Ext B K B' K') (hk : ∀ x ∈ B, K' x = K x) : TD w0 w g F B' K' cs :=
  ⟨h.tab, fun c hc => (h.sh c hc).ext he, fun c hc => (h.gr c hc).keep he.sub hk, h.ap⟩
/-- No file has room behind it. -/
def Full (cs : CF) : Prop := ∀ c ∈ cs, c.2.1.k ≤ c.2.1.n
theorem TD.ext (h : TD w0 w g F B K cs) (hf : Full cs) (he : Ext B K B' K') : TD w0 w g F B' K' cs :=
  ⟨h.tab, fun c hc => (h.sh c hc).ext he, fun c hc => Gr.full (hf c hc), h.ap⟩
theorem get_rows (cs : CF) (k : ByteArray) (h : isIn strLt cs k = true) : tGet strLt (⟨none, 0, 0⟩ : Sl) (rowsF cs) k = ((nth cs (below strLt cs k)).2.1, true) := by
  have hlt : below strLt cs k < cs.length := by unfold isIn at h; exact (of_decide_eq_true h).1
  unfold tGet
  rw [mapS_isIn (·.1) cs k, h, if_pos rfl, mapS_below (·.1) cs k, tMap_nth id (·.1) cs _ hlt]
theorem get_rows_no (cs : CF) (k : ByteArray) (h : isIn strLt cs k = false) : tGet strLt (⟨none, 0, 0⟩ : Sl) (rowsF cs) k = (⟨none, 0, 0⟩, false) := by
  unfold tGet
  rw [mapS_isIn (·.1) cs k, h]; rfl
theorem get_df (cs : CF) (k : ByteArray) (h : isIn strLt cs k = true) : dGet (dfOf cs) k = ((nth cs (below strLt cs k)).2.2, true) := by
  have hlt : below strLt cs k < cs.length := by unfold isIn at h; exact (of_decide_eq_true h).1
  unfold dGet tGet
  rw [mapS_isIn (·.2) cs k, h, if_pos rfl, mapS_below (·.2) cs k, tMap_nth id (·.2) cs _ hlt]
theorem in_df (cs : CF) (k : ByteArray) : inD (dfOf cs) k = isIn strLt cs k := mapS_isIn (·.2) cs k
/-- A file is found: its slice, and what is known of it; or there is none. -/
theorem TD.found (h : TD w0 w g F B K cs) (k : ByteArray) : ∃ s l b, tGet strLt (⟨none, 0, 0⟩ : Sl) (rowsF cs) k = (s, b) ∧ dGet (dfOf cs) k = (l, b) ∧ inD (dfOf cs) k = b ∧ Sh B K s l ∧ Gr B K s l ∧ (∀ d ∈ cs, d.1 ≠ k → Gr B K d.2.1 d.2.2 ∧ Ap (gb d.2.1) (gb s)) := by
  cases hin : isIn strLt cs k with
  | true =>
    have hd : below strLt cs k < cs.length ∧ (nth cs (below strLt cs k)).1 = k := by unfold isIn at hin; exact of_decide_eq_true hin
    have hm := nth_mem (l := cs) _ hd.1
    exact ⟨_, _, true, get_rows cs k hin, get_df cs k hin, by rw [in_df, hin], h.sh _ hm, h.gr _ hm, fun d hd' hne => ⟨h.gr d hd', h.ap d hd' _ hm (by rw [hd.2]; exact hne)⟩⟩
  | false =>
    refine ⟨⟨none, 0, 0⟩, [], false, get_rows_no cs k hin, dGet_no (by rw [in_df, hin]), by rw [in_df, hin], Sh.nil, Gr.full (Nat.le_refl _), fun d hd _ => ⟨h.gr d hd, fun x _ hx => ?_⟩⟩
    rw [gb_full (Nat.le_refl _)] at hx; simp at hx
/-- Behind a call on a table: the files are fs'. -/
def TDoes (w0 w : World) (g : Nat) (F B : List Nat) (K : KB) (fs' : DF) (w' : World) : Prop :=
  ∃ F' B' K' cs', TD w0 w' g F' B' K' cs' ∧ Bks w0.heap.size w' B' K' ∧ Ext B K B' K' ∧ dfOf cs' = fs' ∧ Upd (F ++ B) w w' ∧ (∀ x ∈ F', x ∈ F ∨ w.heap.size ≤ x) ∧ (∀ x ∈ B', x ∈ B ∨ w.heap.size ≤ x)
theorem td_set (k : ByteArray) (s : Sl) (l : List UInt8) (ht : TXSL w0 w g F (rowsF cs)) (hB : Bks w0.heap.size w B K) (hlen : cs.length ≤ 100000) (hc : ∀ d ∈ cs, d.1 ≠ k → Sh B K d.2.1 d.2.2 ∧ Gr B K d.2.1 d.2.2 ∧ Ap (gb d.2.1) (gb s)) (hap : ∀ c ∈ cs, ∀ d ∈ cs, c.1 ≠ d.1 → Ap (gb c.2.1) (gb d.2.1)) (hs : Sh B K s l) (hg : Gr B K s l) :
    Calls Tryz.prog 108 #[.pointer (some ⟨g, 0, none⟩), sv k, slv s] w fun e w' => (∃ r, e = .returned (.bool r)) ∧ ∃ F', TD w0 w' g F' B K (tSet strLt cs k (s, l)) ∧ Bks w0.heap.size w' B K ∧ Upd F w w' ∧ (∀ x ∈ F', x ∈ F ∨ w.heap.size ≤ x) := by
  have hr : Rising strLt cs := mapS_rising (fun x : Sl × List UInt8 => x.1) ht.ris
  refine (txSL_Set k s _ _ ht (by rw [rowsF_len]; exact hlen) trivial rfl rfl).mono ?_
  rintro e w' ⟨rfl, F', hf, hu, hfr⟩
  have hrow : tSet ltSL (rowsF cs) k s = rowsF (tSet strLt cs k (s, l)) := mapS_set (·.1) cs k (s, l)
  rw [hrow] at hf
  refine ⟨⟨_, rfl⟩, F', ⟨hf, fun c hm => ?_, fun c hm => ?_, fun c hm d hd hne => ?_⟩, hB.upd hu (sl_bks ht hB).symm, hu, hfr⟩
  · rcases tSet_memS hr k _ c hm with rfl | ⟨q, qk⟩
    · exact hs
    · exact (hc c q qk).1
  · rcases tSet_memS hr k _ c hm with rfl | ⟨q, qk⟩
    · exact hg
    · exact (hc c q qk).2.1
  · rcases tSet_memS hr k _ c hm with rfl | ⟨q, qk⟩ <;> rcases tSet_memS hr k _ d hd with rfl | ⟨r, rk⟩
    · exact absurd rfl hne
    · exact (hc d r rk).2.2.symm
    · exact (hc c q qk).2.2
    · exact hap c q d r hne
theorem td_del (k : ByteArray) (h : TD w0 w g F B K cs) (hB : Bks w0.heap.size w B K) (hlen : cs.length ≤ 100000) :
    Calls Tryz.prog 112 #[.pointer (some ⟨g, 0, none⟩), sv k] w fun e w' => (∃ r, e = .returned (.bool r)) ∧ ∃ F', TD w0 w' g F' B K (tDel strLt cs k) ∧ Bks w0.heap.size w' B K ∧ Upd F w w' ∧ (∀ x ∈ F', x ∈ F ∨ w.heap.size ≤ x) := by
  refine (txSL_Del k _ _ h.tab (by rw [rowsF_len]; exact hlen) trivial rfl rfl).mono ?_
  rintro e w' ⟨rfl, F', hf, hu, hfr⟩
  have hrow : tDel ltSL (rowsF cs) k = rowsF (tDel strLt cs k) := mapS_del (·.1) cs k
  rw [hrow] at hf
  exact ⟨⟨_, rfl⟩, F', ⟨hf, fun c hm => h.sh c (tDel_mem cs k c hm), fun c hm => h.gr c (tDel_mem cs k c hm), fun c hm d hd hne => h.ap c (tDel_mem cs k c hm) d (tDel_mem cs k d hd) hne⟩, hB.upd hu (sl_bks h.tab hB).symm, hu, hfr⟩
theorem df_set (cs : CF) (k : ByteArray) (s : Sl) (l : List UInt8) : dfOf (tSet strLt cs k (s, l)) = tSet strLt (dfOf cs) k l := (mapS_set (·.2) cs k (s, l)).symm
theorem df_del (cs : CF) (k : ByteArray) : dfOf (tDel strLt cs k) = tDel strLt (dfOf cs) k := (mapS_del (·.2) cs k).symm
end
end Go.Proofs.YtmhojaiajhdlcaaGreat
namespace Go.Proofs.YtmhojaiajhdlcaaGreat
open Go.RowKit
set_option linter.unusedSimpArgs false
set_option linter.unusedVariables false
abbrev wrv (x : Wr) (sl : Sl) : Value := .agg #[.int .i64 x.kd, sv x.nm, sv x.tn, slv sl, .int .i64 x.n]
section
variable {w0 w w' : World} {g : Nat} {F B : List Nat} {K : KB} {cs : CF}
theorem TDoes.of {w1 w2 : World} {F' B' : List Nat} {K' : KB} {cs' : CF} {fs' : DF} (h1 : TD w0 w2 g F' B' K' cs') (h2 : Bks w0.heap.size w2 B' K') (h3 : Ext B K B' K') (h4 : dfOf cs' = fs') (hu : Upd [] w w1) (hu2 : Upd (F ++ B) w1 w2) (hf : ∀ x ∈ F', x ∈ F ∨ w.heap.size ≤ x) (hb : ∀ x ∈ B', x ∈ B ∨ w.heap.size ≤ x) : TDoes w0 w g F B K fs' w2 :=
  ⟨F', B', K', cs', h1, h2, h3, h4, hu.trans hu2 (by simp) (fun x hx => .inl hx), hf, hb⟩
theorem ap_full {F : List Nat} {s : Sl} (h : s.k ≤ s.n) : Ap F (gb s) := fun x _ hx => by rw [gb_full h] at hx; simp at hx
theorem wApply_1 (nm tn : ByteArray) (p : List UInt8) (n : Int) (fs : DF) : wApply ⟨1, nm, tn, p, n⟩ fs = tSet strLt fs nm [] := by unfold wApply; simp
theorem wApply_2 (nm tn : ByteArray) (p : List UInt8) (n : Int) (fs : DF) : wApply ⟨2, nm, tn, p, n⟩ fs = tSet strLt fs nm ((dGet fs nm).1 ++ p) := by unfold wApply; simp
theorem wApply_3 (nm tn : ByteArray) (p : List UInt8) (n : Int) (fs : DF) : wApply ⟨3, nm, tn, p, n⟩ fs = if inD fs nm then tSet strLt (tDel strLt fs nm) tn (dGet fs nm).1 else fs := by unfold wApply; simp
theorem wApply_4 (nm tn : ByteArray) (p : List UInt8) (n : Int) (fs : DF) : wApply ⟨4, nm, tn, p, n⟩ fs = tSet strLt fs nm ((dGet fs nm).1.take n.toNat) := by unfold wApply; simp
theorem wApply_5 (nm tn : ByteArray) (p : List UInt8) (n : Int) (fs : DF) : wApply ⟨5, nm, tn, p, n⟩ fs = tDel strLt fs nm := by unfold wApply; simp
theorem later {F : List Nat} {w w2 : World} {x : Nat} (hu : Upd [] w w2) (h : x ∈ F ∨ w2.heap.size ≤ x) : x ∈ F ∨ w.heap.size ≤ x := h.imp id (fun q => by have := hu.size; omega)
set_option maxRecDepth 20000 in
set_option maxHeartbeats 4000000 in
theorem apply_any (x : Wr) (sl : Sl) (hx : WrOk x (dfOf cs)) (ht : TD w0 w g F B K cs) (hB : Bks w0.heap.size w B K) (hp : Sh B K sl x.p) :
    Calls Tryz.prog 79 #[wrv x sl, .pointer (some ⟨g, 0, none⟩)] w fun e w' => e = .returned (.tuple #[]) ∧ TDoes w0 w g F B K (wApply x (dfOf cs)) w' := by
  obtain ⟨kd, nm, tn, p, n⟩ := x
  obtain ⟨pa, pn, pk⟩ := sl
  obtain ⟨⟨oa, on, ok⟩, old, b, hget, hdg, hin, hsh, hgr, hoth⟩ := ht.found nm
  have hlen : cs.length ≤ 100000 := by have := hx.len; rw [df_len] at this; omega
  have hrl : (rowsF cs).length ≤ 100000 := by rw [rowsF_len]; exact hlen
  have hbase := hB
  have hu1 : Upd [] w (w.alloc (.cells #[.int .i64 kd, sv nm, sv tn, .slice pa pn pk, .int .i64 n] 115)) := (Upd.refl [] w).alloc _
  have HT := Lib.hid (ht.upd0 hu1)
  have HB := Lib.hid (hB.upd hu1 (by simp))
  have HBX := Lib.hid (Blk.new w 115 [.int .i64 kd, sv nm, sv tn, .slice pa pn pk, .int .i64 n])
  have HGET := Lib.hid hget
  have HX := Lib.hid hx
  have HU1 := Lib.hid hu1
  have HSH := Lib.hid hsh
  have HGR := Lib.hid hgr
  have HOTH := Lib.hid hoth
  have HP := Lib.hid hp
  have HDG := Lib.hid hdg
  have HIN := Lib.hid hin
  have HRL := Lib.hid hrl
  have HLEN := Lib.hid hlen
  have hkd := hx.kd
  clear ht hB hget hx hu1 hsh hgr hoth hp hdg hin hbase hrl hlen
  go_enter Tryz.func79, Tryz.ntmps79
  go_wp2_with fail
  (with_reducible refine (txSL_Get nm ⟨oa, on, ok⟩ b HT.out.tab HRL.out trivial HGET.out).mono ?_)
  rintro e w2 ⟨rfl, hu2⟩
  have hB2 := HBX.out.upd hu2 (by simp)
  have d0 := hB2.cell 0
  have d1 := hB2.cell 1
  have d2 := hB2.cell 2
  have d3 := hB2.cell 3
  have d4 := hB2.cell 4
  simp only [List.getElem?_cons_zero, List.getElem?_cons_succ] at d0 d1 d2 d3 d4
  have HT2 := Lib.hid (HT.out.upd0 hu2)
  have HB2 := Lib.hid (HB.out.upd hu2 (by simp))
  have HU2 := Lib.hid (HU1.out.seq hu2)
  have HNF : Hid (w.heap.size ∉ F) := fun hx => by
    obtain ⟨C, f, e, h1, h2⟩ := sl_ty HT2.out.tab _ hx
    have := ty_eq h1 hB2
    rcases h2 with h2 | h2 <;> (rw [h2] at this; exact absurd this (by decide))
  have HNB : Hid (w.heap.size ∉ B) := fun hx => by
    obtain ⟨C, f, h1⟩ := HB2.out.typ _ hx
    exact absurd (ty_eq h1 hB2) (by decide)
  clear hB2 hu2 HT HB HBX HU1
  rcases (show kd = 1 ∨ kd = 2 ∨ kd = 3 ∨ kd = 4 ∨ kd = 5 by have := hkd.1; have := hkd.2; omega) with rfl | rfl | rfl | rfl | rfl
  · clear hkd
    go_wp2_with fail
    (with_reducible refine (td_set nm ⟨none, 0, 0⟩ [] HT2.out.tab HB2.out HLEN.out (fun d hd hne => ⟨HT2.out.sh d hd, HT2.out.gr d hd, ap_full (Nat.le_refl _)⟩) HT2.out.ap Sh.nil (Gr.full (Nat.le_refl _))).mono ?_)
    rintro e w3 ⟨⟨r, rfl⟩, F3, h3, hb3, hu3, hf3⟩
    have H9 := Lib.hid (TDoes.of (fs' := wApply ⟨1, nm, tn, p, n⟩ (dfOf cs)) (w := w) (B := B) (K := K) (F := F) h3 hb3 (Ext.refl _ _) (by rw [df_set, wApply_1 nm tn p n]) HU2.out (hu3.mono (fun x hx => .inl (by simp [hx]))) (fun x hx => later HU2.out (hf3 x hx)) (fun x hx => .inl hx))
    clear h3 hb3 hu3 hf3
    go_wp2_with fail
    go_end0
    exact ⟨rfl, H9.out⟩
  · clear hkd
    obtain ⟨hne, hpl⟩ := HX.out.put rfl
    dsimp only at hne hpl
    rw [HDG.out] at hpl
    dsimp only at hpl
    have HRUN : Hid (∀ ty, ∃ v' w', (Builtin.append_ #[28, 28] ty #[slv ⟨oa, on, ok⟩, slv ⟨pa, pn, pk⟩]).run Tryz.prog w2.drew = .ok v' w' ∧ Grew w0.heap.size w2.drew B K ⟨oa, on, ok⟩ (old ++ p) v' w') := fun ty => app_step (HB2.out.upd (Upd.refl [] w2).drew (by simp)) HSH.out HGR.out (HP.out.rd (HB2.out.upd (Upd.refl [] w2).drew (by simp))) hne (by omega) (by have := HT2.out.tab.old.size; exact this)
    clear hne hpl
    have HFB : Hid (∀ x ∈ F, x ∉ B) := sl_bks HT2.out.tab HB2.out
    go_wp2_with fail
    go_region_held3 (fun w' => w'.cell? ⟨w.heap.size, 1, none⟩ = some (sv nm) ∧ w'.cell? ⟨w.heap.size, 3, none⟩ = some (.slice pa pn pk)) (first | go_keep | exact k5 | exact k4)
      (first
        | ((with_reducible refine step_app_of rfl (.tmp 26) (.tmp 28) rfl (.slice oa on ok) (.slice pa pn pk) rfl rfl (HRUN.out _) ?_); (rintro v3 w3 ⟨⟨sa, sn, sk⟩, B3, K3, rfl, hb3, he3, hn3, hs3, hg3, hu3, ho3⟩; have k4 := And.intro (hu3.cell (p := ⟨w.heap.size, 1, none⟩) d1 HNB.out) (hu3.cell (p := ⟨w.heap.size, 3, none⟩) d3 HNB.out); have HB3 := Lib.hid hb3; have HE3 := Lib.hid he3; have HN3 := Lib.hid hn3; have HS3 := Lib.hid hs3; have HG3 := Lib.hid hg3; have HU3 := Lib.hid hu3; have HO3 := Lib.hid ho3; clear hb3 he3 hn3 hs3 hg3 hu3 ho3; dsimp only))
        | (go_at_call 108; (with_reducible refine (td_set nm ⟨sa, sn, sk⟩ (old ++ p) (HT2.out.tab.upd (S := B) ((Upd.refl [] w2).drew.trans HU3.out (by simp) (fun x hx => .inl hx)) HFB.out (fun x hx => (HB2.out.ge x hx).1)) HB3.out HLEN.out (fun d hd hne => ⟨(HT2.out.sh d hd).ext HE3.out, HO3.out _ _ (HOTH.out d hd hne).1 (HOTH.out d hd hne).2⟩) HT2.out.ap HS3.out HG3.out).mono ?_); (rintro e w4 ⟨⟨r, rfl⟩, F4, h4, hb4, hu4, hf4⟩; have k5 := And.intro (hu4.cell (p := ⟨w.heap.size, 1, none⟩) k4.1 HNF.out) (hu4.cell (p := ⟨w.heap.size, 3, none⟩) k4.2 HNF.out); dsimp only)))
    have hu3' : Upd B w w3 := HU2.out.drew.trans HU3.out (by simp) (fun x hx => .inl hx)
    have H9 : Hid (TDoes w0 w g F B K (wApply ⟨2, nm, tn, p, n⟩ (dfOf cs)) w4) := ⟨F4, B3, K3, _, h4, hb4, HE3.out, by rw [df_set, wApply_2, HDG.out], hu3'.trans hu4 (fun x hx => by simp [hx]) (fun x hx => .inl (by simp [hx])), fun x hx => (hf4 x hx).imp id (fun q => by have := hu3'.size; omega), fun x hx => (HN3.out x hx).imp id (fun q => by have := HU2.out.size; have : w2.drew.heap.size = w2.heap.size := rfl; omega)⟩
    clear h4 hb4 hu4 hf4 hu3'
    go_wp2_with fail
    go_end0
    exact ⟨rfl, H9.out⟩
  · clear hkd
    cases b with
    | false =>
      go_wp2_with fail
      go_end0
      exact ⟨rfl, TDoes.of (w := w) (B := B) (K := K) (F := F) HT2.out HB2.out (Ext.refl _ _) (by rw [wApply_3, HIN.out]; rfl) (Upd.refl _ _) (HU2.out.mono (by simp)) (fun x hx => .inl hx) (fun x hx => .inl hx)⟩
    | true =>
      go_wp2_with fail
      (with_reducible refine (td_del nm HT2.out HB2.out HLEN.out).mono ?_)
      rintro e w3 ⟨⟨r, rfl⟩, F3, h3, hb3, hu3, hf3⟩
      have e2 := hu3.cell d2 (HNF.out)
      have H3 := Lib.hid h3
      have HB3 := Lib.hid hb3
      have HU3 := Lib.hid hu3
      have HF3 := Lib.hid hf3
      clear h3 hb3 hu3 hf3 d0 d1 d2 d3 d4
      have HL3 : Hid (List.length (tDel strLt cs nm) ≤ 100000) := Nat.le_trans (tDel_len cs nm) HLEN.out
      have HO3 : Hid (∀ d ∈ tDel strLt cs nm, Gr B K d.2.1 d.2.2 ∧ Ap (gb d.2.1) (gb ⟨oa, on, ok⟩)) := fun d hd => by
        obtain ⟨h1, h2⟩ := tDel_memS HT2.out.ris nm d hd
        exact HOTH.out d h1 (h2 (by rw [← in_df]; exact HIN.out))
      go_wp2_with fail
      (with_reducible refine (td_set tn ⟨oa, on, ok⟩ old H3.out.tab HB3.out HL3.out (fun d hd hne => ⟨H3.out.sh d hd, HO3.out d hd⟩) H3.out.ap HSH.out HGR.out).mono ?_)
      rintro e w4 ⟨⟨r, rfl⟩, F4, h4, hb4, hu4, hf4⟩
      have H9 : Hid (TDoes w0 w g F B K (wApply ⟨3, nm, tn, p, n⟩ (dfOf cs)) w4) := ⟨F4, B, K, _, h4, hb4, Ext.refl _ _, by rw [df_set, df_del, wApply_3, HIN.out, HDG.out]; rfl, HU2.out.trans (HU3.out.trans (T := F ++ B) hu4 (fun x hx => by simp [hx]) (fun x hx => (HF3.out x hx).imp (fun q => by simp [q]) id)) (by simp) (fun x hx => .inl hx), fun x hx => by
        have := HU2.out.size
        have := HU3.out.size
        rcases hf4 x hx with q | q
        · exact later HU2.out (HF3.out x q)
        · exact .inr (by omega), fun x hx => .inl hx⟩
      clear h4 hb4 hu4 hf4
      go_wp2_with fail
      go_end0
      exact ⟨rfl, H9.out⟩
  · clear hkd
    obtain ⟨h0, hn⟩ := HX.out.cut rfl
    dsimp only at h0 hn
    rw [HDG.out] at hn
    dsimp only at hn
    obtain ⟨m, rfl⟩ := Int.eq_ofNat_of_zero_le h0
    have hml : m ≤ old.length := by omega
    have hmk : m ≤ ok := by have := HSH.out.n; have := HSH.out.k; dsimp only at *; omega
    have hcut := fun W => run_cut_hm (P := Tryz.prog) (size := 1) Tryz.underlying28 (by kernel_rfl) oa on ok m hmk W
    have HML := Lib.hid hml
    clear h0 hn hml hmk
    go_wp2_with fail
    go_still_tail 9, (by kernel_rfl)
    change wpList _ _ _ _ _ w2.drew
    go_wp2_with fail
    (with_reducible refine (td_set nm ⟨oa, m, m⟩ (old.take m) (HT2.out.tab.upd0 (Upd.refl [] w2).drew) (HB2.out.upd (Upd.refl [] w2).drew (by simp)) HLEN.out (fun d hd hne => ⟨HT2.out.sh d hd, HT2.out.gr d hd, ap_full (Nat.le_refl _)⟩) HT2.out.ap (HSH.out.cut m HML.out) (Gr.full (Nat.le_refl _))).mono ?_)
    rintro e w3 ⟨⟨r, rfl⟩, F3, h3, hb3, hu3, hf3⟩
    have H9 := Lib.hid (TDoes.of (fs' := wApply ⟨4, nm, tn, p, (m : Int)⟩ (dfOf cs)) (w := w) (B := B) (K := K) (F := F) h3 hb3 (Ext.refl _ _) (by rw [df_set, wApply_4, HDG.out, Int.toNat_natCast]) HU2.out.drew (hu3.mono (fun x hx => .inl (by simp [hx]))) (fun x hx => later HU2.out (hf3 x hx)) (fun x hx => .inl hx))
    clear h3 hb3 hu3 hf3
    go_wp2_with fail
    go_end0
    exact ⟨rfl, H9.out⟩
  · clear hkd
    go_wp2_with fail
    (with_reducible refine (td_del nm HT2.out HB2.out HLEN.out).mono ?_)
    rintro e w3 ⟨⟨r, rfl⟩, F3, h3, hb3, hu3, hf3⟩
    have H9 := Lib.hid (TDoes.of (fs' := wApply ⟨5, nm, tn, p, n⟩ (dfOf cs)) (w := w) (B := B) (K := K) (F := F) h3 hb3 (Ext.refl _ _) (by rw [df_del, wApply_5 nm tn p n]) HU2.out (hu3.mono (fun x hx => .inl (by simp [hx]))) (fun x hx => later HU2.out (hf3 x hx)) (fun x hx => .inl hx))
    clear h3 hb3 hu3 hf3
    go_wp2_with fail
    go_end0
    exact ⟨rfl, H9.out⟩
end
end Go.Proofs.YtmhojaiajhdlcaaGreat
namespace Go.Proofs.YtmhojaiajhdlcaaGreat
open Go.RowKit
set_option linter.unusedSimpArgs false
set_option linter.unusedVariables false
set_option linter.unusedSectionVars false
abbrev LW := Wr × Sl
abbrev lwCells (x : LW) : List Value := [.int .i64 x.1.kd, sv x.1.nm, sv x.1.tn, slv x.2, .int .i64 x.1.n]
theorem lwCells_len : ∀ x, (lwCells x).length = 5 := fun _ => rfl
theorem lwCells_one : ∀ x, ∀ u ∈ lwCells x, u.oneCell' = true := by intro x u hu; simp [lwCells] at hu; rcases hu with rfl | rfl | rfl | rfl | rfl <;> rfl
theorem infoLW : (Tryz.prog.info? 115).map (fun i => (i.zero, i.size, i.bytes)) = some (some (.agg #[.int .i64 0, .string ⟨#[]⟩, .string ⟨#[]⟩, .slice none 0 0, .int .i64 0]), 5, 72) := by kernel_rfl
theorem undLW : Tryz.prog.underlying 110 = some (.slice 115) := by kernel_rfl
theorem ownN_sl {base : Nat} {e : TypeId} {w : World} {v : Value} {l : List LW} (h : OwnN 5 lwCells base e w v l) : ∃ s : Sl, v = .slice s.a s.n s.k := by
  obtain ⟨a, k, h, _⟩ := h.rd lwCells_len
  exact ⟨⟨a, _, k⟩, h⟩
/-- A disk at gd. -/
structure DC (w0 w : World) (gd gn gm : Nat) (Fn Fm B : List Nat) (K : KB) (cn cm : CF) (lv : Value) (lg : List LW) : Prop where
  dk : Blk w gd 112 [.pointer (some ⟨gn, 0, none⟩), .pointer (some ⟨gm, 0, none⟩), lv]
  gdb : w0.heap.size ≤ gd
  now : TD w0 w gn Fn B K cn
  mark : TD w0 w gm Fm B K cm
  full : Full cm
  apt : Ap Fn Fm
  bks : Bks w0.heap.size w B K
  log : OwnN 5 lwCells w0.heap.size 115 w lv lg
  lsh : ∀ x ∈ lg, Sh B K x.2 x.1.p
def dfoot (gd : Nat) (Fn Fm B : List Nat) (lv : Value) : List Nat := gd :: (Fn ++ Fm ++ B ++ blk lv)
theorem dfoot_mem (gd : Nat) (Fn Fm B : List Nat) (lv : Value) (x : Nat) : x ∈ dfoot gd Fn Fm B lv ↔ x = gd ∨ x ∈ Fn ∨ x ∈ Fm ∨ x ∈ B ∨ x ∈ blk lv := by
  unfold dfoot
  simp only [List.mem_cons, List.mem_append]
  constructor
  · rintro (h | ((h | h) | h) | h)
    · exact .inl h
    · exact .inr (.inl h)
    · exact .inr (.inr (.inl h))
    · exact .inr (.inr (.inr (.inl h)))
    · exact .inr (.inr (.inr (.inr h)))
  · rintro (h | h | h | h | h)
    · exact .inl h
    · exact .inr (.inl (.inl (.inl h)))
    · exact .inr (.inl (.inl (.inr h)))
    · exact .inr (.inl (.inr h))
    · exact .inr (.inr h)
section
variable {w0 w w' : World} {gd gn gm : Nat} {Fn Fm B : List Nat} {K : KB} {cn cm : CF} {lv : Value} {lg : List LW}
theorem DC.old (h : DC w0 w gd gn gm Fn Fm B K cn cm lv lg) : Upd [] w0 w := h.now.tab.old
theorem DC.upd (h : DC w0 w gd gn gm Fn Fm B K cn cm lv lg) {S : List Nat} (hu : Upd S w w') (hs : ∀ x ∈ dfoot gd Fn Fm B lv, x ∉ S) (hS : ∀ x ∈ S, w0.heap.size ≤ x) : DC w0 w' gd gn gm Fn Fm B K cn cm lv lg :=
  ⟨h.dk.upd hu (hs gd ((dfoot_mem _ _ _ _ _ _).2 (.inl rfl))), h.gdb, h.now.upd hu (fun x hx => hs x ((dfoot_mem _ _ _ _ _ _).2 (.inr (.inl hx)))) hS, h.mark.upd hu (fun x hx => hs x ((dfoot_mem _ _ _ _ _ _).2 (.inr (.inr (.inl hx))))) hS, h.full, h.apt,
    h.bks.upd hu (fun x hx => hs x ((dfoot_mem _ _ _ _ _ _).2 (.inr (.inr (.inr (.inl hx)))))), h.log.upd hu (fun x hx => hs x ((dfoot_mem _ _ _ _ _ _).2 (.inr (.inr (.inr (.inr hx)))))), h.lsh⟩
theorem DC.upd0 (h : DC w0 w gd gn gm Fn Fm B K cn cm lv lg) (hu : Upd [] w w') : DC w0 w' gd gn gm Fn Fm B K cn cm lv lg := h.upd hu (by simp) (by simp)
theorem DC.ge (h : DC w0 w gd gn gm Fn Fm B K cn cm lv lg) : ∀ x ∈ dfoot gd Fn Fm B lv, w0.heap.size ≤ x ∧ x < w.heap.size := by
  intro x hx
  rcases (dfoot_mem _ _ _ _ _ _).1 hx with rfl | hx | hx | hx | hx
  · exact ⟨h.gdb, h.dk.lt⟩
  · exact h.now.tab.ge x hx
  · exact h.mark.tab.ge x hx
  · exact h.bks.ge x hx
  · exact h.log.ge x hx
theorem dk_F {l : List (ByteArray × Sl)} {g : Nat} {F : List Nat} {xs : List Value} (h : Blk w gd 112 xs) (k : TXSL w0 w g F l) : gd ∉ F := fun hx => by
  obtain ⟨C, f, e, h1, h2⟩ := sl_ty k gd hx
  have := ty_eq h1 h
  rcases h2 with h2 | h2 <;> (rw [h2] at this; exact absurd this (by decide))
theorem dk_B {base : Nat} {xs : List Value} (h : Blk w gd 112 xs) (k : Bks base w B K) : gd ∉ B := fun hx => by
  obtain ⟨C, f, h1⟩ := k.typ gd hx
  exact absurd (ty_eq h1 h) (by decide)
theorem dk_L {base : Nat} {xs : List Value} {v : Value} {l : List LW} (h : Blk w gd 112 xs) (k : OwnN 5 lwCells base 115 w v l) : gd ∉ blk v := fun hx => by
  obtain ⟨C, f, h1⟩ := k.typ gd hx
  exact absurd (ty_eq h1 h) (by decide)
theorem log_F {base : Nat} {v : Value} {lg : List LW} {l : List (ByteArray × Sl)} {g : Nat} {F : List Nat} (h : OwnN 5 lwCells base 115 w v lg) (k : TXSL w0 w g F l) : Ap (blk v) F := fun x hx hF => by
  obtain ⟨C', f', h1'⟩ := h.typ x hx
  obtain ⟨C, f, e, h1, h2⟩ := sl_ty k x hF
  have := ty_eq h1 h1'
  rcases h2 with h2 | h2 <;> (rw [h2] at this; exact absurd this (by decide))
theorem log_B {base base' : Nat} {v : Value} {lg : List LW} (h : OwnN 5 lwCells base 115 w v lg) (k : Bks base' w B K) : Ap (blk v) B := fun x hx hF => by
  obtain ⟨C', f', h1'⟩ := h.typ x hx
  obtain ⟨C, f, h1⟩ := k.typ x hF
  exact absurd (ty_eq h1 h1') (by decide)
/-- Behind a call that writes through the table of the files that are there. -/
theorem DC.step (h : DC w0 w gd gn gm Fn Fm B K cn cm lv lg) {Fn' B' : List Nat} {K' : KB} {cn' : CF} (h1 : TD w0 w' gn Fn' B' K' cn') (h2 : Bks w0.heap.size w' B' K') (h3 : Ext B K B' K') (hu : Upd (Fn ++ B) w w') (hf : ∀ x ∈ Fn', x ∈ Fn ∨ w.heap.size ≤ x) : DC w0 w' gd gn gm Fn' Fm B' K' cn' cm lv lg :=
  have hge : ∀ x ∈ Fn ++ B, w0.heap.size ≤ x := fun x hx => by
    rcases List.mem_append.1 hx with q | q
    · exact (h.now.tab.ge x q).1
    · exact (h.bks.ge x q).1
  ⟨h.dk.upd hu (fun hx => by
      rcases List.mem_append.1 hx with q | q
      · exact dk_F h.dk h.now.tab q
      · exact dk_B h.dk h.bks q), h.gdb, h1, (h.mark.upd hu (fun x hx hx' => by
      rcases List.mem_append.1 hx' with q | q
      · exact h.apt x q hx
      · exact sl_bks h.mark.tab h.bks x hx q) hge).ext h.full h3, h.full, h.apt.next hf (fun x hx => (h.mark.tab.ge x hx).2), h2, h.log.upd hu (fun x hx hx' => by
      rcases List.mem_append.1 hx' with q | q
      · exact log_F h.log h.now.tab x hx q
      · exact log_B h.log h.bks x hx q), fun x hx => (h.lsh x hx).ext h3⟩
end
/-- A disk, as the laws see it; G: its blocks. -/
structure DD (w0 w : World) (gd : Nat) (G : List Nat) (s : DS) : Prop where
  ex : ∃ gn gm Fn Fm B K cn cm lv lg, DC w0 w gd gn gm Fn Fm B K cn cm lv lg ∧ s = ⟨dfOf cn, dfOf cm, lg.map (·.1)⟩ ∧ DOk s ∧ G = dfoot gd Fn Fm B lv
def DOut (w0 w : World) (gd : Nat) (G : List Nat) (s' : DS) (w' : World) : Prop := ∃ G', DD w0 w' gd G' s' ∧ Upd G w w' ∧ (∀ x ∈ G', x ∈ G ∨ w.heap.size ≤ x)
section
variable {w0 w w' : World} {gd : Nat} {G : List Nat} {s : DS}
theorem DD.old (h : DD w0 w gd G s) : Upd [] w0 w := by
  obtain ⟨gn, gm, Fn, Fm, B, K, cn, cm, lv, lg, hc, -⟩ := h.ex
  exact hc.old
theorem DD.ge (h : DD w0 w gd G s) : ∀ x ∈ G, w0.heap.size ≤ x ∧ x < w.heap.size := by
  obtain ⟨gn, gm, Fn, Fm, B, K, cn, cm, lv, lg, hc, -, -, rfl⟩ := h.ex
  exact hc.ge
theorem DD.ok (h : DD w0 w gd G s) : DOk s := by
  obtain ⟨gn, gm, Fn, Fm, B, K, cn, cm, lv, lg, hc, -, ho, -⟩ := h.ex
  exact ho
theorem DD.upd (h : DD w0 w gd G s) {S : List Nat} (hu : Upd S w w') (hs : ∀ x ∈ G, x ∉ S) (hS : ∀ x ∈ S, w0.heap.size ≤ x) : DD w0 w' gd G s := by
  obtain ⟨gn, gm, Fn, Fm, B, K, cn, cm, lv, lg, hc, e, ho, rfl⟩ := h.ex
  exact ⟨gn, gm, Fn, Fm, B, K, cn, cm, lv, lg, hc.upd hu hs hS, e, ho, rfl⟩
theorem DD.upd0 (h : DD w0 w gd G s) (hu : Upd [] w w') : DD w0 w' gd G s := h.upd hu (by simp) (by simp)
theorem DD.out0 (h : DD w0 w gd G s) (hu : Upd [] w w') : DOut w0 w gd G s w' := ⟨G, h.upd0 hu, hu.mono (by simp), fun x hx => .inl hx⟩
theorem DD.g_in (h : DD w0 w gd G s) : gd ∈ G := by
  obtain ⟨gn, gm, Fn, Fm, B, K, cn, cm, lv, lg, hc, e, ho, rfl⟩ := h.ex
  exact (dfoot_mem _ _ _ _ _ _).2 (.inl rfl)
end
end Go.Proofs.YtmhojaiajhdlcaaGreat
namespace Go.Proofs.YtmhojaiajhdlcaaGreat
open Go.RowKit
set_option linter.unusedSimpArgs false
set_option linter.unusedVariables false
section
variable {w0 w w' : World} {gd gn gm : Nat} {Fn Fm B : List Nat} {K : KB} {cn cm : CF} {lv : Value} {lg : List LW}
set_option maxRecDepth 20000 in
set_option maxHeartbeats 4000000 in
theorem do_any (x : Wr) (sl : Sl) (h : DC w0 w gd gn gm Fn Fm B K cn cm lv lg) (hx : WrOk x (dfOf cn)) (hp : Sh B K sl x.p) (hl : lg.length ≤ 1000000000) :
    Calls Tryz.prog 67 #[.pointer (some ⟨gd, 0, none⟩), wrv x sl] w fun e w' => e = .returned (.tuple #[]) ∧ ∃ Fn' B' K' cn' lv', DC w0 w' gd gn gm Fn' Fm B' K' cn' cm lv' (lg ++ [(x, sl)]) ∧ Ext B K B' K' ∧ dfOf cn' = wApply x (dfOf cn) ∧ Upd (dfoot gd Fn Fm B lv) w w' ∧ (∀ y ∈ dfoot gd Fn' Fm B' lv', y ∈ dfoot gd Fn Fm B lv ∨ w.heap.size ≤ y) := by
  obtain ⟨ao, co, rfl, hlc, hcm, -⟩ := h.log.rd lwCells_len
  obtain ⟨kd, nm, tn, p, n⟩ := x
  obtain ⟨pa, pn, pk⟩ := sl
  have hu1 : Upd [] w (w.alloc (.cells #[.int .i64 kd, sv nm, sv tn, .slice pa pn pk, .int .i64 n] 115)) := (Upd.refl [] w).alloc _
  have H1 := Lib.hid (h.upd0 hu1)
  have HBX := Lib.hid (Blk.new w 115 [.int .i64 kd, sv nm, sv tn, .slice pa pn pk, .int .i64 n])
  have HGE := Lib.hid h.ge
  have HX := Lib.hid hx
  have HP := Lib.hid hp
  have HU1 := Lib.hid hu1
  have c0 : (w.alloc (.cells #[.int .i64 kd, sv nm, sv tn, .slice pa pn pk, .int .i64 n] 115)).cell? ⟨gd, 0, none⟩ = some (.pointer (some ⟨gn, 0, none⟩)) := hu1.cell (h.dk.cell 0) (by simp)
  have hgd : gd < w.heap.size := h.dk.lt
  clear h hx hp hu1
  go_enter Tryz.func67, Tryz.ntmps67
  go_wp2_with fail
  have d0 := HBX.out.cell 0
  have d1 := HBX.out.cell 1
  have d2 := HBX.out.cell 2
  have d3 := HBX.out.cell 3
  have d4 := HBX.out.cell 4
  simp only [List.getElem?_cons_zero, List.getElem?_cons_succ] at d0 d1 d2 d3 d4
  have hw1 := HU1.out.size
  have HW1 : Hid (w.heap.size < (w.alloc (.cells #[.int .i64 kd, sv nm, sv tn, .slice pa pn pk, .int .i64 n] 115)).heap.size) := HBX.out.lt
  generalize w.alloc (.cells #[.int .i64 kd, sv nm, sv tn, .slice pa pn pk, .int .i64 n] 115) = w1 at *
  go_still_tail 5, (by kernel_rfl)
  change wpList _ _ _ _ _ w1.drew
  go_wp2_with fail
  (with_reducible refine (apply_any ⟨kd, nm, tn, p, n⟩ ⟨pa, pn, pk⟩ HX.out (H1.out.now.upd0 (Upd.refl [] w1).drew) (H1.out.bks.upd (Upd.refl [] w1).drew (by simp)) HP.out).mono ?_)
  rintro e w2 ⟨rfl, F2, B2, K2, cs2, h2, hb2, he2, hfs2, hu2, hf2, hn2⟩
  have hfb : ∀ y ∈ Fn ++ B, y ∈ dfoot gd Fn Fm B (Value.slice ao lg.length co) := fun y hy => (dfoot_mem _ _ _ _ _ _).2 (by rcases List.mem_append.1 hy with q | q; exact .inr (.inl q); exact .inr (.inr (.inr (.inl q))))
  have hbx : w.heap.size ∉ Fn ++ B := fun hy => by have := (HGE.out _ (hfb _ hy)).2; omega
  have H2 := Lib.hid ((H1.out.upd0 (Upd.refl [] w1).drew).step h2 hb2 he2 hu2 hf2)
  have hB2 : Blk w2 w.heap.size 115 [.int .i64 kd, sv nm, sv tn, .slice pa pn pk, .int .i64 n] := Blk.upd (w := w1.drew) HBX.out hu2 hbx
  have HU2 : Hid (Upd (dfoot gd Fn Fm B (Value.slice ao lg.length co)) w w2) := HU1.out.drew.trans hu2 (by simp) (fun y hy => .inl (hfb y hy))
  have d0 := hB2.cell 0
  have d1 := hB2.cell 1
  have d2 := hB2.cell 2
  have d3 := hB2.cell 3
  have d4 := hB2.cell 4
  simp only [List.getElem?_cons_zero, List.getElem?_cons_succ] at d0 d1 d2 d3 d4
  have c2 : w2.cell? ⟨gd, 2, none⟩ = some (.slice ao lg.length co) := H2.out.dk.cell 2
  have f2 : w2.frozen? ⟨gd, 2, none⟩ = false := H2.out.dk.frozen 2
  have HE2 := Lib.hid he2
  have HFS2 := Lib.hid hfs2
  have HF2 := Lib.hid hf2
  have HN2 := Lib.hid hn2
  have hs2 := hu2.size
  have HW2 : Hid (w.heap.size < w2.heap.size) := hB2.lt
  clear h2 hb2 he2 hfs2 hu2 hf2 hn2 hfb hbx hB2 c0 H1 HBX HU1 hw1 hs2
  have hua : Upd [] w2 (w2.drew.alloc (.cells #[.int .i64 kd, sv nm, sv tn, .slice pa pn pk, .int .i64 n] 115)) := (Upd.refl [] w2).drew.alloc _
  have HUA := Lib.hid hua
  have HOW := H2.out.log.upd hua (by simp)
  have hnewb : Blk (w2.drew.alloc (.cells #[.int .i64 kd, sv nm, sv tn, .slice pa pn pk, .int .i64 n] 115)) w2.heap.size 115 [.int .i64 kd, sv nm, sv tn, .slice pa pn pk, .int .i64 n] := Blk.new w2.drew _ _
  have HRD : RdN 5 lwCells (w2.drew.alloc (.cells #[.int .i64 kd, sv nm, sv tn, .slice pa pn pk, .int .i64 n] 115)) (.slice (some ⟨w2.heap.size, 0, none⟩) 1 1) [(⟨kd, nm, tn, p, n⟩, ⟨pa, pn, pk⟩)] := by
    refine ⟨_, 1, rfl, by simp, by simp [maxLen], fun _ => ⟨w2.heap.size, 0, rfl, fun j hj i hi => ?_⟩⟩
    have hj0 : j = 0 := by simpa using hj
    subst hj0
    rw [Nat.zero_mul, Nat.zero_add, Nat.zero_add, hnewb.cell]; rfl
  have hbs : w0.heap.size ≤ (w2.drew.alloc (.cells #[.int .i64 kd, sv nm, sv tn, .slice pa pn pk, .int .i64 n] 115)).heap.size := (H2.out.old.seq hua).size
  have HRUN := Lib.hid (fun ty => run_appN (P := Tryz.prog) (ty := ty) lwCells_len (by decide) lwCells_one undLW infoLW rfl _ _ lg [(⟨kd, nm, tn, p, n⟩, ⟨pa, pn, pk⟩)] HOW HRD (by simp; omega) (by simp [maxLen]; omega) hbs)
  have HDK := Lib.hid (H2.out.dk.upd hua (by simp))
  have HGL := Lib.hid (dk_L H2.out.dk H2.out.log)
  clear hua HOW hnewb HRD hbs
  go_wp2_with fail
  have c2' : (w2.alloc (Obj.cells #[.int .i64 kd, sv nm, sv tn, .slice pa pn pk, .int .i64 n] 115)).cell? ⟨gd, 2, none⟩ = some (.slice ao lg.length co) := ((Upd.refl [] w2).alloc _).cell c2 (by simp)
  go_region_law (first | ((with_reducible refine step_app_of rfl (.tmp 14) (.tmp 16) rfl (.slice ao lg.length co) (.slice (some ⟨w2.heap.size, 0, none⟩) 1 1) rfl rfl (HRUN.out _) ?_); (rintro v3 w3 ⟨ho3, hu3, hk3⟩; obtain ⟨⟨a3, n3, k3⟩, rfl⟩ := ownN_sl ho3; have hb3 := HDK.out.upd hu3 HGL.out; have c3 : w3.cell? ⟨gd, 2, none⟩ = some (.slice ao lg.length co) := hb3.cell 2; have f3 := hb3.frozen 2; have HB3 := Lib.hid hb3; have HO3 := Lib.hid ho3; have HU3 := Lib.hid hu3; have HK3 := Lib.hid hk3; clear ho3 hu3 hk3 hb3; dsimp only)))
  all_goals
    go_end0
    have hset : Upd [gd] w3 (w3.setCell ⟨gd, 2, none⟩ (.slice a3 n3 k3)) := (Upd.refl [gd] w3).setCell _ _ (.inl (by simp))
    have hgv : gd ∉ blk (.slice a3 n3 k3) := fun hy => by
      rcases HK3.out _ hy with q | q
      · exact HGL.out q
      · have := H2.out.dk.lt; have := HUA.out.size; omega
    have hw3 : Upd (blk (Value.slice ao lg.length co)) w2 w3 := HUA.out.trans HU3.out (by simp) (fun y hy => .inl hy)
    have hlog : ∀ y ∈ blk (Value.slice ao lg.length co), y ∈ dfoot gd Fn Fm B (Value.slice ao lg.length co) := fun y hy => (dfoot_mem _ _ _ _ _ _).2 (.inr (.inr (.inr (.inr hy))))
    have hall : Upd (gd :: blk (Value.slice ao lg.length co)) w2 (w3.setCell ⟨gd, 2, none⟩ (.slice a3 n3 k3)) := hw3.trans hset (fun y hy => by simp [hy]) (fun y hy => .inl (by simp at hy; simp [hy]))
    have hgeb : ∀ x ∈ gd :: blk (Value.slice ao lg.length co), w0.heap.size ≤ x := fun x hx => by
      rcases List.mem_cons.1 hx with rfl | q
      · exact H2.out.gdb
      · exact (H2.out.log.ge x q).1
    refine ⟨rfl, F2, B2, K2, cs2, (.slice a3 n3 k3), ⟨HB3.out.set_ 2 (.slice a3 n3 k3), H2.out.gdb, ?_, ?_, H2.out.full, H2.out.apt, ?_, ?_, ?_⟩, HE2.out, HFS2.out, ?_, ?_⟩
    · refine H2.out.now.upd hall (fun x hx hy => ?_) hgeb
      rcases List.mem_cons.1 hy with rfl | q
      · exact dk_F H2.out.dk H2.out.now.tab hx
      · exact log_F H2.out.log H2.out.now.tab x q hx
    · refine H2.out.mark.upd hall (fun x hx hy => ?_) hgeb
      rcases List.mem_cons.1 hy with rfl | q
      · exact dk_F H2.out.dk H2.out.mark.tab hx
      · exact log_F H2.out.log H2.out.mark.tab x q hx
    · refine H2.out.bks.upd hall (fun x hx hy => ?_)
      rcases List.mem_cons.1 hy with rfl | q
      · exact dk_B H2.out.dk H2.out.bks hx
      · exact log_B H2.out.log H2.out.bks x q hx
    · exact HO3.out.upd hset (fun x hx hy => hgv (by simp at hy; rw [← hy]; exact hx))
    · intro y hy
      rcases List.mem_append.1 hy with q | q
      · exact H2.out.lsh y q
      · simp at q; subst q; exact HP.out.ext HE2.out
    · refine HU2.out.trans hall (fun y hy => hy) (fun y hy => .inl ?_)
      rcases List.mem_cons.1 hy with rfl | q
      · exact (dfoot_mem _ _ _ _ _ _).2 (.inl rfl)
      · exact hlog y q
    · intro y hy
      have hwl := HW2.out
      have hw1 : w1.drew.heap.size = w1.heap.size := rfl
      have h12 := HW1.out
      rcases (dfoot_mem _ _ _ _ _ _).1 hy with rfl | q | q | q | q
      · exact .inl ((dfoot_mem _ _ _ _ _ _).2 (.inl rfl))
      · exact (HF2.out y q).imp (fun q => (dfoot_mem _ _ _ _ _ _).2 (.inr (.inl q))) (fun q => by omega)
      · exact .inl ((dfoot_mem _ _ _ _ _ _).2 (.inr (.inr (.inl q))))
      · exact (HN2.out y q).imp (fun q => (dfoot_mem _ _ _ _ _ _).2 (.inr (.inr (.inr (.inl q))))) (fun q => by omega)
      · exact (HK3.out y q).imp (fun q => hlog y q) (fun q => by have := HUA.out.size; omega)
end
end Go.Proofs.YtmhojaiajhdlcaaGreat
namespace Go.Proofs.YtmhojaiajhdlcaaGreat
open Go.RowKit
set_option linter.unusedSimpArgs false
set_option linter.unusedVariables false
section
variable {w0 w w' : World} {gd : Nat} {G : List Nat} {s : DS}
set_option maxRecDepth 20000 in
set_option maxHeartbeats 1000000 in
theorem dNew_any (w0 w : World) (hu : Upd [] w0 w) :
    Calls Tryz.prog 18 #[] w fun e w' => ∃ gd G, e = .returned (.pointer (some ⟨gd, 0, none⟩)) ∧ DD w0 w' gd G ⟨[], [], []⟩ ∧ Upd [] w w' ∧ (∀ x ∈ G, w.heap.size ≤ x) := by
  have HU := Lib.hid hu
  clear hu
  go_enter Tryz.func18, Tryz.ntmps18
  go_wp2_with fail
  (with_reducible refine (txSL_New w0 w HU.out).mono ?_)
  rintro e w1 ⟨g1, F1, rfl, h1, hu1, hf1⟩
  have H1 := Lib.hid h1
  have HU1 := Lib.hid (HU.out.seq hu1)
  have HW1 := Lib.hid hu1
  have HF1 := Lib.hid hf1
  clear h1 hu1 hf1
  go_wp2_with fail
  (with_reducible refine (txSL_New w0 w1 HU1.out).mono ?_)
  rintro e w2 ⟨g2, F2, rfl, h2, hu2, hf2⟩
  have H2 := Lib.hid h2
  have HU2 := Lib.hid hu2
  have HF2 := Lib.hid hf2
  clear h2 hu2 hf2
  go_wp2_with fail
  go_ret
  have hua : Upd [] w2 (w2.alloc (.cells #[.pointer (some ⟨g1, 0, none⟩), .pointer (some ⟨g2, 0, none⟩), .slice none 0 0] 112)) := (Upd.refl [] w2).alloc _
  have hs1 := HW1.out.size
  have hs2 := HU2.out.size
  refine ⟨_, _, rfl, ⟨g1, g2, F1, F2, [], fun _ => ([], 0), [], [], .slice none 0 0, [], ⟨Blk.new w2 _ [.pointer (some ⟨g1, 0, none⟩), .pointer (some ⟨g2, 0, none⟩), .slice none 0 0], ?_, ⟨(H1.out.upd0 HU2.out).upd0 hua, by simp, by simp, by simp⟩, ⟨H2.out.upd0 hua, by simp, by simp, by simp⟩, fun c hc => by simp at hc, ?_, ⟨by simp⟩, OwnN.nil _ _ _, by simp⟩, rfl, DOk.zero, rfl⟩, (HW1.out.seq HU2.out).seq hua, fun x hx => ?_⟩
  · exact (HU1.out.seq HU2.out).size
  · exact Ap.symm (Ap.new (n := w1.heap.size) HF2.out (fun x hx => (H1.out.ge x hx).2))
  · rcases (dfoot_mem _ _ _ _ _ _).1 hx with rfl | hx | hx | hx | hx
    · omega
    · exact HF1.out x hx
    · have := HF2.out x hx; omega
    · simp at hx
    · simp [blk] at hx
set_option maxRecDepth 20000 in
theorem dCount_any (h : DD w0 w gd G s) :
    Calls Tryz.prog 27 #[.pointer (some ⟨gd, 0, none⟩)] w fun e w' => e = .returned (.int .i64 (s.log.length : Int)) ∧ w = w' := by
  obtain ⟨gn, gm, Fn, Fm, B, K, cn, cm, lv, lg, hc, rfl, ho, rfl⟩ := h.ex
  obtain ⟨ao, co, rfl, -⟩ := hc.log.rd lwCells_len
  have c2 : w.cell? ⟨gd, 2, none⟩ = some (.slice ao lg.length co) := hc.dk.cell 2
  clear hc h ho
  go_enter Tryz.func27, Tryz.ntmps27
  go_wp2
  go_ret
  exact ⟨by simp, rfl⟩
set_option maxRecDepth 20000 in
theorem dNames_any (h : DD w0 w gd G s) (hl : s.now.length ≤ 100000) :
    Calls Tryz.prog 92 #[.pointer (some ⟨gd, 0, none⟩)] w fun e w' => ∃ v, e = .returned v ∧ Own sv w.heap.size 9 w' v (s.now.map (·.1)) ∧ Upd [] w w' := by
  obtain ⟨gn, gm, Fn, Fm, B, K, cn, cm, lv, lg, hc, rfl, ho, rfl⟩ := h.ex
  have c0 : w.cell? ⟨gd, 0, none⟩ = some (.pointer (some ⟨gn, 0, none⟩)) := hc.dk.cell 0
  have HC := Lib.hid hc
  have hl2 : (rowsF cn).length ≤ 100000 := by rw [rowsF_len]; rwa [df_len] at hl
  have hk : (rowsF cn).map (·.1) = (dfOf cn).map (·.1) := by simp [tMap]
  dsimp only
  generalize (dfOf cn).map (·.1) = ks at *
  have HL := Lib.hid hl2
  have HK := Lib.hid hk
  clear hc h ho hl hl2 hk
  go_enter Tryz.func92, Tryz.ntmps92
  go_wp2_with fail
  (with_reducible refine (txSL_Keys _ HC.out.now.tab HL.out HK.out).mono ?_)
  rintro e w1 ⟨v, rfl, ho1, hu1⟩
  obtain ⟨a1, k1, rfl, -⟩ := ho1.rd
  have HO1 := Lib.hid ho1
  have HU1 := Lib.hid hu1
  clear ho1 hu1
  go_wp2_with fail
  go_ret
  exact ⟨_, rfl, HO1.out, HU1.out⟩
set_option maxRecDepth 20000 in
set_option maxHeartbeats 1000000 in
theorem dkRead_any (nm : ByteArray) (h : DD w0 w gd G s) (hl : s.now.length ≤ 100000) :
    Calls Tryz.prog 28 #[.pointer (some ⟨gd, 0, none⟩), sv nm] w fun e w' => ∃ v, e = .returned (.tuple #[v, .bool (dGet s.now nm).2]) ∧ Own bv w.heap.size 5 w' v (dGet s.now nm).1 ∧ Upd [] w w' := by
  have hlen := get_le_total s.now nm
  have htot := h.ok.tot
  obtain ⟨gn, gm, Fn, Fm, B, K, cn, cm, lv, lg, hc, rfl, ho, rfl⟩ := h.ex
  have c0 : w.cell? ⟨gd, 0, none⟩ = some (.pointer (some ⟨gn, 0, none⟩)) := hc.dk.cell 0
  have hl2 : (rowsF cn).length ≤ 100000 := by rw [rowsF_len]; rwa [df_len] at hl
  have HL := Lib.hid hl2
  obtain ⟨⟨oa, on, ok⟩, old, b, hget, hdg, hin, hsh, hgr, hoth⟩ := hc.now.found nm
  dsimp only at hlen htot
  rw [hdg] at hlen ⊢
  dsimp only at hlen ⊢
  have HG := Lib.hid hget
  have HT := Lib.hid hc.now
  have HR := Lib.hid (hsh.rd hc.bks)
  have hon := hsh.n
  dsimp only at hon
  subst hon
  have hlb : old.length ≤ 16777216 := by omega
  clear hc h ho hl hl2 hget hdg hin hsh hgr hoth hlen htot
  go_enter Tryz.func28, Tryz.ntmps28
  go_wp2_with fail
  (with_reducible refine (txSL_Get nm ⟨oa, old.length, ok⟩ b HT.out.tab HL.out trivial HG.out).mono ?_)
  rintro e w1 ⟨rfl, hu1⟩
  have HU1 := Lib.hid hu1
  have HRUN := Lib.hid (fun ty => run_app (P := Tryz.prog) (w := w1) (ty := ty) bv_one Tryz.underlying28 infoB8 rfl (.slice none 0 0) (.slice oa old.length ok) [] old (World.ownsRow_nil w1 w.heap.size _ 1) (HR.out.upd0 hu1) (by simp; omega) (by simp [maxLen]; omega) hu1.size)
  clear hu1
  go_wp2_with (at_builtin; go_must (refine wpList_app_of rfl _ _ rfl (.slice none 0 0) (.slice oa old.length ok) rfl rfl (HRUN.out _) ?_; rintro v2 w2 ⟨ho2, hu2, hk2⟩; have HO2 := Lib.hid ho2; have HU2 := Lib.hid hu2; obtain ⟨a2, k2, rfl, -⟩ := ho2.rd; clear ho2 hu2 hk2 HRUN; dsimp only))
  go_ret2
  exact ⟨_, rfl, HO2.out, HU1.out.seq (HU2.out.mono (by simp [blk]))⟩
end
end Go.Proofs.YtmhojaiajhdlcaaGreat
namespace Go.Proofs.YtmhojaiajhdlcaaGreat
open Go.RowKit
set_option linter.unusedSimpArgs false
set_option linter.unusedVariables false
theorem snoc_set {ν : Type} [Inhabited ν] {l : List (ByteArray × ν)} (h : Rising strLt l) (k : Nat) (hk : k < l.length) : tSet strLt (l.take k) (nth l k).1 (nth l k).2 = l.take (k + 1) := by
  have hlt : (l.take k).length = k := by rw [List.length_take]; omega
  have hb : below strLt (l.take k) (nth l k).1 = k := below_eq _ _ _ (by rw [hlt]; exact Nat.le_refl _) (fun j hj => by rw [nth_take _ _ _ hj]; exact h j k hj hk) (fun q => absurd q (by rw [hlt]; omega))
  have hi : isIn strLt (l.take k) (nth l k).1 = false := by unfold isIn; rw [hb, hlt]; simp
  unfold tSet
  rw [hi, hb, if_neg (by simp), Nat.add_zero, take_succ_nth l k hk, List.take_of_length_le (by omega), List.drop_of_length_le (by omega)]
section
variable {w0 w w' : World} {gd : Nat} {G : List Nat} {s : DS}
set_option maxRecDepth 20000 in
set_option maxHeartbeats 2000000 in
theorem dTotal_any (h : DD w0 w gd G s) (hl : s.now.length ≤ 100000) :
    Calls Tryz.prog 65 #[.pointer (some ⟨gd, 0, none⟩)] w fun e w' => e = .returned (.int .i64 (dTotal s.now : Int)) ∧ Upd [] w w' := by
  have htot := h.ok.tot
  obtain ⟨gn, gm, Fn, Fm, B, K, cn, cm, lv, lg, hc, rfl, ho, rfl⟩ := h.ex
  have c0 : w.cell? ⟨gd, 0, none⟩ = some (.pointer (some ⟨gn, 0, none⟩)) := hc.dk.cell 0
  have HC := Lib.hid hc
  have hl2 : (rowsF cn).length ≤ 100000 := by rw [rowsF_len]; rwa [df_len] at hl
  have HL := Lib.hid hl2
  have hlc : cn.length ≤ 100000 := by rwa [df_len] at hl
  dsimp only at htot ⊢
  have HT := Lib.hid htot
  have C0 := Lib.hid c0
  clear hc h ho hl hl2 htot
  go_enter Tryz.func65, Tryz.ntmps65
  go_wp2_with fail
  (with_reducible refine (txSL_Len (cn.length : Int) HC.out.now.tab (by rw [rowsF_len])).mono ?_)
  rintro e w1 ⟨rfl, rfl⟩
  go_wp2_with fail
  go_loopw [3, 13] (fun v i wr => ∃ k : Nat, k ≤ cn.length ∧ i = .int .i64 k ∧ v = .int .i64 (dTotal ((dfOf cn).take k) : Int) ∧ Hid (Upd [] w wr)) (fun _ i _ => cn.length - (intOf i).toNat)
  case atStart => exact ⟨0, Nat.zero_le _, rfl, rfl, Upd.refl _ _⟩
  case round =>
    obtain ⟨k, hk, rfl, rfl, hu⟩ := hrel
    clear c0
    have c0 := hu.out.cell C0.out (by simp)
    by_cases hlt : k < cn.length
    · have hat : tAt (⟨#[]⟩ : ByteArray) (⟨none, 0, 0⟩ : Sl) (rowsF cn) (k : Int) = ((nth cn k).1, (nth cn k).2.1, true) := by
        rw [tAt_at _ _ (rowsF cn) k (by rw [rowsF_len]; exact hlt), tMap_nth id (fun x : Sl × List UInt8 => x.1) cn k hlt]; rfl
      have hst : dTotal ((dfOf cn).take (k + 1)) = dTotal ((dfOf cn).take k) + (nth cn k).2.2.length := by
        rw [total_take (dfOf cn) k (by rw [df_len]; exact hlt), tMap_nth id (fun x : Sl × List UInt8 => x.2) cn k hlt]
      have hle := total_le (dfOf cn) (k + 1)
      have hle2 := HT.out
      have hsh := (HC.out.now.sh _ (nth_mem k hlt)).n
      have HAT := Lib.hid hat
      have HST := Lib.hid hst
      rw [hst] at hle
      clear hat hst
      generalize nth cn k = c at *
      obtain ⟨key, ⟨a, n, cp⟩, bs⟩ := c
      dsimp only at hsh hle
      subst hsh
      generalize dTotal ((dfOf cn).take k) = T at *
      have hT : T + bs.length ≤ 16777216 := by omega
      have HI : Hid (I64 (k : Int)) := ⟨by omega, by omega⟩
      clear hle hle2
      go_wp2_with fail
      (with_reducible refine (txSL_At (k : Int) key ⟨a, bs.length, cp⟩ true HI.out (HC.out.now.tab.upd0 hu.out) HL.out HAT.out).mono ?_)
      rintro e w2 ⟨rfl, hu2⟩
      have HU2 := Lib.hid (hu.out.seq hu2)
      clear hu2 hu
      go_wp2_with fail
      go_roundw
      case rel => exact ⟨k + 1, by omega, by go_num, by rw [HST.out]; go_num, HU2⟩
      case measure => simp [intOf]; omega
    · obtain rfl : k = cn.length := by omega
      have he : (dfOf cn).take cn.length = dfOf cn := List.take_of_length_le (by rw [df_len]; exact Nat.le_refl _)
      obtain ⟨T, hT⟩ : ∃ T, dTotal (dfOf cn) = T := ⟨_, rfl⟩
      have HTT := Lib.hid hT
      rw [he, hT]
      clear hT
      go_wp2_with fail
      go_ret
      exact ⟨by rw [HTT.out]; rfl, hu.out⟩
end
section
variable {w0 w w' : World} {g : Nat} {F B : List Nat} {K : KB} {cs : CF}
set_option maxRecDepth 20000 in
set_option maxHeartbeats 2000000 in
theorem copied_any (ht : TD w0 w g F B K cs) (hB : Bks w0.heap.size w B K) (hlen : cs.length ≤ 100000) :
    Calls Tryz.prog 72 #[.pointer (some ⟨g, 0, none⟩)] w fun e w' => ∃ g' F' cs', e = .returned (.pointer (some ⟨g', 0, none⟩)) ∧ TD w0 w' g' F' B K cs' ∧ Full cs' ∧ dfOf cs' = dfOf cs ∧ Upd [] w w' ∧ (∀ x ∈ F', w.heap.size ≤ x) := by
  have HT := Lib.hid ht
  have HB := Lib.hid hB
  have HR := Lib.hid ht.risD
  have hrl : (rowsF cs).length ≤ 100000 := by rw [rowsF_len]; exact hlen
  have HRL := Lib.hid hrl
  clear ht hB hrl
  go_enter Tryz.func72, Tryz.ntmps72
  go_wp2_with fail
  (with_reducible refine (txSL_New w0 w HT.out.tab.old).mono ?_)
  rintro e w1 ⟨g1, F1, rfl, h1, hu1, hf1⟩
  have H1 : Hid (TD w0 w1 g1 F1 B K []) := ⟨h1, by simp, by simp, by simp⟩
  have HU1 := Lib.hid hu1
  have HF1 := Lib.hid hf1
  clear h1 hu1 hf1
  go_wp2_with fail
  (with_reducible refine (txSL_Len (cs.length : Int) (HT.out.tab.upd0 HU1.out) (by rw [rowsF_len])).mono ?_)
  rintro e w2 ⟨rfl, rfl⟩
  go_wp2_with fail
  go_loopw [11] (fun i wr => ∃ (k : Nat) (Fo : List Nat) (co : CF), k ≤ cs.length ∧ i = .int .i64 k ∧ Hid (TD w0 wr g1 Fo B K co) ∧ Hid (Full co) ∧ Hid (dfOf co = (dfOf cs).take k) ∧ Hid (Upd [] w wr) ∧ Hid (∀ x ∈ Fo, w.heap.size ≤ x)) (fun i _ => cs.length - (intOf i).toNat)
  case atStart => exact ⟨0, F1, [], Nat.zero_le _, rfl, H1, fun c hc => by simp at hc, rfl, HU1, HF1⟩
  case round =>
    obtain ⟨k, Fo, co, hk, rfl, ho, hfu, hdf, hu, hfr⟩ := hrel
    clear H1 HU1 HF1
    by_cases hlt : k < cs.length
    · have hat : tAt (⟨#[]⟩ : ByteArray) (⟨none, 0, 0⟩ : Sl) (rowsF cs) (k : Int) = ((nth cs k).1, (nth cs k).2.1, true) := by
        rw [tAt_at _ _ (rowsF cs) k (by rw [rowsF_len]; exact hlt), tMap_nth id (fun x : Sl × List UInt8 => x.1) cs k hlt]; rfl
      have hst : tSet strLt ((dfOf cs).take k) (nth cs k).1 (nth cs k).2.2 = (dfOf cs).take (k + 1) := by
        rw [← snoc_set HR.out k (by rw [df_len]; exact hlt), tMap_nth id (fun x : Sl × List UInt8 => x.2) cs k hlt]; rfl
      have hsh := HT.out.sh _ (nth_mem k hlt)
      have hol : co.length = k := by
        have := congrArg List.length hdf.out
        rw [df_len, List.length_take, df_len] at this; omega
      have HAT := Lib.hid hat
      have HST := Lib.hid hst
      clear hat hst
      generalize nth cs k = c at *
      obtain ⟨key, ⟨a, n, cp⟩, bs⟩ := c
      have hn := hsh.n
      have hcp := hsh.k
      dsimp only at hn hcp
      subst hn
      have HSC := Lib.hid (hsh.cut bs.length (Nat.le_refl _))
      have HI : Hid (I64 (k : Int)) := ⟨by omega, by omega⟩
      have HOL : Hid (co.length ≤ 100000) := by unfold Hid; omega
      have hcut := fun W => run_cut_hm (P := Tryz.prog) (size := 1) Tryz.underlying28 (by kernel_rfl) a bs.length cp bs.length hcp W
      clear hsh hol
      go_wp2_with fail
      (with_reducible refine (txSL_At (k : Int) key ⟨a, bs.length, cp⟩ true HI.out (HT.out.tab.upd0 hu.out) HRL.out HAT.out).mono ?_)
      rintro e w2 ⟨rfl, hu2⟩
      have HU2 := Lib.hid hu2
      clear hu2
      go_wp2_with fail
      (with_reducible refine (td_set key ⟨a, bs.length, bs.length⟩ (bs.take bs.length) (ho.out.tab.upd0 HU2.out) (HB.out.upd (hu.out.seq HU2.out) (by simp)) HOL.out (fun d hd hne => ⟨ho.out.sh d hd, ho.out.gr d hd, ap_full (Nat.le_refl _)⟩) ho.out.ap HSC.out (Gr.full (Nat.le_refl _))).mono ?_)
      rintro e w3 ⟨⟨r, rfl⟩, F3, h3, hb3, hu3, hf3⟩
      have hw := hu.out.size
      have hw2 := HU2.out.size
      have H3 := Lib.hid h3
      have HU3 : Hid (Upd [] w w3) := (hu.out.seq HU2.out).trans hu3 (by simp) (fun x hx => .inr (hfr.out x hx))
      have HF3 : Hid (∀ x ∈ F3, w.heap.size ≤ x) := fun x hx => by
        rcases hf3 x hx with q | q
        · exact hfr.out x q
        · omega
      have HD3 : Hid (dfOf (tSet strLt co key (⟨a, bs.length, bs.length⟩, bs.take bs.length)) = (dfOf cs).take (k + 1)) := by unfold Hid; rw [df_set, hdf.out, List.take_length]; exact HST.out
      have HFU3 : Hid (Full (tSet strLt co key (⟨a, bs.length, bs.length⟩, bs.take bs.length))) := fun c hc => by
        rcases tSet_memS ho.out.ris key _ c hc with rfl | ⟨q, -⟩
        · exact Nat.le_refl _
        · exact hfu.out c q
      clear h3 hb3 hu3 hf3 hw hw2 hcut
      go_wp2_with fail
      go_roundw
      case rel => exact ⟨k + 1, F3, _, by omega, by go_num, H3, HFU3, HD3, HU3, HF3⟩
      case measure => simp [intOf]; omega
    · obtain rfl : k = cs.length := by omega
      have he : (dfOf cs).take cs.length = dfOf cs := List.take_of_length_le (by rw [df_len]; exact Nat.le_refl _)
      rw [he] at hdf
      go_wp2_with fail
      go_ret
      exact ⟨g1, Fo, co, rfl, ho.out, hfu.out, hdf.out, hu.out, hfr.out⟩
end
end Go.Proofs.YtmhojaiajhdlcaaGreat
namespace Go.Proofs.YtmhojaiajhdlcaaGreat
open Go.RowKit
set_option linter.unusedSimpArgs false
set_option linter.unusedVariables false
section
variable {w0 w w' : World} {gd gn gm : Nat} {F B : List Nat} {K : KB} {cs : CF}
set_option maxRecDepth 20000 in
set_option maxHeartbeats 2000000 in
theorem mark_any (p1 : Option Addr) (s2 : Sl) (hd : Blk w gd 112 [.pointer (some ⟨gn, 0, none⟩), .pointer p1, slv s2]) (hgd : w0.heap.size ≤ gd) (ht : TD w0 w gn F B K cs) (hB : Bks w0.heap.size w B K) (hlen : cs.length ≤ 100000) :
    Calls Tryz.prog 21 #[.pointer (some ⟨gd, 0, none⟩)] w fun e w' => e = .returned (.tuple #[]) ∧ ∃ gm' Fm' cm', DC w0 w' gd gn gm' F Fm' B K cs cm' (.slice none 0 0) [] ∧ dfOf cm' = dfOf cs ∧ Upd [gd] w w' ∧ (∀ x ∈ Fm', w.heap.size ≤ x) := by
  obtain ⟨la, ln, lk⟩ := s2
  have c0 : w.cell? ⟨gd, 0, none⟩ = some (.pointer (some ⟨gn, 0, none⟩)) := hd.cell 0
  have HD := Lib.hid hd
  have HT := Lib.hid ht
  have HB := Lib.hid hB
  clear hd ht hB
  go_enter Tryz.func21, Tryz.ntmps21
  go_wp2_with fail
  (with_reducible refine (copied_any HT.out HB.out hlen).mono ?_)
  rintro e w1 ⟨g1, F1, cm, rfl, h1, hf1, hdf1, hu1, hfr1⟩
  have hd1 := HD.out.upd hu1 (by simp)
  have c1 : w1.cell? ⟨gd, 1, none⟩ = some (.pointer p1) := hd1.cell 1
  have c2 : w1.cell? ⟨gd, 2, none⟩ = some (.slice la ln lk) := hd1.cell 2
  have f1 := hd1.frozen 1
  have f2 := hd1.frozen 2
  have HD1 := Lib.hid hd1
  have H1 := Lib.hid h1
  have HF1 := Lib.hid hf1
  have HDF1 := Lib.hid hdf1
  have HU1 := Lib.hid hu1
  have HFR1 := Lib.hid hfr1
  clear hd1 h1 hf1 hdf1 hu1 hfr1 c0
  go_wp2_with fail
  go_end0
  have hset : Upd [gd] w1 ((w1.setCell ⟨gd, 1, none⟩ (.pointer (some ⟨g1, 0, none⟩))).setCell ⟨gd, 2, none⟩ (.slice none 0 0)) := ((Upd.refl [gd] w1).setCell _ _ (.inl (by simp))).setCell _ _ (.inl (by simp))
  have hblk := (HD1.out.set_ 1 (.pointer (some ⟨g1, 0, none⟩))).set_ 2 (.slice none 0 0)
  have hS : ∀ x ∈ [gd], w0.heap.size ≤ x := fun x hx => by simp at hx; omega
  have hT1 := HT.out.upd0 HU1.out
  have hB1 := HB.out.upd HU1.out (by simp)
  refine ⟨rfl, g1, F1, cm, ⟨hblk, hgd, hT1.upd hset (fun x hx hy => ?_) hS, H1.out.upd hset (fun x hx hy => ?_) hS, HF1.out, ?_, hB1.upd hset (fun x hx hy => ?_), OwnN.nil _ _ _, by simp⟩, HDF1.out, HU1.out.trans hset (by simp) (fun x hx => .inl hx), HFR1.out⟩
  · simp at hy; subst hy; exact dk_F HD1.out hT1.tab hx
  · simp at hy; subst hy; exact dk_F HD1.out H1.out.tab hx
  · exact Ap.symm (Ap.new (n := w.heap.size) HFR1.out (fun x hx => (HT.out.tab.ge x hx).2))
  · simp at hy; subst hy; exact dk_B HD1.out hB1 hx
end
section
variable {w0 w w' : World} {gd : Nat} {G : List Nat} {s : DS}
theorem dMark_any (h : DD w0 w gd G s) (hl : s.now.length ≤ 100000) :
    Calls Tryz.prog 21 #[.pointer (some ⟨gd, 0, none⟩)] w fun e w' => e = .returned (.tuple #[]) ∧ DOut w0 w gd G (dMark s) w' := by
  obtain ⟨gn, gm, Fn, Fm, B, K, cn, cm, lv, lg, hc, rfl, ho, rfl⟩ := h.ex
  obtain ⟨ao, co, rfl, -⟩ := hc.log.rd lwCells_len
  refine (mark_any _ ⟨ao, lg.length, co⟩ hc.dk hc.gdb hc.now hc.bks (by rwa [df_len] at hl)).mono ?_
  rintro e w' ⟨rfl, gm', Fm', cm', h', hd', hu, hfr⟩
  refine ⟨rfl, _, ⟨gn, gm', Fn, Fm', B, K, cn, cm', _, [], h', by rw [hd']; rfl, ho.mark, rfl⟩, hu.mono (fun x hx => .inl (by simp at hx; subst hx; exact (dfoot_mem _ _ _ _ _ _).2 (.inl rfl))), fun x hx => ?_⟩
  rcases (dfoot_mem _ _ _ _ _ _).1 hx with rfl | hx | hx | hx | hx
  · exact .inl ((dfoot_mem _ _ _ _ _ _).2 (.inl rfl))
  · exact .inl ((dfoot_mem _ _ _ _ _ _).2 (.inr (.inl hx)))
  · exact .inr (hfr x hx)
  · exact .inl ((dfoot_mem _ _ _ _ _ _).2 (.inr (.inr (.inr (.inl hx)))))
  · simp [blk] at hx
theorem wApply_len (x : Wr) (fs : DF) : (wApply x fs).length ≤ fs.length + 1 := by
  have h1 := fun k v => tSet_len (lt := strLt) fs k v
  have h2 := tDel_len (lt := strLt) fs x.nm
  have h3 := tSet_len (lt := strLt) (tDel strLt fs x.nm) x.tn (dGet fs x.nm).1
  unfold wApply
  split
  · exact h1 _ _
  split
  · exact h1 _ _
  split
  · split <;> omega
  split
  · exact h1 _ _
  split <;> omega
theorem wAll_len : ∀ {fs : DF} {l : List Wr}, LogOk fs l → fs.length ≤ 100000 → (wAll fs l).length ≤ 100000
  | fs, [], _, h => h
  | fs, x :: l, h, _ => wAll_len (fs := wApply x fs) h.2 (by have := wApply_len x fs; have := h.1.len; omega)
/-- While the raw writes are done again. -/
structure BL (w0 w wr : World) (gd gm : Nat) (Fn Fm B : List Nat) (K : KB) (cm : CF) (s2 : Sl) (lg : List LW) (k : Nat) (F' B' : List Nat) (K' : KB) (c' : CF) : Prop where
  dk : Blk wr gd 112 [.pointer (some ⟨gm, 0, none⟩), .pointer (some ⟨gm, 0, none⟩), slv s2]
  tab : TD w0 wr gm F' B' K' c'
  bks : Bks w0.heap.size wr B' K'
  ext : Ext B K B' K'
  eq : dfOf c' = wAll (dfOf cm) ((lg.map (·.1)).take k)
  log : OwnN 5 lwCells w0.heap.size 115 wr (slv s2) lg
  lsh : ∀ x ∈ lg, Sh B' K' x.2 x.1.p
  upd : Upd (dfoot gd Fn Fm B (slv s2)) w wr
  ff : ∀ x ∈ F', x ∈ Fm ∨ w.heap.size ≤ x
  fb : ∀ x ∈ B', x ∈ B ∨ w.heap.size ≤ x
theorem BL.upd0 {w0 w wr w' : World} {gd gm : Nat} {Fn Fm B : List Nat} {K : KB} {cm : CF} {s2 : Sl} {lg : List LW} {k : Nat} {F' B' : List Nat} {K' : KB} {c' : CF} (h : BL w0 w wr gd gm Fn Fm B K cm s2 lg k F' B' K' c') (hu : Upd [] wr w') : BL w0 w w' gd gm Fn Fm B K cm s2 lg k F' B' K' c' :=
  ⟨h.dk.upd hu (by simp), h.tab.upd0 hu, h.bks.upd hu (by simp), h.ext, h.eq, h.log.upd hu (by simp), h.lsh, h.upd.trans hu (fun x hx => hx) (by simp), h.ff, h.fb⟩
theorem BL.step {w0 w wr w' : World} {gd gm : Nat} {Fn Fm B : List Nat} {K : KB} {cm : CF} {s2 : Sl} {lg : List LW} {k : Nat} {F' B' : List Nat} {K' : KB} {c' : CF} (h : BL w0 w wr gd gm Fn Fm B K cm s2 lg k F' B' K' c') (hk : k < lg.length) (hd : TDoes w0 wr gm F' B' K' (wApply (nth lg k).1 (dfOf c')) w') :
    ∃ F'' B'' K'' c'', BL w0 w w' gd gm Fn Fm B K cm s2 lg (k + 1) F'' B'' K'' c'' := by
  obtain ⟨F2, B2, K2, c2, h1, h2, h3, h4, h5, h6, h7⟩ := hd
  have hw := h.upd.size
  refine ⟨F2, B2, K2, c2, ⟨h.dk.upd h5 (fun hx => ?_), h1, h2, h.ext.trans h3, ?_, h.log.upd h5 (fun x hx hx' => ?_), fun x hx => (h.lsh x hx).ext h3, h.upd.trans h5 (fun x hx => hx) (fun x hx => ?_), fun x hx => ?_, fun x hx => ?_⟩⟩
  · rcases List.mem_append.1 hx with q | q
    · exact dk_F h.dk h.tab.tab q
    · exact dk_B h.dk h.bks q
  · rw [h4, h.eq, wAll_take _ _ k (by simpa using hk)]
    congr 1
    rw [nth_get lg k hk, nth_get (lg.map (·.1)) k (by simpa using hk)]; simp
  · rcases List.mem_append.1 hx' with q | q
    · exact log_F h.log h.tab.tab x hx q
    · exact log_B h.log h.bks x hx q
  · rcases List.mem_append.1 hx with q | q
    · exact (h.ff x q).imp (fun q => (dfoot_mem _ _ _ _ _ _).2 (.inr (.inr (.inl q)))) id
    · exact (h.fb x q).imp (fun q => (dfoot_mem _ _ _ _ _ _).2 (.inr (.inr (.inr (.inl q))))) id
  · rcases h6 x hx with q | q
    · exact h.ff x q
    · exact .inr (by omega)
  · rcases h7 x hx with q | q
    · exact h.fb x q
    · exact .inr (by omega)
theorem BL.wok {w0 w wr : World} {gd gm : Nat} {Fn Fm B : List Nat} {K : KB} {cm : CF} {s2 : Sl} {lg : List LW} {k : Nat} {F' B' : List Nat} {K' : KB} {c' : CF} (h : BL w0 w wr gd gm Fn Fm B K cm s2 lg k F' B' K' c') (ho : LogOk (dfOf cm) (lg.map (·.1))) (hk : k < lg.length) : WrOk (nth lg k).1 (dfOf c') := by
  have h1 := ho.at_ k (by simpa using hk)
  rw [← h.eq, nth_get (lg.map (·.1)) k (by simpa using hk)] at h1
  rw [nth_get lg k hk]
  simpa using h1
theorem BL.step0 {w0 w wr w' : World} {gd gm : Nat} {Fn Fm B : List Nat} {K : KB} {cm : CF} {s2 : Sl} {lg : List LW} {k : Nat} {F' B' : List Nat} {K' : KB} {c' : CF} (h : BL w0 w wr gd gm Fn Fm B K cm s2 lg k F' B' K' c') (hk : k < lg.length) (hd : TDoes w0 wr gm F' B' K' (wApply (nth lg k).1 (dfOf c')) w') :
    ∃ F'' B'' K'' c'', BL w0 w w' gd gm Fn Fm B K cm s2 lg (k + 1) F'' B'' K'' c'' := h.step hk hd
theorem TDoes.later {w0 w w1 w' : World} {g : Nat} {F B : List Nat} {K : KB} {fs : DF} (h : TDoes w0 w1 g F B K fs w') (hu : Upd [] w w1) : TDoes w0 w g F B K fs w' := by
  obtain ⟨F2, B2, K2, c2, h1, h2, h3, h4, h5, h6, h7⟩ := h
  have := hu.size
  exact ⟨F2, B2, K2, c2, h1, h2, h3, h4, hu.trans h5 (by simp) (fun x hx => .inl hx), fun x hx => (h6 x hx).imp id (fun q => by omega), fun x hx => (h7 x hx).imp id (fun q => by omega)⟩
theorem BL.finish {w0 w wr w' : World} {gd gm gm' : Nat} {Fn Fm Fm' B : List Nat} {K : KB} {cn cm cm' : CF} {s2 : Sl} {lg : List LW} {k : Nat} {F' B' : List Nat} {K' : KB} {c' : CF} (h : BL w0 w wr gd gm Fn Fm B K cm s2 lg k F' B' K' c') (ho : DOk ⟨dfOf cn, dfOf cm, lg.map (·.1)⟩) (n : Int) (hm : min n.toNat lg.length = k)
    (h1 : DC w0 w' gd gm gm' F' Fm' B' K' c' cm' (.slice none 0 0) []) (h2 : dfOf cm' = dfOf c') (hu : Upd [gd] wr w') (hf : ∀ x ∈ Fm', wr.heap.size ≤ x) : DOut w0 w gd (dfoot gd Fn Fm B (slv s2)) (dBack ⟨dfOf cn, dfOf cm, lg.map (·.1)⟩ n) w' := by
  have he : dBackF ⟨dfOf cn, dfOf cm, lg.map (·.1)⟩ n = dfOf c' := by
    unfold dBackF
    rw [h.eq, ← hm]
    dsimp only
    congr 1
    rw [List.take_eq_take_iff]
    simp
  have hw := h.upd.size
  refine ⟨_, ⟨gm, gm', F', Fm', B', K', c', cm', _, [], h1, by unfold dBack; rw [he, h2]; rfl, ho.back n, rfl⟩, h.upd.trans hu (fun x hx => hx) (fun x hx => .inl (by simp at hx; subst hx; exact (dfoot_mem _ _ _ _ _ _).2 (.inl rfl))), fun x hx => ?_⟩
  rcases (dfoot_mem _ _ _ _ _ _).1 hx with rfl | hx | hx | hx | hx
  · exact .inl ((dfoot_mem _ _ _ _ _ _).2 (.inl rfl))
  · exact (h.ff x hx).imp (fun q => (dfoot_mem _ _ _ _ _ _).2 (.inr (.inr (.inl q)))) id
  · exact .inr (by have := hf x hx; omega)
  · exact (h.fb x hx).imp (fun q => (dfoot_mem _ _ _ _ _ _).2 (.inr (.inr (.inr (.inl q))))) id
  · simp [blk] at hx
set_option maxRecDepth 20000 in
set_option maxHeartbeats 4000000 in
theorem dBack_any (n : Int) (hn : I64 n) (h : DD w0 w gd G s) (hl : s.mark.length ≤ 100000) :
    Calls Tryz.prog 35 #[.pointer (some ⟨gd, 0, none⟩), .int .i64 n] w fun e w' => e = .returned (.tuple #[]) ∧ DOut w0 w gd G (dBack s n) w' := by
  obtain ⟨gn, gm, Fn, Fm, B, K, cn, cm, lv, lg, hc, rfl, ho, rfl⟩ := h.ex
  obtain ⟨ao, co, rfl, hlc, hcm, -⟩ := hc.log.rd lwCells_len
  have hmx : co ≤ 9223372036854775807 := by unfold maxLen at hcm; omega
  have c1 : w.cell? ⟨gd, 1, none⟩ = some (.pointer (some ⟨gm, 0, none⟩)) := hc.dk.cell 1
  have f0 := hc.dk.frozen 0
  have c0 : w.cell? ⟨gd, 0, none⟩ = some (.pointer (some ⟨gn, 0, none⟩)) := hc.dk.cell 0
  have hset : Upd [gd] w (w.setCell ⟨gd, 0, none⟩ (.pointer (some ⟨gm, 0, none⟩))) := (Upd.refl [gd] w).setCell _ _ (.inl (by simp))
  have hblk := hc.dk.set_ 0 (.pointer (some ⟨gm, 0, none⟩))
  have hS : ∀ x ∈ [gd], w0.heap.size ≤ x := fun x hx => by simp at hx; subst hx; exact hc.gdb
  have HBL : Hid (BL w0 w (w.setCell ⟨gd, 0, none⟩ (.pointer (some ⟨gm, 0, none⟩))) gd gm Fn Fm B K cm ⟨ao, lg.length, co⟩ lg 0 Fm B K cm) :=
    ⟨hblk, hc.mark.upd hset (fun x hx hy => by simp at hy; subst hy; exact dk_F hc.dk hc.mark.tab hx) hS, hc.bks.upd hset (fun x hx hy => by simp at hy; subst hy; exact dk_B hc.dk hc.bks hx), Ext.refl _ _, rfl, hc.log.upd hset (fun x hx hy => by simp at hy; subst hy; exact dk_L hc.dk hc.log hx), hc.lsh,
      hset.mono (fun x hx => .inl (by simp at hx; subst hx; exact (dfoot_mem _ _ _ _ _ _).2 (.inl rfl))), fun x hx => .inl hx, fun x hx => .inl hx⟩
  have HLOK := Lib.hid ho.log
  have HDK := Lib.hid ho
  have HGDB := Lib.hid hc.gdb
  have HML : Hid ((dfOf cm).length ≤ 100000) := hl
  have HN := Lib.hid hn
  clear h hc hset hblk hS ho hl
  go_enter Tryz.func35, Tryz.ntmps35
  go_wp2_with fail
  generalize w.setCell ⟨gd, 0, none⟩ (.pointer (some ⟨gm, 0, none⟩)) = w1 at *
  have c2 : w1.cell? ⟨gd, 2, none⟩ = some (.slice ao lg.length co) := HBL.out.dk.cell 2
  have hcase : (n ≤ 0 ∧ Hid (min n.toNat lg.length = 0)) ∨ (∃ m : Nat, n = (m : Int) ∧ 0 < m ∧ m ≤ lg.length ∧ Hid (min n.toNat lg.length = m)) ∨ ((lg.length : Int) < n ∧ 0 < n ∧ Hid (min n.toNat lg.length = lg.length)) := by
    unfold Hid
    rcases Int.lt_or_le 0 n with q | q
    · obtain ⟨m, rfl⟩ := Int.eq_ofNat_of_zero_le (Int.le_of_lt q)
      rcases Nat.lt_or_ge lg.length m with r | r
      · exact .inr (.inr ⟨by omega, q, by simp; omega⟩)
      · exact .inr (.inl ⟨m, rfl, by omega, r, by simp; omega⟩)
    · exact .inl ⟨q, by omega⟩
  rcases hcase with ⟨hn0, hm⟩ | ⟨m, rfl, hm0, hml, hm⟩ | ⟨hnl, hn0, hm⟩
  · rcases (show n < 0 ∨ n = 0 by omega) with q | rfl
    · have z0 : (if n < 0 then 0 else n) = 0 := if_pos q
      have HM := Lib.hid hm
      clear hm
      go_wp2_with fail
      go_quiet (fail)
      have HBQ : Hid (BL w0 w (w1.drewN nq) gd gm Fn Fm B K cm ⟨ao, lg.length, co⟩ lg 0 Fm B K cm) := HBL.out.upd0 ((Upd.refl [] w1).drewN _)
      generalize w1.drewN nq = w2 at *
      clear HBL c2 c1 f0 c0
      go_wp2_with fail
      go_loopw [27] (fun i wr => ∃ (k : Nat) (F' B' : List Nat) (K' : KB) (c' : CF), k ≤ 0 ∧ i = .int .i64 k ∧ Hid (BL w0 w wr gd gm Fn Fm B K cm ⟨ao, lg.length, co⟩ lg k F' B' K' c')) (fun i _ => 0 - (intOf i).toNat)
      case atStart => exact ⟨0, Fm, B, K, cm, Nat.zero_le _, rfl, HBQ⟩
      case round =>
        obtain ⟨k, F', B', K', c', hk, rfl, hb⟩ := hrel
        clear HBQ
        by_cases hlt : k < 0
        · exact absurd hlt (Nat.not_lt_zero _)
        · obtain rfl : k = 0 := by omega
          have HLEN : Hid (c'.length ≤ 100000) := by
            have h1 := wAll_len (HLOK.out.take 0) HML.out
            rw [← hb.out.eq, df_len] at h1
            exact h1
          go_wp2_with fail
          (with_reducible refine (mark_any (some ⟨gm, 0, none⟩) ⟨ao, lg.length, co⟩ hb.out.dk HGDB.out hb.out.tab hb.out.bks HLEN.out).mono ?_)
          rintro e w5 ⟨rfl, gm', Fm', cm', h', hd', hu, hfr⟩
          have HF := Lib.hid (hb.out.finish HDK.out n HM.out h' hd' hu hfr)
          clear h' hd' hu hfr hb
          go_wp2_with fail
          go_end0
          exact ⟨rfl, HF.out⟩
    · have HM := Lib.hid hm
      clear hm
      go_wp2_with fail
      go_quiet (fail)
      have HBQ : Hid (BL w0 w (w1.drewN nq) gd gm Fn Fm B K cm ⟨ao, lg.length, co⟩ lg 0 Fm B K cm) := HBL.out.upd0 ((Upd.refl [] w1).drewN _)
      generalize w1.drewN nq = w2 at *
      clear HBL c2 c1 f0 c0
      go_wp2_with fail
      go_loopw [27] (fun i wr => ∃ (k : Nat) (F' B' : List Nat) (K' : KB) (c' : CF), k ≤ 0 ∧ i = .int .i64 k ∧ Hid (BL w0 w wr gd gm Fn Fm B K cm ⟨ao, lg.length, co⟩ lg k F' B' K' c')) (fun i _ => 0 - (intOf i).toNat)
      case atStart => exact ⟨0, Fm, B, K, cm, Nat.zero_le _, rfl, HBQ⟩
      case round =>
        obtain ⟨k, F', B', K', c', hk, rfl, hb⟩ := hrel
        clear HBQ
        by_cases hlt : k < 0
        · exact absurd hlt (Nat.not_lt_zero _)
        · obtain rfl : k = 0 := by omega
          have HLEN : Hid (c'.length ≤ 100000) := by
            have h1 := wAll_len (HLOK.out.take 0) HML.out
            rw [← hb.out.eq, df_len] at h1
            exact h1
          go_wp2_with fail
          (with_reducible refine (mark_any (some ⟨gm, 0, none⟩) ⟨ao, lg.length, co⟩ hb.out.dk HGDB.out hb.out.tab hb.out.bks HLEN.out).mono ?_)
          rintro e w5 ⟨rfl, gm', Fm', cm', h', hd', hu, hfr⟩
          have HF := Lib.hid (hb.out.finish HDK.out 0 HM.out h' hd' hu hfr)
          clear h' hd' hu hfr hb
          go_wp2_with fail
          go_end0
          exact ⟨rfl, HF.out⟩
  · have HM := Lib.hid hm
    clear hm
    go_wp2_with fail
    go_quiet (fail)
    have HBQ : Hid (BL w0 w (w1.drewN nq) gd gm Fn Fm B K cm ⟨ao, lg.length, co⟩ lg 0 Fm B K cm) := HBL.out.upd0 ((Upd.refl [] w1).drewN _)
    generalize w1.drewN nq = w2 at *
    clear HBL c2 c1 f0 c0
    go_wp2_with fail
    go_loopw [27] (fun i wr => ∃ (k : Nat) (F' B' : List Nat) (K' : KB) (c' : CF), k ≤ m ∧ i = .int .i64 k ∧ Hid (BL w0 w wr gd gm Fn Fm B K cm ⟨ao, lg.length, co⟩ lg k F' B' K' c')) (fun i _ => m - (intOf i).toNat)
    case atStart => exact ⟨0, Fm, B, K, cm, Nat.zero_le _, rfl, HBQ⟩
    case round =>
      obtain ⟨k, F', B', K', c', hk, rfl, hb⟩ := hrel
      clear HBQ
      by_cases hlt : k < m
      · have hkl : k < lg.length := by omega
        obtain ⟨la, lc, he, -, -, hcell⟩ := hb.out.log.rd lwCells_len
        have e1 : ao = la := (Value.slice.inj he).1
        obtain ⟨lb, loff, e2, hcell⟩ := hcell (by intro h; simp [h] at hkl)
        obtain rfl : ao = some ⟨lb, loff, none⟩ := e1.trans e2
        have d0 : wr.cell? ⟨lb, loff + k * 5, none⟩ = some (.int .i64 (nth lg k).1.kd) := hcell k hkl 0 (by omega)
        have d1 : wr.cell? ⟨lb, loff + k * 5 + 1, none⟩ = some (sv (nth lg k).1.nm) := hcell k hkl 1 (by omega)
        have d2 : wr.cell? ⟨lb, loff + k * 5 + 2, none⟩ = some (sv (nth lg k).1.tn) := hcell k hkl 2 (by omega)
        have d3 : wr.cell? ⟨lb, loff + k * 5 + 3, none⟩ = some (slv (nth lg k).2) := hcell k hkl 3 (by omega)
        have d4 : wr.cell? ⟨lb, loff + k * 5 + 4, none⟩ = some (.int .i64 (nth lg k).1.n) := hcell k hkl 4 (by omega)
        have HW := Lib.hid (hb.out.wok HLOK.out hkl)
        have HSH := Lib.hid (hb.out.lsh (nth lg k) (by rw [nth_get _ _ hkl]; exact List.getElem_mem _))
        have HST := Lib.hid (fun w' hd => hb.out.step0 (w' := w') hkl hd)
        clear he hcell e1 e2
        generalize nth lg k = x at *
        obtain ⟨⟨kd, nm, tn, p, nn⟩, ⟨pa, pn, pk⟩⟩ := x
        simp only [slv, sv] at d0 d1 d2 d3 d4
        have q1 : (0 : Int) ≤ k := by omega
        have q2 : (k : Int) < m := by omega
        have hua : Upd [] wr (wr.alloc (.cells #[.int .i64 kd, sv nm, sv tn, .slice pa pn pk, .int .i64 nn] 115)) := (Upd.refl [] wr).alloc _
        have HB := Lib.hid (hb.out.upd0 hua)
        have hbx := Blk.new wr 115 [.int .i64 kd, sv nm, sv tn, .slice pa pn pk, .int .i64 nn]
        have HBX := Lib.hid hbx
        have HUA := Lib.hid hua
        clear hb hua hbx
        go_wp2_with fail
        have b0 := HBX.out.cell 0
        have b1 := HBX.out.cell 1
        have b2 := HBX.out.cell 2
        have b3 := HBX.out.cell 3
        have b4 := HBX.out.cell 4
        simp only [List.getElem?_cons_zero, List.getElem?_cons_succ] at b0 b1 b2 b3 b4
        generalize wr.alloc (.cells #[.int .i64 kd, sv nm, sv tn, .slice pa pn pk, .int .i64 nn] 115) = w3 at *
        have c0 : w3.cell? ⟨gd, 0, none⟩ = some (.pointer (some ⟨gm, 0, none⟩)) := HB.out.dk.cell 0
        clear d0 d1 d2 d3 d4
        go_still_tail 5, (by kernel_rfl)
        change wpList _ _ _ _ _ w3.drew
        go_wp2_with fail
        (with_reducible refine (apply_any ⟨kd, nm, tn, p, nn⟩ ⟨pa, pn, pk⟩ HW.out (HB.out.tab.upd0 (Upd.refl [] w3).drew) (HB.out.bks.upd (Upd.refl [] w3).drew (by simp)) HSH.out).mono ?_)
        rintro e w4 ⟨rfl, hd⟩
        have HD : Hid (TDoes w0 wr gm F' B' K' (wApply ⟨kd, nm, tn, p, nn⟩ (dfOf c')) w4) := hd.later HUA.out.drew
        clear hd c0
        obtain ⟨F4, B4, K4, c4, hb4⟩ := HST.out w4 HD.out
        have HB4 := Lib.hid hb4
        clear hb4 HST
        go_wp2_with fail
        go_roundw
        case rel => exact ⟨k + 1, F4, B4, K4, c4, by omega, by go_num, HB4⟩
        case measure => simp [intOf]; omega
      · obtain rfl : m = k := by omega
        have HLEN : Hid (c'.length ≤ 100000) := by
          have h1 := wAll_len (HLOK.out.take m) HML.out
          rw [← hb.out.eq, df_len] at h1
          exact h1
        go_wp2_with fail
        (with_reducible refine (mark_any (some ⟨gm, 0, none⟩) ⟨ao, lg.length, co⟩ hb.out.dk HGDB.out hb.out.tab hb.out.bks HLEN.out).mono ?_)
        rintro e w5 ⟨rfl, gm', Fm', cm', h', hd', hu, hfr⟩
        have HF := Lib.hid (hb.out.finish HDK.out (m : Int) HM.out h' hd' hu hfr)
        clear h' hd' hu hfr hb
        go_wp2_with fail
        go_end0
        exact ⟨rfl, HF.out⟩
  · have HM := Lib.hid hm
    clear hm
    go_wp2_with fail
    go_quiet (fail)
    have HBQ : Hid (BL w0 w (w1.drewN nq) gd gm Fn Fm B K cm ⟨ao, lg.length, co⟩ lg 0 Fm B K cm) := HBL.out.upd0 ((Upd.refl [] w1).drewN _)
    generalize w1.drewN nq = w2 at *
    clear HBL c2 c1 f0 c0
    go_wp2_with fail
    go_loopw [27] (fun i wr => ∃ (k : Nat) (F' B' : List Nat) (K' : KB) (c' : CF), k ≤ lg.length ∧ i = .int .i64 k ∧ Hid (BL w0 w wr gd gm Fn Fm B K cm ⟨ao, lg.length, co⟩ lg k F' B' K' c')) (fun i _ => lg.length - (intOf i).toNat)
    case atStart => exact ⟨0, Fm, B, K, cm, Nat.zero_le _, rfl, HBQ⟩
    case round =>
      obtain ⟨k, F', B', K', c', hk, rfl, hb⟩ := hrel
      clear HBQ
      by_cases hlt : k < lg.length
      · have hkl : k < lg.length := by omega
        obtain ⟨la, lc, he, -, -, hcell⟩ := hb.out.log.rd lwCells_len
        have e1 : ao = la := (Value.slice.inj he).1
        obtain ⟨lb, loff, e2, hcell⟩ := hcell (by intro h; simp [h] at hkl)
        obtain rfl : ao = some ⟨lb, loff, none⟩ := e1.trans e2
        have d0 : wr.cell? ⟨lb, loff + k * 5, none⟩ = some (.int .i64 (nth lg k).1.kd) := hcell k hkl 0 (by omega)
        have d1 : wr.cell? ⟨lb, loff + k * 5 + 1, none⟩ = some (sv (nth lg k).1.nm) := hcell k hkl 1 (by omega)
        have d2 : wr.cell? ⟨lb, loff + k * 5 + 2, none⟩ = some (sv (nth lg k).1.tn) := hcell k hkl 2 (by omega)
        have d3 : wr.cell? ⟨lb, loff + k * 5 + 3, none⟩ = some (slv (nth lg k).2) := hcell k hkl 3 (by omega)
        have d4 : wr.cell? ⟨lb, loff + k * 5 + 4, none⟩ = some (.int .i64 (nth lg k).1.n) := hcell k hkl 4 (by omega)
        have HW := Lib.hid (hb.out.wok HLOK.out hkl)
        have HSH := Lib.hid (hb.out.lsh (nth lg k) (by rw [nth_get _ _ hkl]; exact List.getElem_mem _))
        have HST := Lib.hid (fun w' hd => hb.out.step0 (w' := w') hkl hd)
        clear he hcell e1 e2
        generalize nth lg k = x at *
        obtain ⟨⟨kd, nm, tn, p, nn⟩, ⟨pa, pn, pk⟩⟩ := x
        simp only [slv, sv] at d0 d1 d2 d3 d4
        have q1 : (0 : Int) ≤ k := by omega
        have q2 : (k : Int) < lg.length := by omega
        have hua : Upd [] wr (wr.alloc (.cells #[.int .i64 kd, sv nm, sv tn, .slice pa pn pk, .int .i64 nn] 115)) := (Upd.refl [] wr).alloc _
        have HB := Lib.hid (hb.out.upd0 hua)
        have hbx := Blk.new wr 115 [.int .i64 kd, sv nm, sv tn, .slice pa pn pk, .int .i64 nn]
        have HBX := Lib.hid hbx
        have HUA := Lib.hid hua
        clear hb hua hbx
        go_wp2_with fail
        have b0 := HBX.out.cell 0
        have b1 := HBX.out.cell 1
        have b2 := HBX.out.cell 2
        have b3 := HBX.out.cell 3
        have b4 := HBX.out.cell 4
        simp only [List.getElem?_cons_zero, List.getElem?_cons_succ] at b0 b1 b2 b3 b4
        generalize wr.alloc (.cells #[.int .i64 kd, sv nm, sv tn, .slice pa pn pk, .int .i64 nn] 115) = w3 at *
        have c0 : w3.cell? ⟨gd, 0, none⟩ = some (.pointer (some ⟨gm, 0, none⟩)) := HB.out.dk.cell 0
        clear d0 d1 d2 d3 d4
        go_still_tail 5, (by kernel_rfl)
        change wpList _ _ _ _ _ w3.drew
        go_wp2_with fail
        (with_reducible refine (apply_any ⟨kd, nm, tn, p, nn⟩ ⟨pa, pn, pk⟩ HW.out (HB.out.tab.upd0 (Upd.refl [] w3).drew) (HB.out.bks.upd (Upd.refl [] w3).drew (by simp)) HSH.out).mono ?_)
        rintro e w4 ⟨rfl, hd⟩
        have HD : Hid (TDoes w0 wr gm F' B' K' (wApply ⟨kd, nm, tn, p, nn⟩ (dfOf c')) w4) := hd.later HUA.out.drew
        clear hd c0
        obtain ⟨F4, B4, K4, c4, hb4⟩ := HST.out w4 HD.out
        have HB4 := Lib.hid hb4
        clear hb4 HST
        go_wp2_with fail
        go_roundw
        case rel => exact ⟨k + 1, F4, B4, K4, c4, by omega, by go_num, HB4⟩
        case measure => simp [intOf]; omega
      · obtain rfl : k = lg.length := by omega
        have HLEN : Hid (c'.length ≤ 100000) := by
          have h1 := wAll_len (HLOK.out.take lg.length) HML.out
          rw [← hb.out.eq, df_len] at h1
          exact h1
        go_wp2_with fail
        (with_reducible refine (mark_any (some ⟨gm, 0, none⟩) ⟨ao, lg.length, co⟩ hb.out.dk HGDB.out hb.out.tab hb.out.bks HLEN.out).mono ?_)
        rintro e w5 ⟨rfl, gm', Fm', cm', h', hd', hu, hfr⟩
        have HF := Lib.hid (hb.out.finish HDK.out n HM.out h' hd' hu hfr)
        clear h' hd' hu hfr hb
        go_wp2_with fail
        go_end0
        exact ⟨rfl, HF.out⟩
end
end Go.Proofs.YtmhojaiajhdlcaaGreat
namespace Go.Proofs.YtmhojaiajhdlcaaGreat
open Go.RowKit
set_option linter.unusedSimpArgs false
set_option linter.unusedVariables false
set_option maxRecDepth 20000 in
set_option maxHeartbeats 1000000 in
theorem dnamed_lo (w : World) (s : ByteArray) (h : s.size < 1) :
    Calls Tryz.prog 64 #[sv s] w fun e w' => e = .returned (.bool (nameOk s)) ∧ w = w' := by
  have q : ¬ (1 : Int) ≤ s.size := by omega
  have HN : Hid (nameOk s = false) := by unfold Hid nameOk; exact decide_eq_false (fun x => by omega)
  go_enter Tryz.func64, Tryz.ntmps64
  go_wp2_with fail
  go_loopw [3, 4] (fun x i wr => ∃ (k : Nat) (b : Bool), k ≤ s.size ∧ i = .int .i64 k ∧ x = .bool b ∧ w = wr ∧ Hid (b = true → 1 ≤ s.size ∧ s.size ≤ 32 ∧ ∀ j (h : j < s.size), j < k → 33 ≤ (s[j]).toNat ∧ (s[j]).toNat ≤ 126) ∧ Hid (b = false → nameOk s = false)) (fun _ i _ => s.size - (intOf i).toNat)
  case atStart => exact ⟨0, false, Nat.zero_le _, rfl, rfl, rfl, fun h => absurd h (by simp), fun _ => HN.out⟩
  case round =>
    obtain ⟨k, b, hk, rfl, rfl, rfl, ht, hf⟩ := hrel
    by_cases hlt : k < s.size
    · exact absurd hlt (by omega)
    · obtain rfl : k = s.size := by omega
      have HN : Hid (nameOk s = b) := by
        cases b with
        | false => exact hf.out rfl
        | true => obtain ⟨t1, t2, t3⟩ := ht.out rfl; unfold Hid nameOk; exact decide_eq_true ⟨t1, t2, fun j hj => t3 j hj hj⟩
      clear ht hf
      go_wp2_with fail
      go_ret
      exact ⟨by rw [HN.out]; rfl, rfl⟩
set_option maxRecDepth 20000 in
set_option maxHeartbeats 1000000 in
theorem dnamed_hi (w : World) (s : ByteArray) (h : 32 < s.size) :
    Calls Tryz.prog 64 #[sv s] w fun e w' => e = .returned (.bool (nameOk s)) ∧ w = w' := by
  have q : (1 : Int) ≤ s.size := by omega
  have q' : ¬ (s.size : Int) ≤ 32 := by omega
  have HN : Hid (nameOk s = false) := by unfold Hid nameOk; exact decide_eq_false (fun x => by omega)
  go_enter Tryz.func64, Tryz.ntmps64
  go_wp2_with fail
  go_loopw [3, 4] (fun x i wr => ∃ (k : Nat) (b : Bool), k ≤ s.size ∧ i = .int .i64 k ∧ x = .bool b ∧ w = wr ∧ Hid (b = true → 1 ≤ s.size ∧ s.size ≤ 32 ∧ ∀ j (h : j < s.size), j < k → 33 ≤ (s[j]).toNat ∧ (s[j]).toNat ≤ 126) ∧ Hid (b = false → nameOk s = false)) (fun _ i _ => s.size - (intOf i).toNat)
  case atStart => exact ⟨0, false, Nat.zero_le _, rfl, rfl, rfl, fun h => absurd h (by simp), fun _ => HN.out⟩
  case round =>
    obtain ⟨k, b, hk, rfl, rfl, rfl, ht, hf⟩ := hrel
    by_cases hlt : k < s.size
    · have q1 : (k : Int) < s.size := by omega
      have q0 : (0 : Int) ≤ k := by omega
      cases b with
      | true =>
        exact absurd (ht.out rfl).2.1 (by omega)
      | false =>
        have HN := Lib.hid (hf.out rfl)
        clear ht hf
        go_wp2_with fail
        go_ret
        exact ⟨by rw [HN.out]; rfl, rfl⟩
    · obtain rfl : k = s.size := by omega
      have HN : Hid (nameOk s = b) := by
        cases b with
        | false => exact hf.out rfl
        | true => obtain ⟨t1, t2, t3⟩ := ht.out rfl; unfold Hid nameOk; exact decide_eq_true ⟨t1, t2, fun j hj => t3 j hj hj⟩
      clear ht hf
      go_wp2_with fail
      go_ret
      exact ⟨by rw [HN.out]; rfl, rfl⟩
set_option maxRecDepth 20000 in
set_option maxHeartbeats 1000000 in
theorem dnamed_mid (w : World) (s : ByteArray) (h : 1 ≤ s.size) (h2 : s.size ≤ 32) :
    Calls Tryz.prog 64 #[sv s] w fun e w' => e = .returned (.bool (nameOk s)) ∧ w = w' := by
  have q : (1 : Int) ≤ s.size := by omega
  have q' : (s.size : Int) ≤ 32 := by omega
  go_enter Tryz.func64, Tryz.ntmps64
  go_wp2_with fail
  go_loopw [3, 4] (fun x i wr => ∃ (k : Nat) (b : Bool), k ≤ s.size ∧ i = .int .i64 k ∧ x = .bool b ∧ w = wr ∧ Hid (b = true → 1 ≤ s.size ∧ s.size ≤ 32 ∧ ∀ j (h : j < s.size), j < k → 33 ≤ (s[j]).toNat ∧ (s[j]).toNat ≤ 126) ∧ Hid (b = false → nameOk s = false)) (fun _ i _ => s.size - (intOf i).toNat)
  case atStart => exact ⟨0, true, Nat.zero_le _, rfl, rfl, rfl, fun _ => ⟨by omega, by omega, fun j _ h => absurd h (by omega)⟩, fun h => absurd h (by simp)⟩
  case round =>
    obtain ⟨k, b, hk, rfl, rfl, rfl, ht, hf⟩ := hrel
    by_cases hlt : k < s.size
    · have q1 : (k : Int) < s.size := by omega
      have q0 : (0 : Int) ≤ k := by omega
      cases b with
      | true =>
        obtain ⟨t1, t2, t3⟩ := ht.out rfl
        have HT3 := Lib.hid t3
        clear t3 ht hf
        by_cases b1 : 33 ≤ (s[k]).toNat
        · have c1 : ¬ ((s[k]).toNat : Int) < 33 := by omega
          by_cases b2 : (s[k]).toNat ≤ 126
          · have c2 : ¬ (126 : Int) < ((s[k]).toNat : Int) := by omega
            have HB1 := Lib.hid b1
            have HB2 := Lib.hid b2
            have e1 : decide (33 ≤ (s[k]).toNat) = true := decide_eq_true b1
            have e2 : decide ((s[k]).toNat ≤ 126) = true := decide_eq_true b2
            clear b1 b2
            go_wp2_with fail
            go_roundw
            case rel => exact ⟨k + 1, true, by omega, by go_num, by first | rfl | exact congrArg Value.bool (decide_eq_true (by omega)), by first | trivial | rfl, fun _ => ⟨t1, t2, fun j hj hjk => by
              rcases Nat.lt_or_eq_of_le (Nat.le_of_lt_succ hjk) with h | h
              · exact HT3.out j hj h
              · subst h; exact ⟨HB1.out, HB2.out⟩⟩, fun h => absurd h (by simp)⟩
            case measure => (try simp [intOf]) <;> omega
          · have c2 : (126 : Int) < ((s[k]).toNat : Int) := by omega
            have HN : Hid (nameOk s = false) := by unfold Hid nameOk; exact decide_eq_false (fun h => b2 (h.2.2 k hlt).2)
            have HB1 := Lib.hid b1
            have e1 : decide (33 ≤ (s[k]).toNat) = true := decide_eq_true b1
            have e2 : decide ((s[k]).toNat ≤ 126) = false := decide_eq_false b2
            clear b1 b2
            go_wp2_with fail
            go_roundw
            case rel => exact ⟨k + 1, false, by omega, by go_num, by first | rfl | exact congrArg Value.bool (decide_eq_false (by omega)), by first | trivial | rfl, fun h => absurd h (by simp), fun _ => HN.out⟩
            case measure => (try simp [intOf]) <;> omega
        · have c1 : ((s[k]).toNat : Int) < 33 := by omega
          have HN : Hid (nameOk s = false) := by unfold Hid nameOk; exact decide_eq_false (fun h => b1 (h.2.2 k hlt).1)
          have e1 : decide (33 ≤ (s[k]).toNat) = false := decide_eq_false b1
          clear b1
          go_wp2_with fail
          go_roundw
          case rel => exact ⟨k + 1, false, by omega, by go_num, by first | rfl | exact congrArg Value.bool (decide_eq_false (by omega)), by first | trivial | rfl, fun h => absurd h (by simp), fun _ => HN.out⟩
          case measure => (try simp [intOf]) <;> omega
      | false =>
        have HN := Lib.hid (hf.out rfl)
        clear ht hf
        go_wp2_with fail
        go_ret
        exact ⟨by rw [HN.out]; rfl, rfl⟩
    · obtain rfl : k = s.size := by omega
      have HN : Hid (nameOk s = b) := by
        cases b with
        | false => exact hf.out rfl
        | true => obtain ⟨t1, t2, t3⟩ := ht.out rfl; unfold Hid nameOk; exact decide_eq_true ⟨t1, t2, fun j hj => t3 j hj hj⟩
      clear ht hf
      go_wp2_with fail
      go_ret
      exact ⟨by rw [HN.out]; rfl, rfl⟩
theorem dnamed_any (w : World) (s : ByteArray) :
    Calls Tryz.prog 64 #[sv s] w fun e w' => e = .returned (.bool (nameOk s)) ∧ w = w' := by
  rcases (show s.size < 1 ∨ 32 < s.size ∨ (1 ≤ s.size ∧ s.size ≤ 32) by omega) with h | h | ⟨h, h2⟩
  · exact dnamed_lo w s h
  · exact dnamed_hi w s h
  · exact dnamed_mid w s h h2
end Go.Proofs.YtmhojaiajhdlcaaGreat
namespace Go.Proofs.YtmhojaiajhdlcaaGreat
open Go.RowKit
set_option linter.unusedSimpArgs false
set_option linter.unusedVariables false
section
variable {w0 w w' : World} {gd : Nat} {G : List Nat} {s : DS}
/-- What a call on a disk answers, and the disk behind it. -/
def DDoes (w0 w : World) (gd : Nat) (G : List Nat) (r : Int × DS) (e : Ending) (w' : World) : Prop := e = .returned (.int .i64 r.1) ∧ DOut w0 w gd G r.2 w'
theorem DOut.later {w1 : World} (hu : Upd [] w w1) (h : DOut w0 w1 gd G s w') : DOut w0 w gd G s w' := by
  obtain ⟨G', h1, h2, h3⟩ := h
  exact ⟨G', h1, hu.trans h2 (by simp) (fun x hx => .inl hx), fun x hx => (h3 x hx).imp id (fun q => by have := hu.size; omega)⟩
/-- A raw write, as the laws see it. -/
theorem dDo_any (x : Wr) (h : DD w0 w gd G s) (hx : WrOk x s.now) (hp : x.p = []) (hl : s.log.length ≤ 1000000000) :
    Calls Tryz.prog 67 #[.pointer (some ⟨gd, 0, none⟩), wrv x ⟨none, 0, 0⟩] w fun e w' => e = .returned (.tuple #[]) ∧ DOut w0 w gd G (dDo x s) w' := by
  obtain ⟨gn, gm, Fn, Fm, B, K, cn, cm, lv, lg, hc, rfl, ho, rfl⟩ := h.ex
  refine (do_any x ⟨none, 0, 0⟩ hc hx (by rw [hp]; exact Sh.nil) (by simpa using hl)).mono ?_
  rintro e w' ⟨rfl, Fn', B', K', cn', lv', h1, h2, h3, h4, h5⟩
  exact ⟨rfl, _, ⟨gn, gm, Fn', Fm, B', K', cn', cm, lv', _, h1, by unfold dDo; rw [h3]; simp, ho.do_ hx, rfl⟩, h4, h5⟩
theorem DD.p0 (h : DD w0 w gd G s) : ∃ gn Fn B K cn, w.cell? ⟨gd, 0, none⟩ = some (.pointer (some ⟨gn, 0, none⟩)) ∧ TD w0 w gn Fn B K cn ∧ dfOf cn = s.now := by
  obtain ⟨gn, gm, Fn, Fm, B, K, cn, cm, lv, lg, hc, rfl, ho, rfl⟩ := h.ex
  exact ⟨gn, Fn, B, K, cn, hc.dk.cell 0, hc.now, rfl⟩
/-- The look for a name, as the calls begin. -/
theorem DD.look (h : DD w0 w gd G s) (nm : ByteArray) (hl : s.now.length ≤ 5000) : ∃ gn oa on ok, w.cell? ⟨gd, 0, none⟩ = some (.pointer (some ⟨gn, 0, none⟩)) ∧ on = (dGet s.now nm).1.length ∧
    ∀ W, Upd [] w W → Calls Tryz.prog 66 #[.pointer (some ⟨gn, 0, none⟩), sv nm] W fun e w' => e = .returned (.tuple #[.slice oa on ok, .bool (inD s.now nm)]) ∧ Upd [] W w' := by
  obtain ⟨gn, Fn, B, K, cn, h0, ht, he⟩ := h.p0
  obtain ⟨⟨oa, on, ok⟩, old, b, hget, hdg, hin, hsh, hgr, hoth⟩ := ht.found nm
  rw [he] at hdg hin
  refine ⟨gn, oa, on, ok, h0, by rw [hdg]; exact hsh.n, fun W hW => ?_⟩
  rw [hin]
  exact txSL_Get nm ⟨oa, on, ok⟩ b (ht.tab.upd0 hW) (by rw [rowsF_len]; rw [← he, df_len] at hl; omega) trivial hget
set_option maxRecDepth 20000 in
set_option maxHeartbeats 1000000 in
theorem dRename_any (nm tn : ByteArray) (h : DD w0 w gd G s) (hn : s.now.length ≤ 5000) (hl : s.log.length ≤ 1000000000) :
    Calls Tryz.prog 124 #[.pointer (some ⟨gd, 0, none⟩), sv nm, sv tn] w (DDoes w0 w gd G (dRename s nm tn)) := by
  obtain ⟨gn, oa, on, ok, c0, -, hget⟩ := h.look nm hn
  have HG := Lib.hid (hget w (Upd.refl _ _))
  have HD := Lib.hid h
  have HL := Lib.hid hl
  have HNL := Lib.hid hn
  clear hget h hl hn
  cases hok : nameOk tn with
  | false =>
    have HR : Hid (dRename s nm tn = (14, s)) := by unfold Hid dRename; rw [hok]; rfl
    have HOK := Lib.hid hok
    clear hok
    go_enter Tryz.func124, Tryz.ntmps124
    go_wp2_with fail
    (with_reducible refine (dnamed_any w tn).mono ?_)
    rw [HOK.out]
    rintro e w1 ⟨rfl, rfl⟩
    go_wp2_with fail
    go_ret
    exact ⟨by rw [HR.out]; rfl, by rw [HR.out]; exact HD.out.out0 (Upd.refl _ _)⟩
  | true =>
    have HOK := Lib.hid hok
    cases hin : inD s.now nm with
    | false =>
      have HR : Hid (dRename s nm tn = (7, s)) := by unfold Hid dRename; rw [hok, hin]; rfl
      rw [hin] at HG
      clear hok hin
      go_enter Tryz.func124, Tryz.ntmps124
      go_wp2_with fail
      (with_reducible refine (dnamed_any w tn).mono ?_)
      rw [HOK.out]
      rintro e w1 ⟨rfl, rfl⟩
      go_wp2_with fail
      (with_reducible refine HG.out.mono ?_)
      rintro e w2 ⟨rfl, hu2⟩
      have HU2 := Lib.hid hu2
      clear hu2
      go_wp2_with fail
      go_ret
      exact ⟨by rw [HR.out]; rfl, by rw [HR.out]; exact HD.out.out0 HU2.out⟩
    | true =>
      have HR : Hid (dRename s nm tn = (0, dDo (wRen nm tn) s)) := by unfold Hid dRename; rw [hok, hin]; rfl
      have HW := Lib.hid (HD.out.ok.ren nm tn hin HNL.out).1
      rw [hin] at HG
      clear hok hin
      go_enter Tryz.func124, Tryz.ntmps124
      go_wp2_with fail
      (with_reducible refine (dnamed_any w tn).mono ?_)
      rw [HOK.out]
      rintro e w1 ⟨rfl, rfl⟩
      go_wp2_with fail
      (with_reducible refine HG.out.mono ?_)
      rintro e w2 ⟨rfl, hu2⟩
      have HU2 := Lib.hid hu2
      clear hu2
      go_wp2_with fail
      (with_reducible refine (dDo_any (wRen nm tn) (HD.out.upd0 HU2.out) HW.out rfl HL.out).mono ?_)
      rintro e w3 ⟨rfl, ho⟩
      have HO := Lib.hid ho
      clear ho
      go_wp2_with fail
      go_ret
      exact ⟨by rw [HR.out]; rfl, by rw [HR.out]; exact HO.out.later HU2.out⟩
set_option maxRecDepth 20000 in
set_option maxHeartbeats 1000000 in
theorem dRemove_any (nm : ByteArray) (h : DD w0 w gd G s) (hn : s.now.length ≤ 5000) (hl : s.log.length ≤ 1000000000) :
    Calls Tryz.prog 86 #[.pointer (some ⟨gd, 0, none⟩), sv nm] w (DDoes w0 w gd G (dRemove s nm)) := by
  obtain ⟨gn, oa, on, ok, c0, -, hget⟩ := h.look nm hn
  have HG := Lib.hid (hget w (Upd.refl _ _))
  have HD := Lib.hid h
  have HL := Lib.hid hl
  have HNL := Lib.hid hn
  clear hget h hl hn
  cases hin : inD s.now nm with
  | false =>
    have HR : Hid (dRemove s nm = (7, s)) := by unfold Hid dRemove; rw [hin]; rfl
    rw [hin] at HG
    clear hin
    go_enter Tryz.func86, Tryz.ntmps86
    go_wp2_with fail
    (with_reducible refine HG.out.mono ?_)
    rintro e w2 ⟨rfl, hu2⟩
    have HU2 := Lib.hid hu2
    clear hu2
    go_wp2_with fail
    go_ret
    exact ⟨by rw [HR.out]; rfl, by rw [HR.out]; exact HD.out.out0 HU2.out⟩
  | true =>
    have HR : Hid (dRemove s nm = (0, dDo (wRem nm) s)) := by unfold Hid dRemove; rw [hin]; rfl
    have HW := Lib.hid (HD.out.ok.rem nm hin HNL.out).1
    rw [hin] at HG
    clear hin
    go_enter Tryz.func86, Tryz.ntmps86
    go_wp2_with fail
    (with_reducible refine HG.out.mono ?_)
    rintro e w2 ⟨rfl, hu2⟩
    have HU2 := Lib.hid hu2
    clear hu2
    go_wp2_with fail
    (with_reducible refine (dDo_any (wRem nm) (HD.out.upd0 HU2.out) HW.out rfl HL.out).mono ?_)
    rintro e w3 ⟨rfl, ho⟩
    have HO := Lib.hid ho
    clear ho
    go_wp2_with fail
    go_ret
    exact ⟨by rw [HR.out]; rfl, by rw [HR.out]; exact HO.out.later HU2.out⟩
set_option maxRecDepth 20000 in
set_option maxHeartbeats 1000000 in
theorem dCut_any (nm : ByteArray) (n : Int) (hi : I64 n) (h : DD w0 w gd G s) (hn : s.now.length ≤ 5000) (hl : s.log.length ≤ 1000000000) :
    Calls Tryz.prog 75 #[.pointer (some ⟨gd, 0, none⟩), sv nm, .int .i64 n] w (DDoes w0 w gd G (dCut s nm n)) := by
  obtain ⟨gn, oa, on, ok, c0, hon, hget⟩ := h.look nm hn
  have HG := Lib.hid (hget w (Upd.refl _ _))
  have HD := Lib.hid h
  have HL := Lib.hid hl
  have HNL := Lib.hid hn
  have HON := Lib.hid hon
  clear hget h hl hn hon
  cases hin : inD s.now nm with
  | false =>
    have HR : Hid (dCut s nm n = (7, s)) := by unfold Hid dCut; rw [hin]; rfl
    rw [hin] at HG
    clear hin
    go_enter Tryz.func75, Tryz.ntmps75
    go_wp2_with fail
    (with_reducible refine HG.out.mono ?_)
    rintro e w2 ⟨rfl, hu2⟩
    have HU2 := Lib.hid hu2
    clear hu2
    go_wp2_with fail
    go_ret
    exact ⟨by rw [HR.out]; rfl, by rw [HR.out]; exact HD.out.out0 HU2.out⟩
  | true =>
    rw [hin] at HG
    by_cases hbad : n < 0 ∨ (on : Int) < n
    · have HR : Hid (dCut s nm n = (1, s)) := by unfold Hid dCut; rw [hin, ← HON.out, if_pos rfl, if_pos hbad]
      clear hin
      rcases (show n < 0 ∨ (¬ n < 0 ∧ (on : Int) < n) by omega) with q | ⟨q, q2⟩
      all_goals
        clear hbad
        go_enter Tryz.func75, Tryz.ntmps75
        go_wp2_with fail
        (with_reducible refine HG.out.mono ?_)
        rintro e w2 ⟨rfl, hu2⟩
        have HU2 := Lib.hid hu2
        clear hu2
        go_wp2_with fail
        go_ret
        exact ⟨by rw [HR.out]; rfl, by rw [HR.out]; exact HD.out.out0 HU2.out⟩
    · have HR : Hid (dCut s nm n = (0, dDo (wCut nm n) s)) := by unfold Hid dCut; rw [hin, ← HON.out, if_pos rfl, if_neg hbad]
      have HW := Lib.hid (HD.out.ok.cut nm n hin (by omega) (by rw [← HON.out]; omega) HNL.out).1
      have q : ¬ n < 0 := by omega
      have q2 : ¬ (on : Int) < n := by omega
      clear hin hbad
      go_enter Tryz.func75, Tryz.ntmps75
      go_wp2_with fail
      (with_reducible refine HG.out.mono ?_)
      rintro e w2 ⟨rfl, hu2⟩
      have HU2 := Lib.hid hu2
      clear hu2
      go_wp2_with fail
      (with_reducible refine (dDo_any (wCut nm n) (HD.out.upd0 HU2.out) HW.out rfl HL.out).mono ?_)
      rintro e w3 ⟨rfl, ho⟩
      have HO := Lib.hid ho
      clear ho
      go_wp2_with fail
      go_ret
      exact ⟨by rw [HR.out]; rfl, by rw [HR.out]; exact HO.out.later HU2.out⟩
end
end Go.Proofs.YtmhojaiajhdlcaaGreat
