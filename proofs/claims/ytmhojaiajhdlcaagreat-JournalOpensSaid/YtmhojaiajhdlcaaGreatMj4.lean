/- Texts of the proof, joined: Chapter 22 as plain law: files by rising names, raw writes, what they do. Chapter 22 as plain law: how much a call adds. Chapter 22 as plain law: any calls: how many files, how many raw writes, and of what names. Chapter 24 as plain law: a journal's slots and its files. Rows by rising keys: what is in them behind a change. Chapter 24 as plain law: what a journal's file tells, whole, cut off, or laid anew. Chapter 4's reads at int,string. copy of elements of several cells into a known row: the run. Rows known whole: pieces, copies, appends and clears within them: the runs. slices. Chapter 4's Get, At and Least at int,string. A store into one cell of a row of several cells, the list the call's own. Chapter 4's Set on a key that is there, at int,string. -/
import Derived.Test.YtmhojaiajhdlcaaGreatMj3
import Derived.Test.YtmhojaiajhdlcaaGreatMj2
import Derived.Test.YtmhojaiajhdlcaaGreatRows
import Derived.Test.YtmhojaiajhdlcaaGreatMj1
import Derived.StillTailTactics
import Derived.Lib.AppendZerosOnto
import Derived.Lib.Overlaps
import Derived.Deep.RegionLaw
namespace Go.Proofs.YtmhojaiajhdlcaaGreat
open Go.RowKit
set_option linter.unusedSimpArgs false
set_option linter.unusedVariables false
abbrev DF := List (ByteArray × List UInt8)
def dTotal (fs : DF) : Nat := (fs.map fun p => p.2.length).sum
/-- A raw write. -/
structure Wr where
  kd : Int
  nm : ByteArray
  tn : ByteArray
  p : List UInt8
  n : Int
instance : Inhabited Wr := ⟨⟨0, ⟨#[]⟩, ⟨#[]⟩, [], 0⟩⟩
abbrev inD (fs : DF) (s : ByteArray) : Bool := isIn strLt fs s
def dGet (fs : DF) (s : ByteArray) : List UInt8 × Bool := tGet strLt [] fs s
theorem dGet_in (fs : DF) (s : ByteArray) : (dGet fs s).2 = inD fs s := by unfold dGet tGet inD; cases isIn strLt fs s <;> rfl
theorem dGet_no {fs : DF} {s : ByteArray} (h : inD fs s = false) : dGet fs s = ([], false) := by unfold dGet tGet; rw [show isIn strLt fs s = _ from h]; rfl
def wApply (x : Wr) (fs : DF) : DF :=
  if x.kd = 1 then tSet strLt fs x.nm [] else
  if x.kd = 2 then tSet strLt fs x.nm ((dGet fs x.nm).1 ++ x.p) else
  if x.kd = 3 then (if inD fs x.nm then tSet strLt (tDel strLt fs x.nm) x.tn (dGet fs x.nm).1 else fs) else
  if x.kd = 4 then tSet strLt fs x.nm ((dGet fs x.nm).1.take x.n.toNat) else
  if x.kd = 5 then tDel strLt fs x.nm else fs
def wAll (fs : DF) (l : List Wr) : DF := l.foldl (fun f x => wApply x f) fs
structure WrOk (x : Wr) (fs : DF) : Prop where
  len : fs.length ≤ 5000
  kd : 1 ≤ x.kd ∧ x.kd ≤ 5
  put : x.kd = 2 → x.p ≠ [] ∧ (dGet fs x.nm).1.length + x.p.length ≤ 16777216
  cut : x.kd = 4 → 0 ≤ x.n ∧ x.n ≤ (dGet fs x.nm).1.length
  tot : dTotal (wApply x fs) ≤ 16777216
  has : x.kd ≠ 1 → inD fs x.nm = true
  new : x.kd = 1 → inD fs x.nm = false
def LogOk : DF → List Wr → Prop
  | _, [] => True
  | fs, x :: l => WrOk x fs ∧ LogOk (wApply x fs) l
theorem LogOk.snoc : ∀ {fs : DF} {l : List Wr} {x : Wr}, LogOk fs l → WrOk x (wAll fs l) → LogOk fs (l ++ [x])
  | fs, [], x, _, h => ⟨h, trivial⟩
  | fs, y :: l, x, h, k => ⟨h.1, LogOk.snoc h.2 k⟩
theorem LogOk.at_ : ∀ {fs : DF} {l : List Wr} (k : Nat), LogOk fs l → k < l.length → WrOk (nth l k) (wAll fs (l.take k))
  | fs, [], k, _, h => by simp at h
  | fs, y :: l, 0, h, _ => h.1
  | fs, y :: l, k + 1, h, hk => by
    rw [nth_cons_succ, List.take_succ_cons]
    exact LogOk.at_ (fs := wApply y fs) k h.2 (by simpa using hk)
theorem LogOk.take : ∀ {fs : DF} {l : List Wr} (k : Nat), LogOk fs l → LogOk fs (l.take k)
  | fs, [], k, _ => by simp [LogOk]
  | fs, y :: l, 0, h => trivial
  | fs, y :: l, k + 1, h => ⟨h.1, LogOk.take k h.2⟩
theorem wAll_snoc (fs : DF) (l : List Wr) (x : Wr) : wAll fs (l ++ [x]) = wApply x (wAll fs l) := by unfold wAll; rw [List.foldl_append]; rfl
theorem take_succ_nth {α : Type} [Inhabited α] (l : List α) (k : Nat) (h : k < l.length) : l.take (k + 1) = l.take k ++ [nth l k] := by rw [List.take_add_one, nth_get _ _ h, List.getElem?_eq_getElem h]; rfl
theorem wAll_take (fs : DF) (l : List Wr) (k : Nat) (h : k < l.length) : wAll fs (l.take (k + 1)) = wApply (nth l k) (wAll fs (l.take k)) := by rw [take_succ_nth l k h, wAll_snoc]
theorem wApply_rising {fs : DF} (h : Rising strLt fs) (x : Wr) : Rising strLt (wApply x fs) := by
  unfold wApply
  split
  · exact h.set_ strOrd _ _
  split
  · exact h.set_ strOrd _ _
  split
  · split
    · exact (h.del strOrd _).set_ strOrd _ _
    · exact h
  split
  · exact h.set_ strOrd _ _
  split
  · exact h.del strOrd _
  · exact h
theorem wAll_rising {fs : DF} (h : Rising strLt fs) : ∀ l : List Wr, Rising strLt (wAll fs l)
  | [] => h
  | x :: l => wAll_rising (wApply_rising h x) l
theorem total_app (a b : DF) : dTotal (a ++ b) = dTotal a + dTotal b := by unfold dTotal; rw [List.map_append, List.sum_append]
theorem total_cons (p : ByteArray × List UInt8) (b : DF) : dTotal (p :: b) = p.2.length + dTotal b := by unfold dTotal; rw [List.map_cons, List.sum_cons]
theorem split_at (fs : DF) (i : Nat) (h : i < fs.length) : fs.take i ++ nth fs i :: fs.drop (i + 1) = fs := by
  rw [nth_get _ _ h, List.getElem_cons_drop, List.take_append_drop]
theorem total_take (fs : DF) (i : Nat) (h : i < fs.length) : dTotal (fs.take (i + 1)) = dTotal (fs.take i) + (nth fs i).2.length := by
  rw [take_succ_nth fs i h, total_app, total_cons]; rfl
theorem total_le (fs : DF) (i : Nat) : dTotal (fs.take i) ≤ dTotal fs := by
  have := total_app (fs.take i) (fs.drop i)
  rw [List.take_append_drop] at this; omega
theorem in_at {fs : DF} {s : ByteArray} (h : inD fs s = true) : below strLt fs s < fs.length ∧ (nth fs (below strLt fs s)).1 = s := by unfold inD isIn at h; exact of_decide_eq_true h
theorem dGet_yes {fs : DF} {s : ByteArray} (h : inD fs s = true) : dGet fs s = ((nth fs (below strLt fs s)).2, true) := by unfold dGet tGet; rw [show isIn strLt fs s = _ from h]; rfl
theorem total_set_in {fs : DF} {s : ByteArray} (v : List UInt8) (h : inD fs s = true) : dTotal (tSet strLt fs s v) + (dGet fs s).1.length = dTotal fs + v.length := by
  obtain ⟨h1, h2⟩ := in_at h
  have h3 := split_at fs _ h1
  have h4 : dTotal fs = dTotal (fs.take (below strLt fs s)) + ((nth fs (below strLt fs s)).2.length + dTotal (fs.drop (below strLt fs s + 1))) := by
    conv => lhs; rw [← h3]
    rw [total_app, total_cons]
  unfold tSet
  rw [show isIn strLt fs s = true from h, if_pos rfl, total_app, total_cons, dGet_yes h, h4]
  show dTotal _ + (v.length + _) + (nth fs (below strLt fs s)).2.length = _
  omega
theorem total_set_no {fs : DF} {s : ByteArray} (v : List UInt8) (h : inD fs s = false) : dTotal (tSet strLt fs s v) = dTotal fs + v.length := by
  have h4 := total_app (fs.take (below strLt fs s)) (fs.drop (below strLt fs s))
  rw [List.take_append_drop] at h4
  unfold tSet
  rw [show isIn strLt fs s = false from h, if_neg (by simp), total_app, total_cons, Nat.add_zero, h4]
  show _ + (v.length + _) = _
  omega
theorem total_del {fs : DF} {s : ByteArray} (h : inD fs s = true) : dTotal (tDel strLt fs s) + (dGet fs s).1.length = dTotal fs := by
  obtain ⟨h1, h2⟩ := in_at h
  have h3 := split_at fs _ h1
  have h4 : dTotal fs = dTotal (fs.take (below strLt fs s)) + ((nth fs (below strLt fs s)).2.length + dTotal (fs.drop (below strLt fs s + 1))) := by
    conv => lhs; rw [← h3]
    rw [total_app, total_cons]
  unfold tDel
  rw [show isIn strLt fs s = true from h, if_pos rfl, total_app, dGet_yes h, h4]
  show dTotal _ + _ + (nth fs (below strLt fs s)).2.length = _
  omega
theorem total_set_le {fs : DF} (s : ByteArray) (v : List UInt8) : dTotal (tSet strLt fs s v) ≤ dTotal fs + v.length := by
  cases h : inD fs s with
  | true => have := total_set_in v h; omega
  | false => have := total_set_no v h; omega
theorem get_le_total (fs : DF) (s : ByteArray) : (dGet fs s).1.length ≤ dTotal fs := by
  cases h : inD fs s with
  | true => have := total_del h; omega
  | false => rw [dGet_no h]; simp
theorem set_len_in {fs : DF} {s : ByteArray} (v : List UInt8) (h : inD fs s = true) : (tSet strLt fs s v).length = fs.length := by
  rw [tSet_in fs s v h, List.length_set]
theorem below_set {fs : DF} (hr : Rising strLt fs) (s : ByteArray) (v : List UInt8) : below strLt (tSet strLt fs s v) s = below strLt fs s := by
  have hle := below_le (lt := strLt) fs s
  have htk : (fs.take (below strLt fs s)).length = below strLt fs s := by rw [List.length_take]; omega
  refine below_eq _ _ _ (by unfold tSet; simp; omega) (fun j hj => ?_) (fun _ => ?_)
  · unfold tSet
    rw [nth_append_left _ _ _ (by rw [htk]; exact hj), nth_take _ _ _ hj]
    exact below_lt fs s j hj
  · unfold tSet
    rw [nth_append_right _ _ _ (by rw [htk]; exact Nat.le_refl _), htk, Nat.sub_self, nth_cons_zero]
    exact strOrd.irr s
theorem nth_set_at (fs : DF) (s : ByteArray) (v : List UInt8) : nth (tSet strLt fs s v) (below strLt fs s) = (s, v) := by
  have hle := below_le (lt := strLt) fs s
  have htk : (fs.take (below strLt fs s)).length = below strLt fs s := by rw [List.length_take]; omega
  unfold tSet
  rw [nth_append_right _ _ _ (by rw [htk]; exact Nat.le_refl _), htk, Nat.sub_self, nth_cons_zero]
theorem in_set {fs : DF} (hr : Rising strLt fs) (s : ByteArray) (v : List UInt8) : inD (tSet strLt fs s v) s = true := by
  have hle := below_le (lt := strLt) fs s
  unfold inD isIn
  rw [below_set hr, nth_set_at]
  exact decide_eq_true ⟨by unfold tSet; simp; omega, rfl⟩
theorem get_set {fs : DF} (hr : Rising strLt fs) (s : ByteArray) (v : List UInt8) : dGet (tSet strLt fs s v) s = (v, true) := by
  rw [dGet_yes (in_set hr s v), below_set hr, nth_set_at]
/-- A disk's state. -/
structure DS where
  now : DF
  mark : DF
  log : List Wr
def dDo (x : Wr) (s : DS) : DS := ⟨wApply x s.now, s.mark, s.log ++ [x]⟩
structure DOk (s : DS) : Prop where
  ris : Rising strLt s.now
  rim : Rising strLt s.mark
  eq : s.now = wAll s.mark s.log
  log : LogOk s.mark s.log
  tot : dTotal s.now ≤ 16777216
  totm : dTotal s.mark ≤ 16777216
theorem DOk.do_ {s : DS} (h : DOk s) {x : Wr} (hx : WrOk x s.now) : DOk (dDo x s) :=
  ⟨wApply_rising h.ris x, h.rim, by unfold dDo; dsimp only; rw [wAll_snoc, ← h.eq], h.log.snoc (by rw [← h.eq]; exact hx), hx.tot, h.totm⟩
abbrev wMake (nm : ByteArray) : Wr := ⟨1, nm, ⟨#[]⟩, [], 0⟩
abbrev wPut (nm : ByteArray) (p : List UInt8) : Wr := ⟨2, nm, ⟨#[]⟩, p, 0⟩
abbrev wRen (nm tn : ByteArray) : Wr := ⟨3, nm, tn, [], 0⟩
abbrev wCut (nm : ByteArray) (n : Int) : Wr := ⟨4, nm, ⟨#[]⟩, [], n⟩
abbrev wRem (nm : ByteArray) : Wr := ⟨5, nm, ⟨#[]⟩, [], 0⟩
def chunks (p : List UInt8) : List (List UInt8) := (List.range ((p.length + 31) / 32)).map fun i => (p.drop (32 * i)).take 32
def dPut (nm : ByteArray) (s : DS) (l : List (List UInt8)) : DS := l.foldl (fun s c => dDo (wPut nm c) s) s
theorem chunks_len (p : List UInt8) : (chunks p).length = (p.length + 31) / 32 := by unfold chunks; simp
theorem chunks_nth (p : List UInt8) (i : Nat) (h : i < (chunks p).length) : nth (chunks p) i = (p.drop (32 * i)).take 32 := by
  unfold chunks at h ⊢
  rw [nth_get _ _ h]; simp
theorem dPut_snoc (nm : ByteArray) (s : DS) (l : List (List UInt8)) (c : List UInt8) : dPut nm s (l ++ [c]) = dDo (wPut nm c) (dPut nm s l) := by unfold dPut; rw [List.foldl_append]; rfl
theorem dPut_take (nm : ByteArray) (s : DS) (p : List UInt8) (i : Nat) (h : i < (chunks p).length) : dPut nm s ((chunks p).take (i + 1)) = dDo (wPut nm ((p.drop (32 * i)).take 32)) (dPut nm s ((chunks p).take i)) := by
  rw [take_succ_nth _ _ h, dPut_snoc, chunks_nth p i h]
theorem put_now (nm : ByteArray) (c : List UInt8) (s : DS) : (dDo (wPut nm c) s).now = tSet strLt s.now nm ((dGet s.now nm).1 ++ c) := rfl
/-- Behind so many chunks. -/
structure PutOk (nm : ByteArray) (s0 s : DS) (n : Nat) : Prop where
  ok : DOk s
  has : inD s.now nm = true
  len : s.now.length = s0.now.length
  tot : dTotal s.now = dTotal s0.now + n
  log : s.log.length ≤ s0.log.length + n
  mark : s.mark = s0.mark
theorem PutOk.step {nm : ByteArray} {s0 s : DS} {n : Nat} (h : PutOk nm s0 s n) (c : List UInt8) (hc : c ≠ []) (hl : s0.now.length ≤ 5000) (ht : dTotal s0.now + (n + c.length) ≤ 16777216) : WrOk (wPut nm c) s.now ∧ PutOk nm s0 (dDo (wPut nm c) s) (n + c.length) := by
  have h1 := total_set_in ((dGet s.now nm).1 ++ c) h.has
  have h2 := get_le_total s.now nm
  rw [List.length_append] at h1
  have h3 := h.tot
  have hcl : 0 < c.length := List.length_pos_iff.2 hc
  have hw : WrOk (wPut nm c) s.now := ⟨by rw [h.len]; exact hl, ⟨by show (1 : Int) ≤ 2; decide, by show (2 : Int) ≤ 5; decide⟩, fun _ => ⟨hc, by show (dGet s.now nm).1.length + c.length ≤ _; omega⟩, fun q => absurd q (show ¬ (2 : Int) = 4 by decide), by show dTotal (tSet strLt s.now nm ((dGet s.now nm).1 ++ c)) ≤ _; omega, fun _ => h.has, fun q => absurd q (show ¬ (2 : Int) = 1 by decide)⟩
  refine ⟨hw, h.ok.do_ hw, in_set h.ok.ris _ _, by rw [put_now, set_len_in _ h.has]; exact h.len, by rw [put_now]; omega, ?_, h.mark⟩
  have := h.log
  unfold dDo; simp; omega
theorem PutOk.all {nm : ByteArray} {s0 : DS} (p : List UInt8) (h : DOk s0) (hin : inD s0.now nm = true) (hl : s0.now.length ≤ 5000) (ht : dTotal s0.now + p.length ≤ 16777216) : ∀ i, i ≤ (chunks p).length → PutOk nm s0 (dPut nm s0 ((chunks p).take i)) (min (32 * i) p.length)
  | 0, _ => ⟨h, hin, rfl, by simp [dPut], by simp [dPut], rfl⟩
  | i + 1, hi => by
    have hlen := chunks_len p
    rw [dPut_take nm s0 p i (by omega)]
    have ih := PutOk.all p h hin hl ht i (by omega)
    have hlt : 32 * i < p.length := by omega
    have hcl : ((p.drop (32 * i)).take 32).length = min 32 (p.length - 32 * i) := by rw [List.length_take, List.length_drop]
    have := (ih.step ((p.drop (32 * i)).take 32) (fun q => by rw [q] at hcl; simp at hcl; omega) hl (by rw [hcl]; omega)).2
    rw [hcl] at this
    rw [show min (32 * (i + 1)) p.length = min (32 * i) p.length + min 32 (p.length - 32 * i) by omega]
    exact this
def dAppend (s : DS) (nm : ByteArray) (p : List UInt8) : Int × DS :=
  if nameOk nm then (if 16777216 < dTotal s.now + p.length then (9, s) else (0, dPut nm (if inD s.now nm then s else dDo (wMake nm) s) (chunks p))) else (14, s)
def dRename (s : DS) (nm tn : ByteArray) : Int × DS := if nameOk tn then (if inD s.now nm then (0, dDo (wRen nm tn) s) else (7, s)) else (14, s)
def dCut (s : DS) (nm : ByteArray) (n : Int) : Int × DS := if inD s.now nm then (if n < 0 ∨ (dGet s.now nm).1.length < n then (1, s) else (0, dDo (wCut nm n) s)) else (7, s)
def dRemove (s : DS) (nm : ByteArray) : Int × DS := if inD s.now nm then (0, dDo (wRem nm) s) else (7, s)
def dMark (s : DS) : DS := ⟨s.now, s.now, []⟩
def dBackF (s : DS) (n : Int) : DF := wAll s.mark (s.log.take n.toNat)
def dBack (s : DS) (n : Int) : DS := ⟨dBackF s n, dBackF s n, []⟩
theorem DOk.make {s : DS} (h : DOk s) (nm : ByteArray) (hn : inD s.now nm = false) (hl : s.now.length ≤ 5000) : WrOk (wMake nm) s.now ∧ DOk (dDo (wMake nm) s) ∧ inD (dDo (wMake nm) s).now nm = true ∧ dTotal (dDo (wMake nm) s).now = dTotal s.now ∧ (dDo (wMake nm) s).now.length ≤ s.now.length + 1 := by
  have ht := total_set_no (s := nm) [] hn
  have hw : WrOk (wMake nm) s.now := ⟨hl, ⟨by show (1 : Int) ≤ 1; decide, by show (1 : Int) ≤ 5; decide⟩, fun q => absurd q (show ¬ (1 : Int) = 2 by decide), fun q => absurd q (show ¬ (1 : Int) = 4 by decide), by show dTotal (tSet strLt s.now nm []) ≤ _; have := h.tot; simp at ht; omega, fun q => absurd (show (1 : Int) = 1 from rfl) q, fun _ => hn⟩
  have he : (dDo (wMake nm) s).now = tSet strLt s.now nm [] := rfl
  refine ⟨hw, h.do_ hw, ?_, ?_, ?_⟩
  · rw [he]; exact in_set h.ris _ _
  · rw [he, ht]; rfl
  · rw [he]; exact tSet_len _ _ _
theorem DOk.ren {s : DS} (h : DOk s) (nm tn : ByteArray) (hn : inD s.now nm = true) (hl : s.now.length ≤ 5000) : WrOk (wRen nm tn) s.now ∧ DOk (dDo (wRen nm tn) s) := by
  suffices hw : WrOk (wRen nm tn) s.now from ⟨hw, h.do_ hw⟩
  refine ⟨hl, ⟨by show (1 : Int) ≤ 3; decide, by show (3 : Int) ≤ 5; decide⟩, fun q => absurd q (show ¬ (3 : Int) = 2 by decide), fun q => absurd q (show ¬ (3 : Int) = 4 by decide), ?_, fun _ => hn, fun q => absurd q (show ¬ (3 : Int) = 1 by decide)⟩
  show dTotal (if inD s.now nm = true then tSet strLt (tDel strLt s.now nm) tn (dGet s.now nm).1 else s.now) ≤ _
  rw [if_pos hn]
  have h1 := total_set_le (fs := tDel strLt s.now nm) tn (dGet s.now nm).1
  have h2 := total_del hn
  have := h.tot
  omega
theorem DOk.cut {s : DS} (h : DOk s) (nm : ByteArray) (n : Int) (hn : inD s.now nm = true) (h0 : 0 ≤ n) (hle : n ≤ (dGet s.now nm).1.length) (hl : s.now.length ≤ 5000) : WrOk (wCut nm n) s.now ∧ DOk (dDo (wCut nm n) s) := by
  suffices hw : WrOk (wCut nm n) s.now from ⟨hw, h.do_ hw⟩
  refine ⟨hl, ⟨by show (1 : Int) ≤ 4; decide, by show (4 : Int) ≤ 5; decide⟩, fun q => absurd q (show ¬ (4 : Int) = 2 by decide), fun _ => ⟨h0, hle⟩, ?_, fun _ => hn, fun q => absurd q (show ¬ (4 : Int) = 1 by decide)⟩
  show dTotal (tSet strLt s.now nm ((dGet s.now nm).1.take n.toNat)) ≤ _
  have h1 := total_set_in ((dGet s.now nm).1.take n.toNat) hn
  rw [List.length_take] at h1
  have := h.tot
  omega
theorem DOk.rem {s : DS} (h : DOk s) (nm : ByteArray) (hn : inD s.now nm = true) (hl : s.now.length ≤ 5000) : WrOk (wRem nm) s.now ∧ DOk (dDo (wRem nm) s) := by
  suffices hw : WrOk (wRem nm) s.now from ⟨hw, h.do_ hw⟩
  refine ⟨hl, ⟨by show (1 : Int) ≤ 5; decide, by show (5 : Int) ≤ 5; decide⟩, fun q => absurd q (show ¬ (5 : Int) = 2 by decide), fun q => absurd q (show ¬ (5 : Int) = 4 by decide), ?_, fun _ => hn, fun q => absurd q (show ¬ (5 : Int) = 1 by decide)⟩
  show dTotal (tDel strLt s.now nm) ≤ _
  have h1 := total_del hn
  have := h.tot
  omega
theorem wAll_tot : ∀ {fs : DF} {l : List Wr}, LogOk fs l → dTotal fs ≤ 16777216 → dTotal (wAll fs l) ≤ 16777216
  | fs, [], _, h => h
  | fs, x :: l, h, _ => wAll_tot (fs := wApply x fs) h.2 h.1.tot
theorem DOk.mark {s : DS} (h : DOk s) : DOk (dMark s) := ⟨h.ris, h.ris, rfl, trivial, h.tot, h.tot⟩
theorem DOk.back {s : DS} (h : DOk s) (n : Int) : DOk (dBack s n) :=
  have hr := wAll_rising h.rim (s.log.take n.toNat)
  have ht := wAll_tot (h.log.take n.toNat) h.totm
  ⟨hr, hr, rfl, trivial, ht, ht⟩
theorem DOk.zero : DOk ⟨[], [], []⟩ := ⟨Rising.nil, Rising.nil, rfl, trivial, by simp [dTotal], by simp [dTotal]⟩
theorem DOk.append {s : DS} (h : DOk s) (nm : ByteArray) (p : List UInt8) (hl : s.now.length ≤ 4999) : DOk (dAppend s nm p).2 := by
  unfold dAppend
  split
  · split
    · exact h
    · rename_i ht
      dsimp only
      cases hin : inD s.now nm with
      | true =>
        rw [if_pos rfl]
        have := (PutOk.all p h hin (by omega) (by omega) (chunks p).length (Nat.le_refl _)).ok
        rwa [List.take_length] at this
      | false =>
        rw [if_neg (by simp)]
        obtain ⟨h1, h2, h3, h4, h5⟩ := h.make nm hin (by omega)
        have := (PutOk.all p h2 h3 (by omega) (by omega) (chunks p).length (Nat.le_refl _)).ok
        rwa [List.take_length] at this
  · exact h
end Go.Proofs.YtmhojaiajhdlcaaGreat
namespace Go.Proofs.YtmhojaiajhdlcaaGreat
open Go.RowKit
set_option linter.unusedSimpArgs false
set_option linter.unusedVariables false
structure Grows (s s' : DS) (n : Nat) : Prop where
  now : s'.now.length ≤ s.now.length + 1
  log : s'.log.length ≤ s.log.length + n + 1
  mark : s'.mark = s.mark
theorem Grows.refl (s : DS) (n : Nat) : Grows s s n := ⟨by omega, by omega, rfl⟩
theorem grows_do (x : Wr) (s : DS) (n : Nat) : Grows s (dDo x s) n := by
  refine ⟨?_, by unfold dDo; simp, rfl⟩
  have h1 := fun k v => tSet_len (lt := strLt) s.now k v
  have h2 := tDel_len (lt := strLt) s.now x.nm
  have h3 := tSet_len (lt := strLt) (tDel strLt s.now x.nm) x.tn (dGet s.now x.nm).1
  show (wApply x s.now).length ≤ _
  unfold wApply
  split
  · exact h1 _ _
  split
  · exact h1 _ _
  split
  · split <;> omega
  split
  · exact h1 _ _
  split <;> omega
theorem grows_append {s : DS} (h : DOk s) (nm : ByteArray) (p : List UInt8) (hl : s.now.length ≤ 4999) : Grows s (dAppend s nm p).2 p.length := by
  unfold dAppend
  split
  · split
    · exact Grows.refl _ _
    · rename_i ht
      dsimp only
      cases hin : inD s.now nm with
      | true =>
        rw [if_pos rfl]
        have h1 := PutOk.all p h hin (by omega) (by omega) (chunks p).length (Nat.le_refl _)
        rw [List.take_length] at h1
        exact ⟨by rw [h1.len]; omega, by have := h1.log; omega, h1.mark⟩
      | false =>
        rw [if_neg (by simp)]
        obtain ⟨k1, k2, k3, k4, k5⟩ := h.make nm hin (by omega)
        have h1 := PutOk.all p k2 k3 (by omega) (by omega) (chunks p).length (Nat.le_refl _)
        rw [List.take_length] at h1
        have hlog : (dDo (wMake nm) s).log.length = s.log.length + 1 := by unfold dDo; simp
        exact ⟨by rw [h1.len]; exact k5, by have := h1.log; omega, h1.mark⟩
  · exact Grows.refl _ _
theorem grows_rename (s : DS) (nm tn : ByteArray) (n : Nat) : Grows s (dRename s nm tn).2 n := by
  unfold dRename
  split
  · split
    · exact grows_do _ _ _
    · exact Grows.refl _ _
  · exact Grows.refl _ _
theorem grows_cut (s : DS) (nm : ByteArray) (m : Int) (n : Nat) : Grows s (dCut s nm m).2 n := by
  unfold dCut
  split
  · split
    · exact Grows.refl _ _
    · exact grows_do _ _ _
  · exact Grows.refl _ _
theorem grows_remove (s : DS) (nm : ByteArray) (n : Nat) : Grows s (dRemove s nm).2 n := by
  unfold dRemove
  split
  · exact grows_do _ _ _
  · exact Grows.refl _ _
/-- Back of all: the files are what they were. -/
theorem back_all {s : DS} (h : DOk s) : (dBack s (s.log.length : Int)).now = s.now := by
  show dBackF s _ = _
  unfold dBackF
  rw [Int.toNat_natCast, List.take_length, ← h.eq]
theorem back_log (s : DS) (n : Int) : (dBack s n).log = [] := rfl
theorem back_zero {s : DS} (h : s.mark = []) : (dBack s 0).now = [] := by
  show dBackF s 0 = _
  unfold dBackF
  rw [h]; rfl
theorem back_nlen {s : DS} (h : DOk s) (hm : s.mark = []) (n : Int) : (dBack s n).now.length ≤ 100000 := by
  show (dBackF s n).length ≤ _
  unfold dBackF
  have : ∀ {fs : DF} {l : List Wr}, LogOk fs l → fs.length ≤ 100000 → (wAll fs l).length ≤ 100000 := by
    intro fs l
    induction l generalizing fs with
    | nil => exact fun _ h => h
    | cons x l ih =>
      intro h _
      refine ih (fs := wApply x fs) h.2 ?_
      have := (grows_do x ⟨fs, [], []⟩ 0).now
      have h5 := h.1.len
      have h6 : (wApply x fs).length ≤ fs.length + 1 := this
      omega
  exact this (h.log.take _) (by rw [hm]; simp)
end Go.Proofs.YtmhojaiajhdlcaaGreat
namespace Go.Proofs.YtmhojaiajhdlcaaGreat
open Go.RowKit
set_option linter.unusedSimpArgs false
set_option linter.unusedVariables false
/-- The names of a raw write. -/
def WrNm (x : Wr) : Prop := nameOk x.nm = true ∧ (x.kd = 3 → nameOk x.tn = true)
def FsNm (fs : DF) : Prop := ∀ p ∈ fs, nameOk p.1 = true
theorem FsNm.set_ {fs : DF} (h : FsNm fs) (k : ByteArray) (v : List UInt8) (hk : nameOk k = true) : FsNm (tSet strLt fs k v) := by
  intro p hp
  unfold tSet at hp
  rcases List.mem_append.1 hp with q | q
  · exact h p (List.mem_of_mem_take q)
  · rcases List.mem_cons.1 q with rfl | q
    · exact hk
    · exact h p (List.mem_of_mem_drop q)
theorem FsNm.del {fs : DF} (h : FsNm fs) (k : ByteArray) : FsNm (tDel strLt fs k) := by
  intro p hp
  unfold tDel at hp
  split at hp
  · rcases List.mem_append.1 hp with q | q
    · exact h p (List.mem_of_mem_take q)
    · exact h p (List.mem_of_mem_drop q)
  · exact h p hp
theorem FsNm.has {fs : DF} (h : FsNm fs) {k : ByteArray} (hin : inD fs k = true) : nameOk k = true := by
  obtain ⟨h1, h2⟩ := in_at hin
  rw [← h2]
  exact h _ (by rw [nth_get _ _ h1]; exact List.getElem_mem _)
theorem FsNm.apply {fs : DF} (h : FsNm fs) {x : Wr} (hx : WrNm x) : FsNm (wApply x fs) := by
  unfold wApply
  split
  · exact h.set_ _ _ hx.1
  split
  · exact h.set_ _ _ hx.1
  split
  · rename_i h3
    split
    · exact (h.del _).set_ _ _ (hx.2 h3)
    · exact h
  split
  · exact h.set_ _ _ hx.1
  split
  · exact h.del _
  · exact h
theorem FsNm.all : ∀ {l : List Wr} {fs : DF}, FsNm fs → (∀ x ∈ l, WrNm x) → FsNm (wAll fs l)
  | [], fs, h, _ => h
  | x :: l, fs, h, hl => FsNm.all (fs := wApply x fs) (h.apply (hl x (by simp))) (fun y hy => hl y (by simp [hy]))
theorem aApply_len (x : Wr) (fs : DF) : (wApply x fs).length ≤ fs.length + 1 := (grows_do x ⟨fs, [], []⟩ 0).now
theorem aAll_len : ∀ (l : List Wr) (fs : DF), (wAll fs l).length ≤ fs.length + l.length
  | [], fs => by simp [wAll]
  | x :: l, fs => by
    have h1 := aAll_len l (wApply x fs)
    have h2 := aApply_len x fs
    have h3 : wAll fs (x :: l) = wAll (wApply x fs) l := rfl
    rw [h3, List.length_cons]; omega
/-- Behind k calls. -/
structure Any (k : Nat) (s : DS) : Prop where
  ok : DOk s
  sum : s.mark.length + s.log.length ≤ 18 * k
  mnm : FsNm s.mark
  lnm : ∀ x ∈ s.log, WrNm x
theorem Any.zero : Any 0 ⟨[], [], []⟩ := ⟨DOk.zero, by simp, fun p h => by simp at h, fun p h => by simp at h⟩
theorem Any.nnm {k : Nat} {s : DS} (h : Any k s) : FsNm s.now := by rw [h.ok.eq]; exact h.mnm.all h.lnm
theorem Any.nlen {k : Nat} {s : DS} (h : Any k s) : s.now.length ≤ 18 * k := by
  have := aAll_len s.log s.mark
  rw [← h.ok.eq] at this
  have := h.sum; omega
theorem Any.up {k : Nat} {s : DS} (h : Any k s) : Any (k + 1) s := ⟨h.ok, by have := h.sum; omega, h.mnm, h.lnm⟩
theorem Any.do_ {k : Nat} {s : DS} (h : Any k s) {x : Wr} (hx : WrOk x s.now) (hn : WrNm x) : Any (k + 1) (dDo x s) :=
  ⟨h.ok.do_ hx, by have := h.sum; unfold dDo; simp; omega, h.mnm, fun y hy => by
    rcases List.mem_append.1 hy with q | q
    · exact h.lnm y q
    · simp at q; subst q; exact hn⟩
theorem dPut_log (nm : ByteArray) : ∀ (l : List (List UInt8)) (s : DS), (dPut nm s l).log = s.log ++ l.map (wPut nm)
  | [], s => by simp [dPut]
  | c :: l, s => by
    have h : dPut nm s (c :: l) = dPut nm (dDo (wPut nm c) s) l := rfl
    rw [h, dPut_log nm l]; unfold dDo; simp
theorem dPut_mark (nm : ByteArray) : ∀ (l : List (List UInt8)) (s : DS), (dPut nm s l).mark = s.mark
  | [], s => rfl
  | c :: l, s => by
    have h : dPut nm s (c :: l) = dPut nm (dDo (wPut nm c) s) l := rfl
    rw [h, dPut_mark nm l]; rfl
theorem puts_nm {nm : ByteArray} (h : nameOk nm = true) (l : List (List UInt8)) : ∀ x ∈ l.map (wPut nm), WrNm x := by
  intro x hx
  obtain ⟨c, _, rfl⟩ := List.mem_map.1 hx
  exact ⟨h, fun q => absurd q (show ¬ (2 : Int) = 3 by decide)⟩
theorem Any.append {k : Nat} {s : DS} (h : Any k s) (nm : ByteArray) (p : List UInt8) (hp : p.length ≤ 500) (hk : k ≤ 100) : Any (k + 1) (dAppend s nm p).2 := by
  have hl := h.nlen
  have hok := h.ok.append nm p (by omega)
  have hcl := chunks_len p
  have hs := h.sum
  revert hok
  unfold dAppend
  cases hn : nameOk nm with
  | false => intro _; exact h.up
  | true =>
    rw [if_pos rfl]
    split
    · intro _; exact h.up
    · cases hin : inD s.now nm with
      | true =>
        rw [if_pos rfl]
        intro hok
        refine ⟨hok, ?_, by dsimp only; rw [dPut_mark]; exact h.mnm, ?_⟩
        · dsimp only; rw [dPut_mark, dPut_log, List.length_append, List.length_map]; omega
        · intro x hx
          dsimp only at hx
          rw [dPut_log] at hx
          rcases List.mem_append.1 hx with q | q
          · exact h.lnm x q
          · exact puts_nm hn _ x q
      | false =>
        rw [if_neg (by simp)]
        intro hok
        refine ⟨hok, ?_, by dsimp only; rw [dPut_mark]; exact h.mnm, ?_⟩
        · dsimp only; rw [dPut_mark, dPut_log, List.length_append, List.length_map]; unfold dDo; dsimp only; rw [List.length_append]; simp; omega
        · intro x hx
          dsimp only at hx
          rw [dPut_log] at hx
          rcases List.mem_append.1 hx with q | q
          · rcases List.mem_append.1 (show x ∈ s.log ++ [wMake nm] from q) with q | q
            · exact h.lnm x q
            · simp at q; subst q; exact ⟨hn, fun q => absurd q (show ¬ (1 : Int) = 3 by decide)⟩
          · exact puts_nm hn _ x q
theorem Any.rename {k : Nat} {s : DS} (h : Any k s) (nm tn : ByteArray) (hk : k ≤ 100) : Any (k + 1) (dRename s nm tn).2 := by
  have hl := h.nlen
  unfold dRename
  cases hn : nameOk tn with
  | false => exact h.up
  | true =>
    cases hin : inD s.now nm with
    | false => exact h.up
    | true => exact h.do_ (h.ok.ren nm tn hin (by omega)).1 ⟨h.nnm.has hin, fun _ => hn⟩
theorem Any.cut {k : Nat} {s : DS} (h : Any k s) (nm : ByteArray) (n : Int) (hk : k ≤ 100) : Any (k + 1) (dCut s nm n).2 := by
  have hl := h.nlen
  unfold dCut
  cases hin : inD s.now nm with
  | false => exact h.up
  | true =>
    rw [if_pos rfl]
    split
    · exact h.up
    · rename_i hb
      exact h.do_ (h.ok.cut nm n hin (by omega) (by omega) (by omega)).1 ⟨h.nnm.has hin, fun q => absurd q (show ¬ (4 : Int) = 3 by decide)⟩
theorem Any.remove {k : Nat} {s : DS} (h : Any k s) (nm : ByteArray) (hk : k ≤ 100) : Any (k + 1) (dRemove s nm).2 := by
  have hl := h.nlen
  unfold dRemove
  cases hin : inD s.now nm with
  | false => exact h.up
  | true => exact h.do_ (h.ok.rem nm hin (by omega)).1 ⟨h.nnm.has hin, fun q => absurd q (show ¬ (5 : Int) = 3 by decide)⟩
theorem Any.mark {k : Nat} {s : DS} (h : Any k s) : Any (k + 1) (dMark s) :=
  ⟨h.ok.mark, by have := h.nlen; show s.now.length + 0 ≤ _; omega, h.nnm, fun x hx => by simp [dMark] at hx⟩
theorem Any.back {k : Nat} {s : DS} (h : Any k s) (n : Int) : Any (k + 1) (dBack s n) := by
  refine ⟨h.ok.back n, ?_, h.mnm.all fun x hx => h.lnm x (List.mem_of_mem_take hx), fun x hx => by simp [dBack] at hx⟩
  have h1 := aAll_len (s.log.take n.toNat) s.mark
  have h2 := h.sum
  rw [List.length_take] at h1
  show (wAll s.mark (s.log.take n.toNat)).length + 0 ≤ _
  omega
theorem Any.no {k : Nat} {s : DS} (h : Any k s) (nm : ByteArray) (hn : nameOk nm = false) : inD s.now nm = false := by
  cases hin : inD s.now nm with
  | false => rfl
  | true => rw [h.nnm.has hin] at hn; exact absurd hn (by simp)
end Go.Proofs.YtmhojaiajhdlcaaGreat
namespace Go.Proofs.YtmhojaiajhdlcaaGreat
open Go.RowKit
set_option linter.unusedSimpArgs false
set_option linter.unusedVariables false
abbrev ltI : Int → Int → Bool := fun a b => decide (a < b)
abbrev JS := List (Int × ByteArray)
abbrev s0 : ByteArray := ⟨#[]⟩
abbrev nmJ : ByteArray := ⟨#[106, 111, 117, 114, 110, 97, 108]⟩
abbrev nmN : ByteArray := ⟨#[106, 111, 117, 114, 110, 97, 108, 46, 110, 101, 119]⟩
theorem nmJ_ok : nameOk nmJ = true := by unfold nameOk; decide
theorem nmN_ok : nameOk nmN = true := by unfold nameOk; decide
theorem nmJN : nmJ ≠ nmN := fun h => absurd (congrArg ByteArray.size h) (by decide)
def jHold1 (t : JS) (c : Ch) : JS := if c.2 = s0 then tDel ltI t c.1 else tSet ltI t c.1 c.2
def jAll (t : JS) (l : List Ch) : JS := l.foldl jHold1 t
theorem jAll_nil (t : JS) : jAll t [] = t := rfl
theorem jAll_cons (t : JS) (c : Ch) (l : List Ch) : jAll t (c :: l) = jAll (jHold1 t c) l := rfl
theorem jAll_app (t : JS) (l m : List Ch) : jAll t (l ++ m) = jAll (jAll t l) m := by unfold jAll; rw [List.foldl_append]
def jnx (b : List UInt8) (at_ : Nat) (t : JS) : Option (JS × Nat) :=
  if (nextF b at_).2.2 = 0 ∧ chOk (nextF b at_).1 = true then some (jAll t (chL (nextF b at_).1), (nextF b at_).2.1.toNat) else none
def scanJ (b : List UInt8) : Nat → Nat → JS → JS × Nat
  | 0, at_, t => (t, at_)
  | f + 1, at_, t => match jnx b at_ t with
    | some q => scanJ b f q.2 q.1
    | none => (t, at_)
theorem scanJ_succ (b : List UInt8) (f at_ : Nat) (t : JS) : scanJ b (f + 1) at_ t = match jnx b at_ t with | some q => scanJ b f q.2 q.1 | none => (t, at_) := rfl
def jScan (b : List UInt8) : JS × Nat := scanJ b (b.length + 1) 0 []
/-- The disk behind the file that was to take the journal's place is gone. -/
def jFresh (s : DS) : DS := if inD s.now nmN then (dRemove s nmN).2 else s
def jOpen (s : DS) : JS × DS :=
  ((jScan (dGet (jFresh s).now nmJ).1).1, if (jScan (dGet (jFresh s).now nmJ).1).2 < (dGet (jFresh s).now nmJ).1.length then (dCut (jFresh s) nmJ (jScan (dGet (jFresh s).now nmJ).1).2).2 else jFresh s)
/-- Rows behind one another into the new file, as long as it goes well. -/
def jLay : JS → Int × DS → Int × DS
  | [], q => q
  | r :: t, q => if q.1 = 0 then jLay t (dAppend q.2 nmN (putF [] (encChs [r]))) else q
def jAnew (t : JS) (s : DS) : DS :=
  if (jLay t (dAppend s nmN [])).1 ≠ 0 then (dRemove (jLay t (dAppend s nmN [])).2 nmN).2 else (dRename (jLay t (dAppend s nmN [])).2 nmN nmJ).2
def chBad (l : List Ch) : Bool := l.any fun c => decide (c.1 < 0 ∨ 40 < c.1)
def jSet (t : JS) (s : DS) (l : List Ch) : Int × JS × DS :=
  if l.length < 1 ∨ 41 < l.length then (1, t, s)
  else if chBad l = true then (1, t, s)
  else if 262144 < (encChs l).length then (2, t, s)
  else if (dAppend s nmJ (putF [] (encChs l))).1 ≠ 0 then ((dAppend s nmJ (putF [] (encChs l))).1, t, (dAppend s nmJ (putF [] (encChs l))).2)
  else (0, jAll t l, if 262144 < (dGet (dAppend s nmJ (putF [] (encChs l))).2.now nmJ).1.length then jAnew (jAll t l) (dAppend s nmJ (putF [] (encChs l))).2 else (dAppend s nmJ (putF [] (encChs l))).2)
/-- Only slots that there are; no more than 41. -/
structure JT (t : JS) : Prop where
  ris : Rising ltI t
  ks : ∀ p ∈ t, ChOk p
theorem JT.nil : JT [] := ⟨Rising.nil, by simp⟩
theorem JT.hold1 {t : JS} (h : JT t) (c : Ch) (hc : ChOk c) : JT (jHold1 t c) := by
  unfold jHold1
  split
  · exact ⟨h.ris.del intOrd _, fun p hp => h.ks p (tDel_mem _ _ _ hp)⟩
  · refine ⟨h.ris.set_ intOrd _ _, fun p hp => ?_⟩
    rcases tSet_mem _ _ _ _ hp with rfl | q
    · exact hc
    · exact h.ks p q
theorem JT.all : ∀ (l : List Ch) {t : JS}, JT t → (∀ c ∈ l, ChOk c) → JT (jAll t l)
  | [], t, h, _ => h
  | c :: l, t, h, hc => JT.all l (h.hold1 c (hc c (by simp))) (fun x hx => hc x (by simp [hx]))
theorem rise_ge : ∀ (t : JS), Rising ltI t → (∀ p ∈ t, 0 ≤ p.1) → ∀ i, i < t.length → (i : Int) ≤ (nth t i).1 := by
  intro t hr hk i
  induction i with
  | zero => intro hi; exact hk _ (nth_mem 0 hi)
  | succ i ih =>
    intro hi
    have h1 := ih (by omega)
    have h2 : decide ((nth t i).1 < (nth t (i + 1)).1) = true := hr i (i + 1) (by omega) hi
    have h3 := of_decide_eq_true h2
    omega
theorem JT.len {t : JS} (h : JT t) : t.length ≤ 41 := by
  rcases Nat.lt_or_ge 41 t.length with q | q
  · have h1 := rise_ge t h.ris (fun p hp => (h.ks p hp).lo) 41 q
    have h2 := (h.ks _ (nth_mem 41 q)).hi
    omega
  · exact q
theorem jnx_to {b : List UInt8} {k : Nat} {t : JS} {q : JS × Nat} (hk : k ≤ b.length) (h : jnx b k t = some q) : k < q.2 ∧ q.2 ≤ b.length := by
  unfold jnx at h
  split at h
  · rename_i hc
    obtain ⟨m, h1, h2, h3, h4, h5⟩ := frNext_to b k hk hc.1
    injection h with h
    rw [← h, h4, Int.toNat_natCast]
    dsimp only
    omega
  · exact absurd h (by simp)
theorem jnx_jt {b : List UInt8} {k : Nat} {t : JS} {q : JS × Nat} (ht : JT t) (h : jnx b k t = some q) : JT q.1 := by
  unfold jnx at h
  split at h
  · rename_i hc
    injection h with h
    rw [← h]
    exact ht.all _ (fun c hx => (ch_of hc.2).2.1 c hx)
  · exact absurd h (by simp)
theorem scanJ_ge (b : List UInt8) : ∀ (f k : Nat) (t : JS), k ≤ b.length → k ≤ (scanJ b f k t).2 ∧ (scanJ b f k t).2 ≤ b.length
  | 0, k, t, hk => ⟨Nat.le_refl _, hk⟩
  | f + 1, k, t, hk => by
    rw [scanJ_succ]
    cases hx : jnx b k t with
    | none => exact ⟨Nat.le_refl _, hk⟩
    | some q =>
      have h1 := jnx_to hk hx
      have h2 := scanJ_ge b f q.2 q.1 h1.2
      dsimp only
      omega
theorem scanJ_jt (b : List UInt8) : ∀ (f k : Nat) (t : JS), JT t → JT (scanJ b f k t).1
  | 0, k, t, ht => ht
  | f + 1, k, t, ht => by
    rw [scanJ_succ]
    cases hx : jnx b k t with
    | none => exact ht
    | some q => exact scanJ_jt b f q.2 q.1 (jnx_jt ht hx)
theorem jScan_jt (b : List UInt8) : JT (jScan b).1 := scanJ_jt b _ _ _ JT.nil
theorem jScan_le (b : List UInt8) : (jScan b).2 ≤ b.length := (scanJ_ge b (b.length + 1) 0 [] (Nat.zero_le _)).2
theorem scanJ_fuel (b : List UInt8) : ∀ (f g k : Nat) (t : JS), k ≤ b.length → b.length < f + k → b.length < g + k → scanJ b f k t = scanJ b g k t
  | 0, g, k, t, hk, hf, hg => by omega
  | f + 1, 0, k, t, hk, hf, hg => by omega
  | f + 1, g + 1, k, t, hk, hf, hg => by
    rw [scanJ_succ, scanJ_succ]
    cases hx : jnx b k t with
    | none => rfl
    | some q =>
      have h3 := jnx_to hk hx
      exact scanJ_fuel b f g q.2 _ h3.2 (by omega) (by omega)
end Go.Proofs.YtmhojaiajhdlcaaGreat
namespace Go.Proofs.YtmhojaiajhdlcaaGreat
open Go.RowKit
set_option linter.unusedSimpArgs false
set_option linter.unusedVariables false
set_option linter.unusedSectionVars false
section
variable {κ ν : Type} [Inhabited κ] [Inhabited ν] [DecidableEq κ] {lt : κ → κ → Bool}
theorem mem_nth {l : List (κ × ν)} {p : κ × ν} (h : p ∈ l) : ∃ i, i < l.length ∧ nth l i = p := by
  obtain ⟨i, hi, rfl⟩ := List.mem_iff_getElem.1 h
  exact ⟨i, hi, nth_get _ _ hi⟩
theorem get_mem (ho : KOrd lt) (z : ν) {l : List (κ × ν)} (hr : Rising lt l) (k : κ) (v : ν) : tGet lt z l k = (v, true) ↔ (k, v) ∈ l := by
  constructor
  · intro h
    unfold tGet at h
    split at h
    · rename_i hi
      unfold isIn at hi
      obtain ⟨h1, h2⟩ := of_decide_eq_true hi
      injection h with h3 _
      have : nth l (below lt l k) = (k, v) := Prod.ext h2 h3
      rw [← this]; exact nth_mem _ h1
    · injection h with _ h; exact absurd h (by simp)
  · intro h
    obtain ⟨i, hi, he⟩ := mem_nth h
    have := tGet_at ho z hr i hi
    rw [he] at this
    exact this
theorem get_no (ho : KOrd lt) (z : ν) {l : List (κ × ν)} (hr : Rising lt l) (k : κ) (h : ∀ v, (k, v) ∉ l) : tGet lt z l k = (z, false) := by
  unfold tGet
  cases hi : isIn lt l k with
  | false => rfl
  | true =>
    have h2 : tGet lt z l k = ((nth l (below lt l k)).2, true) := by unfold tGet; rw [hi]; rfl
    exact absurd ((get_mem ho z hr k _).1 h2) (h _)
theorem mem_set (ho : KOrd lt) {l : List (κ × ν)} (hr : Rising lt l) (k : κ) (v : ν) (p : κ × ν) : p ∈ tSet lt l k v ↔ p = (k, v) ∨ (p ∈ l ∧ p.1 ≠ k) := by
  have hle := below_le (lt := lt) l k
  unfold tSet
  constructor
  · intro h
    rcases List.mem_append.1 h with h | h
    · refine .inr ⟨List.mem_of_mem_take h, fun e => ?_⟩
      obtain ⟨i, hi, he⟩ := mem_nth h
      rw [List.length_take] at hi
      rw [nth_take _ _ _ (by omega)] at he
      have := below_lt l k i (by omega) (lt := lt)
      rw [he, e, ho.irr] at this
      exact absurd this (by simp)
    · rcases List.mem_cons.1 h with h | h
      · exact .inl h
      · refine .inr ⟨List.mem_of_mem_drop h, fun e => ?_⟩
        obtain ⟨i, hi, he⟩ := mem_nth h
        rw [List.length_drop] at hi
        rw [nth_drop] at he
        have := above ho hr k (below lt l k + (if isIn lt l k then 1 else 0) + i) (by omega) (by omega)
        rw [he, e, ho.irr] at this
        exact absurd this (by simp)
  · rintro (rfl | ⟨h, hne⟩)
    · simp
    · obtain ⟨i, hi, rfl⟩ := mem_nth h
      rcases Nat.lt_or_ge i (below lt l k) with q | q
      · refine List.mem_append.2 (.inl ?_)
        rw [← nth_take l (below lt l k) i q]
        exact nth_mem _ (by rw [List.length_take]; omega)
      · refine List.mem_append.2 (.inr (List.mem_cons_of_mem _ ?_))
        have hs : below lt l k + (if isIn lt l k then 1 else 0) ≤ i := by
          cases hin : isIn lt l k with
          | false => simp; exact q
          | true =>
            unfold isIn at hin
            obtain ⟨h1, h2⟩ := of_decide_eq_true hin
            have : below lt l k ≠ i := fun e => hne (by rw [← e]; exact h2)
            simp; omega
        obtain ⟨d, rfl⟩ := Nat.exists_eq_add_of_le hs
        rw [← nth_drop]
        exact nth_mem _ (by rw [List.length_drop]; omega)
theorem mem_del (ho : KOrd lt) {l : List (κ × ν)} (hr : Rising lt l) (k : κ) (p : κ × ν) : p ∈ tDel lt l k ↔ p ∈ l ∧ p.1 ≠ k := by
  cases hin : isIn lt l k with
  | false =>
    have he : tDel lt l k = l := by unfold tDel; rw [hin]; rfl
    rw [he]
    refine ⟨fun h => ⟨h, fun e => ?_⟩, fun h => h.1⟩
    obtain ⟨i, hi, rfl⟩ := mem_nth h
    have := isIn_at ho hr i hi
    rw [e, hin] at this
    exact absurd this (by simp)
  | true =>
    have he : tDel lt l k = l.take (below lt l k) ++ l.drop (below lt l k + 1) := by unfold tDel; rw [hin]; rfl
    have h2 := mem_set ho hr k (default : ν) p
    have hset : tSet lt l k (default : ν) = l.take (below lt l k) ++ (k, default) :: l.drop (below lt l k + 1) := by unfold tSet; rw [hin]; rfl
    rw [hset] at h2
    rw [he]
    constructor
    · intro h
      have h3 : p ∈ l.take (below lt l k) ++ (k, default) :: l.drop (below lt l k + 1) := by
        rcases List.mem_append.1 h with q | q
        · exact List.mem_append.2 (.inl q)
        · exact List.mem_append.2 (.inr (List.mem_cons_of_mem _ q))
      refine ⟨?_, fun e => ?_⟩
      · rcases List.mem_append.1 h with q | q
        · exact List.mem_of_mem_take q
        · exact List.mem_of_mem_drop q
      · rcases List.mem_append.1 h with q | q
        · obtain ⟨i, hi, hq⟩ := mem_nth q
          rw [List.length_take] at hi
          rw [nth_take _ _ _ (by omega)] at hq
          have := below_lt l k i (by omega) (lt := lt)
          rw [hq, e, ho.irr] at this
          exact absurd this (by simp)
        · obtain ⟨i, hi, hq⟩ := mem_nth q
          rw [List.length_drop] at hi
          rw [nth_drop] at hq
          have := above ho hr k (below lt l k + 1 + i) (by rw [hin]; simp) (by omega)
          rw [hq, e, ho.irr] at this
          exact absurd this (by simp)
    · rintro ⟨h, hne⟩
      have h3 := h2.2 (.inr ⟨h, hne⟩)
      rcases List.mem_append.1 h3 with q | q
      · exact List.mem_append.2 (.inl q)
      · rcases List.mem_cons.1 q with rfl | q
        · exact absurd rfl hne
        · exact List.mem_append.2 (.inr q)
theorem get_cases (z : ν) (l : List (κ × ν)) (k : κ) : (∃ v, tGet lt z l k = (v, true)) ∨ tGet lt z l k = (z, false) := by
  unfold tGet
  cases isIn lt l k with
  | true => exact .inl ⟨_, rfl⟩
  | false => exact .inr rfl
theorem get_same (ho : KOrd lt) (z : ν) {l m : List (κ × ν)} (hl : Rising lt l) (hm : Rising lt m) (k : κ) (h : ∀ v, (k, v) ∈ l ↔ (k, v) ∈ m) : tGet lt z l k = tGet lt z m k := by
  rcases get_cases (lt := lt) z l k with ⟨v, hv⟩ | hn
  · rw [hv, (get_mem ho z hm k v).2 ((h v).1 ((get_mem ho z hl k v).1 hv))]
  · rw [hn, get_no ho z hm k]
    intro v hv
    rw [(get_mem ho z hl k v).2 ((h v).2 hv)] at hn
    injection hn with _ hn; exact absurd hn (by simp)
theorem get_set_eq (ho : KOrd lt) (z : ν) {l : List (κ × ν)} (hl : Rising lt l) (k : κ) (v : ν) : tGet lt z (tSet lt l k v) k = (v, true) :=
  (get_mem ho z (hl.set_ ho k v) k v).2 ((mem_set ho hl k v _).2 (.inl rfl))
theorem get_set_ne (ho : KOrd lt) (z : ν) {l : List (κ × ν)} (hl : Rising lt l) (k k' : κ) (v : ν) (hne : k' ≠ k) : tGet lt z (tSet lt l k v) k' = tGet lt z l k' :=
  get_same ho z (hl.set_ ho k v) hl k' fun u => by
    rw [mem_set ho hl]
    constructor
    · rintro (h | h)
      · injection h with h1 _; exact absurd h1 hne
      · exact h.1
    · exact fun h => .inr ⟨h, hne⟩
theorem get_del_eq (ho : KOrd lt) (z : ν) {l : List (κ × ν)} (hl : Rising lt l) (k : κ) : tGet lt z (tDel lt l k) k = (z, false) :=
  get_no ho z (hl.del ho k) k fun v h => ((mem_del ho hl k _).1 h).2 rfl
theorem get_del_ne (ho : KOrd lt) (z : ν) {l : List (κ × ν)} (hl : Rising lt l) (k k' : κ) (hne : k' ≠ k) : tGet lt z (tDel lt l k) k' = tGet lt z l k' :=
  get_same ho z (hl.del ho k) hl k' fun u => by
    rw [mem_del ho hl]
    exact ⟨fun h => h.1, fun h => ⟨h, hne⟩⟩
theorem Rising.head (ho : KOrd lt) {p : κ × ν} {l : List (κ × ν)} (h : Rising lt (p :: l)) : ∀ q ∈ l, lt p.1 q.1 = true := fun q hq => by
  obtain ⟨i, hi, rfl⟩ := mem_nth hq
  have := h 0 (i + 1) (by omega) (by simp; omega)
  rwa [nth_cons_zero, nth_cons_succ] at this
theorem Rising.tail {p : κ × ν} {l : List (κ × ν)} (h : Rising lt (p :: l)) : Rising lt l := fun i j hij hj => by
  have := h (i + 1) (j + 1) (by omega) (by simp; omega)
  rwa [nth_cons_succ, nth_cons_succ] at this
theorem rise_ext (ho : KOrd lt) : ∀ {l m : List (κ × ν)}, Rising lt l → Rising lt m → (∀ p, p ∈ l ↔ p ∈ m) → l = m
  | [], [], _, _, _ => rfl
  | [], q :: m, _, _, h => absurd ((h q).2 (by simp)) (by simp)
  | p :: l, [], _, _, h => absurd ((h p).1 (by simp)) (by simp)
  | p :: l, q :: m, hl, hm, h => by
    have hpq : p = q := by
      rcases List.mem_cons.1 ((h p).1 (by simp)) with e | e
      · exact e
      · rcases List.mem_cons.1 ((h q).2 (by simp)) with e2 | e2
        · exact e2.symm
        · have h1 := hm.head ho p e
          have h2 := hl.head ho q e2
          have := ho.trans _ _ _ h1 h2
          rw [ho.irr] at this
          exact absurd this (by simp)
    subst hpq
    congr 1
    refine rise_ext ho hl.tail hm.tail fun r => ⟨fun hr => ?_, fun hr => ?_⟩
    · rcases List.mem_cons.1 ((h r).1 (List.mem_cons_of_mem _ hr)) with e | e
      · subst e
        have := hl.head ho r hr
        rw [ho.irr] at this
        exact absurd this (by simp)
      · exact e
    · rcases List.mem_cons.1 ((h r).2 (List.mem_cons_of_mem _ hr)) with e | e
      · subst e
        have := hm.head ho r hr
        rw [ho.irr] at this
        exact absurd this (by simp)
      · exact e
end
end Go.Proofs.YtmhojaiajhdlcaaGreat
namespace Go.Proofs.YtmhojaiajhdlcaaGreat
open Go.RowKit
set_option linter.unusedSimpArgs false
set_option linter.unusedVariables false
theorem jnx_app {b : List UInt8} {k : Nat} {t : JS} {q : JS × Nat} (c : List UInt8) (hk : k ≤ b.length) (h : jnx b k t = some q) : jnx (b ++ c) k t = some q := by
  unfold jnx at h ⊢
  split at h
  · rename_i hc
    rw [frNext_app b c k hk hc.1, if_pos hc]; exact h
  · exact absurd h (by simp)
theorem scanJ_app (b c : List UInt8) (t : JS) : ∀ (f k : Nat) (t0 : JS), k ≤ b.length → scanJ b f k t0 = (t, b.length) → b.length < f + k → ∀ g, (b ++ c).length < g + k → scanJ (b ++ c) g k t0 = scanJ (b ++ c) (c.length + 1) b.length t
  | 0, k, t0, hk, _, hf, g, hg => by omega
  | f + 1, k, t0, hk, hs, hf, g, hg => by
    have hlen : (b ++ c).length = b.length + c.length := List.length_append
    rw [scanJ_succ] at hs
    cases hx : jnx b k t0 with
    | none =>
      rw [hx] at hs
      have h1 : t0 = t := congrArg Prod.fst hs
      have h2 : k = b.length := congrArg Prod.snd hs
      subst h1; subst h2
      exact scanJ_fuel (b ++ c) g (c.length + 1) b.length t0 (by omega) (by omega) (by omega)
    | some q =>
      rw [hx] at hs
      have h1 := jnx_to hk hx
      obtain ⟨g, rfl⟩ : ∃ g', g = g' + 1 := ⟨g - 1, by omega⟩
      rw [scanJ_succ, jnx_app c hk hx]
      exact scanJ_app b c t f q.2 q.1 h1.2 hs (by omega) g (by omega)
/-- A file that is read to its end, and bytes behind it. -/
theorem jScan_app {b : List UInt8} {t : JS} (c : List UInt8) (h : jScan b = (t, b.length)) : jScan (b ++ c) = scanJ (b ++ c) (c.length + 1) b.length t := by
  unfold jScan at h
  have hlen : (b ++ c).length = b.length + c.length := List.length_append
  exact scanJ_app b c t (b.length + 1) 0 [] (Nat.zero_le _) h (by omega) _ (by omega)
theorem encChs_ge (l : List Ch) : 1 ≤ (encChs l).length := by
  have := encNum_ge l.length
  unfold encChs; rw [List.length_append]; omega
/-- Changes that a frame can bear. -/
structure ChsOk (l : List Ch) : Prop where
  ok : ∀ c ∈ l, ChOk c
  lo : 1 ≤ l.length
  hi : l.length ≤ 41
  sz : (encChs l).length ≤ 262144
theorem ChsOk.fit {l : List Ch} (h : ChsOk l) : Fit (encChs l) := ⟨encChs_ge l, h.sz⟩
theorem jnx_frame {b : List UInt8} {t : JS} {l : List Ch} (r : List UInt8) (h : ChsOk l) : jnx (b ++ (frameOf (encChs l) ++ r)) b.length t = some (jAll t l, b.length + (frameOf (encChs l)).length) := by
  obtain ⟨g1, g2⟩ := ch_get h.ok h.lo h.hi
  have hn : nextF (b ++ (frameOf (encChs l) ++ r)) (b.length : Int) = (encChs l, ((b.length + 8 + (encChs l).length : Nat) : Int), 0) := by
    rw [nextF_at _ _ (by rw [List.length_append]; omega), List.drop_left]
    exact next_frame _ _ _ h.fit
  unfold jnx
  rw [hn]
  dsimp only
  rw [if_pos ⟨rfl, g1⟩, g2, Int.toNat_natCast, frameOf_len, Nat.add_assoc]
theorem jnx_end (b : List UInt8) (t : JS) : jnx b b.length t = none := by
  unfold jnx
  rw [if_neg]
  rintro ⟨h1, -⟩
  rw [nextF_at _ _ (Nat.le_refl _), List.drop_length] at h1
  exact next_nil _ h1
theorem jnx_cut {b : List UInt8} {t : JS} {l : List Ch} (m : Nat) (h : ChsOk l) (hm : m < (frameOf (encChs l)).length) : jnx (b ++ (frameOf (encChs l)).take m) b.length t = none := by
  unfold jnx
  rw [if_neg]
  rintro ⟨h1, -⟩
  rw [nextF_at _ _ (by rw [List.length_append]; omega), List.drop_left] at h1
  exact next_cut _ _ _ h.fit (by rw [frameOf_len] at hm; exact hm) h1
/-- A frame more. -/
theorem jScan_frame {b : List UInt8} {t : JS} {l : List Ch} (hb : jScan b = (t, b.length)) (h : ChsOk l) : jScan (b ++ frameOf (encChs l)) = (jAll t l, (b ++ frameOf (encChs l)).length) := by
  have h1 := jnx_frame (b := b) (t := t) [] h
  rw [List.append_nil] at h1
  have hf := frameOf_len (encChs l)
  rw [jScan_app _ hb, scanJ_succ, h1]
  dsimp only
  obtain ⟨n, hn⟩ : ∃ n, (frameOf (encChs l)).length = n + 1 := ⟨(frameOf (encChs l)).length - 1, by omega⟩
  rw [hn, scanJ_succ, ← hn, ← List.length_append, jnx_end]
/-- A frame that is cut off. -/
theorem jScan_part {b : List UInt8} {t : JS} {l : List Ch} (hb : jScan b = (t, b.length)) (h : ChsOk l) (m : Nat) (hm : m < (frameOf (encChs l)).length) : jScan (b ++ (frameOf (encChs l)).take m) = (t, b.length) := by
  rw [jScan_app _ hb, scanJ_succ, jnx_cut m h hm]
theorem jScan_nil : jScan [] = ([], 0) := by
  unfold jScan
  rw [scanJ_succ]
  have : jnx [] 0 [] = none := jnx_end [] []
  rw [show ([] : List UInt8).length = 0 from rfl] at *
  rw [this]
theorem jnx_take {b : List UInt8} {k n : Nat} {t : JS} {q : JS × Nat} (hk : k ≤ b.length) (h : jnx b k t = some q) (hn : q.2 ≤ n) (hnb : n ≤ b.length) : jnx (b.take n) k t = some q := by
  unfold jnx at h ⊢
  split at h
  · rename_i hc
    obtain ⟨m, h1, h2, h3, h4, h5⟩ := frNext_to b k hk hc.1
    have hq := h
    injection hq with hq
    have hto : (nextF b (k : Int)).2.1 ≤ (n : Int) := by
      rw [← hq] at hn
      rw [h4] at hn ⊢
      rw [Int.toNat_natCast] at hn
      omega
    rw [frNext_take b k n hk hc.1 hto hnb, if_pos hc]; exact h
  · exact absurd h (by simp)
theorem scanJ_again (b : List UInt8) (n : Nat) (hnb : n ≤ b.length) : ∀ (f k : Nat) (t : JS), k ≤ n → (scanJ b f k t).2 = n → n < f + k → scanJ (b.take n) f k t = scanJ b f k t
  | 0, k, t, hk, hs, hf => by omega
  | f + 1, k, t, hk, hs, hf => by
    rw [scanJ_succ] at hs
    rw [scanJ_succ, scanJ_succ]
    cases hx : jnx b k t with
    | none =>
      rw [hx] at hs
      have hs : k = n := hs
      subst hs
      have hlen : (b.take k).length = k := by rw [List.length_take]; omega
      have hy : jnx (b.take k) k t = none := by
        have := jnx_end (b.take k) t
        rwa [hlen] at this
      rw [hy]
    | some q =>
      rw [hx] at hs
      have h3 := jnx_to (by omega) hx
      have h4 := (scanJ_ge b f q.2 q.1 h3.2).1
      have hs : (scanJ b f q.2 q.1).2 = n := hs
      rw [jnx_take (by omega) hx (by omega) hnb]
      exact scanJ_again b n hnb f q.2 _ (by omega) hs (by omega)
theorem jScan_again (b : List UInt8) : jScan (b.take (jScan b).2) = jScan b := by
  have h2 := jScan_le b
  have h := scanJ_again b (jScan b).2 h2 (b.length + 1) 0 [] (Nat.zero_le _) rfl (by omega)
  have hlen : (b.take (jScan b).2).length = (jScan b).2 := by rw [List.length_take]; exact Nat.min_eq_left h2
  have h3 := scanJ_fuel (b.take (jScan b).2) ((b.take (jScan b).2).length + 1) (b.length + 1) 0 [] (Nat.zero_le _) (by omega) (by rw [hlen]; omega)
  unfold jScan at h h3 ⊢
  exact h3.trans h
theorem jScan_cut (b : List UInt8) : jScan (b.take (jScan b).2) = ((jScan b).1, (b.take (jScan b).2).length) := by
  have hlen : (b.take (jScan b).2).length = (jScan b).2 := by rw [List.length_take]; exact Nat.min_eq_left (jScan_le b)
  rw [jScan_again, hlen]
/-- What slots have. -/
def jGet (t : JS) (k : Int) : ByteArray := (tGet ltI s0 t k).1
theorem jGet_hold1 {t : JS} (ht : Rising ltI t) (c : Ch) (k : Int) : jGet (jHold1 t c) k = if k = c.1 then c.2 else jGet t k := by
  unfold jGet jHold1
  by_cases hk : k = c.1
  · rw [if_pos hk, hk]
    split
    · rename_i h; rw [get_del_eq intOrd _ ht, h]
    · rw [get_set_eq intOrd _ ht]
  · rw [if_neg hk]
    split
    · rw [get_del_ne intOrd _ ht _ _ hk]
    · rw [get_set_ne intOrd _ ht _ _ _ hk]
/-- Rows that have something. -/
def Full0 (t : JS) : Prop := ∀ p ∈ t, p.2 ≠ s0
theorem Full0.hold1 {t : JS} (ht : Rising ltI t) (h : Full0 t) (c : Ch) : Full0 (jHold1 t c) := by
  unfold jHold1
  split
  · exact fun p hp => h p ((mem_del intOrd ht _ _).1 hp).1
  · rename_i hc
    intro p hp
    rcases (mem_set intOrd ht _ _ _).1 hp with rfl | q
    · exact hc
    · exact h p q.1
/-- Rows laid one behind the other onto lesser ones. -/
theorem jAll_rows : ∀ (u t : JS), Rising ltI (t ++ u) → Full0 u → jAll t u = t ++ u
  | [], t, _, _ => by simp [jAll]
  | p :: u, t, hr, hf => by
    have h1 : jHold1 t p = t ++ [p] := by
      unfold jHold1
      rw [if_neg (hf p (by simp))]
      have hb : below ltI t p.1 = t.length := by
        refine below_eq _ _ _ (Nat.le_refl _) (fun j hj => ?_) (fun h => absurd h (by omega))
        have := hr j t.length hj (by rw [List.length_append, List.length_cons]; omega)
        rw [nth_append_left _ _ _ hj, nth_append_right _ _ _ (Nat.le_refl _), Nat.sub_self, nth_cons_zero] at this
        exact this
      have hi : isIn ltI t p.1 = false := by unfold isIn; rw [hb]; exact decide_eq_false (fun q => by omega)
      unfold tSet
      rw [hb, hi, List.take_length]
      simp
    rw [jAll_cons, h1, jAll_rows u (t ++ [p]) (by rw [List.append_assoc]; exact hr) (fun q hq => hf q (by simp [hq])), List.append_assoc]
    rfl
/-- What a journal in order has: the file tells the slots. -/
structure JOk (t : JS) (b : List UInt8) : Prop where
  sc : jScan b = (t, b.length)
  jt : JT t
  full : Full0 t
  one : ∀ p ∈ t, ChsOk [p]
theorem JOk.nil : JOk [] [] := ⟨jScan_nil, JT.nil, by simp [Full0], by simp⟩
theorem encChs_one (p : Ch) : encChs [p] = encNum 1 ++ encCh p := by unfold encChs; simp
theorem encNum_mono {m n : Nat} (h : m ≤ n) : nb m ≤ nb n := by
  rcases Nat.lt_or_ge (nb n) (nb m) with q | q
  · have h1 := (nb_lt (nb n) m).1 q
    have h2 : ¬ nb n < nb n := Nat.lt_irrefl _
    have h3 : 0 < n / 256 ^ nb n := Nat.lt_of_lt_of_le h1 (Nat.div_le_div_right h)
    exact absurd ((nb_lt (nb n) n).2 h3) h2
  · exact q
theorem one_le {l : List Ch} {p : Ch} (hp : p ∈ l) : (encChs [p]).length ≤ (encChs l).length := by
  obtain ⟨a, b, rfl⟩ := List.append_of_mem hp
  rw [encChs_one]
  unfold encChs
  have h1 : nb 1 ≤ nb (a ++ p :: b).length := encNum_mono (by simp; omega)
  obtain ⟨N, hN⟩ : ∃ N, (a ++ p :: b).length = N := ⟨_, rfl⟩
  rw [hN] at h1 ⊢
  simp only [List.length_append, encNum_len, List.flatMap_append, List.flatMap_cons]
  omega
theorem JOk.all {t : JS} {b : List UInt8} (h : JOk t b) {l : List Ch} (hl : ChsOk l) : JT (jAll t l) ∧ Full0 (jAll t l) ∧ ∀ p ∈ jAll t l, ChsOk [p] := by
  have key : ∀ (m : List Ch) (u : JS), (∀ c ∈ m, c ∈ l) → JT u → Full0 u → (∀ p ∈ u, ChsOk [p]) → JT (jAll u m) ∧ Full0 (jAll u m) ∧ ∀ p ∈ jAll u m, ChsOk [p] := by
    intro m
    induction m with
    | nil => exact fun u _ h1 h2 h3 => ⟨h1, h2, h3⟩
    | cons c m ih =>
      intro u hm h1 h2 h3
      have hc := hl.ok c (hm c (by simp))
      rw [jAll_cons]
      refine ih (jHold1 u c) (fun x hx => hm x (by simp [hx])) (h1.hold1 c hc) (Full0.hold1 h1.ris h2 c) (fun p hp => ?_)
      have hone : ChsOk [c] := ⟨by intro x hx; simp at hx; subst hx; exact hc, by simp, by simp, Nat.le_trans (one_le (hm c (by simp))) hl.sz⟩
      unfold jHold1 at hp
      split at hp
      · exact h3 p ((mem_del intOrd h1.ris _ _).1 hp).1
      · rcases (mem_set intOrd h1.ris _ _ _).1 hp with rfl | q
        · exact hone
        · exact h3 p q.1
  exact key l t (fun _ h => h) h.jt h.full h.one
theorem JOk.frame {t : JS} {b : List UInt8} (h : JOk t b) {l : List Ch} (hl : ChsOk l) : JOk (jAll t l) (b ++ frameOf (encChs l)) := by
  obtain ⟨h1, h2, h3⟩ := h.all hl
  exact ⟨jScan_frame h.sc hl, h1, h2, h3⟩
/-- The file laid anew. -/
def jRows (t : JS) : List UInt8 := t.flatMap fun p => frameOf (encChs [p])
theorem JOk.rows {t : JS} {b : List UInt8} (h : JOk t b) : JOk t (jRows t) := by
  have key : ∀ (u a : JS), Rising ltI (a ++ u) → Full0 u → (∀ p ∈ u, ChsOk [p]) → ∀ c, jScan c = (a, c.length) → jScan (c ++ jRows u) = (a ++ u, (c ++ jRows u).length) := by
    intro u
    induction u with
    | nil => intro a _ _ _ c hc; simpa [jRows] using hc
    | cons p u ih =>
      intro a hr hf ho c hc
      have h1 := jScan_frame hc (ho p (by simp))
      have h2 : jAll a [p] = a ++ [p] := jAll_rows [p] a (by
        have := hr.take (a.length + 1)
        rw [List.take_append, List.take_of_length_le (by omega)] at this
        simpa using this) (fun q hq => by simp at hq; subst hq; exact hf _ (by simp))
      rw [h2] at h1
      have h3 := ih (a ++ [p]) (by rw [List.append_assoc]; exact hr) (fun q hq => hf q (by simp [hq])) (fun q hq => ho q (by simp [hq])) _ h1
      have he : c ++ jRows (p :: u) = (c ++ frameOf (encChs [p])) ++ jRows u := by unfold jRows; rw [List.flatMap_cons, List.append_assoc]
      rw [he, h3, List.append_assoc]; rfl
  have h1 := key t [] (by simpa using h.jt.ris) h.full h.one [] jScan_nil
  simp only [List.nil_append] at h1
  exact ⟨h1, h.jt, h.full, h.one⟩
end Go.Proofs.YtmhojaiajhdlcaaGreat
namespace Go.Proofs.YtmhojaiajhdlcaaGreat
open Go.RowKit
set_option linter.unusedSimpArgs false
set_option linter.unusedVariables false
abbrev rcIS (p : Int × ByteArray) : List Value := [iv p.1, sv p.2]
theorem rcIS_len : ∀ p, (rcIS p).length = 2 := fun _ => rfl
theorem infoRowIS : (Tryz.prog.info? 196).map (fun i => (i.zero, i.size, i.bytes)) = some (some (.agg #[.int .i64 0, .string ⟨#[]⟩]), 2, 24) := by kernel_rfl
abbrev ltIS : Int → Int → Bool := fun a b => decide (a < b)
/-- The table at g, its rows lv. -/
structure TBIS (base : Nat) (w : World) (g : Nat) (lv : Value) (l : List (Int × ByteArray)) : Prop where
  tab : Blk w g 190 [lv]
  rows : OwnN 2 rcIS base 196 w lv l
  gb : base ≤ g
section
variable {base : Nat} {g : Nat} {lv : Value} {l : List (Int × ByteArray)} {w w' : World}
theorem TBIS.upd (h : TBIS base w g lv l) {S : List Nat} (hu : Upd S w w') (hs : ∀ x ∈ g :: blk lv, x ∉ S) : TBIS base w' g lv l :=
  ⟨h.tab.upd hu (hs g (by simp)), h.rows.upd hu (fun x hx => hs x (by simp [hx])), h.gb⟩
theorem TBIS.upd0 (h : TBIS base w g lv l) (hu : Upd [] w w') : TBIS base w' g lv l := h.upd hu (by simp)
theorem TBIS.g_lv (h : TBIS base w g lv l) : g ∉ blk lv := fun e => by
  obtain ⟨C, f, hq⟩ := h.rows.typ g e
  exact h.tab.ne g hq (by decide) rfl
theorem TBIS.lt (h : TBIS base w g lv l) : ∀ x ∈ g :: blk lv, base ≤ x ∧ x < w.heap.size := by
  intro x hx
  rcases List.mem_cons.1 hx with rfl | hx
  · exact ⟨h.gb, h.tab.lt⟩
  · exact h.rows.ge x hx
theorem tLenIS_any (w : World) (hs : TBIS base w g lv l) :
    Calls Tryz.prog 122 #[.pointer (some ⟨g, 0, none⟩)] w fun e w' => e = .returned (.int .i64 (l.length : Int)) ∧ w = w' := by
  obtain ⟨ao, co, rfl, -⟩ := hs.rows.rd rcIS_len
  have c0 : w.cell? ⟨g, 0, none⟩ = some (.slice ao l.length co) := hs.tab.cell 0
  go_enter Tryz.func122, Tryz.ntmps122
  go_wp2
  go_ret
  exact ⟨rfl, rfl⟩
theorem tNewIS_any (w : World) :
    Calls Tryz.prog 87 #[] w fun e w' => e = .returned (.pointer (some ⟨w.heap.size, 0, none⟩)) ∧ TBIS w.heap.size w' w.heap.size (.slice none 0 0) [] ∧ Upd [] w w' := by
  go_enter Tryz.func87, Tryz.ntmps87
  go_wp2
  go_ret
  exact ⟨rfl, ⟨Blk.new w _ [.slice none 0 0], OwnN.nil _ _ _, Nat.le_refl _⟩, (Upd.refl [] w).alloc _⟩
set_option maxRecDepth 20000 in
set_option maxHeartbeats 1000000 in
theorem tFindIS_any (w : World) (k : Int) (hs : TBIS base w g lv l) (hr : Rising ltIS l) (hlen : l.length ≤ 100000) (hk : I64 k) :
    Calls Tryz.prog 133 #[.pointer (some ⟨g, 0, none⟩), iv k] w fun e w' => e = .returned (.tuple #[.int .i64 (below ltIS l k : Int), .bool (isIn ltIS l k)]) ∧ Upd [] w w' := by
  have HS := Lib.hid hs
  have HR := Lib.hid hr
  obtain ⟨ao, co, rfl, hlc, hcm, hcell⟩ := hs.rows.rd rcIS_len
  have c0 : w.cell? ⟨g, 0, none⟩ = some (.slice ao l.length co) := hs.tab.cell 0
  have HC := Lib.hid hcell
  clear hs hr hcell hcm
  go_enter Tryz.func133, Tryz.ntmps133
  go_wp2_with fail
  go_quiet (fail)
  have HU := Lib.hid ((Upd.refl [] w).drewN nq)
  generalize w.drewN nq = v at *
  replace c0 := HU.out.cell c0 (by simp)
  go_wp2_with fail
  go_loop [6, 7] (fun lo hi => ∃ a b : Nat, lo = .int .i64 a ∧ hi = .int .i64 b ∧ a ≤ b ∧ b ≤ l.length ∧ Hid (∀ j, j < a → ltIS (nth l j).1 k = true) ∧ Hid (∀ j, b ≤ j → j < l.length → ltIS (nth l j).1 k = false)) (fun lo hi => (intOf hi).toNat - (intOf lo).toNat)
  case atStart => exact ⟨0, l.length, rfl, rfl, Nat.zero_le _, Nat.le_refl _, fun j h => absurd h (by omega), fun j h1 h2 => absurd h1 (by omega)⟩
  case round =>
    obtain ⟨a, b, rfl, rfl, hab, hbl, hlo, hhi⟩ := hrel
    by_cases hlt : a < b
    · have hmid : (a + b) / 2 < l.length := by omega
      obtain ⟨bl, off, rfl, hc⟩ := HC.out (by intro h; simp [h] at hmid)
      have d0 : v.cell? ⟨bl, off + (a + b) / 2 * 2, none⟩ = some (iv (nth l ((a + b) / 2)).1) := HU.out.cell (hc _ hmid 0 (by omega)) (by simp)
      clear hc
      cases hcmp : ltIS (nth l ((a + b) / 2)).1 k with
      | true =>
        have HLO : Hid (∀ j, j < (a + b) / 2 + 1 → ltIS (nth l j).1 k = true) := fun j hj => HR.out.mono intOrd k j ((a + b) / 2) (by omega) hmid hcmp
        generalize (nth l ((a + b) / 2)).1 = m at *
        have hc1 : m < k := by simpa using hcmp
        clear hcmp
        go_wp2
        go_round
        case rel => exact ⟨(a + b) / 2 + 1, b, by go_num, rfl, by omega, hbl, HLO, hhi⟩
        case measure => simp [intOf]; omega
      | false =>
        have HHI : Hid (∀ j, (a + b) / 2 ≤ j → j < l.length → ltIS (nth l j).1 k = false) := fun j h1 h2 => by
          cases hq : ltIS (nth l j).1 k with
          | false => rfl
          | true => exact absurd ((HR.out.mono intOrd k _ j h1 h2 hq).symm.trans hcmp) (by simp)
        generalize (nth l ((a + b) / 2)).1 = m at *
        have hc1 : ¬ m < k := by simpa using hcmp
        clear hcmp
        go_wp2
        go_round
        case rel => exact ⟨a, (a + b) / 2, rfl, by go_num, by omega, by omega, hlo, HHI⟩
        case measure => simp [intOf]; omega
    · obtain rfl : a = b := by omega
      have hbel : below ltIS l k = a := below_eq l k a hbl hlo.out (fun h => hhi.out a (Nat.le_refl _) h)
      have HIN : Hid (isIn ltIS l k = decide (a < l.length ∧ (nth l a).1 = k)) := by unfold Hid isIn; rw [hbel]
      have HBEL := Lib.hid hbel
      clear hbel
      by_cases hal : a < l.length
      · obtain ⟨bl, off, rfl, hc⟩ := HC.out (by intro h; simp [h] at hal)
        have d0 : v.cell? ⟨bl, off + a * 2, none⟩ = some (iv (nth l a).1) := HU.out.cell (hc _ hal 0 (by omega)) (by simp)
        have HIN2 : Hid (isIn ltIS l k = decide ((nth l a).1 = k)) := by unfold Hid; rw [HIN.out]; simp [hal]
        clear hc
        generalize (nth l a).1 = m at *
        have q1 : (0 : Int) ≤ a := by omega
        have q2 : (a : Int) < l.length := by omega
        by_cases he : m = k
        · have t1 : (m == k) = true := by simpa using he
          have HF : Hid (isIn ltIS l k = true) := by unfold Hid; rw [HIN2.out]; simp [he]
          clear he
          go_wp2_with fail
          go_quiet (fail)
          go_wp2_with fail
          go_ret2
          exact ⟨by rw [HBEL.out, HF.out]; rfl, by first | exact HU.out.drewN _ | exact HU.out.drew⟩
        · have t1 : (m == k) = false := by simpa using he
          have HF : Hid (isIn ltIS l k = false) := by unfold Hid; rw [HIN2.out]; simp [he]
          clear he
          go_wp2_with fail
          go_quiet (fail)
          go_wp2_with fail
          go_ret2
          exact ⟨by rw [HBEL.out, HF.out]; rfl, by first | exact HU.out.drewN _ | exact HU.out.drew⟩
      · have HF : Hid (isIn ltIS l k = false) := by unfold Hid; rw [HIN.out]; simp [hal]
        have hd : decide (a < l.length) = false := by simpa using hal
        go_wp2_with fail
        go_quiet (fail)
        go_wp2_with fail
        go_ret2
        exact ⟨by rw [HBEL.out, HF.out]; rfl, by first | exact HU.out.drewN _ | exact HU.out.drew⟩
end
end Go.Proofs.YtmhojaiajhdlcaaGreat
namespace Go.Proofs.YtmhojaiajhdlcaaGreat
open Go.RowKit
set_option linter.unusedSimpArgs false
set_option linter.unusedVariables false
section
variable {P : Program}
theorem run_copyN (w : World) (dT sT ty elem : TypeId) (sz g o dLen dCap : Nat) (a : Addr) (sLen sCap : Nat) (cur : Array Value) (t : TypeId) (cs : List Value) (k : Nat)
    (hu : P.underlying dT = some (.slice elem)) (hs : (P.info? elem).map (·.size) = some sz)
    (hg : w.heap[g]? = some (.cells cur t (0, 0))) (hk : Nat.min sLen dLen = k) (hn : cs.length = k * sz)
    (hsrc : ∀ j v, cs[j]? = some v → w.cell? (a.add j) = some v) (hfit : o + cs.length ≤ cur.size) (h1 : ∀ v ∈ cs, v.oneCell' = true) :
    (Builtin.copy_ #[dT, sT] ty #[.slice (some ⟨g, o, none⟩) dLen dCap, .slice (some a) sLen sCap]).run P w =
      .ok (goInt k) (w.setRow g (cur.toList.take o ++ cs ++ cur.toList.drop (o + cs.length)).toArray) := by
  have hl := run_loadCells_list (P := P) w a cs hsrc
  have hst := run_storeCells_at P g o t cs 0 cur w hg (by simpa using hfit) h1
  cases hq : P.info? elem with
  | none => simp [hq] at hs
  | some i =>
    have hi : i.size = sz := by simpa [hq] using hs
    simp [Builtin.copy_, run_underlying hu, Builtin.lenOf, Builtin.firstCells, sizeOf, typeInfo, hq, hi, hk, ← hn, hl, hst]
end
section
variable {P : Program} {ops : Array Oper} {rest : List Oper} {o : Oper} {a : Act} {w w' : World} {Q : Exit → Act → World → Prop} {K : Act → World → Prop} {E : Prop}
theorem wp_copy_of (d s : Operand) {t t' : TypeId} (ho : o.op = .call { callee := .builtin .copy, args := #[d, s], argTypes := #[t, t'] }) (v u : Value) (hd : a.eval d = v) (hs : a.eval s = u)
    {R : Value → World → Prop} (hr : ∃ v' w', (Builtin.copy_ #[t, t'] o.type #[v, u]).run P w = .ok v' w' ∧ R v' w') (h : ∀ v' w', R v' w' → K (a.put o.dst v') w') : o.wp P a w K Q := by
  obtain ⟨v', w', hr, hR⟩ := hr
  unfold Oper.wp execOp
  simp only [ho, resolve, invoke, builtin, Sem.run_bind, Sem.run_pure, Result.andThen_ok, List.map_toArray, List.map_cons, List.map_nil, hd, hs, hr]
  exact h v' w' hR
theorem wpList_copy_of (hgd : o.guard = none) (d s : Operand) {t t' : TypeId} (ho : o.op = .call { callee := .builtin .copy, args := #[d, s], argTypes := #[t, t'] }) (v u : Value) (hd : a.eval d = v) (hs : a.eval s = u)
    {R : Value → World → Prop} (hr : ∃ v' w', (Builtin.copy_ #[t, t'] o.type #[v, u]).run P w = .ok v' w' ∧ R v' w') (h : ∀ v' w', R v' w' → wpList P ops Q rest (a.put o.dst v') w') : wpList P ops Q (o :: rest) a w :=
  wpList_plain hgd fun K hK => wp_copy_of d s ho v u hd hs hr fun v' w' hR => hK _ _ (h v' w' hR)
theorem step_copy_of (hgd : o.guard = none) (d s : Operand) {t t' : TypeId} (ho : o.op = .call { callee := .builtin .copy, args := #[d, s], argTypes := #[t, t'] }) (v u : Value) (hd : a.eval d = v) (hs : a.eval s = u)
    {R : Value → World → Prop} (hr : ∃ v' w', (Builtin.copy_ #[t, t'] o.type #[v, u]).run P w = .ok v' w' ∧ R v' w') (h : ∀ v' w', R v' w' → K (a.put o.dst v') w') :
    if Region.wanted o (yielded ops a.tmps) = true then Oper.wp P o a w K Q else E := by
  have hw : Region.wanted o (yielded ops a.tmps) = true := by simp [Region.wanted, hgd]
  rw [if_pos hw]
  exact wp_copy_of d s ho v u hd hs hr h
end
end Go.Proofs.YtmhojaiajhdlcaaGreat
namespace Go.Proofs.YtmhojaiajhdlcaaGreat
open Go.RowKit
set_option linter.unusedSimpArgs false
set_option linter.unusedVariables false
def lay_ (cur : Array Value) (o : Nat) (cs : List Value) : Array Value := (cur.toList.take o ++ cs ++ cur.toList.drop (o + cs.length)).toArray
theorem lay_get (cur : Array Value) (o : Nat) (cs : List Value) (hfit : o + cs.length ≤ cur.size) (i : Nat) : (lay_ cur o cs)[i]? = if i < o then cur[i]? else if i < o + cs.length then cs[i - o]? else cur[i]? := by
  unfold lay_
  rw [List.getElem?_toArray, List.append_assoc, List.getElem?_append, List.length_take, Array.length_toList, Nat.min_eq_left (by omega)]
  by_cases h1 : i < o
  · rw [if_pos h1, if_pos h1, List.getElem?_take, if_pos h1, Array.getElem?_toList]
  · rw [if_neg h1, if_neg h1, List.getElem?_append]
    by_cases h2 : i < o + cs.length
    · rw [if_pos (by omega), if_pos h2]
    · rw [if_neg (by omega), if_neg h2, List.getElem?_drop, Array.getElem?_toList]
      congr 1; omega
theorem lay_sz (cur : Array Value) (o : Nat) (cs : List Value) (hfit : o + cs.length ≤ cur.size) : (lay_ cur o cs).size = cur.size := by
  unfold lay_
  simp only [List.size_toArray, List.length_append, List.length_take, List.length_drop, Array.length_toList]
  omega
def Piece (cur : Array Value) (o : Nat) (cs : List Value) : Prop := ∀ j u, cs[j]? = some u → cur[o + j]? = some u
theorem Piece.lay (cur : Array Value) (o : Nat) (cs : List Value) (hfit : o + cs.length ≤ cur.size) : Piece (lay_ cur o cs) o cs := fun j u h => by
  have hj := (List.getElem?_eq_some_iff.1 h).1
  rw [lay_get cur o cs hfit, if_neg (by omega), if_pos (by omega), Nat.add_sub_cancel_left]; exact h
theorem Piece.stay {cur : Array Value} {p : Nat} {ds : List Value} (h : Piece cur p ds) (o : Nat) (cs : List Value) (hfit : o + cs.length ≤ cur.size) (hd : p + ds.length ≤ o ∨ o + cs.length ≤ p) : Piece (lay_ cur o cs) p ds := fun j u hu => by
  have hj := (List.getElem?_eq_some_iff.1 hu).1
  rw [lay_get cur o cs hfit]
  by_cases h1 : p + j < o
  · rw [if_pos h1]; exact h j u hu
  · rw [if_neg h1, if_neg (by omega)]; exact h j u hu
theorem Piece.app {cur : Array Value} {o : Nat} {a b : List Value} (h : Piece cur o a) (k : Piece cur (o + a.length) b) : Piece cur o (a ++ b) := fun j u hu => by
  rw [List.getElem?_append] at hu
  split at hu
  · exact h j u hu
  · rename_i hj
    have := k _ u hu
    rwa [show o + a.length + (j - a.length) = o + j by omega] at this
theorem Piece.left {cur : Array Value} {o : Nat} {a b : List Value} (h : Piece cur o (a ++ b)) : Piece cur o a := fun j u hu => by
  refine h j u ?_
  rw [List.getElem?_append_left (List.getElem?_eq_some_iff.1 hu).1]; exact hu
theorem Piece.right {cur : Array Value} {o : Nat} {a b : List Value} (h : Piece cur o (a ++ b)) : Piece cur (o + a.length) b := fun j u hu => by
  have := h (a.length + j) u (by rw [List.getElem?_append_right (by omega), Nat.add_sub_cancel_left]; exact hu)
  rwa [← Nat.add_assoc] at this
theorem Piece.of_take {cur : Array Value} {cs : List Value} {n : Nat} (h : cur.toList.take n = cs) : Piece cur 0 cs := fun j u hu => by
  rw [← h, List.getElem?_take] at hu
  split at hu
  · rw [Nat.zero_add, ← Array.getElem?_toList]; exact hu
  · simp at hu
theorem Piece.take {cur : Array Value} {cs : List Value} {n : Nat} (h : Piece cur 0 cs) (hn : n = cs.length) : cur.toList.take n = cs := by
  subst hn
  apply List.ext_getElem?
  intro j
  rw [List.getElem?_take]
  by_cases hj : j < cs.length
  · rw [if_pos hj, Array.getElem?_toList]
    have := h j cs[j] (List.getElem?_eq_getElem hj)
    rw [Nat.zero_add] at this
    rw [this, List.getElem?_eq_getElem hj]
  · rw [if_neg hj, List.getElem?_eq_none (by omega)]
theorem Piece.cell {w : World} {g : Nat} {cur : Array Value} {e : TypeId} {f : Nat × Nat} {o : Nat} {cs : List Value} (h : Piece cur o cs) (hg : w.heap[g]? = some (.cells cur e f)) : ∀ j u, cs[j]? = some u → w.cell? ⟨g, o + j, none⟩ = some u := fun j u hu => by
  rw [cell_of_row w g (o + j) cur e f hg]; exact h j u hu
theorem flat_split {α : Type} (c : α → List Value) (l : List α) (i : Nat) : l.flatMap c = (l.take i).flatMap c ++ (l.drop i).flatMap c := by
  rw [← List.flatMap_append, List.take_append_drop]
theorem OwnN.open_ {α : Type} {sz : Nat} {c : α → List Value} {base : Nat} {e : TypeId} {w : World} {g n cap : Nat} {l : List α} (hsz : ∀ x, (c x).length = sz) (h : OwnN sz c base e w (.slice (some ⟨g, 0, none⟩) n cap) l) :
    n = l.length ∧ base ≤ g ∧ l.length ≤ cap ∧ cap ≤ maxLen ∧ ∃ cur : Array Value, w.heap[g]? = some (.cells cur e (0, 0)) ∧ cur.size = cap * sz ∧ Piece cur 0 (l.flatMap c) := by
  obtain ⟨h1, h2⟩ := h
  rcases h2 with ⟨he, _⟩ | ⟨g', cap', cur, he, hb, hg, hc, hm, hs, ht⟩
  · simp at he
  · injection he with e1 e2 e3
    injection e1 with e1; injection e1 with e1
    subst e1; subst e2; subst e3
    exact ⟨rfl, hb, hc, hm, cur, hg, hs, Piece.of_take ht⟩
theorem OwnN.of_piece {α : Type} {sz : Nat} {c : α → List Value} {base : Nat} {e : TypeId} {w : World} {g n cap : Nat} {l : List α} (hsz : ∀ x, (c x).length = sz) (cur : Array Value) (hn : n = l.length) (hb : base ≤ g) (hc : l.length ≤ cap) (hm : cap ≤ maxLen)
    (hg : w.heap[g]? = some (.cells cur e (0, 0))) (hs : cur.size = cap * sz) (hp : Piece cur 0 (l.flatMap c)) : OwnN sz c base e w (.slice (some ⟨g, 0, none⟩) n cap) l := by
  subst hn
  exact ⟨flatMap_len hsz l, .inr ⟨g, cap, cur, rfl, hb, hg, hc, hm, hs, hp.take (flatMap_len hsz l).symm⟩⟩
theorem OwnN.slice_ {α : Type} {sz : Nat} {c : α → List Value} {base : Nat} {e : TypeId} {w : World} {v : Value} {l : List α} (h : OwnN sz c base e w v l) : ∃ ao n co, v = .slice ao n co := by
  rcases h.2 with ⟨rfl, _⟩ | ⟨_, _, _, rfl, _⟩
  · exact ⟨_, _, _, rfl⟩
  · exact ⟨_, _, _, rfl⟩
theorem Upd.setRow {S : List Nat} {a b : World} (h : Upd S a b) (g : Nat) (cs : Array Value) (hg : g ∈ S ∨ a.heap.size ≤ g) : Upd S a (b.setRow g cs) :=
  ⟨h.os, h.tape, h.output, by have := h.size; simp; omega, fun k hk hn => by
    rw [setRow_other b g k cs (fun e => by subst e; rcases hg with q | q; exact hn q; omega)]; exact h.block k hk hn⟩
section
variable {P : Program}
theorem run_copy_lay {dT sT ty elem t : TypeId} {sz g o dLen dCap : Nat} {a : Addr} {sLen sCap : Nat} {cur : Array Value} {cs : List Value} {k : Nat}
    (hu : P.underlying dT = some (.slice elem)) (hs : (P.info? elem).map (·.size) = some sz) (w : World)
    (hg : w.heap[g]? = some (.cells cur t (0, 0))) (hk : Nat.min sLen dLen = k) (hn : cs.length = k * sz)
    (hsrc : ∀ j v, cs[j]? = some v → w.cell? (a.add j) = some v) (hfit : o + cs.length ≤ cur.size) (h1 : ∀ v ∈ cs, v.oneCell' = true) :
    (Builtin.copy_ #[dT, sT] ty #[.slice (some ⟨g, o, none⟩) dLen dCap, .slice (some a) sLen sCap]).run P w = .ok (goInt k) (w.setRow g (lay_ cur o cs)) :=
  run_copyN w dT sT ty elem sz g o dLen dCap a sLen sCap cur t cs k hu hs hg hk hn hsrc hfit h1
theorem run_app_lay {t ty e et : TypeId} {sz : Nat} (ht : P.underlying t = some (.slice e)) (hi : (P.info? e).map (·.size) = some sz) {g n cap m c : Nat} {a : Addr} {cur : Array Value} {news : List Value} (w : World)
    (hg : w.heap[g]? = some (.cells cur et (0, 0))) (hl : news.length = m * sz) (hnews : ∀ j u, news[j]? = some u → w.cell? (a.add j) = some u) (h1 : ∀ u ∈ news, u.oneCell' = true)
    (hroom : n + m ≤ cap) (hfit : n * sz + news.length ≤ cur.size) :
    (Builtin.append_ #[t, t] ty #[.slice (some ⟨g, 0, none⟩) n cap, .slice (some a) m c]).run P w = .ok (.slice (some ⟨g, 0, none⟩) (n + m) cap) (w.setRow g (lay_ cur (n * sz) news)) := by
  obtain ⟨i, hi1, rfl⟩ : ∃ i, P.info? e = some i ∧ i.size = sz := by
    cases hq : P.info? e with
    | none => simp [hq] at hi
    | some i => exact ⟨i, rfl, by simpa [hq] using hi⟩
  have hfc := run_firstCells_some (P := P) w i.size m a m c news hl hnews
  have hst := run_storeCells_at (P := P) g (n * i.size) et news 0 cur w hg (by simpa using hfit) h1
  simp only [Nat.add_zero] at hst
  simp [Builtin.append_, run_underlying ht, sizeOf, typeInfo, hi1, Builtin.lenOf, hroom, hfc, Addr.add_lit, hst, lay_]
theorem run_clear_lay {t ty e et : TypeId} {z : Value} {sz bytes : Nat} (ht : P.underlying t = some (.slice e)) (hi : (P.info? e).map (fun i => (i.zero, i.size, i.bytes)) = some (some z, sz, bytes)) (hz : z.cells.size = sz) (h1 : ∀ u ∈ z.cells, u.oneCell' = true)
    {g o n c : Nat} {cur : Array Value} (w : World) (hn : 0 < n) (hg : w.heap[g]? = some (.cells cur et (0, 0))) (hfit : o + n * sz ≤ cur.size) :
    (Builtin.clear_ #[t] ty #[.slice (some ⟨g, o, none⟩) n c]).run P w = .ok (.tuple #[]) (w.setRow g (lay_ cur o (Builtin.zeroCells z.cells n).toList)) := by
  obtain ⟨n, rfl⟩ : ∃ k, n = k + 1 := ⟨n - 1, by omega⟩
  obtain ⟨i, i1, i2, i3, i4⟩ := info_parts hi
  have hzl : (Builtin.zeroCells z.cells (n + 1)).toList.length = (n + 1) * sz := by rw [Array.length_toList, size_zeroCells, hz]
  have hst := run_storeCells_at (P := P) g o et _ 0 cur w hg (by rw [hzl]; simpa using hfit) (zeroCells_one h1 (n + 1))
  simp only [Nat.add_zero] at hst
  have hzv : (zeroValue e).run P w = .ok z w := by simp [zeroValue, typeInfo, i1, i2]
  simp only [Builtin.clear_]
  simp [run_underlying ht, hzv, hst, lay_]
end
section
variable {P : Program} {ops : Array Oper} {rest : List Oper} {o : Oper} {a : Act} {w w' : World} {Q : Exit → Act → World → Prop} {K : Act → World → Prop} {E : Prop}
theorem wpList_clear_of (hgd : o.guard = none) (s : Operand) {t : TypeId} (ho : o.op = .call { callee := .builtin .clear, args := #[s], argTypes := #[t] }) (v : Value) (hs : a.eval s = v)
    {R : Value → World → Prop} (hr : ∃ v' w', (Builtin.clear_ #[t] o.type #[v]).run P w = .ok v' w' ∧ R v' w') (h : ∀ v' w', R v' w' → wpList P ops Q rest (a.put o.dst v') w') : wpList P ops Q (o :: rest) a w := by
  obtain ⟨v', w', hr, hR⟩ := hr
  refine wpList_plain hgd fun K hK => ?_
  unfold Oper.wp execOp
  simp only [ho, resolve, invoke, builtin, Sem.run_bind, Sem.run_pure, Result.andThen_ok, List.map_toArray, List.map_cons, List.map_nil, hs, hr]
  exact hK _ _ (h v' w' hR)
end
section
variable {P : Program} {ops : Array Oper} {rest : List Oper} {o : Oper} {a : Act} {w w' : World} {Q : Exit → Act → World → Prop} {K : Act → World → Prop} {E : Prop}
theorem step_app_eq (hgd : o.guard = none) (s x : Operand) (t : TypeId) (ho : o.op = .call { callee := .builtin .append, args := #[s, x], argTypes := #[t, t] }) (v u : Value) (hs : a.eval s = v) (hx : a.eval x = u)
    {v' : Value} (hr : (Builtin.append_ #[t, t] o.type #[v, u]).run P w = .ok v' w') (h : K (a.put o.dst v') w') :
    if Region.wanted o (yielded ops a.tmps) = true then Oper.wp P o a w K Q else E :=
  step_app_of hgd s x ho v u hs hx (R := fun p q => p = v' ∧ q = w') ⟨_, _, hr, rfl, rfl⟩ (fun _ _ ⟨h1, h2⟩ => by rw [h1, h2]; exact h)
theorem step_copy_eq (hgd : o.guard = none) (d s : Operand) (t t' : TypeId) (ho : o.op = .call { callee := .builtin .copy, args := #[d, s], argTypes := #[t, t'] }) (v u : Value) (hd : a.eval d = v) (hs : a.eval s = u)
    {v' : Value} (hr : (Builtin.copy_ #[t, t'] o.type #[v, u]).run P w = .ok v' w') (h : K (a.put o.dst v') w') :
    if Region.wanted o (yielded ops a.tmps) = true then Oper.wp P o a w K Q else E :=
  step_copy_of hgd d s ho v u hd hs (R := fun p q => p = v' ∧ q = w') ⟨_, _, hr, rfl, rfl⟩ (fun _ _ ⟨h1, h2⟩ => by rw [h1, h2]; exact h)
theorem wpList_copy_eq (hgd : o.guard = none) (d s : Operand) (t t' : TypeId) (ho : o.op = .call { callee := .builtin .copy, args := #[d, s], argTypes := #[t, t'] }) (v u : Value) (hd : a.eval d = v) (hs : a.eval s = u)
    {v' : Value} (hr : (Builtin.copy_ #[t, t'] o.type #[v, u]).run P w = .ok v' w') (h : wpList P ops Q rest (a.put o.dst v') w') : wpList P ops Q (o :: rest) a w :=
  wpList_copy_of hgd d s ho v u hd hs (R := fun p q => p = v' ∧ q = w') ⟨_, _, hr, rfl, rfl⟩ (fun _ _ ⟨h1, h2⟩ => by rw [h1, h2]; exact h)
theorem wpList_clear_eq (hgd : o.guard = none) (s : Operand) (t : TypeId) (ho : o.op = .call { callee := .builtin .clear, args := #[s], argTypes := #[t] }) (v : Value) (hs : a.eval s = v)
    {v' : Value} (hr : (Builtin.clear_ #[t] o.type #[v]).run P w = .ok v' w') (h : wpList P ops Q rest (a.put o.dst v') w') : wpList P ops Q (o :: rest) a w :=
  wpList_clear_of hgd s ho v hs (R := fun p q => p = v' ∧ q = w') ⟨_, _, hr, rfl, rfl⟩ (fun _ _ ⟨h1, h2⟩ => by rw [h1, h2]; exact h)
theorem wpList_app_eq (hgd : o.guard = none) (s x : Operand) (t t' : TypeId) (ho : o.op = .call { callee := .builtin .append, args := #[s, x], argTypes := #[t, t'] }) (v u : Value) (hs : a.eval s = v) (hx : a.eval x = u)
    {v' : Value} (hr : (Builtin.append_ #[t, t'] o.type #[v, u]).run P w = .ok v' w') (h : wpList P ops Q rest (a.put o.dst v') w') : wpList P ops Q (o :: rest) a w := by
  refine wpList_plain hgd fun K hK => ?_
  unfold Oper.wp execOp
  simp only [ho, resolve, invoke, builtin, Sem.run_bind, Sem.run_pure, Result.andThen_ok, List.map_toArray, List.map_cons, List.map_nil, hs, hx, hr]
  exact hK _ _ h
end
theorem mem_flat_one {α : Type} {c : α → List Value} (hone : ∀ x, ∀ u ∈ c x, u.oneCell' = true) (l : List α) : ∀ u ∈ l.flatMap c, u.oneCell' = true := fun u hu => by
  obtain ⟨x, _, hx⟩ := List.mem_flatMap.1 hu; exact hone x u hx
end Go.Proofs.YtmhojaiajhdlcaaGreat
namespace Go.Proofs.YtmhojaiajhdlcaaGreat
open Go.RowKit
set_option linter.unusedSimpArgs false
set_option linter.unusedVariables false
theorem rcIS_one : ∀ p, ∀ u ∈ rcIS p, u.oneCell' = true := by intro p u hu; simp [rcIS] at hu; rcases hu with rfl | rfl <;> rfl
theorem undIS : Tryz.prog.underlying 188 = some (.slice 196) := by kernel_rfl
section
variable {base : Nat} {g : Nat} {lv : Value} {l : List (Int × ByteArray)} {w w' : World}
set_option maxRecDepth 20000 in
set_option maxHeartbeats 1000000 in
theorem slDelIS (w : World) (v : Value) (i : Nat) (hs : OwnN 2 rcIS base 196 w v l) (hi : i < l.length) (hlen : l.length ≤ 100000) :
    Calls Tryz.prog 134 #[v, .int .i64 (i : Int), .int .i64 ((i : Int) + 1)] w fun e w' => ∃ v', e = .returned v' ∧ OwnN 2 rcIS base 196 w' v' (l.take i ++ l.drop (i + 1)) ∧ Upd (blk v) w w' ∧ blk v' = blk v := by
  rcases hs.2 with ⟨-, h0⟩ | ⟨g, cap, cur0, rfl, -⟩
  · omega
  obtain ⟨-, hb, hc, hm, cur, hg, hsz, hp⟩ := hs.open_ rcIS_len
  obtain ⟨m, hlm⟩ : ∃ m, l.length = i + 1 + m := ⟨l.length - (i + 1), by omega⟩
  have hcl : ((l.drop (i + 1)).flatMap rcIS).length = m * 2 := by rw [flatMap_len rcIS_len, List.length_drop, hlm]; congr 1; omega
  have htl : ((l.take i).flatMap rcIS).length = i * 2 := by rw [flatMap_len rcIS_len, List.length_take]; congr 1; omega
  have htl' : ((l.take (i + 1)).flatMap rcIS).length = (i + 1) * 2 := by rw [flatMap_len rcIS_len, List.length_take]; congr 1; omega
  have hp1 : Piece cur 0 ((l.take i).flatMap rcIS) := by rw [flat_split rcIS l i] at hp; exact hp.left
  have hp2 : Piece cur ((i + 1) * 2) ((l.drop (i + 1)).flatMap rcIS) := by rw [flat_split rcIS l (i + 1)] at hp; have := hp.right; rwa [htl', Nat.zero_add] at this
  generalize hcs : (l.drop (i + 1)).flatMap rcIS = cs at *
  have hcap : (i + 1 + m) * 2 ≤ cur.size := by rw [hsz]; exact Nat.mul_le_mul_right 2 (by omega)
  have hfit : i * 2 + cs.length ≤ cur.size := by rw [hcl]; omega
  obtain ⟨A, hA, hsrc⟩ : ∃ A : Addr, (if cap = i + 1 then some (⟨g, 0, none⟩ : Addr) else some ⟨g, (i + 1) * 2, none⟩) = some A ∧ ∀ j u, cs[j]? = some u → w.cell? (A.add j) = some u := by
    by_cases h : cap = i + 1
    · refine ⟨⟨g, 0, none⟩, by simp [h], fun j u hu => ?_⟩
      have h0 : cs.length = 0 := by rw [hcl]; omega
      rw [List.length_eq_zero_iff.1 h0] at hu
      simp at hu
    · refine ⟨⟨g, (i + 1) * 2, none⟩, by simp [h], fun j u hu => ?_⟩
      rw [add_none]; exact hp2.cell hg j u hu
  have h1c : ∀ u ∈ cs, u.oneCell' = true := by rw [← hcs]; exact mem_flat_one rcIS_one _
  have HA := Lib.hid (fun ty c => run_app_lay (P := Tryz.prog) (ty := ty) (n := i) (m := m) (cap := cap) (c := c) (sz := 2) undIS (by kernel_rfl) w.drew hg hcl hsrc h1c (by omega) hfit)
  have hz := lay_sz cur (i * 2) cs hfit
  have k1 := hp1.stay (i * 2) cs hfit (.inl (by omega))
  have k2 := Piece.lay cur (i * 2) cs hfit
  generalize lay_ cur (i * 2) cs = cur1 at *
  have hg1 : (w.drew.setRow g cur1).heap[g]? = some (.cells cur1 196 (0, 0)) := setRow_heap w.drew g cur cur1 _ _ hg
  have hfit1 : (i + m) * 2 + 1 * 2 ≤ cur1.size := by rw [hz]; omega
  have q7 : i + 1 + m - (i + m) = 1 := by omega
  have hB := (fun ty c => run_clear_lay (P := Tryz.prog) (ty := ty) (c := c) (n := 1) undIS infoRowIS rfl (by intro u hu; simp [Value.cells] at hu; rcases hu with rfl | rfl <;> rfl) (w.drew.setRow g cur1) (by omega) hg1 hfit1)
  have HB : Hid (∀ ty c, (Builtin.clear_ #[188] ty #[.slice (some ⟨g, (i + m) * 2, none⟩) (i + 1 + m - (i + m)) c]).run Tryz.prog (w.drew.setRow g cur1) = .ok (.tuple #[]) ((w.drew.setRow g cur1).setRow g (lay_ cur1 ((i + m) * 2) (Builtin.zeroCells (Value.agg #[.int .i64 0, .string ⟨#[]⟩]).cells 1).toList))) := fun ty c => by rw [q7]; exact hB ty c
  clear hB
  have HK := Lib.hid (show OwnN 2 rcIS base 196 ((w.drew.setRow g cur1).setRow g (lay_ cur1 ((i + m) * 2) (Builtin.zeroCells (Value.agg #[.int .i64 0, .string ⟨#[]⟩]).cells 1).toList)) (.slice (some ⟨g, 0, none⟩) (i + m) cap) (l.take i ++ l.drop (i + 1)) from by
    have hzl : (Builtin.zeroCells (Value.agg #[.int .i64 0, .string ⟨#[]⟩]).cells 1).toList.length = 2 := by rw [Array.length_toList, size_zeroCells]; rfl
    have hf2 : (i + m) * 2 + (Builtin.zeroCells (Value.agg #[.int .i64 0, .string ⟨#[]⟩]).cells 1).toList.length ≤ cur1.size := by rw [hzl]; omega
    refine OwnN.of_piece rcIS_len _ (by simp; omega) hb (by simp; omega) hm (setRow_heap _ g cur1 _ _ _ hg1) (by rw [lay_sz _ _ _ hf2, hz, hsz]) ?_
    rw [List.flatMap_append, hcs]
    refine (k1.stay _ _ hf2 (.inl (by omega))).app ?_
    rw [htl, Nat.zero_add (i * 2)]
    exact k2.stay _ _ hf2 (.inl (by omega)))
  clear hs hp hp1 hp2 hsz hg hcl htl htl' hsrc h1c hfit hz k1 k2 hg1 hfit1 hcs hcap
  rw [hlm] at hlen hc ⊢
  have hwr : IntKind.i64.wrap ((i : Int) + 1) = (i : Int) + 1 := by rw [IntKind.wrap_i64]; omega
  have q1 : (0 : Int) ≤ (i : Int) + 1 := by omega
  have q2 : (i : Int) + 1 ≤ (i : Int) + 1 + (m : Int) := by omega
  have q3 : ((i : Int) + 1).toNat = i + 1 := by omega
  have q4 : i + 1 + m - (i + 1) = m := by omega
  have q5 : i ≤ cap := by omega
  have q6 : ¬ (cap = i + m) := by omega
  have q8 : i + m ≤ i + 1 + m := by omega
  have q9 : (i : Int) + (m : Int) ≤ (i : Int) + 1 + (m : Int) := by omega
  go_enter Tryz.func134, Tryz.ntmps134
  go_wp2_with fail
  go_region_law (refine step_app_eq rfl (.tmp 22) (.tmp 25) 188 rfl (.slice (some ⟨g, 0, none⟩) i cap) (.slice (some A) m (cap - (i + 1))) (by simp [Act.eval, Act.put]) (by simp [Act.eval, Act.put]) (HA.out _ _) ?_)
  go_wp2_with (with_reducible refine wpList_clear_eq rfl (.tmp 31) 188 rfl (.slice (some ⟨g, (i + m) * 2, none⟩) (i + 1 + m - (i + m)) (cap - (i + m))) rfl (HB.out _ _) ?_)
  go_ret
  exact ⟨_, rfl, HK.out, ((Upd.refl [g] w).drew.setRow g _ (.inl (by simp))).setRow g _ (.inl (by simp)), rfl⟩
set_option maxRecDepth 20000 in
set_option maxHeartbeats 400000 in
theorem tDelIS_no (w : World) (k : Int) (hs : TBIS base w g lv l) (hr : Rising ltIS l) (hlen : l.length ≤ 100000) (hk : I64 k) (hn : isIn ltIS l k = false) :
    Calls Tryz.prog 117 #[.pointer (some ⟨g, 0, none⟩), iv k] w fun e w' => e = .returned (.bool false) ∧ Upd [] w w' := by
  have hc := tFindIS_any w k hs hr hlen hk
  rw [hn] at hc
  have HC := Lib.hid hc
  clear hs hr hlen hk hc hn
  go_enter Tryz.func117, Tryz.ntmps117
  go_wp2_with fail
  with_reducible refine HC.out.mono ?_
  rintro e w1 ⟨rfl, hu1⟩
  go_wp2_with fail
  go_ret
  exact ⟨rfl, hu1⟩
set_option maxRecDepth 20000 in
set_option maxHeartbeats 400000 in
theorem tDelIS_yes (w : World) (k : Int) (hs : TBIS base w g lv l) (hr : Rising ltIS l) (hlen : l.length ≤ 100000) (hk : I64 k) (hn : isIn ltIS l k = true) :
    Calls Tryz.prog 117 #[.pointer (some ⟨g, 0, none⟩), iv k] w fun e w' => e = .returned (.bool true) ∧ ∃ lv', TBIS base w' g lv' (l.take (below ltIS l k) ++ l.drop (below ltIS l k + 1)) ∧ Upd (g :: blk lv) w w' ∧ blk lv' = blk lv := by
  have hc := tFindIS_any w k hs hr hlen hk
  rw [hn] at hc
  have HC := Lib.hid hc
  have HS := Lib.hid hs
  unfold isIn at hn
  have hlt := (of_decide_eq_true hn).1
  have HD := Lib.hid (fun w1 (h : Upd [] w w1) => slDelIS w1 lv (below ltIS l k) (hs.rows.upd h (by simp)) hlt hlen)
  have D0 := Lib.hid (show w.cell? ⟨g, 0, none⟩ = some lv from hs.tab.cell 0)
  obtain ⟨ao, n, co, rfl⟩ := hs.rows.slice_
  clear hs hr hk hc hn
  generalize below ltIS l k = i at *
  have hwr : IntKind.i64.wrap ((i : Int) + 1) = (i : Int) + 1 := by rw [IntKind.wrap_i64]; omega
  go_enter Tryz.func117, Tryz.ntmps117
  go_wp2_with fail
  with_reducible refine HC.out.mono ?_
  rintro e w1 ⟨rfl, hu1⟩
  have d0 := hu1.cell D0.out (by simp)
  have HU1 := Lib.hid hu1
  go_wp2_with fail
  with_reducible refine (HD.out w1 HU1.out).mono ?_
  rintro e w2 ⟨v2, rfl, ho2, hu2, hb2⟩
  have hgl := HS.out.g_lv
  have f0 : w2.frozen? ⟨g, 0, none⟩ = false := ((HS.out.tab.upd HU1.out (by simp)).upd hu2 hgl).frozen 0
  have d2 : w2.cell? ⟨g, 0, none⟩ = some (.slice ao n co) := hu2.cell d0 hgl
  obtain ⟨ao2, n2, co2, rfl⟩ := ho2.slice_
  have HT := Lib.hid (show TBIS base (w2.setCell ⟨g, 0, none⟩ (.slice ao2 n2 co2)) g (.slice ao2 n2 co2) (l.take i ++ l.drop (i + 1)) from
    ⟨by simpa using ((HS.out.tab.upd HU1.out (by simp)).upd hu2 hgl).set_ 0 (.slice ao2 n2 co2), ho2.upd ((Upd.refl [g] _).setCell _ _ (.inl (by simp))) (by rw [hb2]; intro x hx; simp; rintro rfl; exact hgl hx), HS.out.gb⟩)
  have HU2 := Lib.hid (show Upd (g :: blk (.slice ao n co)) w (w2.setCell ⟨g, 0, none⟩ (.slice ao2 n2 co2)) from (HU1.out.trans (T := g :: blk (.slice ao n co)) hu2 (by simp) (fun x hx => .inl (by simp [hx]))).setCell _ _ (.inl (by simp)))
  clear ho2 hu1 hu2 hgl
  go_wp2_with fail
  go_ret
  exact ⟨rfl, _, HT.out, HU2.out, hb2⟩
end
section
variable {base : Nat} {g : Nat} {lv : Value} {l : List (Int × ByteArray)} {w w' : World}
theorem tDelIS_any (w : World) (k : Int) (hs : TBIS base w g lv l) (hr : Rising ltIS l) (hlen : l.length ≤ 100000) (hk : I64 k) :
    Calls Tryz.prog 117 #[.pointer (some ⟨g, 0, none⟩), iv k] w fun e w' => e = .returned (.bool (isIn ltIS l k)) ∧ ∃ lv', TBIS base w' g lv' (tDel ltIS l k) ∧ Upd (g :: blk lv) w w' ∧ (∀ x ∈ blk lv', x ∈ blk lv ∨ w.heap.size ≤ x) := by
  cases hn : isIn ltIS l k with
  | false =>
    refine (tDelIS_no w k hs hr hlen hk hn).mono ?_
    rintro e w' ⟨rfl, hu⟩
    exact ⟨rfl, lv, by unfold tDel; rw [hn]; exact hs.upd0 hu, hu.mono (by simp), fun x hx => .inl hx⟩
  | true =>
    refine (tDelIS_yes w k hs hr hlen hk hn).mono ?_
    rintro e w' ⟨rfl, v', ht, hu, hb⟩
    exact ⟨rfl, v', by unfold tDel; rw [hn]; exact ht, hu, fun x hx => .inl (by rw [← hb]; exact hx)⟩
end
end Go.Proofs.YtmhojaiajhdlcaaGreat
namespace Go.Proofs.YtmhojaiajhdlcaaGreat
open Go.RowKit
set_option linter.unusedSimpArgs false
set_option linter.unusedVariables false
section
variable {base : Nat} {g : Nat} {lv : Value} {l : List (Int × ByteArray)} {w w' : World}
set_option maxRecDepth 20000 in
set_option maxHeartbeats 400000 in
theorem tGetIS_no (w : World) (k : Int) (hs : TBIS base w g lv l) (hr : Rising ltIS l) (hlen : l.length ≤ 100000) (hk : I64 k) (hn : isIn ltIS l k = false) :
    Calls Tryz.prog 113 #[.pointer (some ⟨g, 0, none⟩), iv k] w fun e w' => e = .returned (.tuple #[.string ⟨#[]⟩, .bool false]) ∧ Upd [] w w' := by
  have hc := tFindIS_any w k hs hr hlen hk
  rw [hn] at hc
  have HC := Lib.hid hc
  clear hs hr hlen hk hc hn
  go_enter Tryz.func113, Tryz.ntmps113
  go_wp2_with fail
  refine HC.out.mono ?_
  rintro e w1 ⟨rfl, hu1⟩
  go_wp2_with fail
  go_ret2
  exact ⟨rfl, hu1⟩
set_option maxRecDepth 20000 in
set_option maxHeartbeats 400000 in
theorem tGetIS_ok (w : World) (k : Int) (hs : TBIS base w g lv l) (hr : Rising ltIS l) (hlen : l.length ≤ 100000) (hk : I64 k) (hn : isIn ltIS l k = true) :
    Calls Tryz.prog 113 #[.pointer (some ⟨g, 0, none⟩), iv k] w fun e w' => e = .returned (.tuple #[sv (nth l (below ltIS l k)).2, .bool true]) ∧ Upd [] w w' := by
  have hc := tFindIS_any w k hs hr hlen hk
  rw [hn] at hc
  have HC := Lib.hid hc
  unfold isIn at hn
  have hlt := (of_decide_eq_true hn).1
  obtain ⟨ao, co, rfl, hlc, hcm, hcell⟩ := hs.rows.rd rcIS_len
  obtain ⟨b, off, rfl, hc'⟩ := hcell (by intro h; simp [h] at hlt)
  have D0 := Lib.hid (show w.cell? ⟨g, 0, none⟩ = some (.slice (some ⟨b, off, none⟩) l.length co) from hs.tab.cell 0)
  have D1 := Lib.hid (show w.cell? ⟨b, off + below ltIS l k * 2 + 1, none⟩ = some (sv (nth l (below ltIS l k)).2) from hc' _ hlt 1 (by omega))
  clear hs hr hk hc hn hcell hc' hcm
  generalize (nth l (below ltIS l k)).2 = x at *
  generalize below ltIS l k = i at *
  have q1 : (0 : Int) ≤ i := by omega
  have q2 : (i : Int) < l.length := by omega
  go_enter Tryz.func113, Tryz.ntmps113
  go_wp2_with fail
  refine HC.out.mono ?_
  rintro e w1 ⟨rfl, hu1⟩
  have d0 := hu1.cell D0.out (by simp)
  have d1 := hu1.cell D1.out (by simp)
  go_wp2_with fail
  go_ret2
  exact ⟨rfl, hu1⟩
set_option maxRecDepth 20000 in
set_option maxHeartbeats 400000 in
theorem tAtIS_ok (w : World) (i : Nat) (hs : TBIS base w g lv l) (hlen : l.length ≤ 100000) (hi : i < l.length) :
    Calls Tryz.prog 123 #[.pointer (some ⟨g, 0, none⟩), .int .i64 (i : Int)] w fun e w' => e = .returned (.tuple #[iv (nth l i).1, sv (nth l i).2, .bool true]) ∧ Upd [] w w' := by
  obtain ⟨ao, co, rfl, hlc, hcm, hcell⟩ := hs.rows.rd rcIS_len
  obtain ⟨b, off, rfl, hc'⟩ := hcell (by intro h; simp [h] at hi)
  have d0 : w.cell? ⟨g, 0, none⟩ = some (.slice (some ⟨b, off, none⟩) l.length co) := hs.tab.cell 0
  have d1 : w.cell? ⟨b, off + i * 2, none⟩ = some (iv (nth l i).1) := hc' _ hi 0 (by omega)
  have d2 : w.cell? ⟨b, off + i * 2 + 1, none⟩ = some (sv (nth l i).2) := hc' _ hi 1 (by omega)
  clear hs hcell hc' hcm
  generalize (nth l i).1 = x at *
  generalize (nth l i).2 = y at *
  have q1 : (0 : Int) ≤ i := by omega
  have q2 : (i : Int) < l.length := by omega
  go_enter Tryz.func123, Tryz.ntmps123
  go_wp2_with fail
  go_quiet (fail)
  go_wp2_with fail
  go_ret3
  exact ⟨rfl, by first | exact (Upd.refl [] _).drewN _ | exact (Upd.refl [] _).drew⟩
end
end Go.Proofs.YtmhojaiajhdlcaaGreat
namespace Go.Proofs.YtmhojaiajhdlcaaGreat
open Go.RowKit
set_option linter.unusedSimpArgs false
set_option linter.unusedVariables false
theorem flatMap_set {α : Type} {sz : Nat} {c : α → List Value} (hsz : ∀ x, (c x).length = sz) (i : Nat) (hi : i < sz) (u : Value) (y : α) : ∀ (l : List α) (k : Nat) (hk : k < l.length), c y = (c l[k]).set i u → (l.set k y).flatMap c = (l.flatMap c).set (k * sz + i) u
  | x :: l, 0, _, h => by
    simp only [List.set_cons_zero, List.flatMap_cons, Nat.zero_mul, Nat.zero_add]
    rw [List.set_append_left _ _ (by rw [hsz]; exact hi)]
    simp only [List.getElem_cons_zero] at h
    rw [h]
  | x :: l, k + 1, hk, h => by
    simp only [List.set_cons_succ, List.flatMap_cons]
    have e : (k + 1) * sz + i = (c x).length + (k * sz + i) := by rw [hsz, Nat.add_mul]; omega
    rw [e, List.set_append_right _ _ (by omega), Nat.add_sub_cancel_left]
    rw [flatMap_set hsz i hi u y l k (by simpa using hk) (by simpa using h)]
theorem OwnN.set_ {α : Type} {sz : Nat} {c : α → List Value} {base : Nat} {e : TypeId} {w : World} {g n cap : Nat} {l : List α} (hsz : ∀ x, (c x).length = sz) (h : OwnN sz c base e w (.slice (some ⟨g, 0, none⟩) n cap) l) (k i : Nat) (hk : k < l.length) (hi : i < sz) (u : Value) (y : α) (hy : c y = (c l[k]).set i u) :
    OwnN sz c base e (w.setCell ⟨g, k * sz + i, none⟩ u) (.slice (some ⟨g, 0, none⟩) n cap) (l.set k y) := by
  obtain ⟨h1, h2⟩ := h
  rcases h2 with ⟨he, _⟩ | ⟨g', cap', cur, he, hb, hg, hc, hm, hs, ht⟩
  · simp at he
  · injection he with e1 e2 e3
    injection e1 with e1; injection e1 with e1
    subst e1; subst e2; subst e3
    refine ⟨by rw [flatMap_len hsz], .inr ⟨g, cap, cur.setIfInBounds (k * sz + i) u, by simp, hb, ?_, by simpa using hc, hm, by simpa using hs, ?_⟩⟩
    · exact heap_setCell_same w g (k * sz + i) cur e u hg
    · rw [List.length_set, Array.toList_setIfInBounds, List.take_set, ht, flatMap_set hsz i hi u y l k hk hy]
end Go.Proofs.YtmhojaiajhdlcaaGreat
namespace Go.Proofs.YtmhojaiajhdlcaaGreat
open Go.RowKit
set_option linter.unusedSimpArgs false
set_option linter.unusedVariables false
section
variable {base : Nat} {g : Nat} {lv : Value} {l : List (Int × ByteArray)} {w w' : World}
set_option maxRecDepth 20000 in
set_option maxHeartbeats 400000 in
theorem tSetIS_old (w : World) (k : Int) (v : ByteArray) (hs : TBIS base w g lv l) (hr : Rising ltIS l) (hlen : l.length ≤ 100000) (hk : I64 k) (hn : isIn ltIS l k = true) :
    Calls Tryz.prog 118 #[.pointer (some ⟨g, 0, none⟩), iv k, sv v] w fun e w' => e = .returned (.bool false) ∧ TBIS base w' g lv (l.set (below ltIS l k) ((nth l (below ltIS l k)).1, v)) ∧ Upd (blk lv) w w' := by
  have hc := tFindIS_any w k hs hr hlen hk
  rw [hn] at hc
  have HC := Lib.hid hc
  have HS := Lib.hid hs
  unfold isIn at hn
  have hlt := (of_decide_eq_true hn).1
  have hgl := hs.g_lv
  rcases hs.rows.2 with ⟨-, h0⟩ | ⟨b, co, cur, rfl, hb, hg, -⟩
  · omega
  have D0 := Lib.hid (show w.cell? ⟨g, 0, none⟩ = some (.slice (some ⟨b, 0, none⟩) l.length co) from hs.tab.cell 0)
  have HL := Lib.hid hlt
  have D1 := Lib.hid (show ∃ u, w.cell? ⟨b, below ltIS l k * 2 + 1, none⟩ = some u from by
    obtain ⟨ao', co', e', -, -, hcell⟩ := hs.rows.rd rcIS_len
    injection e' with e1 e2 e3
    obtain ⟨b', off, e4, hc'⟩ := hcell (by intro h; simp [h] at hlt)
    rw [e4] at e1
    injection e1 with e1; injection e1 with e1 e5
    subst e1; subst e5
    exact ⟨_, by simpa using hc' _ hlt 1 (by omega)⟩)
  have HG := Lib.hid hg
  clear hs hr hk hc hn hgl hg
  generalize below ltIS l k = i at *
  have q1 : (0 : Int) ≤ i := by omega
  have q2 : (i : Int) < l.length := by omega
  go_enter Tryz.func118, Tryz.ntmps118
  go_wp2_with fail
  with_reducible refine HC.out.mono ?_
  rintro e w1 ⟨rfl, hu1⟩
  have d0 := hu1.cell D0.out (by simp)
  obtain ⟨u, hu⟩ := D1.out
  have d1 := hu1.cell hu (by simp)
  have f1 : w1.frozen? ⟨b, i * 2 + 1, none⟩ = false := frozen_of_row w1 b _ cur _ (hu1.heap HG.out (by simp))
  go_wp2_with fail
  go_ret
  have hst : Upd [b] w1 (w1.setCell ⟨b, i * 2 + 1, none⟩ (sv v)) := (Upd.refl [b] w1).setCell _ _ (.inl (by simp))
  have hs1 := HS.out.upd0 hu1
  have hl := HL.out
  have hgb : g ≠ b := fun e => HS.out.g_lv (by rw [e]; simp [blk])
  refine ⟨rfl, ⟨hs1.tab.upd hst (by simpa using hgb), ?_, hs1.gb⟩, ?_⟩
  · refine OwnN.set_ rcIS_len hs1.rows i 1 hl (by omega) (sv v) _ ?_
    rw [nth_get l i hl]
    rfl
  · exact (show Upd [b] w w1 from hu1.mono (by simp)).setCell _ _ (.inl (by simp))
end
end Go.Proofs.YtmhojaiajhdlcaaGreat
