/- Chapter 22 as plain law: files by rising names, raw writes, what they do. -/
import Derived.Test.YtmhdhnipljonlaaTabLaw
import Derived.Test.YtmhdhnipljonlaaStrOrd
import Derived.Test.YtmhdhnipljonlaaNameOk
namespace Go.Proofs.Ytmhdhnipljonlaa
open Go.RowKit
set_option linter.unusedSimpArgs false
set_option linter.unusedVariables false
abbrev DF := List (ByteArray × List UInt8)
def dTotal (fs : DF) : Nat := (fs.map fun p => p.2.length).sum
/-- A raw write. -/
structure Wr where
  kd : Int
  nm : ByteArray
  tn : ByteArray
  p : List UInt8
  n : Int
instance : Inhabited Wr := ⟨⟨0, ⟨#[]⟩, ⟨#[]⟩, [], 0⟩⟩
abbrev inD (fs : DF) (s : ByteArray) : Bool := isIn strLt fs s
def dGet (fs : DF) (s : ByteArray) : List UInt8 × Bool := tGet strLt [] fs s
theorem dGet_in (fs : DF) (s : ByteArray) : (dGet fs s).2 = inD fs s := by unfold dGet tGet inD; cases isIn strLt fs s <;> rfl
theorem dGet_no {fs : DF} {s : ByteArray} (h : inD fs s = false) : dGet fs s = ([], false) := by unfold dGet tGet; rw [show isIn strLt fs s = _ from h]; rfl
def wApply (x : Wr) (fs : DF) : DF :=
  if x.kd = 1 then tSet strLt fs x.nm [] else
  if x.kd = 2 then tSet strLt fs x.nm ((dGet fs x.nm).1 ++ x.p) else
  if x.kd = 3 then (if inD fs x.nm then tSet strLt (tDel strLt fs x.nm) x.tn (dGet fs x.nm).1 else fs) else
  if x.kd = 4 then tSet strLt fs x.nm ((dGet fs x.nm).1.take x.n.toNat) else
  if x.kd = 5 then tDel strLt fs x.nm else fs
def wAll (fs : DF) (l : List Wr) : DF := l.foldl (fun f x => wApply x f) fs
structure WrOk (x : Wr) (fs : DF) : Prop where
  len : fs.length ≤ 5000
  kd : 1 ≤ x.kd ∧ x.kd ≤ 5
  put : x.kd = 2 → x.p ≠ [] ∧ (dGet fs x.nm).1.length + x.p.length ≤ 16777216
  cut : x.kd = 4 → 0 ≤ x.n ∧ x.n ≤ (dGet fs x.nm).1.length
  tot : dTotal (wApply x fs) ≤ 16777216
def LogOk : DF → List Wr → Prop
  | _, [] => True
  | fs, x :: l => WrOk x fs ∧ LogOk (wApply x fs) l
theorem LogOk.snoc : ∀ {fs : DF} {l : List Wr} {x : Wr}, LogOk fs l → WrOk x (wAll fs l) → LogOk fs (l ++ [x])
  | fs, [], x, _, h => ⟨h, trivial⟩
  | fs, y :: l, x, h, k => ⟨h.1, LogOk.snoc h.2 k⟩
theorem LogOk.at_ : ∀ {fs : DF} {l : List Wr} (k : Nat), LogOk fs l → k < l.length → WrOk (nth l k) (wAll fs (l.take k))
  | fs, [], k, _, h => by simp at h
  | fs, y :: l, 0, h, _ => h.1
  | fs, y :: l, k + 1, h, hk => by
    rw [nth_cons_succ, List.take_succ_cons]
    exact LogOk.at_ (fs := wApply y fs) k h.2 (by simpa using hk)
theorem LogOk.take : ∀ {fs : DF} {l : List Wr} (k : Nat), LogOk fs l → LogOk fs (l.take k)
  | fs, [], k, _ => by simp [LogOk]
  | fs, y :: l, 0, h => trivial
  | fs, y :: l, k + 1, h => ⟨h.1, LogOk.take k h.2⟩
theorem wAll_snoc (fs : DF) (l : List Wr) (x : Wr) : wAll fs (l ++ [x]) = wApply x (wAll fs l) := by unfold wAll; rw [List.foldl_append]; rfl
theorem take_succ_nth {α : Type} [Inhabited α] (l : List α) (k : Nat) (h : k < l.length) : l.take (k + 1) = l.take k ++ [nth l k] := by rw [List.take_add_one, nth_get _ _ h, List.getElem?_eq_getElem h]; rfl
theorem wAll_take (fs : DF) (l : List Wr) (k : Nat) (h : k < l.length) : wAll fs (l.take (k + 1)) = wApply (nth l k) (wAll fs (l.take k)) := by rw [take_succ_nth l k h, wAll_snoc]
theorem wApply_rising {fs : DF} (h : Rising strLt fs) (x : Wr) : Rising strLt (wApply x fs) := by
  unfold wApply
  split
  · exact h.set_ strOrd _ _
  split
  · exact h.set_ strOrd _ _
  split
  · split
    · exact (h.del strOrd _).set_ strOrd _ _
    · exact h
  split
  · exact h.set_ strOrd _ _
  split
  · exact h.del strOrd _
  · exact h
theorem wAll_rising {fs : DF} (h : Rising strLt fs) : ∀ l : List Wr, Rising strLt (wAll fs l)
  | [] => h
  | x :: l => wAll_rising (wApply_rising h x) l
theorem total_app (a b : DF) : dTotal (a ++ b) = dTotal a + dTotal b := by unfold dTotal; rw [List.map_append, List.sum_append]
theorem total_cons (p : ByteArray × List UInt8) (b : DF) : dTotal (p :: b) = p.2.length + dTotal b := by unfold dTotal; rw [List.map_cons, List.sum_cons]
theorem split_at (fs : DF) (i : Nat) (h : i < fs.length) : fs.take i ++ nth fs i :: fs.drop (i + 1) = fs := by
  rw [nth_get _ _ h, List.getElem_cons_drop, List.take_append_drop]
theorem total_take (fs : DF) (i : Nat) (h : i < fs.length) : dTotal (fs.take (i + 1)) = dTotal (fs.take i) + (nth fs i).2.length := by
  rw [take_succ_nth fs i h, total_app, total_cons]; rfl
theorem total_le (fs : DF) (i : Nat) : dTotal (fs.take i) ≤ dTotal fs := by
  have := total_app (fs.take i) (fs.drop i)
  rw [List.take_append_drop] at this; omega
theorem in_at {fs : DF} {s : ByteArray} (h : inD fs s = true) : below strLt fs s < fs.length ∧ (nth fs (below strLt fs s)).1 = s := by unfold inD isIn at h; exact of_decide_eq_true h
theorem dGet_yes {fs : DF} {s : ByteArray} (h : inD fs s = true) : dGet fs s = ((nth fs (below strLt fs s)).2, true) := by unfold dGet tGet; rw [show isIn strLt fs s = _ from h]; rfl
theorem total_set_in {fs : DF} {s : ByteArray} (v : List UInt8) (h : inD fs s = true) : dTotal (tSet strLt fs s v) + (dGet fs s).1.length = dTotal fs + v.length := by
  obtain ⟨h1, h2⟩ := in_at h
  have h3 := split_at fs _ h1
  have h4 : dTotal fs = dTotal (fs.take (below strLt fs s)) + ((nth fs (below strLt fs s)).2.length + dTotal (fs.drop (below strLt fs s + 1))) := by
    conv => lhs; rw [← h3]
    rw [total_app, total_cons]
  unfold tSet
  rw [show isIn strLt fs s = true from h, if_pos rfl, total_app, total_cons, dGet_yes h, h4]
  show dTotal _ + (v.length + _) + (nth fs (below strLt fs s)).2.length = _
  omega
theorem total_set_no {fs : DF} {s : ByteArray} (v : List UInt8) (h : inD fs s = false) : dTotal (tSet strLt fs s v) = dTotal fs + v.length := by
  have h4 := total_app (fs.take (below strLt fs s)) (fs.drop (below strLt fs s))
  rw [List.take_append_drop] at h4
  unfold tSet
  rw [show isIn strLt fs s = false from h, if_neg (by simp), total_app, total_cons, Nat.add_zero, h4]
  show _ + (v.length + _) = _
  omega
theorem total_del {fs : DF} {s : ByteArray} (h : inD fs s = true) : dTotal (tDel strLt fs s) + (dGet fs s).1.length = dTotal fs := by
  obtain ⟨h1, h2⟩ := in_at h
  have h3 := split_at fs _ h1
  have h4 : dTotal fs = dTotal (fs.take (below strLt fs s)) + ((nth fs (below strLt fs s)).2.length + dTotal (fs.drop (below strLt fs s + 1))) := by
    conv => lhs; rw [← h3]
    rw [total_app, total_cons]
  unfold tDel
  rw [show isIn strLt fs s = true from h, if_pos rfl, total_app, dGet_yes h, h4]
  show dTotal _ + _ + (nth fs (below strLt fs s)).2.length = _
  omega
theorem total_set_le {fs : DF} (s : ByteArray) (v : List UInt8) : dTotal (tSet strLt fs s v) ≤ dTotal fs + v.length := by
  cases h : inD fs s with
  | true => have := total_set_in v h; omega
  | false => have := total_set_no v h; omega
theorem get_le_total (fs : DF) (s : ByteArray) : (dGet fs s).1.length ≤ dTotal fs := by
  cases h : inD fs s with
  | true => have := total_del h; omega
  | false => rw [dGet_no h]; simp
theorem set_len_in {fs : DF} {s : ByteArray} (v : List UInt8) (h : inD fs s = true) : (tSet strLt fs s v).length = fs.length := by
  rw [tSet_in fs s v h, List.length_set]
theorem below_set {fs : DF} (hr : Rising strLt fs) (s : ByteArray) (v : List UInt8) : below strLt (tSet strLt fs s v) s = below strLt fs s := by
  have hle := below_le (lt := strLt) fs s
  have htk : (fs.take (below strLt fs s)).length = below strLt fs s := by rw [List.length_take]; omega
  refine below_eq _ _ _ (by unfold tSet; simp; omega) (fun j hj => ?_) (fun _ => ?_)
  · unfold tSet
    rw [nth_append_left _ _ _ (by rw [htk]; exact hj), nth_take _ _ _ hj]
    exact below_lt fs s j hj
  · unfold tSet
    rw [nth_append_right _ _ _ (by rw [htk]; exact Nat.le_refl _), htk, Nat.sub_self, nth_cons_zero]
    exact strOrd.irr s
theorem nth_set_at (fs : DF) (s : ByteArray) (v : List UInt8) : nth (tSet strLt fs s v) (below strLt fs s) = (s, v) := by
  have hle := below_le (lt := strLt) fs s
  have htk : (fs.take (below strLt fs s)).length = below strLt fs s := by rw [List.length_take]; omega
  unfold tSet
  rw [nth_append_right _ _ _ (by rw [htk]; exact Nat.le_refl _), htk, Nat.sub_self, nth_cons_zero]
theorem in_set {fs : DF} (hr : Rising strLt fs) (s : ByteArray) (v : List UInt8) : inD (tSet strLt fs s v) s = true := by
  have hle := below_le (lt := strLt) fs s
  unfold inD isIn
  rw [below_set hr, nth_set_at]
  exact decide_eq_true ⟨by unfold tSet; simp; omega, rfl⟩
theorem get_set {fs : DF} (hr : Rising strLt fs) (s : ByteArray) (v : List UInt8) : dGet (tSet strLt fs s v) s = (v, true) := by
  rw [dGet_yes (in_set hr s v), below_set hr, nth_set_at]
/-- A disk's state. -/
structure DS where
  now : DF
  mark : DF
  log : List Wr
def dDo (x : Wr) (s : DS) : DS := ⟨wApply x s.now, s.mark, s.log ++ [x]⟩
structure DOk (s : DS) : Prop where
  ris : Rising strLt s.now
  rim : Rising strLt s.mark
  eq : s.now = wAll s.mark s.log
  log : LogOk s.mark s.log
  tot : dTotal s.now ≤ 16777216
  totm : dTotal s.mark ≤ 16777216
theorem DOk.do_ {s : DS} (h : DOk s) {x : Wr} (hx : WrOk x s.now) : DOk (dDo x s) :=
  ⟨wApply_rising h.ris x, h.rim, by unfold dDo; dsimp only; rw [wAll_snoc, ← h.eq], h.log.snoc (by rw [← h.eq]; exact hx), hx.tot, h.totm⟩
abbrev wMake (nm : ByteArray) : Wr := ⟨1, nm, ⟨#[]⟩, [], 0⟩
abbrev wPut (nm : ByteArray) (p : List UInt8) : Wr := ⟨2, nm, ⟨#[]⟩, p, 0⟩
abbrev wRen (nm tn : ByteArray) : Wr := ⟨3, nm, tn, [], 0⟩
abbrev wCut (nm : ByteArray) (n : Int) : Wr := ⟨4, nm, ⟨#[]⟩, [], n⟩
abbrev wRem (nm : ByteArray) : Wr := ⟨5, nm, ⟨#[]⟩, [], 0⟩
def chunks (p : List UInt8) : List (List UInt8) := (List.range ((p.length + 31) / 32)).map fun i => (p.drop (32 * i)).take 32
def dPut (nm : ByteArray) (s : DS) (l : List (List UInt8)) : DS := l.foldl (fun s c => dDo (wPut nm c) s) s
theorem chunks_len (p : List UInt8) : (chunks p).length = (p.length + 31) / 32 := by unfold chunks; simp
theorem chunks_nth (p : List UInt8) (i : Nat) (h : i < (chunks p).length) : nth (chunks p) i = (p.drop (32 * i)).take 32 := by
  unfold chunks at h ⊢
  rw [nth_get _ _ h]; simp
theorem dPut_snoc (nm : ByteArray) (s : DS) (l : List (List UInt8)) (c : List UInt8) : dPut nm s (l ++ [c]) = dDo (wPut nm c) (dPut nm s l) := by unfold dPut; rw [List.foldl_append]; rfl
theorem dPut_take (nm : ByteArray) (s : DS) (p : List UInt8) (i : Nat) (h : i < (chunks p).length) : dPut nm s ((chunks p).take (i + 1)) = dDo (wPut nm ((p.drop (32 * i)).take 32)) (dPut nm s ((chunks p).take i)) := by
  rw [take_succ_nth _ _ h, dPut_snoc, chunks_nth p i h]
theorem put_now (nm : ByteArray) (c : List UInt8) (s : DS) : (dDo (wPut nm c) s).now = tSet strLt s.now nm ((dGet s.now nm).1 ++ c) := rfl
/-- Behind so many chunks. -/
structure PutOk (nm : ByteArray) (s0 s : DS) (n : Nat) : Prop where
  ok : DOk s
  has : inD s.now nm = true
  len : s.now.length = s0.now.length
  tot : dTotal s.now = dTotal s0.now + n
  log : s.log.length ≤ s0.log.length + n
  mark : s.mark = s0.mark
theorem PutOk.step {nm : ByteArray} {s0 s : DS} {n : Nat} (h : PutOk nm s0 s n) (c : List UInt8) (hc : c ≠ []) (hl : s0.now.length ≤ 5000) (ht : dTotal s0.now + (n + c.length) ≤ 16777216) : WrOk (wPut nm c) s.now ∧ PutOk nm s0 (dDo (wPut nm c) s) (n + c.length) := by
  have h1 := total_set_in ((dGet s.now nm).1 ++ c) h.has
  have h2 := get_le_total s.now nm
  rw [List.length_append] at h1
  have h3 := h.tot
  have hcl : 0 < c.length := List.length_pos_iff.2 hc
  have hw : WrOk (wPut nm c) s.now := ⟨by rw [h.len]; exact hl, ⟨by show (1 : Int) ≤ 2; decide, by show (2 : Int) ≤ 5; decide⟩, fun _ => ⟨hc, by show (dGet s.now nm).1.length + c.length ≤ _; omega⟩, fun q => absurd q (show ¬ (2 : Int) = 4 by decide), by show dTotal (tSet strLt s.now nm ((dGet s.now nm).1 ++ c)) ≤ _; omega⟩
  refine ⟨hw, h.ok.do_ hw, in_set h.ok.ris _ _, by rw [put_now, set_len_in _ h.has]; exact h.len, by rw [put_now]; omega, ?_, h.mark⟩
  have := h.log
  unfold dDo; simp; omega
theorem PutOk.all {nm : ByteArray} {s0 : DS} (p : List UInt8) (h : DOk s0) (hin : inD s0.now nm = true) (hl : s0.now.length ≤ 5000) (ht : dTotal s0.now + p.length ≤ 16777216) : ∀ i, i ≤ (chunks p).length → PutOk nm s0 (dPut nm s0 ((chunks p).take i)) (min (32 * i) p.length)
  | 0, _ => ⟨h, hin, rfl, by simp [dPut], by simp [dPut], rfl⟩
  | i + 1, hi => by
    have hlen := chunks_len p
    rw [dPut_take nm s0 p i (by omega)]
    have ih := PutOk.all p h hin hl ht i (by omega)
    have hlt : 32 * i < p.length := by omega
    have hcl : ((p.drop (32 * i)).take 32).length = min 32 (p.length - 32 * i) := by rw [List.length_take, List.length_drop]
    have := (ih.step ((p.drop (32 * i)).take 32) (fun q => by rw [q] at hcl; simp at hcl; omega) hl (by rw [hcl]; omega)).2
    rw [hcl] at this
    rw [show min (32 * (i + 1)) p.length = min (32 * i) p.length + min 32 (p.length - 32 * i) by omega]
    exact this
def dAppend (s : DS) (nm : ByteArray) (p : List UInt8) : Int × DS :=
  if nameOk nm then (if 16777216 < dTotal s.now + p.length then (9, s) else (0, dPut nm (if inD s.now nm then s else dDo (wMake nm) s) (chunks p))) else (14, s)
def dRename (s : DS) (nm tn : ByteArray) : Int × DS := if nameOk tn then (if inD s.now nm then (0, dDo (wRen nm tn) s) else (7, s)) else (14, s)
def dCut (s : DS) (nm : ByteArray) (n : Int) : Int × DS := if inD s.now nm then (if n < 0 ∨ (dGet s.now nm).1.length < n then (1, s) else (0, dDo (wCut nm n) s)) else (7, s)
def dRemove (s : DS) (nm : ByteArray) : Int × DS := if inD s.now nm then (0, dDo (wRem nm) s) else (7, s)
def dMark (s : DS) : DS := ⟨s.now, s.now, []⟩
def dBackF (s : DS) (n : Int) : DF := wAll s.mark (s.log.take n.toNat)
def dBack (s : DS) (n : Int) : DS := ⟨dBackF s n, dBackF s n, []⟩
theorem DOk.make {s : DS} (h : DOk s) (nm : ByteArray) (hn : inD s.now nm = false) (hl : s.now.length ≤ 5000) : WrOk (wMake nm) s.now ∧ DOk (dDo (wMake nm) s) ∧ inD (dDo (wMake nm) s).now nm = true ∧ dTotal (dDo (wMake nm) s).now = dTotal s.now ∧ (dDo (wMake nm) s).now.length ≤ s.now.length + 1 := by
  have ht := total_set_no (s := nm) [] hn
  have hw : WrOk (wMake nm) s.now := ⟨hl, ⟨by show (1 : Int) ≤ 1; decide, by show (1 : Int) ≤ 5; decide⟩, fun q => absurd q (show ¬ (1 : Int) = 2 by decide), fun q => absurd q (show ¬ (1 : Int) = 4 by decide), by show dTotal (tSet strLt s.now nm []) ≤ _; have := h.tot; simp at ht; omega⟩
  have he : (dDo (wMake nm) s).now = tSet strLt s.now nm [] := rfl
  refine ⟨hw, h.do_ hw, ?_, ?_, ?_⟩
  · rw [he]; exact in_set h.ris _ _
  · rw [he, ht]; rfl
  · rw [he]; exact tSet_len _ _ _
theorem DOk.ren {s : DS} (h : DOk s) (nm tn : ByteArray) (hn : inD s.now nm = true) (hl : s.now.length ≤ 5000) : WrOk (wRen nm tn) s.now ∧ DOk (dDo (wRen nm tn) s) := by
  suffices hw : WrOk (wRen nm tn) s.now from ⟨hw, h.do_ hw⟩
  refine ⟨hl, ⟨by show (1 : Int) ≤ 3; decide, by show (3 : Int) ≤ 5; decide⟩, fun q => absurd q (show ¬ (3 : Int) = 2 by decide), fun q => absurd q (show ¬ (3 : Int) = 4 by decide), ?_⟩
  show dTotal (if inD s.now nm = true then tSet strLt (tDel strLt s.now nm) tn (dGet s.now nm).1 else s.now) ≤ _
  rw [if_pos hn]
  have h1 := total_set_le (fs := tDel strLt s.now nm) tn (dGet s.now nm).1
  have h2 := total_del hn
  have := h.tot
  omega
theorem DOk.cut {s : DS} (h : DOk s) (nm : ByteArray) (n : Int) (hn : inD s.now nm = true) (h0 : 0 ≤ n) (hle : n ≤ (dGet s.now nm).1.length) (hl : s.now.length ≤ 5000) : WrOk (wCut nm n) s.now ∧ DOk (dDo (wCut nm n) s) := by
  suffices hw : WrOk (wCut nm n) s.now from ⟨hw, h.do_ hw⟩
  refine ⟨hl, ⟨by show (1 : Int) ≤ 4; decide, by show (4 : Int) ≤ 5; decide⟩, fun q => absurd q (show ¬ (4 : Int) = 2 by decide), fun _ => ⟨h0, hle⟩, ?_⟩
  show dTotal (tSet strLt s.now nm ((dGet s.now nm).1.take n.toNat)) ≤ _
  have h1 := total_set_in ((dGet s.now nm).1.take n.toNat) hn
  rw [List.length_take] at h1
  have := h.tot
  omega
theorem DOk.rem {s : DS} (h : DOk s) (nm : ByteArray) (hn : inD s.now nm = true) (hl : s.now.length ≤ 5000) : WrOk (wRem nm) s.now ∧ DOk (dDo (wRem nm) s) := by
  suffices hw : WrOk (wRem nm) s.now from ⟨hw, h.do_ hw⟩
  refine ⟨hl, ⟨by show (1 : Int) ≤ 5; decide, by show (5 : Int) ≤ 5; decide⟩, fun q => absurd q (show ¬ (5 : Int) = 2 by decide), fun q => absurd q (show ¬ (5 : Int) = 4 by decide), ?_⟩
  show dTotal (tDel strLt s.now nm) ≤ _
  have h1 := total_del hn
  have := h.tot
  omega
theorem wAll_tot : ∀ {fs : DF} {l : List Wr}, LogOk fs l → dTotal fs ≤ 16777216 → dTotal (wAll fs l) ≤ 16777216
  | fs, [], _, h => h
  | fs, x :: l, h, _ => wAll_tot (fs := wApply x fs) h.2 h.1.tot
theorem DOk.mark {s : DS} (h : DOk s) : DOk (dMark s) := ⟨h.ris, h.ris, rfl, trivial, h.tot, h.tot⟩
theorem DOk.back {s : DS} (h : DOk s) (n : Int) : DOk (dBack s n) :=
  have hr := wAll_rising h.rim (s.log.take n.toNat)
  have ht := wAll_tot (h.log.take n.toNat) h.totm
  ⟨hr, hr, rfl, trivial, ht, ht⟩
theorem DOk.zero : DOk ⟨[], [], []⟩ := ⟨Rising.nil, Rising.nil, rfl, trivial, by simp [dTotal], by simp [dTotal]⟩
theorem DOk.append {s : DS} (h : DOk s) (nm : ByteArray) (p : List UInt8) (hl : s.now.length ≤ 4999) : DOk (dAppend s nm p).2 := by
  unfold dAppend
  split
  · split
    · exact h
    · rename_i ht
      dsimp only
      cases hin : inD s.now nm with
      | true =>
        rw [if_pos rfl]
        have := (PutOk.all p h hin (by omega) (by omega) (chunks p).length (Nat.le_refl _)).ok
        rwa [List.take_length] at this
      | false =>
        rw [if_neg (by simp)]
        obtain ⟨h1, h2, h3, h4, h5⟩ := h.make nm hin (by omega)
        have := (PutOk.all p h2 h3 (by omega) (by omega) (chunks p).length (Nat.le_refl _)).ok
        rwa [List.take_length] at this
  · exact h
end Go.Proofs.Ytmhdhnipljonlaa
