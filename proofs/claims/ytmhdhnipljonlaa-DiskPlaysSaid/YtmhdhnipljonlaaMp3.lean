/- Texts of the proof, joined: The book's Within. Arguments that are slices of structs. Arguments that are asks of chapter 22. Chapter 22 as plain law: a call by its kind; how much it adds. A slice cut at its beginning, or at its end: the run. Chapter 22: a raw write is done to a table of files. The document's disk: a raw write, a file comes. The document's disk: bytes come behind a file's, a file is cut. The document's disk: bytes come behind a file's. -/
import Derived.Test.YtmhdhnipljonlaaRows
import Derived.Test.YtmhdhnipljonlaaMp1
import Derived.Test.YtmhdhnipljonlaaMp2
import Derived.Deep.Fields
import Derived.ChangeSame
import Derived.Deep.RegionHeld3
import Derived.StillTailTactics
import Derived.Deep.RegionLaw
namespace Go.Proofs.Ytmhdhnipljonlaa
open Go.RowKit
set_option linter.unusedSimpArgs false
set_option linter.unusedVariables false
set_option maxHeartbeats 400000 in
theorem within_any (n lo hi : Int) (w : World) (hn : -9223372036854775808 ≤ n ∧ n ≤ 9223372036854775807) (h : lo ≤ hi) (hl : 0 ≤ lo) (hh : hi ≤ 4611686018427387904) :
    Calls Try.prog 24 #[.int .i64 n, .int .i64 lo, .int .i64 hi] w fun e w' => e = .returned (.int .i64 (within n lo hi)) ∧ w = w' := by
  have hp : 0 < hi - lo + 1 := by omega
  obtain ⟨b2, b3⟩ := tmod_bd n (hi - lo + 1) hp
  have hz : ((hi - lo + 1) == 0) = false := by rw [beq_eq_false_iff_ne]; omega
  obtain ⟨hn1, hn2⟩ := hn
  by_cases hs : n.tmod (hi - lo + 1) < 0
  · have HF : Hid (lo + (n.tmod (hi - lo + 1) + hi - lo + 1) = within n lo hi) := by
      unfold Hid within; rw [← within_neg n (hi - lo + 1) hp hs]; omega
    go_enter Try.func24, Try.ntmps24
    go_wp2
    go_ret
    exact ⟨congrArg (fun n => Ending.returned (.int .i64 n)) HF.out, rfl⟩
  · have HF : Hid (lo + n.tmod (hi - lo + 1) = within n lo hi) := by
      unfold Hid within; rw [← within_pos n (hi - lo + 1) hp (by omega)]
    go_enter Try.func24, Try.ntmps24
    go_wp2
    go_ret
    exact ⟨congrArg (fun n => Ending.returned (.int .i64 n)) HF.out, rfl⟩

end Go.Proofs.Ytmhdhnipljonlaa
namespace Go.Proofs.Ytmhdhnipljonlaa
open Go.ChangeShapes Go.WideShapes Go.ChangeAt Go.RowKit Go.Deep
set_option linter.unusedSimpArgs false
set_option linter.unusedVariables false
section
variable {H : Type} {enc : TypeId × Value → H} {P : Program} {w : World} {b0 : Nat} {held : Bool}
theorem el_fields {e : TypeId} {fs : Array Field} {n : Nat} {cs : List Value} {y : DataW H × List MemPlace} (he : P.underlying e = some (.struct fs)) (hone : oneCellFields P fs = true) (hC : cs.length = fs.size)
    (h : DataW.trod enc P w 0 (fun _ => true) held n e cs = some y) (j : Nat) (f : Field) (hj : fs[j]? = some f) : ∃ (n' : Nat) (v : Value) (z : DataW H × List MemPlace), cs[j]? = some v ∧ DataW.trod enc P w 0 (fun _ => true) held n' f.type [v] = some z := by
  obtain ⟨ys, n', hn', hy, hlen, hyl, hf⟩ := DataW.trod_struct he h
  obtain ⟨ho, hk⟩ := hone_of hone j f hj
  have hjl : j < fs.size := (Array.getElem?_eq_some_iff.1 hj).1
  have h1 := hf j f hj
  rw [ho, hk] at h1
  have hone' : (cs.drop j).take 1 = [cs[j]'(by omega)] := by
    rw [List.drop_eq_getElem_cons (by omega)]; rfl
  rw [hone'] at h1
  have hys : ys[j]? = some (ys[j]'(by omega)) := List.getElem?_eq_getElem (by omega)
  exact ⟨n', _, _, List.getElem?_eq_getElem (by omega), h1.trans hys⟩
theorem open_rdN {α : Type} [Inhabited α] (sz : Nat) (c : α → List Value) (good : α → Prop) {t e : TypeId} {v : Value} {d : DataW H} {p : List MemPlace} (ht : P.underlying t = some (.slice e)) (hc : P.cellsOf e = sz) (hpos : 0 < sz)
    (hel : ∀ n cs y, cs.length = sz → DataW.trod enc P w 0 (fun _ => true) held n e cs = some y → ∃ x, cs = c x ∧ good x)
    (hval : Value.okWide P w .any b0 t v) (h : DataW.Trod enc P w 0 (fun _ => true) held t v d p) :
    ∃ l : List α, RdN sz c w v l ∧ (∀ x ∈ l, good x) ∧ (∀ (ts : List TypeId) (ds : List (DataW H)) (j : Nat), (DataW.weightsEach P ts ds).all (· ≤ reachBytes) = true → ts[j]? = some t → ds[j]? = some d → l.length * P.bytesOf e ≤ reachBytes) ∧ DLen d l.length := by
  obtain ⟨a0, len0, cap0, rfl⟩ := okWide_slice ht hval
  obtain ⟨fuel, hf⟩ := h
  rcases open_slice ht hf with ⟨hcs, hx⟩ | ⟨a, len, cap, m, n, D, Pl, hcs, hb, hl, hm, hmm, hx, hi⟩
  · simp [Value.cells] at hcs
    obtain ⟨rfl, rfl, rfl⟩ := hcs
    exact ⟨[], ⟨none, 0, rfl, Nat.le_refl _, Nat.zero_le _, fun q => absurd rfl q⟩, by simp, by intros; simp, .inl rfl⟩
  · simp [Value.cells] at hcs
    obtain ⟨rfl, rfl, rfl⟩ := hcs
    simp only [if_true] at hmm
    subst hmm
    obtain ⟨l, hl', hp⟩ := exists_list len0 (fun i x => w.cells? 0 (a.add (i * sz)) sz = some (c x) ∧ good x) (fun i hi' => by
      obtain ⟨cs', hc1, hc2⟩ := hi i (by omega)
      rw [hc] at hc1
      obtain ⟨_, hcl, _⟩ := World.cells?_some hc1
      obtain ⟨x, rfl, hg⟩ := hel _ _ _ hcl hc2
      exact ⟨x, hc1, hg⟩)
    refine ⟨l, ?_, ?_, ?_, ?_⟩
    · refine ⟨_, _, by rw [hl'], by omega, hm, fun hne => ?_⟩
      have hpos' : 0 < len0 := by rw [← hl']; exact List.length_pos_iff.2 hne
      obtain ⟨b, off, spot⟩ := a
      have hspot : spot = none := by
        have h0 := (hp 0 (by omega)).1
        obtain ⟨_, hcl, hat⟩ := World.cells?_some h0
        have h1 := hat 0 hpos
        rw [List.getElem?_eq_getElem (by omega)] at h1
        simpa [Addr.add] using World.cell?_spot h1
      subst hspot
      refine ⟨b, off, rfl, fun j hj i hi' => ?_⟩
      obtain ⟨_, hcl, hat⟩ := World.cells?_some (hp j (by omega)).1
      have h1 := hat i hi'
      rw [add_none, add_none] at h1
      rw [← Nat.add_assoc]; exact h1
    · intro x hx'
      obtain ⟨i, hi', rfl⟩ := List.mem_iff_getElem.1 hx'
      have := (hp i (by omega)).2
      rwa [nth_get l i hi'] at this
    · intro ts ds j hall htj hdj
      have hd := congrArg Prod.fst hx
      simp only at hd
      rw [hd] at hdj
      have := sized_slice hall htj hdj ht
      simp only [List.length_map, List.length_range] at this
      exact Nat.le_trans (Nat.mul_le_mul_right _ (by omega)) this
    · exact .inr ⟨_, _, congrArg Prod.fst hx, by simp [hl']⟩
end
end Go.Proofs.Ytmhdhnipljonlaa
namespace Go.Proofs.Ytmhdhnipljonlaa
open Go.ChangeShapes Go.WideShapes Go.ChangeAt Go.RowKit Go.Deep
set_option linter.unusedSimpArgs false
set_option linter.unusedVariables false
/-- An ask. -/
structure Ask22 where
  kd : Int
  n : Int
  nm : ByteArray
  tn : ByteArray
  dv : Sl
  d : List UInt8
instance : Inhabited Ask22 := ⟨⟨0, 0, .empty, .empty, default, []⟩⟩
abbrev ask22Cells (x : Ask22) : List Value := [.int .i64 x.kd, .int .i64 x.n, .string x.nm, .string x.tn, slv x.dv]
structure Ask22Good (w : World) (x : Ask22) : Prop where
  kd : I64 x.kd
  n : I64 x.n
  rd : Bytes w (slv x.dv) x.d
theorem cells_byte22 : Try.checked.prog.cellsOf 5 = 1 := by kernel_rfl
theorem cells_ask22 : Try.checked.prog.cellsOf 65 = 5 := by kernel_rfl
set_option maxRecDepth 100000 in
theorem el_ask22 {H : Type} {enc : TypeId × Value → H} {w : World} (n : Nat) (cs : List Value) (y : DataW H × List MemPlace) (hl : cs.length = 5) (h : DataW.trod enc Try.prog w 0 (fun _ => true) true n 65 cs = some y) :
    ∃ x : Ask22, cs = ask22Cells x ∧ Ask22Good w x := by
  obtain ⟨_, v0, _, h0, t0⟩ := el_fields Try.underlying65 (by kernel_rfl) hl h 0 _ rfl
  obtain ⟨_, v1, _, h1, t1⟩ := el_fields Try.underlying65 (by kernel_rfl) hl h 1 _ rfl
  obtain ⟨_, v2, _, h2, t2⟩ := el_fields Try.underlying65 (by kernel_rfl) hl h 2 _ rfl
  obtain ⟨_, v3, _, h3, t3⟩ := el_fields Try.underlying65 (by kernel_rfl) hl h 3 _ rfl
  obtain ⟨_, v4, _, h4, t4⟩ := el_fields Try.underlying65 (by kernel_rfl) hl h 4 _ rfl
  obtain ⟨k0, rfl, g0⟩ := el_int Try.underlying3 _ _ _ t0
  obtain ⟨k1, rfl, g1⟩ := el_int Try.underlying3 _ _ _ t1
  obtain ⟨s, hs1, _⟩ := DataW.trod_string Try.underlying9 t2
  obtain ⟨s', hs2, _⟩ := DataW.trod_string Try.underlying9 t3
  obtain ⟨a0, len0, cap0, rfl⟩ := trod_slice_form Try.underlying27 t4
  obtain ⟨x, hx, l, hb⟩ := el_bytes Try.underlying27 Try.underlying5 cells_byte22 _ _ _ t4
  have hx : .slice a0 len0 cap0 = x := hx
  subst hx
  simp at hs1 hs2
  subst hs1 hs2
  match cs, hl with
  | [c0, c1, c2, c3, c4], _ =>
    simp at h0 h1 h2 h3 h4
    exact ⟨⟨k0, k1, s, s', ⟨a0, len0, cap0⟩, l⟩, by rw [h0, h1, h2, h3, h4], ⟨i64_of g0, i64_of g1, hb⟩⟩
set_option maxRecDepth 100000 in
/-- Asks that are handed in. -/
theorem open_asks22 {H : Type} {enc : TypeId × Value → H} {w : World} {b0 : Nat} {v : Value} {d : DataW H} {p : List MemPlace} (hval : Value.okWide Try.prog w .any b0 58 v) (h : DataW.Trod enc Try.prog w 0 (fun _ => true) true 58 v d p) :
    ∃ l : List Ask22, RdN 5 ask22Cells w v l ∧ ∀ x ∈ l, Ask22Good w x := by
  obtain ⟨l, h1, h2, -⟩ := open_rdN 5 ask22Cells (Ask22Good w) Try.underlying58 cells_ask22 (by omega) (fun n cs y hl h => el_ask22 n cs y hl h) hval h
  exact ⟨l, h1, h2⟩
end Go.Proofs.Ytmhdhnipljonlaa
namespace Go.Proofs.Ytmhdhnipljonlaa
open Go.RowKit
set_option linter.unusedSimpArgs false
set_option linter.unusedVariables false
def dStep (x : Ask22) (s : DS) : DS :=
  if x.kd = 1 then (dAppend s x.nm x.d).2 else
  if x.kd = 2 then (dRename s x.nm x.tn).2 else
  if x.kd = 3 then (dCut s x.nm x.n).2 else
  if x.kd = 4 then (dRemove s x.nm).2 else s
structure Grows (s s' : DS) (n : Nat) : Prop where
  now : s'.now.length ≤ s.now.length + 1
  log : s'.log.length ≤ s.log.length + n + 1
  mark : s'.mark = s.mark
theorem Grows.refl (s : DS) (n : Nat) : Grows s s n := ⟨by omega, by omega, rfl⟩
theorem grows_do (x : Wr) (s : DS) (n : Nat) : Grows s (dDo x s) n := by
  refine ⟨?_, by unfold dDo; simp, rfl⟩
  have h1 := fun k v => tSet_len (lt := strLt) s.now k v
  have h2 := tDel_len (lt := strLt) s.now x.nm
  have h3 := tSet_len (lt := strLt) (tDel strLt s.now x.nm) x.tn (dGet s.now x.nm).1
  show (wApply x s.now).length ≤ _
  unfold wApply
  split
  · exact h1 _ _
  split
  · exact h1 _ _
  split
  · split <;> omega
  split
  · exact h1 _ _
  split <;> omega
theorem grows_append {s : DS} (h : DOk s) (nm : ByteArray) (p : List UInt8) (hl : s.now.length ≤ 4999) : Grows s (dAppend s nm p).2 p.length := by
  unfold dAppend
  split
  · split
    · exact Grows.refl _ _
    · rename_i ht
      dsimp only
      cases hin : inD s.now nm with
      | true =>
        rw [if_pos rfl]
        have h1 := PutOk.all p h hin (by omega) (by omega) (chunks p).length (Nat.le_refl _)
        rw [List.take_length] at h1
        exact ⟨by rw [h1.len]; omega, by have := h1.log; omega, h1.mark⟩
      | false =>
        rw [if_neg (by simp)]
        obtain ⟨k1, k2, k3, k4, k5⟩ := h.make nm hin (by omega)
        have h1 := PutOk.all p k2 k3 (by omega) (by omega) (chunks p).length (Nat.le_refl _)
        rw [List.take_length] at h1
        have hlog : (dDo (wMake nm) s).log.length = s.log.length + 1 := by unfold dDo; simp
        exact ⟨by rw [h1.len]; exact k5, by have := h1.log; omega, h1.mark⟩
  · exact Grows.refl _ _
theorem grows_rename (s : DS) (nm tn : ByteArray) (n : Nat) : Grows s (dRename s nm tn).2 n := by
  unfold dRename
  split
  · split
    · exact grows_do _ _ _
    · exact Grows.refl _ _
  · exact Grows.refl _ _
theorem grows_cut (s : DS) (nm : ByteArray) (m : Int) (n : Nat) : Grows s (dCut s nm m).2 n := by
  unfold dCut
  split
  · split
    · exact Grows.refl _ _
    · exact grows_do _ _ _
  · exact Grows.refl _ _
theorem grows_remove (s : DS) (nm : ByteArray) (n : Nat) : Grows s (dRemove s nm).2 n := by
  unfold dRemove
  split
  · exact grows_do _ _ _
  · exact Grows.refl _ _
theorem dStep_1 (s : DS) (n : Int) (nm tn : ByteArray) (dv : Sl) (d : List UInt8) : dStep ⟨1, n, nm, tn, dv, d⟩ s = (dAppend s nm d).2 := by unfold dStep; simp
theorem dStep_2 (s : DS) (n : Int) (nm tn : ByteArray) (dv : Sl) (d : List UInt8) : dStep ⟨2, n, nm, tn, dv, d⟩ s = (dRename s nm tn).2 := by unfold dStep; simp
theorem dStep_3 (s : DS) (n : Int) (nm tn : ByteArray) (dv : Sl) (d : List UInt8) : dStep ⟨3, n, nm, tn, dv, d⟩ s = (dCut s nm n).2 := by unfold dStep; simp
theorem dStep_4 (s : DS) (n : Int) (nm tn : ByteArray) (dv : Sl) (d : List UInt8) : dStep ⟨4, n, nm, tn, dv, d⟩ s = (dRemove s nm).2 := by unfold dStep; simp
theorem dStep_no (s : DS) (kd n : Int) (nm tn : ByteArray) (dv : Sl) (d : List UInt8) (h1 : kd ≠ 1) (h2 : kd ≠ 2) (h3 : kd ≠ 3) (h4 : kd ≠ 4) : dStep ⟨kd, n, nm, tn, dv, d⟩ s = s := by unfold dStep; simp [h1, h2, h3, h4]
theorem grows_step {s : DS} (h : DOk s) (x : Ask22) (hl : s.now.length ≤ 4999) : Grows s (dStep x s) x.d.length := by
  unfold dStep
  split
  · exact grows_append h _ _ hl
  split
  · exact grows_rename _ _ _ _
  split
  · exact grows_cut _ _ _ _
  split
  · exact grows_remove _ _ _
  · exact Grows.refl _ _
/-- Back of all: the files are what they were. -/
theorem back_all {s : DS} (h : DOk s) : (dBack s (s.log.length : Int)).now = s.now := by
  show dBackF s _ = _
  unfold dBackF
  rw [Int.toNat_natCast, List.take_length, ← h.eq]
theorem back_log (s : DS) (n : Int) : (dBack s n).log = [] := rfl
theorem back_zero {s : DS} (h : s.mark = []) : (dBack s 0).now = [] := by
  show dBackF s 0 = _
  unfold dBackF
  rw [h]; rfl
theorem back_nlen {s : DS} (h : DOk s) (hm : s.mark = []) (n : Int) : (dBack s n).now.length ≤ 100000 := by
  show (dBackF s n).length ≤ _
  unfold dBackF
  have : ∀ {fs : DF} {l : List Wr}, LogOk fs l → fs.length ≤ 100000 → (wAll fs l).length ≤ 100000 := by
    intro fs l
    induction l generalizing fs with
    | nil => exact fun _ h => h
    | cons x l ih =>
      intro h _
      refine ih (fs := wApply x fs) h.2 ?_
      have := (grows_do x ⟨fs, [], []⟩ 0).now
      have h5 := h.1.len
      have h6 : (wApply x fs).length ≤ fs.length + 1 := this
      omega
  exact this (h.log.take _) (by rw [hm]; simp)
end Go.Proofs.Ytmhdhnipljonlaa
namespace Go.Proofs.Ytmhdhnipljonlaa
open Go.RowKit
set_option linter.unusedSimpArgs false
set_option linter.unusedVariables false
theorem run_cut {P : Program} {t e : TypeId} {size : Nat} (ht : P.underlying t = some (.slice e)) (hi : (P.info? e).map (·.size) = some size) (a : Option Addr) (n cap k : Nat) (hk : k ≤ n) (W : World) :
    (Instr.slice t (.slice a n cap) (some (.int .i64 (k : Int))) none none).run P W = .ok (.slice (if cap = k then a else a.map (·.add (k * size))) (n - k) (cap - k)) W := by
  have he : P.elem t = e := by simp [Program.elem, ht]
  obtain ⟨i, h1, h2⟩ : ∃ i, P.info? e = some i ∧ i.size = size := by
    cases hq : P.info? e with
    | none => simp [hq] at hi
    | some i => exact ⟨i, rfl, by simpa [hq] using hi⟩
  rw [run_slice_l (P := P) (w := W) t a n cap (by rw [he]; exact ht) .i64 (k : Int) (by omega) (by omega), he]
  simp [sizeOf, typeInfo, h1, h2, sliced]
theorem run_cut_h {P : Program} {t e : TypeId} {size : Nat} (ht : P.underlying t = some (.slice e)) (hi : (P.info? e).map (·.size) = some size) (a : Option Addr) (n cap k : Nat) (hk : k ≤ cap) (W : World) :
    (Instr.slice t (.slice a n cap) none (some (.int .i64 (k : Int))) none).run P W = .ok (.slice a k cap) W := by
  have he : P.elem t = e := by simp [Program.elem, ht]
  obtain ⟨i, h1, h2⟩ : ∃ i, P.info? e = some i ∧ i.size = size := by
    cases hq : P.info? e with
    | none => simp [hq] at hi
    | some i => exact ⟨i, rfl, by simpa [hq] using hi⟩
  rw [run_slice_h (P := P) (w := W) t a n cap (by rw [he]; exact ht) .i64 (k : Int) (by omega) (by omega), he]
  simp [sizeOf, typeInfo, h1, h2, sliced]
  intro _
  cases a with
  | none => rfl
  | some x => obtain ⟨b, off, arr⟩ := x; simp only [Option.map_some, Addr.add]; cases arr <;> simp
theorem run_cut_lh {P : Program} {t e : TypeId} {size : Nat} (ht : P.underlying t = some (.slice e)) (hi : (P.info? e).map (·.size) = some size) (a : Option Addr) (n cap k m : Nat) (hk : k ≤ m) (hm : m ≤ cap) (W : World) (K M : Int) (hK : K = (k : Int)) (hM : M = (m : Int)) :
    (Instr.slice t (.slice a n cap) (some (.int .i64 K)) (some (.int .i64 M)) none).run P W = .ok (.slice (if cap = k then a else a.map (·.add (k * size))) (m - k) (cap - k)) W := by
  subst hK; subst hM
  have he : P.elem t = e := by simp [Program.elem, ht]
  obtain ⟨i, h1, h2⟩ : ∃ i, P.info? e = some i ∧ i.size = size := by
    cases hq : P.info? e with
    | none => simp [hq] at hi
    | some i => exact ⟨i, rfl, by simpa [hq] using hi⟩
  rw [run_slice_lh (P := P) (w := W) t a n cap (by rw [he]; exact ht) .i64 .i64 (k : Int) (m : Int) (by omega) (by omega) (by omega), he]
  simp [sizeOf, typeInfo, h1, h2, sliced]
theorem run_cut_hm {P : Program} {t e : TypeId} {size : Nat} (ht : P.underlying t = some (.slice e)) (hi : (P.info? e).map (·.size) = some size) (a : Option Addr) (n cap m : Nat) (hm : m ≤ cap) (W : World) :
    (Instr.slice t (.slice a n cap) none (some (.int .i64 (m : Int))) (some (.int .i64 (m : Int)))).run P W = .ok (.slice a m m) W := by
  have he : P.elem t = e := by simp [Program.elem, ht]
  obtain ⟨i, h1, h2⟩ : ∃ i, P.info? e = some i ∧ i.size = size := by
    cases hq : P.info? e with
    | none => simp [hq] at hi
    | some i => exact ⟨i, rfl, by simpa [hq] using hi⟩
  rw [run_slice_hm (P := P) (w := W) t a n cap (by rw [he]; exact ht) .i64 .i64 (m : Int) (m : Int) (by omega) (by omega) (by omega), he]
  simp [sizeOf, typeInfo, h1, h2, sliced]
  intro _
  cases a with
  | none => rfl
  | some x => obtain ⟨b, off, arr⟩ := x; simp only [Option.map_some, Addr.add]; cases arr <;> simp
end Go.Proofs.Ytmhdhnipljonlaa
namespace Go.Proofs.Ytmhdhnipljonlaa
open Go.RowKit
set_option linter.unusedSimpArgs false
set_option linter.unusedVariables false
abbrev wrv (x : Wr) (sl : Sl) : Value := .agg #[.int .i64 x.kd, sv x.nm, sv x.tn, slv sl, .int .i64 x.n]
section
variable {w0 w w' : World} {g : Nat} {F B : List Nat} {K : KB} {cs : CF}
theorem TDoes.of {w1 w2 : World} {F' B' : List Nat} {K' : KB} {cs' : CF} {fs' : DF} (h1 : TD w0 w2 g F' B' K' cs') (h2 : Bks w0.heap.size w2 B' K') (h3 : Ext B K B' K') (h4 : dfOf cs' = fs') (hu : Upd [] w w1) (hu2 : Upd (F ++ B) w1 w2) (hf : ∀ x ∈ F', x ∈ F ∨ w.heap.size ≤ x) (hb : ∀ x ∈ B', x ∈ B ∨ w.heap.size ≤ x) : TDoes w0 w g F B K fs' w2 :=
  ⟨F', B', K', cs', h1, h2, h3, h4, hu.trans hu2 (by simp) (fun x hx => .inl hx), hf, hb⟩
theorem ap_full {F : List Nat} {s : Sl} (h : s.k ≤ s.n) : Ap F (gb s) := fun x _ hx => by rw [gb_full h] at hx; simp at hx
theorem wApply_1 (nm tn : ByteArray) (p : List UInt8) (n : Int) (fs : DF) : wApply ⟨1, nm, tn, p, n⟩ fs = tSet strLt fs nm [] := by unfold wApply; simp
theorem wApply_2 (nm tn : ByteArray) (p : List UInt8) (n : Int) (fs : DF) : wApply ⟨2, nm, tn, p, n⟩ fs = tSet strLt fs nm ((dGet fs nm).1 ++ p) := by unfold wApply; simp
theorem wApply_3 (nm tn : ByteArray) (p : List UInt8) (n : Int) (fs : DF) : wApply ⟨3, nm, tn, p, n⟩ fs = if inD fs nm then tSet strLt (tDel strLt fs nm) tn (dGet fs nm).1 else fs := by unfold wApply; simp
theorem wApply_4 (nm tn : ByteArray) (p : List UInt8) (n : Int) (fs : DF) : wApply ⟨4, nm, tn, p, n⟩ fs = tSet strLt fs nm ((dGet fs nm).1.take n.toNat) := by unfold wApply; simp
theorem wApply_5 (nm tn : ByteArray) (p : List UInt8) (n : Int) (fs : DF) : wApply ⟨5, nm, tn, p, n⟩ fs = tDel strLt fs nm := by unfold wApply; simp
theorem later {F : List Nat} {w w2 : World} {x : Nat} (hu : Upd [] w w2) (h : x ∈ F ∨ w2.heap.size ≤ x) : x ∈ F ∨ w.heap.size ≤ x := h.imp id (fun q => by have := hu.size; omega)
set_option maxRecDepth 20000 in
set_option maxHeartbeats 4000000 in
theorem apply_any (x : Wr) (sl : Sl) (hx : WrOk x (dfOf cs)) (ht : TD w0 w g F B K cs) (hB : Bks w0.heap.size w B K) (hp : Sh B K sl x.p) :
    Calls Try.prog 62 #[wrv x sl, .pointer (some ⟨g, 0, none⟩)] w fun e w' => e = .returned (.tuple #[]) ∧ TDoes w0 w g F B K (wApply x (dfOf cs)) w' := by
  obtain ⟨kd, nm, tn, p, n⟩ := x
  obtain ⟨pa, pn, pk⟩ := sl
  obtain ⟨⟨oa, on, ok⟩, old, b, hget, hdg, hin, hsh, hgr, hoth⟩ := ht.found nm
  have hlen : cs.length ≤ 100000 := by have := hx.len; rw [df_len] at this; omega
  have hrl : (rowsF cs).length ≤ 100000 := by rw [rowsF_len]; exact hlen
  have hbase := hB
  have hu1 : Upd [] w (w.alloc (.cells #[.int .i64 kd, sv nm, sv tn, .slice pa pn pk, .int .i64 n] 114)) := (Upd.refl [] w).alloc _
  have HT := Lib.hid (ht.upd0 hu1)
  have HB := Lib.hid (hB.upd hu1 (by simp))
  have HBX := Lib.hid (Blk.new w 114 [.int .i64 kd, sv nm, sv tn, .slice pa pn pk, .int .i64 n])
  have HGET := Lib.hid hget
  have HX := Lib.hid hx
  have HU1 := Lib.hid hu1
  have HSH := Lib.hid hsh
  have HGR := Lib.hid hgr
  have HOTH := Lib.hid hoth
  have HP := Lib.hid hp
  have HDG := Lib.hid hdg
  have HIN := Lib.hid hin
  have HRL := Lib.hid hrl
  have HLEN := Lib.hid hlen
  have hkd := hx.kd
  clear ht hB hget hx hu1 hsh hgr hoth hp hdg hin hbase hrl hlen
  go_enter Try.func62, Try.ntmps62
  go_wp2_with fail
  (with_reducible refine (txSL_Get nm ⟨oa, on, ok⟩ b HT.out.tab HRL.out trivial HGET.out).mono ?_)
  rintro e w2 ⟨rfl, hu2⟩
  have hB2 := HBX.out.upd hu2 (by simp)
  have d0 := hB2.cell 0
  have d1 := hB2.cell 1
  have d2 := hB2.cell 2
  have d3 := hB2.cell 3
  have d4 := hB2.cell 4
  simp only [List.getElem?_cons_zero, List.getElem?_cons_succ] at d0 d1 d2 d3 d4
  have HT2 := Lib.hid (HT.out.upd0 hu2)
  have HB2 := Lib.hid (HB.out.upd hu2 (by simp))
  have HU2 := Lib.hid (HU1.out.seq hu2)
  have HNF : Hid (w.heap.size ∉ F) := fun hx => by
    obtain ⟨C, f, e, h1, h2⟩ := sl_ty HT2.out.tab _ hx
    have := ty_eq h1 hB2
    rcases h2 with h2 | h2 <;> (rw [h2] at this; exact absurd this (by decide))
  have HNB : Hid (w.heap.size ∉ B) := fun hx => by
    obtain ⟨C, f, h1⟩ := HB2.out.typ _ hx
    exact absurd (ty_eq h1 hB2) (by decide)
  clear hB2 hu2 HT HB HBX HU1
  rcases (show kd = 1 ∨ kd = 2 ∨ kd = 3 ∨ kd = 4 ∨ kd = 5 by have := hkd.1; have := hkd.2; omega) with rfl | rfl | rfl | rfl | rfl
  · clear hkd
    go_wp2_with fail
    (with_reducible refine (td_set nm ⟨none, 0, 0⟩ [] HT2.out.tab HB2.out HLEN.out (fun d hd hne => ⟨HT2.out.sh d hd, HT2.out.gr d hd, ap_full (Nat.le_refl _)⟩) HT2.out.ap Sh.nil (Gr.full (Nat.le_refl _))).mono ?_)
    rintro e w3 ⟨⟨r, rfl⟩, F3, h3, hb3, hu3, hf3⟩
    have H9 := Lib.hid (TDoes.of (fs' := wApply ⟨1, nm, tn, p, n⟩ (dfOf cs)) (w := w) (B := B) (K := K) (F := F) h3 hb3 (Ext.refl _ _) (by rw [df_set, wApply_1 nm tn p n]) HU2.out (hu3.mono (fun x hx => .inl (by simp [hx]))) (fun x hx => later HU2.out (hf3 x hx)) (fun x hx => .inl hx))
    clear h3 hb3 hu3 hf3
    go_wp2_with fail
    go_end0
    exact ⟨rfl, H9.out⟩
  · clear hkd
    obtain ⟨hne, hpl⟩ := HX.out.put rfl
    dsimp only at hne hpl
    rw [HDG.out] at hpl
    dsimp only at hpl
    have HRUN : Hid (∀ ty, ∃ v' w', (Builtin.append_ #[27, 27] ty #[slv ⟨oa, on, ok⟩, slv ⟨pa, pn, pk⟩]).run Try.prog w2.drew = .ok v' w' ∧ Grew w0.heap.size w2.drew B K ⟨oa, on, ok⟩ (old ++ p) v' w') := fun ty => app_step (HB2.out.upd (Upd.refl [] w2).drew (by simp)) HSH.out HGR.out (HP.out.rd (HB2.out.upd (Upd.refl [] w2).drew (by simp))) hne (by omega) (by have := HT2.out.tab.old.size; exact this)
    clear hne hpl
    have HFB : Hid (∀ x ∈ F, x ∉ B) := sl_bks HT2.out.tab HB2.out
    go_wp2_with fail
    go_region_held3 (fun w' => w'.cell? ⟨w.heap.size, 1, none⟩ = some (sv nm) ∧ w'.cell? ⟨w.heap.size, 3, none⟩ = some (.slice pa pn pk)) (first | go_keep | exact k5 | exact k4)
      (first
        | ((with_reducible refine step_app_of rfl (.tmp 26) (.tmp 28) rfl (.slice oa on ok) (.slice pa pn pk) rfl rfl (HRUN.out _) ?_); (rintro v3 w3 ⟨⟨sa, sn, sk⟩, B3, K3, rfl, hb3, he3, hn3, hs3, hg3, hu3, ho3⟩; have k4 := And.intro (hu3.cell (p := ⟨w.heap.size, 1, none⟩) d1 HNB.out) (hu3.cell (p := ⟨w.heap.size, 3, none⟩) d3 HNB.out); have HB3 := Lib.hid hb3; have HE3 := Lib.hid he3; have HN3 := Lib.hid hn3; have HS3 := Lib.hid hs3; have HG3 := Lib.hid hg3; have HU3 := Lib.hid hu3; have HO3 := Lib.hid ho3; clear hb3 he3 hn3 hs3 hg3 hu3 ho3; dsimp only))
        | (go_at_call 88; (with_reducible refine (td_set nm ⟨sa, sn, sk⟩ (old ++ p) (HT2.out.tab.upd (S := B) ((Upd.refl [] w2).drew.trans HU3.out (by simp) (fun x hx => .inl hx)) HFB.out (fun x hx => (HB2.out.ge x hx).1)) HB3.out HLEN.out (fun d hd hne => ⟨(HT2.out.sh d hd).ext HE3.out, HO3.out _ _ (HOTH.out d hd hne).1 (HOTH.out d hd hne).2⟩) HT2.out.ap HS3.out HG3.out).mono ?_); (rintro e w4 ⟨⟨r, rfl⟩, F4, h4, hb4, hu4, hf4⟩; have k5 := And.intro (hu4.cell (p := ⟨w.heap.size, 1, none⟩) k4.1 HNF.out) (hu4.cell (p := ⟨w.heap.size, 3, none⟩) k4.2 HNF.out); dsimp only)))
    have hu3' : Upd B w w3 := HU2.out.drew.trans HU3.out (by simp) (fun x hx => .inl hx)
    have H9 : Hid (TDoes w0 w g F B K (wApply ⟨2, nm, tn, p, n⟩ (dfOf cs)) w4) := ⟨F4, B3, K3, _, h4, hb4, HE3.out, by rw [df_set, wApply_2, HDG.out], hu3'.trans hu4 (fun x hx => by simp [hx]) (fun x hx => .inl (by simp [hx])), fun x hx => (hf4 x hx).imp id (fun q => by have := hu3'.size; omega), fun x hx => (HN3.out x hx).imp id (fun q => by have := HU2.out.size; have : w2.drew.heap.size = w2.heap.size := rfl; omega)⟩
    clear h4 hb4 hu4 hf4 hu3'
    go_wp2_with fail
    go_end0
    exact ⟨rfl, H9.out⟩
  · clear hkd
    cases b with
    | false =>
      go_wp2_with fail
      go_end0
      exact ⟨rfl, TDoes.of (w := w) (B := B) (K := K) (F := F) HT2.out HB2.out (Ext.refl _ _) (by rw [wApply_3, HIN.out]; rfl) (Upd.refl _ _) (HU2.out.mono (by simp)) (fun x hx => .inl hx) (fun x hx => .inl hx)⟩
    | true =>
      go_wp2_with fail
      (with_reducible refine (td_del nm HT2.out HB2.out HLEN.out).mono ?_)
      rintro e w3 ⟨⟨r, rfl⟩, F3, h3, hb3, hu3, hf3⟩
      have e2 := hu3.cell d2 (HNF.out)
      have H3 := Lib.hid h3
      have HB3 := Lib.hid hb3
      have HU3 := Lib.hid hu3
      have HF3 := Lib.hid hf3
      clear h3 hb3 hu3 hf3 d0 d1 d2 d3 d4
      have HL3 : Hid (List.length (tDel strLt cs nm) ≤ 100000) := Nat.le_trans (tDel_len cs nm) HLEN.out
      have HO3 : Hid (∀ d ∈ tDel strLt cs nm, Gr B K d.2.1 d.2.2 ∧ Ap (gb d.2.1) (gb ⟨oa, on, ok⟩)) := fun d hd => by
        obtain ⟨h1, h2⟩ := tDel_memS HT2.out.ris nm d hd
        exact HOTH.out d h1 (h2 (by rw [← in_df]; exact HIN.out))
      go_wp2_with fail
      (with_reducible refine (td_set tn ⟨oa, on, ok⟩ old H3.out.tab HB3.out HL3.out (fun d hd hne => ⟨H3.out.sh d hd, HO3.out d hd⟩) H3.out.ap HSH.out HGR.out).mono ?_)
      rintro e w4 ⟨⟨r, rfl⟩, F4, h4, hb4, hu4, hf4⟩
      have H9 : Hid (TDoes w0 w g F B K (wApply ⟨3, nm, tn, p, n⟩ (dfOf cs)) w4) := ⟨F4, B, K, _, h4, hb4, Ext.refl _ _, by rw [df_set, df_del, wApply_3, HIN.out, HDG.out]; rfl, HU2.out.trans (HU3.out.trans (T := F ++ B) hu4 (fun x hx => by simp [hx]) (fun x hx => (HF3.out x hx).imp (fun q => by simp [q]) id)) (by simp) (fun x hx => .inl hx), fun x hx => by
        have := HU2.out.size
        have := HU3.out.size
        rcases hf4 x hx with q | q
        · exact later HU2.out (HF3.out x q)
        · exact .inr (by omega), fun x hx => .inl hx⟩
      clear h4 hb4 hu4 hf4
      go_wp2_with fail
      go_end0
      exact ⟨rfl, H9.out⟩
  · clear hkd
    obtain ⟨h0, hn⟩ := HX.out.cut rfl
    dsimp only at h0 hn
    rw [HDG.out] at hn
    dsimp only at hn
    obtain ⟨m, rfl⟩ := Int.eq_ofNat_of_zero_le h0
    have hml : m ≤ old.length := by omega
    have hmk : m ≤ ok := by have := HSH.out.n; have := HSH.out.k; dsimp only at *; omega
    have hcut := fun W => run_cut_hm (P := Try.prog) (size := 1) Try.underlying27 (by kernel_rfl) oa on ok m hmk W
    have HML := Lib.hid hml
    clear h0 hn hml hmk
    go_wp2_with fail
    go_still_tail 9, (by kernel_rfl)
    change wpList _ _ _ _ _ w2.drew
    go_wp2_with fail
    (with_reducible refine (td_set nm ⟨oa, m, m⟩ (old.take m) (HT2.out.tab.upd0 (Upd.refl [] w2).drew) (HB2.out.upd (Upd.refl [] w2).drew (by simp)) HLEN.out (fun d hd hne => ⟨HT2.out.sh d hd, HT2.out.gr d hd, ap_full (Nat.le_refl _)⟩) HT2.out.ap (HSH.out.cut m HML.out) (Gr.full (Nat.le_refl _))).mono ?_)
    rintro e w3 ⟨⟨r, rfl⟩, F3, h3, hb3, hu3, hf3⟩
    have H9 := Lib.hid (TDoes.of (fs' := wApply ⟨4, nm, tn, p, (m : Int)⟩ (dfOf cs)) (w := w) (B := B) (K := K) (F := F) h3 hb3 (Ext.refl _ _) (by rw [df_set, wApply_4, HDG.out, Int.toNat_natCast]) HU2.out.drew (hu3.mono (fun x hx => .inl (by simp [hx]))) (fun x hx => later HU2.out (hf3 x hx)) (fun x hx => .inl hx))
    clear h3 hb3 hu3 hf3
    go_wp2_with fail
    go_end0
    exact ⟨rfl, H9.out⟩
  · clear hkd
    go_wp2_with fail
    (with_reducible refine (td_del nm HT2.out HB2.out HLEN.out).mono ?_)
    rintro e w3 ⟨⟨r, rfl⟩, F3, h3, hb3, hu3, hf3⟩
    have H9 := Lib.hid (TDoes.of (fs' := wApply ⟨5, nm, tn, p, n⟩ (dfOf cs)) (w := w) (B := B) (K := K) (F := F) h3 hb3 (Ext.refl _ _) (by rw [df_del, wApply_5 nm tn p n]) HU2.out (hu3.mono (fun x hx => .inl (by simp [hx]))) (fun x hx => later HU2.out (hf3 x hx)) (fun x hx => .inl hx))
    clear h3 hb3 hu3 hf3
    go_wp2_with fail
    go_end0
    exact ⟨rfl, H9.out⟩
end
end Go.Proofs.Ytmhdhnipljonlaa
namespace Go.Proofs.Ytmhdhnipljonlaa
open Go.RowKit
set_option linter.unusedSimpArgs false
set_option linter.unusedVariables false
theorem ownN_emptyR {α : Type} (sz : Nat) (c : α → List Value) (base : Nat) (e : TypeId) (W : World) (G : Nat) (h : base ≤ G) (hW : Blk W G e []) : OwnN sz c base e W (.slice (some ⟨G, 0, none⟩) 0 0) [] :=
  ⟨by simp, .inr ⟨G, 0, #[], rfl, h, hW, Nat.le_refl _, Nat.zero_le _, by simp, by simp⟩⟩
theorem RdN.takeR {α : Type} [Inhabited α] {sz : Nat} {c : α → List Value} {w : World} {a : Option Addr} {n cap : Nat} {l : List α} (h : RdN sz c w (.slice a n cap) l) (k : Nat) (hk : k ≤ l.length) : RdN sz c w (.slice a k cap) (l.take k) := by
  obtain ⟨a', cap', he, h1, h2, h3⟩ := h
  injection he with e1 e2 e3; subst e1; subst e3
  refine ⟨a, cap, by rw [List.length_take, Nat.min_eq_left hk], by rw [List.length_take]; omega, h2, fun hne => ?_⟩
  obtain ⟨b, off, rfl, hc⟩ := h3 (fun q => hne (by rw [q]; simp))
  exact ⟨b, off, rfl, fun j hj i hi => by rw [List.length_take] at hj; rw [nth_take _ _ _ (by omega)]; exact hc j (by omega) i hi⟩
theorem RdN.dropR {α : Type} [Inhabited α] {sz : Nat} {c : α → List Value} {w : World} {a : Option Addr} {n cap : Nat} {l : List α} (h : RdN sz c w (.slice a n cap) l) (k : Nat) (hk : k ≤ l.length) :
    RdN sz c w (.slice (if cap = k then a else a.map (·.add (k * sz))) (n - k) (cap - k)) (l.drop k) := by
  obtain ⟨a', cap', he, h1, h2, h3⟩ := h
  injection he with e1 e2 e3; subst e1; subst e2; subst e3
  refine ⟨_, _, by rw [List.length_drop], by rw [List.length_drop]; omega, by omega, fun hne => ?_⟩
  have hlt : k < l.length := by
    rcases Nat.lt_or_ge k l.length with q | q
    · exact q
    · exact absurd (List.drop_eq_nil_of_le q) hne
  obtain ⟨b, off, rfl, hc⟩ := h3 (fun q => by rw [q] at hlt; simp at hlt)
  rw [if_neg (by omega)]
  refine ⟨b, off + k * sz, by simp [add_none], fun j hj i hi => ?_⟩
  rw [List.length_drop] at hj
  have := hc (k + j) (by omega) i hi
  rw [nth_drop]
  rw [show off + k * sz + (j * sz + i) = off + ((k + j) * sz + i) by rw [Nat.add_mul]; omega]
  exact this
theorem OwnN.base_leR {α : Type} {sz : Nat} {c : α → List Value} {base base' : Nat} {e : TypeId} {w : World} {v : Value} {l : List α} (h : OwnN sz c base e w v l) (hb : base' ≤ base) : OwnN sz c base' e w v l := by
  obtain ⟨h1, h2⟩ := h
  refine ⟨h1, ?_⟩
  rcases h2 with h2 | ⟨g, cap, cur, rfl, hb', hg, r⟩
  · exact .inl h2
  · exact .inr ⟨g, cap, cur, rfl, by omega, hg, r⟩
/-- A list of files in blocks that nobody writes. -/
structure RL (w : World) (R : List Nat) (v : Value) (l : List OW) : Prop where
  row : RdN 2 owCells w v l
  vR : ∀ x ∈ blk v, x ∈ R
  dat : ∀ c ∈ l, Bytes w (slv c.2.1) c.2.2
  dR : ∀ c ∈ l, ∀ x ∈ blk (slv c.2.1), x ∈ R
  ris : Rising strLt l
theorem RL.upd {w w' : World} {R : List Nat} {v : Value} {l : List OW} (h : RL w R v l) {S : List Nat} (hu : Upd S w w') (hs : ∀ x ∈ R, x ∉ S) : RL w' R v l :=
  ⟨h.row.upd owCells_len hu (fun x hx => hs x (h.vR x hx)), h.vR, fun c hc => (h.dat c hc).upd hu (fun x hx => hs x (h.dR c hc x hx)), h.dR, h.ris⟩
theorem RL.upd0 {w w' : World} {R : List Nat} {v : Value} {l : List OW} (h : RL w R v l) (hu : Upd [] w w') : RL w' R v l := h.upd hu (by simp)
/-- What a raw write gives. -/
def RDoes (w : World) (R : List Nat) (fs' : DF) (e : Ending) (w' : World) : Prop := ∃ v' R' l', e = .returned v' ∧ RL w' R' v' l' ∧ OwnN 2 owCells w.heap.size 150 w' v' l' ∧ dfOf l' = fs' ∧ Upd [] w w' ∧ (∀ x ∈ R, x ∈ R') ∧ (∀ x ∈ R', x ∈ R ∨ (w.heap.size ≤ x ∧ x < w'.heap.size)) ∧ (∀ c ∈ l', c.2.2 ≠ [] → ∀ x ∈ blk (slv c.2.1), x ∉ blk v')
theorem RDoes.later {w w1 w' : World} {R : List Nat} {fs' : DF} {e : Ending} (hu : Upd [] w w1) (h : RDoes w1 R fs' e w') : RDoes w R fs' e w' := by
  obtain ⟨v', R', l', h1, h2, ho, h3, h4, h5, h6, h7⟩ := h
  exact ⟨v', R', l', h1, h2, ho.base_leR hu.size, h3, hu.seq h4, h5, fun x hx => (h6 x hx).imp id (fun q => ⟨by have := hu.size; omega, q.2⟩), h7⟩
/-- Rows in a new block, over the same bytes or new ones. -/
theorem RDoes.of {w w' : World} {R : List Nat} {v : Value} {l : List OW} (h : RL w R v l) {base : Nat} {v' : Value} {l' : List OW} {fs' : DF} {e : Ending} (he : e = .returned v') (ho : OwnN 2 owCells base 150 w' v' l') (hb : w.heap.size ≤ base) (hu : Upd [] w w') (hfs : dfOf l' = fs') (hr : Rising strLt l')
    (hd : ∀ c ∈ l', c ∈ l ∨ (Bytes w' (slv c.2.1) c.2.2 ∧ (∀ x ∈ blk (slv c.2.1), x ∈ R ∨ (w.heap.size ≤ x ∧ x < w'.heap.size)) ∧ (c.2.2 ≠ [] → ∀ x ∈ blk (slv c.2.1), x ∉ blk v'))) : RDoes w R fs' e w' := by
  refine ⟨v', R ++ (blk v' ++ l'.flatMap fun c => (blk (slv c.2.1))), l', he, ⟨ho.rd owCells_len, fun x hx => by simp [hx], fun c hc => ?_, fun c hc x hx => ?_, hr⟩, ho.base_leR hb, hfs, hu, fun x hx => by simp [hx], fun x hx => ?_, fun c hc hne x hx hy => ?_⟩
  · rcases hd c hc with q | q
    · exact (h.dat c q).upd0 hu
    · exact q.1
  · exact List.mem_append.2 (.inr (List.mem_append.2 (.inr (List.mem_flatMap.2 ⟨c, hc, hx⟩))))
  · rcases List.mem_append.1 hx with q | q
    · exact .inl q
    · rcases List.mem_append.1 q with q | q
      · exact .inr ⟨by have := (ho.ge x q).1; omega, (ho.ge x q).2⟩
      · obtain ⟨c, hc, hx'⟩ := List.mem_flatMap.1 q
        rcases hd c hc with r | r
        · exact .inl (h.dR c r x hx')
        · exact r.2.1 x hx'
  · rcases hd c hc with r | r
    · have h1 := (h.dat c r).lt hne x hx
      have h2 := (ho.ge x hy).1
      omega
    · exact r.2.2 hne x hx hy
theorem set_no {l : List OW} {nm : ByteArray} (y : Sl × List UInt8) (h : isIn strLt l nm = false) : tSet strLt l nm y = l.take (below strLt l nm) ++ [(nm, y)] ++ l.drop (below strLt l nm) := by unfold tSet; rw [h]; simp
section
variable {w : World} {R : List Nat} {v : Value} {l : List OW}
set_option maxRecDepth 20000 in
set_option maxHeartbeats 4000000 in
theorem rMade_1 (nm tn : ByteArray) (p : List UInt8) (n : Int) (pa : Option Addr) (pn pk : Nat) (h : RL w R v l) (hl : l.length ≤ 10000) (hin : isIn strLt l nm = false) :
    Calls Try.prog 93 #[v, wrv ⟨1, nm, tn, p, n⟩ ⟨pa, pn, pk⟩] w (RDoes w R (tSet strLt (dfOf l) nm [])) := by
  obtain ⟨ao0, co0, rfl, hlc, hcm, -⟩ := h.row
  have hcap : co0 ≤ 9223372036854775807 := by unfold maxLen at hcm; omega
  have HB0 := Lib.hid (Blk.new w 148 [.int .i64 1, sv nm, sv tn, .slice pa pn pk, .int .i64 n])
  have HU0 := Lib.hid ((Upd.refl [] w).alloc (.cells #[.int .i64 1, sv nm, sv tn, .slice pa pn pk, .int .i64 n] 148))
  have H := Lib.hid h
  clear h hcm
  go_enter Try.func93, Try.ntmps93
  have hb0 : Blk (w.alloc (.cells #[.int .i64 1, sv nm, sv tn, .slice pa pn pk, .int .i64 n] 148)) w.heap.size 148 [.int .i64 1, sv nm, sv tn, .slice pa pn pk, .int .i64 n] := HB0.out
  have HRUN : Hid (∀ ty (W : World) (G : Nat), G = w.heap.size + 1 → W = (w.alloc (.cells #[.int .i64 1, sv nm, sv tn, .slice pa pn pk, .int .i64 n] 148)).alloc (.cells #[] 150) → ∃ v' w', (Builtin.append_ #[60, 60] ty #[.slice (some ⟨G, 0, none⟩) 0 0, .slice ao0 l.length co0]).run Try.prog W = .ok v' w' ∧ (OwnN 2 owCells (w.heap.size + 1) 150 w' v' l ∧ Upd [] (w.alloc (.cells #[.int .i64 1, sv nm, sv tn, .slice pa pn pk, .int .i64 n] 148)) w')) := by
    rintro ty W G rfl rfl
    have hs : (w.alloc (.cells #[.int .i64 1, sv nm, sv tn, .slice pa pn pk, .int .i64 n] 148)).heap.size = w.heap.size + 1 := by simp
    have hbk := Blk.new (w.alloc (.cells #[.int .i64 1, sv nm, sv tn, .slice pa pn pk, .int .i64 n] 148)) 150 []
    rw [hs] at hbk
    have hu := (Upd.refl [] (w.alloc (.cells #[.int .i64 1, sv nm, sv tn, .slice pa pn pk, .int .i64 n] 148))).alloc (.cells #[] 150)
    obtain ⟨v', w', h1, h2, h3, h4⟩ := run_appN (P := Try.prog) (ty := ty) (base := w.heap.size + 1) owCells_len (by decide) owCells_one undOW infoOW rfl _ (.slice ao0 l.length co0) [] l (ownN_emptyR 2 owCells (w.heap.size + 1) _ _ (w.heap.size + 1) (Nat.le_refl _) hbk) (H.out.row.upd0 owCells_len (HU0.out.seq hu)) (by simp; omega) (by unfold maxLen; simp; omega) (by simp)
    rw [List.nil_append] at h2
    exact ⟨v', w', h1, h2, hu.trans h3 (by simp) (fun y hy => .inr (by simp [blk] at hy; omega))⟩
  clear hb0
  go_wp2_with (at_builtin; go_must (refine wpList_app_of rfl _ _ rfl (.slice (some ⟨w.heap.size + 1, 0, none⟩) 0 0) (.slice ao0 l.length co0) rfl rfl (HRUN.out _ _ _ rfl rfl) ?_; rintro v1 w1 ⟨ho1, hu1⟩; have HO1 := Lib.hid ho1; have HU1 := Lib.hid hu1; obtain ⟨ao, co, rfl, -⟩ := ho1.rd owCells_len; have hb1 := HB0.out.upd hu1 (by simp); have d0 := hb1.cell 0; have d1 := hb1.cell 1; have d2 := hb1.cell 2; have d3 := hb1.cell 3; have d4 := hb1.cell 4; simp only [List.getElem?_cons_zero, List.getElem?_cons_succ] at d0 d1 d2 d3 d4; have HB1 := Lib.hid hb1; clear ho1 hu1 hb1 HRUN; dsimp only))
  (with_reducible refine (rdAt_any w1 _ l nm (HO1.out.rd owCells_len) H.out.ris (by omega)).mono ?_)
  rintro e wq ⟨rfl, huq⟩
  have D1 := Lib.hid (huq.cell d1 (by simp))
  replace d0 := huq.cell d0 (by simp)
  have HOQ := Lib.hid (HO1.out.upd huq (by simp))
  have HUQ := Lib.hid ((HU0.out.seq HU1.out).seq huq)
  generalize atI l nm = ai at *
  obtain ⟨hco, hlco⟩ : co ≤ 9223372036854775807 ∧ l.length ≤ co := by
    obtain ⟨a', k', he, h1, h2, -⟩ := HO1.out.rd owCells_len
    have := (Value.slice.inj he).2.2
    subst this; unfold maxLen at h2; exact ⟨by omega, h1⟩
  have HSQ : Hid (w.heap.size ≤ wq.heap.size) := HUQ.out.size
  have HIN := Lib.hid hin
  clear d1 d2 d3 d4 huq HO1 HU1 HB1 HB0 hin
  go_wp2_with fail
  go_loopw [7] (fun i wr => ∃ k : Nat, k ≤ l.length ∧ i = .int .i64 k ∧ Hid (Upd [] wq wr) ∧ Hid (∀ j, j < k → strLt (nth l j).1 nm = true)) (fun i _ => l.length - (intOf i).toNat)
  case atStart => exact ⟨0, Nat.zero_le _, rfl, Upd.refl _ _, fun j h => absurd h (by omega)⟩
  case round =>
    obtain ⟨k, hk, rfl, hu, hlo⟩ := hrel
    clear d0
    have e1 := hu.out.cell D1.out (by simp)
    by_cases hlt : k < l.length
    · obtain ⟨a', co', he, -, -, hcell⟩ := (HOQ.out.rd owCells_len)
      obtain ⟨lb, loff, e2, hcell⟩ := hcell (by intro h; simp [h] at hlt)
      obtain rfl : ao = some ⟨lb, loff, none⟩ := ((Value.slice.inj he).1).trans e2
      have e3 : wr.cell? ⟨lb, loff + k * 2, none⟩ = some (.string (nth l k).1) := hu.out.cell (hcell k hlt 0 (by omega)) (by simp)
      have q0 : (0 : Int) ≤ k := by omega
      have q1 : (k : Int) < l.length := by omega
      clear he e2 hcell
      cases hcmp : strLt (nth l k).1 nm with
      | true =>
        have HLO : Hid (∀ j, j < k + 1 → strLt (nth l j).1 nm = true) := fun j hj => by
          rcases Nat.lt_or_eq_of_le (Nat.le_of_lt_succ hj) with q | q
          · exact hlo.out j q
          · subst q; exact hcmp
        generalize (nth l k).1 = m at *
        have hc1 := hcmp
        clear hcmp hlo
        go_wp2_with fail
        go_quiet (fail)
        have HU3 := Lib.hid (hu.out.drewN nq)
        generalize wr.drewN nq = w2 at *
        clear hu e1 e3
        go_wp2_with fail
        go_roundw
        case rel => exact ⟨k + 1, by omega, by go_num, HU3, HLO⟩
        case measure => simp [intOf]; omega
      | false =>
        have HAT : Hid (below strLt l nm = k) := below_eq l nm k hk hlo.out (fun _ => hcmp)
        generalize (nth l k).1 = m at *
        have hc1 := hcmp
        clear hcmp hlo
        go_wp2_with fail
        go_quiet (fail)
        have HU3 := Lib.hid (hu.out.drewN nq)
        replace e1 := HU3.out.cell D1.out (by simp)
        generalize wr.drewN nq = w2 at *
        clear hu
        have hb : k ≤ l.length := by omega
        have HR2 := Lib.hid ((HOQ.out.upd HU3.out (by simp)).rd owCells_len)
        have HA1 : Hid (∀ (W : World) (G : Nat), w2.heap.size ≤ G → Upd [] w2 W → Blk W G 150 [] → ∃ v' w', (Builtin.append_ #[60, 60] 60 #[.slice (some ⟨G, 0, none⟩) 0 0, .slice (some ⟨lb, loff, none⟩) k co]).run Try.prog W = .ok v' w' ∧ (OwnN 2 owCells w2.heap.size 150 w' v' (l.take k) ∧ Upd [G] W w' ∧ Upd [] w2 w' ∧ ∃ a1 k1, v' = .slice a1 k k1)) := by
          intro W G hG hU hB
          obtain ⟨v', w', h1, h2, h3, h4⟩ := run_appN (P := Try.prog) (ty := 60) (base := w2.heap.size) owCells_len (by decide) owCells_one undOW infoOW rfl _ (.slice (some ⟨lb, loff, none⟩) k co) [] (l.take k) (ownN_emptyR 2 owCells _ _ W G hG hB) ((HR2.out.takeR k hb).upd0 owCells_len hU) (by simp; omega) (by unfold maxLen; simp; omega) hU.size
          rw [List.nil_append] at h2
          obtain ⟨a1, k1, h5, _⟩ := h2.rd owCells_len
          exact ⟨v', w', h1, h2, h3, hU.trans h3 (by simp) (fun y hy => .inr (by simp [blk] at hy; omega)), a1, k1, by rw [h5, List.length_take, Nat.min_eq_left hb]⟩
        have HA2 : Hid (∀ (W : World) (a1 : Option Addr) (k1 GR : Nat), OwnN 2 owCells w2.heap.size 150 W (.slice a1 k k1) (l.take k) → Upd [] w2 W → (∀ j u, ([.string nm, .slice none 0 0] : List Value)[j]? = some u → W.cell? ⟨GR, j, none⟩ = some u) → ∃ v' w', (Builtin.append_ #[60, 60] 60 #[.slice a1 k k1, .slice (some ⟨GR, 0, none⟩) 1 1]).run Try.prog W = .ok v' w' ∧ (OwnN 2 owCells w2.heap.size 150 w' v' (l.take k ++ [(nm, (⟨none, 0, 0⟩, []))]) ∧ Upd [] w2 w' ∧ ∃ a2 k2, v' = .slice a2 (k + 1) k2)) := by
          intro W a1 k1 GR hO hU hc
          have hr : RdN 2 owCells W (.slice (some ⟨GR, 0, none⟩) 1 1) [(nm, ((⟨none, 0, 0⟩ : Sl), ([] : List UInt8)))] := ⟨_, 1, rfl, by simp, by simp [maxLen], fun _ => ⟨GR, 0, rfl, fun j hj i hi => by
            simp at hj; subst hj
            have hi2 : i = 0 ∨ i = 1 := by omega
            rcases hi2 with rfl | rfl
            · simpa [nth_cons_zero] using hc 0 _ rfl
            · simpa [nth_cons_zero] using hc 1 _ rfl⟩⟩
          obtain ⟨v', w', h1, h2, h3, h4⟩ := run_appN (P := Try.prog) (ty := 60) (base := w2.heap.size) owCells_len (by decide) owCells_one undOW infoOW rfl _ _ (l.take k) [(nm, ((⟨none, 0, 0⟩ : Sl), ([] : List UInt8)))] hO hr (by simp; omega) (by unfold maxLen; simp; omega) hU.size
          obtain ⟨a2, k2, h5, _⟩ := h2.rd owCells_len
          exact ⟨v', w', h1, h2, hU.trans h3 (by simp) (fun y hy => .inr (hO.ge y hy).1), a2, k2, by rw [h5, List.length_append, List.length_take, Nat.min_eq_left hb]; rfl⟩
        obtain ⟨D, hD, hcutD⟩ : ∃ D : Option Addr, D = (if co = k then (some ⟨lb, loff, none⟩) else ((some ⟨lb, loff, none⟩) : Option Addr).map (·.add (k * 2))) ∧ ∀ W, (Instr.slice 60 (.slice (some ⟨lb, loff, none⟩) l.length co) (some (.int .i64 ((k : Nat) : Int))) none none).run Try.prog W = .ok (.slice D (l.length - k) (co - k)) W := ⟨_, rfl, fun W => run_cut (P := Try.prog) undOW sizeOW (some ⟨lb, loff, none⟩) l.length co k hb W⟩
        have HD : Hid (RdN 2 owCells w2 (.slice D (l.length - k) (co - k)) (l.drop k)) := by unfold Hid; rw [hD]; exact HR2.out.dropR k hb
        have HA3 : Hid (∀ (W : World) (a2 : Option Addr) (k2 : Nat), OwnN 2 owCells w2.heap.size 150 W (.slice a2 (k + 1) k2) (l.take k ++ [(nm, ((⟨none, 0, 0⟩ : Sl), ([] : List UInt8)))]) → Upd [] w2 W → ∃ v' w', (Builtin.append_ #[60, 60] 60 #[.slice a2 (k + 1) k2, (.slice D (l.length - k) (co - k))]).run Try.prog W = .ok v' w' ∧ (OwnN 2 owCells w2.heap.size 150 w' v' (l.take k ++ [(nm, ((⟨none, 0, 0⟩ : Sl), ([] : List UInt8)))] ++ l.drop k) ∧ Upd [] w2 w' ∧ ∃ a3 n3 k3, v' = .slice a3 n3 k3)) := by
          intro W a2 k2 hO hU
          obtain ⟨v', w', h1, h2, h3, h4⟩ := run_appN (P := Try.prog) (ty := 60) (base := w2.heap.size) owCells_len (by decide) owCells_one undOW infoOW rfl _ (.slice D (l.length - k) (co - k)) (l.take k ++ [(nm, ((⟨none, 0, 0⟩ : Sl), ([] : List UInt8)))]) (l.drop k) hO (HD.out.upd0 owCells_len hU) (by simp; omega) (by unfold maxLen; simp; omega) hU.size
          obtain ⟨a3, k3, h5, _⟩ := h2.rd owCells_len
          exact ⟨v', w', h1, h2, hU.trans h3 (by simp) (fun y hy => .inr (hO.ge y hy).1), a3, _, k3, h5⟩
        clear hD
        have hcutA : ∀ W, (Instr.slice 60 (.slice (some ⟨lb, loff, none⟩) l.length co) none (some (.int .i64 ((k : Nat) : Int))) none).run Try.prog W = .ok (.slice (some ⟨lb, loff, none⟩) k co) W := fun W => run_cut_h (P := Try.prog) undOW sizeOW (some ⟨lb, loff, none⟩) l.length co k (by omega) W
        go_wp2_with fail
        go_region_held3 (fun w' => w'.cell? ⟨w.heap.size, 1, none⟩ = some (sv nm)) (first | go_keep | exact hkeep3 | exact hkeep2 | exact hkeep)
          (first
                | ((refine step_app_of rfl (.tmp 46) (.tmp 49) rfl (.slice a2 (k + 1) k2) (.slice D (l.length - k) (co - k)) (by rfl) (by rfl) (HA3.out _ a2 k2 ?_ ?_) ?_); (refine OwnN.upd (S := []) ho4 ?_ (by simp); (repeat (first | exact Upd.refl _ _ | apply Upd.drew | apply Upd.drewN | apply Upd.alloc))); (refine hu4.seq ?_; (repeat (first | exact Upd.refl _ _ | apply Upd.drew | apply Upd.drewN | apply Upd.alloc))); (rintro v3 w5 ⟨ho5, hu5, a3, n3, k3, rfl⟩; have hkeep3 := hu5.cell e1 (by simp); dsimp only))
                | ((refine step_app_of rfl (.tmp 41) (.tmp 45) rfl (.slice a1 k k1) (.slice (some ⟨w3.heap.size, 0, none⟩) 1 1) (by rfl) (by rfl) (HA2.out _ a1 k1 (w3.heap.size) ?_ ?_ ?_) ?_); (refine OwnN.upd (S := []) ho3 ?_ (by simp); (repeat (first | exact Upd.refl _ _ | apply Upd.drew | apply Upd.drewN | apply Upd.alloc))); (refine hu23.seq ?_; (repeat (first | exact Upd.refl _ _ | apply Upd.drew | apply Upd.drewN | apply Upd.alloc))); exact fun j u h => ((Upd.refl [] _).drew).cell (cells_new (W := w3) rfl rfl j u h) (by simp); (rintro v2 w4 ⟨ho4, hu4, a2, k2, rfl⟩; have hkeep2 := hu4.cell e1 (by simp); dsimp only))
                | ((refine step_app_of rfl (.tmp 41) (.tmp 45) rfl (.slice a1 k k1) (.slice (some ⟨w2.heap.size + 1, 0, none⟩) 1 1) (by rfl) (by rfl) (HA2.out _ a1 k1 (w2.heap.size + 1) ?_ ?_ ?_) ?_); (refine OwnN.upd (S := []) ho3 ?_ (by simp); (repeat (first | exact Upd.refl _ _ | apply Upd.drew | apply Upd.drewN | apply Upd.alloc))); (refine hu23.seq ?_; (repeat (first | exact Upd.refl _ _ | apply Upd.drew | apply Upd.drewN | apply Upd.alloc))); exact fun j u h => ((Upd.refl [] _).drew).cell (hcr j u h) (by simp); (rintro v2 w4 ⟨ho4, hu4, a2, k2, rfl⟩; have hkeep2 := hu4.cell e1 (by simp); dsimp only))
                | ((refine step_app_of rfl (.tmp 41) (.tmp 45) rfl (.slice a1 k k1) (.slice (some ⟨w2.heap.size, 0, none⟩) 1 1) (by rfl) (by rfl) (HA2.out _ a1 k1 (w2.heap.size) ?_ ?_ ?_) ?_); (refine OwnN.upd (S := []) ho3 ?_ (by simp); (repeat (first | exact Upd.refl _ _ | apply Upd.drew | apply Upd.drewN | apply Upd.alloc))); (refine hu23.seq ?_; (repeat (first | exact Upd.refl _ _ | apply Upd.drew | apply Upd.drewN | apply Upd.alloc))); exact fun j u h => ((Upd.refl [] _).drew).cell (hcr j u h) (by simp); (rintro v2 w4 ⟨ho4, hu4, a2, k2, rfl⟩; have hkeep2 := hu4.cell e1 (by simp); dsimp only))
                | ((refine step_app_of rfl (.tmp 37) (.tmp 40) rfl (.slice (some ⟨w2.heap.size, 0, none⟩) 0 0) (.slice (some ⟨lb, loff, none⟩) k co) (by rfl) (by rfl) (HA1.out _ (w2.heap.size) (by omega) ?_ ?_) ?_); (repeat (first | exact Upd.refl _ _ | apply Upd.drew | apply Upd.drewN | apply Upd.alloc)); (refine Blk.fresh (w := w2) (C := #[]) (xs := []) rfl rfl ?_; (repeat (first | exact Upd.refl _ _ | apply Upd.drew | apply Upd.drewN | apply Upd.alloc))); (rintro v1 w3 ⟨ho3, hu3, hu23, a1, k1, rfl⟩; have hkeep := hu23.cell e1 (by simp); have hcr : ∀ j u, ([.string nm, .slice none 0 0] : List Value)[j]? = some u → w3.cell? ⟨w2.heap.size + 1, j, none⟩ = some u := fun j u h => hu3.cell (((Upd.refl [] _).drew).cell (cells_new (W := w2.alloc (Obj.cells #[] 150)) (by simp) rfl j u h) (by simp)) (by simp); dsimp only))
                | ((refine step_app_of rfl (.tmp 37) (.tmp 40) rfl (.slice (some ⟨w2.heap.size, 0, none⟩) 0 0) (.slice (some ⟨lb, loff, none⟩) k co) (by rfl) (by rfl) (HA1.out _ (w2.heap.size) (by omega) ?_ ?_) ?_); (repeat (first | exact Upd.refl _ _ | apply Upd.drew | apply Upd.drewN | apply Upd.alloc)); (refine Blk.fresh (w := w2) (C := #[]) (xs := []) rfl rfl ?_; (repeat (first | exact Upd.refl _ _ | apply Upd.drew | apply Upd.drewN | apply Upd.alloc))); (rintro v1 w3 ⟨ho3, hu3, hu23, a1, k1, rfl⟩; have hkeep := hu23.cell e1 (by simp); dsimp only))
                | ((refine step_app_of rfl (.tmp 37) (.tmp 40) rfl (.slice (some ⟨w2.heap.size + 1, 0, none⟩) 0 0) (.slice (some ⟨lb, loff, none⟩) k co) (by rfl) (by rfl) (HA1.out _ (w2.heap.size + 1) (by omega) ?_ ?_) ?_); (repeat (first | exact Upd.refl _ _ | apply Upd.drew | apply Upd.drewN | apply Upd.alloc)); (refine Blk.fresh (w := w2.alloc (Obj.cells #[.string nm, .slice none 0 0] 150)) (C := #[]) (xs := []) (by simp) rfl ?_; (repeat (first | exact Upd.refl _ _ | apply Upd.drew | apply Upd.drewN | apply Upd.alloc))); (rintro v1 w3 ⟨ho3, hu3, hu23, a1, k1, rfl⟩; have hkeep := hu23.cell e1 (by simp); have hcr : ∀ j u, ([.string nm, .slice none 0 0] : List Value)[j]? = some u → w3.cell? ⟨w2.heap.size, j, none⟩ = some u := fun j u h => hu3.cell ((((Upd.refl [] _).alloc _).drew).cell (cells_new (W := w2) rfl rfl j u h) (by simp)) (by simp); dsimp only)))
        all_goals
          have HO5 := Lib.hid ho5
          have HU5 := Lib.hid hu5
          clear ho5 hu5
          go_wp2_with fail
          go_ret
          have hset := set_no ((⟨none, 0, 0⟩ : Sl), ([] : List UInt8)) HIN.out
          rw [HAT.out] at hset
          refine RDoes.of H.out rfl HO5.out (by have := HU3.out.size; have := HSQ.out; omega) ((HUQ.out.seq HU3.out).seq HU5.out) ?_ ?_ ?_
          · rw [← hset, df_set]
          · rw [← hset]; exact H.out.ris.set_ strOrd _ _
          · intro c hc
            rw [← hset] at hc
            rcases tSet_mem l nm _ c hc with rfl | q
            · exact .inr ⟨Rd.nil _, fun x hx => by simp [blk] at hx, fun h => absurd rfl h⟩
            · exact .inl q
    · have HAT : Hid (below strLt l nm = k) := below_eq l nm k hk hlo.out (fun h => absurd h hlt)
      have hd : decide (k < l.length) = false := decide_eq_false hlt
      have hd2 : ¬ (k : Int) < l.length := by omega
      clear hlo hlt
      go_wp2_with fail
      go_quiet (fail)
      have HU3 := Lib.hid (hu.out.drewN nq)
      replace e1 := HU3.out.cell D1.out (by simp)
      generalize wr.drewN nq = w2 at *
      clear hu
      have hb : k ≤ l.length := by omega
      have HR2 := Lib.hid ((HOQ.out.upd HU3.out (by simp)).rd owCells_len)
      have HA1 : Hid (∀ (W : World) (G : Nat), w2.heap.size ≤ G → Upd [] w2 W → Blk W G 150 [] → ∃ v' w', (Builtin.append_ #[60, 60] 60 #[.slice (some ⟨G, 0, none⟩) 0 0, .slice ao k co]).run Try.prog W = .ok v' w' ∧ (OwnN 2 owCells w2.heap.size 150 w' v' (l.take k) ∧ Upd [G] W w' ∧ Upd [] w2 w' ∧ ∃ a1 k1, v' = .slice a1 k k1)) := by
        intro W G hG hU hB
        obtain ⟨v', w', h1, h2, h3, h4⟩ := run_appN (P := Try.prog) (ty := 60) (base := w2.heap.size) owCells_len (by decide) owCells_one undOW infoOW rfl _ (.slice ao k co) [] (l.take k) (ownN_emptyR 2 owCells _ _ W G hG hB) ((HR2.out.takeR k hb).upd0 owCells_len hU) (by simp; omega) (by unfold maxLen; simp; omega) hU.size
        rw [List.nil_append] at h2
        obtain ⟨a1, k1, h5, _⟩ := h2.rd owCells_len
        exact ⟨v', w', h1, h2, h3, hU.trans h3 (by simp) (fun y hy => .inr (by simp [blk] at hy; omega)), a1, k1, by rw [h5, List.length_take, Nat.min_eq_left hb]⟩
      have HA2 : Hid (∀ (W : World) (a1 : Option Addr) (k1 GR : Nat), OwnN 2 owCells w2.heap.size 150 W (.slice a1 k k1) (l.take k) → Upd [] w2 W → (∀ j u, ([.string nm, .slice none 0 0] : List Value)[j]? = some u → W.cell? ⟨GR, j, none⟩ = some u) → ∃ v' w', (Builtin.append_ #[60, 60] 60 #[.slice a1 k k1, .slice (some ⟨GR, 0, none⟩) 1 1]).run Try.prog W = .ok v' w' ∧ (OwnN 2 owCells w2.heap.size 150 w' v' (l.take k ++ [(nm, (⟨none, 0, 0⟩, []))]) ∧ Upd [] w2 w' ∧ ∃ a2 k2, v' = .slice a2 (k + 1) k2)) := by
        intro W a1 k1 GR hO hU hc
        have hr : RdN 2 owCells W (.slice (some ⟨GR, 0, none⟩) 1 1) [(nm, ((⟨none, 0, 0⟩ : Sl), ([] : List UInt8)))] := ⟨_, 1, rfl, by simp, by simp [maxLen], fun _ => ⟨GR, 0, rfl, fun j hj i hi => by
          simp at hj; subst hj
          have hi2 : i = 0 ∨ i = 1 := by omega
          rcases hi2 with rfl | rfl
          · simpa [nth_cons_zero] using hc 0 _ rfl
          · simpa [nth_cons_zero] using hc 1 _ rfl⟩⟩
        obtain ⟨v', w', h1, h2, h3, h4⟩ := run_appN (P := Try.prog) (ty := 60) (base := w2.heap.size) owCells_len (by decide) owCells_one undOW infoOW rfl _ _ (l.take k) [(nm, ((⟨none, 0, 0⟩ : Sl), ([] : List UInt8)))] hO hr (by simp; omega) (by unfold maxLen; simp; omega) hU.size
        obtain ⟨a2, k2, h5, _⟩ := h2.rd owCells_len
        exact ⟨v', w', h1, h2, hU.trans h3 (by simp) (fun y hy => .inr (hO.ge y hy).1), a2, k2, by rw [h5, List.length_append, List.length_take, Nat.min_eq_left hb]; rfl⟩
      obtain ⟨D, hD, hcutD⟩ : ∃ D : Option Addr, D = (if co = k then ao else (ao : Option Addr).map (·.add (k * 2))) ∧ ∀ W, (Instr.slice 60 (.slice ao l.length co) (some (.int .i64 ((k : Nat) : Int))) none none).run Try.prog W = .ok (.slice D (l.length - k) (co - k)) W := ⟨_, rfl, fun W => run_cut (P := Try.prog) undOW sizeOW ao l.length co k hb W⟩
      have HD : Hid (RdN 2 owCells w2 (.slice D (l.length - k) (co - k)) (l.drop k)) := by unfold Hid; rw [hD]; exact HR2.out.dropR k hb
      have HA3 : Hid (∀ (W : World) (a2 : Option Addr) (k2 : Nat), OwnN 2 owCells w2.heap.size 150 W (.slice a2 (k + 1) k2) (l.take k ++ [(nm, ((⟨none, 0, 0⟩ : Sl), ([] : List UInt8)))]) → Upd [] w2 W → ∃ v' w', (Builtin.append_ #[60, 60] 60 #[.slice a2 (k + 1) k2, (.slice D (l.length - k) (co - k))]).run Try.prog W = .ok v' w' ∧ (OwnN 2 owCells w2.heap.size 150 w' v' (l.take k ++ [(nm, ((⟨none, 0, 0⟩ : Sl), ([] : List UInt8)))] ++ l.drop k) ∧ Upd [] w2 w' ∧ ∃ a3 n3 k3, v' = .slice a3 n3 k3)) := by
        intro W a2 k2 hO hU
        obtain ⟨v', w', h1, h2, h3, h4⟩ := run_appN (P := Try.prog) (ty := 60) (base := w2.heap.size) owCells_len (by decide) owCells_one undOW infoOW rfl _ (.slice D (l.length - k) (co - k)) (l.take k ++ [(nm, ((⟨none, 0, 0⟩ : Sl), ([] : List UInt8)))]) (l.drop k) hO (HD.out.upd0 owCells_len hU) (by simp; omega) (by unfold maxLen; simp; omega) hU.size
        obtain ⟨a3, k3, h5, _⟩ := h2.rd owCells_len
        exact ⟨v', w', h1, h2, hU.trans h3 (by simp) (fun y hy => .inr (hO.ge y hy).1), a3, _, k3, h5⟩
      clear hD
      have hcutA : ∀ W, (Instr.slice 60 (.slice ao l.length co) none (some (.int .i64 ((k : Nat) : Int))) none).run Try.prog W = .ok (.slice ao k co) W := fun W => run_cut_h (P := Try.prog) undOW sizeOW ao l.length co k (by omega) W
      go_wp2_with fail
      go_region_held3 (fun w' => w'.cell? ⟨w.heap.size, 1, none⟩ = some (sv nm)) (first | go_keep | exact hkeep3 | exact hkeep2 | exact hkeep)
        (first
              | ((refine step_app_of rfl (.tmp 46) (.tmp 49) rfl (.slice a2 (k + 1) k2) (.slice D (l.length - k) (co - k)) (by rfl) (by rfl) (HA3.out _ a2 k2 ?_ ?_) ?_); (refine OwnN.upd (S := []) ho4 ?_ (by simp); (repeat (first | exact Upd.refl _ _ | apply Upd.drew | apply Upd.drewN | apply Upd.alloc))); (refine hu4.seq ?_; (repeat (first | exact Upd.refl _ _ | apply Upd.drew | apply Upd.drewN | apply Upd.alloc))); (rintro v3 w5 ⟨ho5, hu5, a3, n3, k3, rfl⟩; have hkeep3 := hu5.cell e1 (by simp); dsimp only))
              | ((refine step_app_of rfl (.tmp 41) (.tmp 45) rfl (.slice a1 k k1) (.slice (some ⟨w3.heap.size, 0, none⟩) 1 1) (by rfl) (by rfl) (HA2.out _ a1 k1 (w3.heap.size) ?_ ?_ ?_) ?_); (refine OwnN.upd (S := []) ho3 ?_ (by simp); (repeat (first | exact Upd.refl _ _ | apply Upd.drew | apply Upd.drewN | apply Upd.alloc))); (refine hu23.seq ?_; (repeat (first | exact Upd.refl _ _ | apply Upd.drew | apply Upd.drewN | apply Upd.alloc))); exact fun j u h => ((Upd.refl [] _).drew).cell (cells_new (W := w3) rfl rfl j u h) (by simp); (rintro v2 w4 ⟨ho4, hu4, a2, k2, rfl⟩; have hkeep2 := hu4.cell e1 (by simp); dsimp only))
              | ((refine step_app_of rfl (.tmp 41) (.tmp 45) rfl (.slice a1 k k1) (.slice (some ⟨w2.heap.size + 1, 0, none⟩) 1 1) (by rfl) (by rfl) (HA2.out _ a1 k1 (w2.heap.size + 1) ?_ ?_ ?_) ?_); (refine OwnN.upd (S := []) ho3 ?_ (by simp); (repeat (first | exact Upd.refl _ _ | apply Upd.drew | apply Upd.drewN | apply Upd.alloc))); (refine hu23.seq ?_; (repeat (first | exact Upd.refl _ _ | apply Upd.drew | apply Upd.drewN | apply Upd.alloc))); exact fun j u h => ((Upd.refl [] _).drew).cell (hcr j u h) (by simp); (rintro v2 w4 ⟨ho4, hu4, a2, k2, rfl⟩; have hkeep2 := hu4.cell e1 (by simp); dsimp only))
              | ((refine step_app_of rfl (.tmp 41) (.tmp 45) rfl (.slice a1 k k1) (.slice (some ⟨w2.heap.size, 0, none⟩) 1 1) (by rfl) (by rfl) (HA2.out _ a1 k1 (w2.heap.size) ?_ ?_ ?_) ?_); (refine OwnN.upd (S := []) ho3 ?_ (by simp); (repeat (first | exact Upd.refl _ _ | apply Upd.drew | apply Upd.drewN | apply Upd.alloc))); (refine hu23.seq ?_; (repeat (first | exact Upd.refl _ _ | apply Upd.drew | apply Upd.drewN | apply Upd.alloc))); exact fun j u h => ((Upd.refl [] _).drew).cell (hcr j u h) (by simp); (rintro v2 w4 ⟨ho4, hu4, a2, k2, rfl⟩; have hkeep2 := hu4.cell e1 (by simp); dsimp only))
              | ((refine step_app_of rfl (.tmp 37) (.tmp 40) rfl (.slice (some ⟨w2.heap.size, 0, none⟩) 0 0) (.slice ao k co) (by rfl) (by rfl) (HA1.out _ (w2.heap.size) (by omega) ?_ ?_) ?_); (repeat (first | exact Upd.refl _ _ | apply Upd.drew | apply Upd.drewN | apply Upd.alloc)); (refine Blk.fresh (w := w2) (C := #[]) (xs := []) rfl rfl ?_; (repeat (first | exact Upd.refl _ _ | apply Upd.drew | apply Upd.drewN | apply Upd.alloc))); (rintro v1 w3 ⟨ho3, hu3, hu23, a1, k1, rfl⟩; have hkeep := hu23.cell e1 (by simp); have hcr : ∀ j u, ([.string nm, .slice none 0 0] : List Value)[j]? = some u → w3.cell? ⟨w2.heap.size + 1, j, none⟩ = some u := fun j u h => hu3.cell (((Upd.refl [] _).drew).cell (cells_new (W := w2.alloc (Obj.cells #[] 150)) (by simp) rfl j u h) (by simp)) (by simp); dsimp only))
              | ((refine step_app_of rfl (.tmp 37) (.tmp 40) rfl (.slice (some ⟨w2.heap.size, 0, none⟩) 0 0) (.slice ao k co) (by rfl) (by rfl) (HA1.out _ (w2.heap.size) (by omega) ?_ ?_) ?_); (repeat (first | exact Upd.refl _ _ | apply Upd.drew | apply Upd.drewN | apply Upd.alloc)); (refine Blk.fresh (w := w2) (C := #[]) (xs := []) rfl rfl ?_; (repeat (first | exact Upd.refl _ _ | apply Upd.drew | apply Upd.drewN | apply Upd.alloc))); (rintro v1 w3 ⟨ho3, hu3, hu23, a1, k1, rfl⟩; have hkeep := hu23.cell e1 (by simp); dsimp only))
              | ((refine step_app_of rfl (.tmp 37) (.tmp 40) rfl (.slice (some ⟨w2.heap.size + 1, 0, none⟩) 0 0) (.slice ao k co) (by rfl) (by rfl) (HA1.out _ (w2.heap.size + 1) (by omega) ?_ ?_) ?_); (repeat (first | exact Upd.refl _ _ | apply Upd.drew | apply Upd.drewN | apply Upd.alloc)); (refine Blk.fresh (w := w2.alloc (Obj.cells #[.string nm, .slice none 0 0] 150)) (C := #[]) (xs := []) (by simp) rfl ?_; (repeat (first | exact Upd.refl _ _ | apply Upd.drew | apply Upd.drewN | apply Upd.alloc))); (rintro v1 w3 ⟨ho3, hu3, hu23, a1, k1, rfl⟩; have hkeep := hu23.cell e1 (by simp); have hcr : ∀ j u, ([.string nm, .slice none 0 0] : List Value)[j]? = some u → w3.cell? ⟨w2.heap.size, j, none⟩ = some u := fun j u h => hu3.cell ((((Upd.refl [] _).alloc _).drew).cell (cells_new (W := w2) rfl rfl j u h) (by simp)) (by simp); dsimp only)))
      all_goals
        have HO5 := Lib.hid ho5
        have HU5 := Lib.hid hu5
        clear ho5 hu5
        go_wp2_with fail
        go_ret
        have hset := set_no ((⟨none, 0, 0⟩ : Sl), ([] : List UInt8)) HIN.out
        rw [HAT.out] at hset
        refine RDoes.of H.out rfl HO5.out (by have := HU3.out.size; have := HSQ.out; omega) ((HUQ.out.seq HU3.out).seq HU5.out) ?_ ?_ ?_
        · rw [← hset, df_set]
        · rw [← hset]; exact H.out.ris.set_ strOrd _ _
        · intro c hc
          rw [← hset] at hc
          rcases tSet_mem l nm _ c hc with rfl | q
          · exact .inr ⟨Rd.nil _, fun x hx => by simp [blk] at hx, fun h => absurd rfl h⟩
          · exact .inl q
set_option maxRecDepth 20000 in
set_option maxHeartbeats 4000000 in
theorem rMade_5 (nm tn : ByteArray) (p : List UInt8) (n : Int) (pa : Option Addr) (pn pk : Nat) (h : RL w R v l) (hl : l.length ≤ 10000) (hin : isIn strLt l nm = true) :
    Calls Try.prog 93 #[v, wrv ⟨5, nm, tn, p, n⟩ ⟨pa, pn, pk⟩] w (RDoes w R (tDel strLt (dfOf l) nm)) := by
  obtain ⟨ao0, co0, rfl, hlc, hcm, -⟩ := h.row
  have hcap : co0 ≤ 9223372036854775807 := by unfold maxLen at hcm; omega
  have HB0 := Lib.hid (Blk.new w 148 [.int .i64 5, sv nm, sv tn, .slice pa pn pk, .int .i64 n])
  have HU0 := Lib.hid ((Upd.refl [] w).alloc (.cells #[.int .i64 5, sv nm, sv tn, .slice pa pn pk, .int .i64 n] 148))
  have H := Lib.hid h
  clear h hcm
  go_enter Try.func93, Try.ntmps93
  have hb0 : Blk (w.alloc (.cells #[.int .i64 5, sv nm, sv tn, .slice pa pn pk, .int .i64 n] 148)) w.heap.size 148 [.int .i64 5, sv nm, sv tn, .slice pa pn pk, .int .i64 n] := HB0.out
  have HRUN : Hid (∀ ty (W : World) (G : Nat), G = w.heap.size + 1 → W = (w.alloc (.cells #[.int .i64 5, sv nm, sv tn, .slice pa pn pk, .int .i64 n] 148)).alloc (.cells #[] 150) → ∃ v' w', (Builtin.append_ #[60, 60] ty #[.slice (some ⟨G, 0, none⟩) 0 0, .slice ao0 l.length co0]).run Try.prog W = .ok v' w' ∧ (OwnN 2 owCells (w.heap.size + 1) 150 w' v' l ∧ Upd [] (w.alloc (.cells #[.int .i64 5, sv nm, sv tn, .slice pa pn pk, .int .i64 n] 148)) w')) := by
    rintro ty W G rfl rfl
    have hs : (w.alloc (.cells #[.int .i64 5, sv nm, sv tn, .slice pa pn pk, .int .i64 n] 148)).heap.size = w.heap.size + 1 := by simp
    have hbk := Blk.new (w.alloc (.cells #[.int .i64 5, sv nm, sv tn, .slice pa pn pk, .int .i64 n] 148)) 150 []
    rw [hs] at hbk
    have hu := (Upd.refl [] (w.alloc (.cells #[.int .i64 5, sv nm, sv tn, .slice pa pn pk, .int .i64 n] 148))).alloc (.cells #[] 150)
    obtain ⟨v', w', h1, h2, h3, h4⟩ := run_appN (P := Try.prog) (ty := ty) (base := w.heap.size + 1) owCells_len (by decide) owCells_one undOW infoOW rfl _ (.slice ao0 l.length co0) [] l (ownN_emptyR 2 owCells (w.heap.size + 1) _ _ (w.heap.size + 1) (Nat.le_refl _) hbk) (H.out.row.upd0 owCells_len (HU0.out.seq hu)) (by simp; omega) (by unfold maxLen; simp; omega) (by simp)
    rw [List.nil_append] at h2
    exact ⟨v', w', h1, h2, hu.trans h3 (by simp) (fun y hy => .inr (by simp [blk] at hy; omega))⟩
  clear hb0
  go_wp2_with (at_builtin; go_must (refine wpList_app_of rfl _ _ rfl (.slice (some ⟨w.heap.size + 1, 0, none⟩) 0 0) (.slice ao0 l.length co0) rfl rfl (HRUN.out _ _ _ rfl rfl) ?_; rintro v1 w1 ⟨ho1, hu1⟩; have HO1 := Lib.hid ho1; have HU1 := Lib.hid hu1; obtain ⟨ao, co, rfl, -⟩ := ho1.rd owCells_len; have hb1 := HB0.out.upd hu1 (by simp); have d0 := hb1.cell 0; have d1 := hb1.cell 1; have d2 := hb1.cell 2; have d3 := hb1.cell 3; have d4 := hb1.cell 4; simp only [List.getElem?_cons_zero, List.getElem?_cons_succ] at d0 d1 d2 d3 d4; have HB1 := Lib.hid hb1; clear ho1 hu1 hb1 HRUN; dsimp only))
  (with_reducible refine (rdAt_any w1 _ l nm (HO1.out.rd owCells_len) H.out.ris (by omega)).mono ?_)
  rintro e wq ⟨rfl, huq⟩
  have D1 := Lib.hid (huq.cell d1 (by simp))
  have D2 := Lib.hid (huq.cell d2 (by simp))
  have D3 := Lib.hid (huq.cell d3 (by simp))
  have D4 := Lib.hid (huq.cell d4 (by simp))
  replace d0 := huq.cell d0 (by simp)
  have HOQ := Lib.hid (HO1.out.upd huq (by simp))
  have HUQ := Lib.hid ((HU0.out.seq HU1.out).seq huq)
  have hin' : isIn strLt l nm = true := hin
  unfold isIn at hin'
  obtain ⟨hkl, hkn⟩ := of_decide_eq_true hin'
  have hai : atI l nm = (below strLt l nm : Int) := by unfold atI; rw [hin]; rfl
  rw [hai]
  have HKN := Lib.hid hkn
  have HDEL : Hid (tDel strLt l nm = l.take (below strLt l nm) ++ l.drop (below strLt l nm + 1)) := by unfold Hid tDel; rw [hin]; rfl
  obtain ⟨k, hk⟩ : ∃ k, below strLt l nm = k := ⟨_, rfl⟩
  have HK := Lib.hid hk
  rw [hk] at hkl ⊢
  obtain ⟨hco, hlco⟩ : co ≤ 9223372036854775807 ∧ l.length ≤ co := by
    obtain ⟨a', k', he, h1, h2, -⟩ := HO1.out.rd owCells_len
    have := (Value.slice.inj he).2.2
    subst this; unfold maxLen at h2; exact ⟨by omega, h1⟩
  have HSQ : Hid (w.heap.size ≤ wq.heap.size) := HUQ.out.size
  have HIN := Lib.hid hin
  have p0 : (0 : Int) ≤ k := by omega
  have p1 : (k : Int) < l.length := by omega
  have p2 : (k : Int) + 1 ≤ l.length := by omega
  have p3 : (0 : Int) ≤ (k : Int) + 1 := by omega
  have hwr : IntKind.i64.wrap ((k : Int) + 1) = (k : Int) + 1 := by rw [IntKind.wrap_i64]; omega
  clear d1 d2 d3 d4 huq HO1 HU1 HB1 HB0 hin hin' hkn hai hk
  have HR2 := Lib.hid (HOQ.out.rd owCells_len)
  generalize wq = w2 at *
  have hb : k ≤ l.length := by omega
  have HA1 : Hid (∀ (W : World) (G : Nat), w2.heap.size ≤ G → Upd [] w2 W → Blk W G 150 [] → ∃ v' w', (Builtin.append_ #[60, 60] 60 #[.slice (some ⟨G, 0, none⟩) 0 0, .slice ao k co]).run Try.prog W = .ok v' w' ∧ (OwnN 2 owCells w2.heap.size 150 w' v' (l.take k) ∧ Upd [G] W w' ∧ Upd [] w2 w' ∧ ∃ a1 k1, v' = .slice a1 k k1)) := by
    intro W G hG hU hB
    obtain ⟨v', w', h1, h2, h3, h4⟩ := run_appN (P := Try.prog) (ty := 60) (base := w2.heap.size) owCells_len (by decide) owCells_one undOW infoOW rfl _ (.slice ao k co) [] (l.take k) (ownN_emptyR 2 owCells _ _ W G hG hB) ((HR2.out.takeR k hb).upd0 owCells_len hU) (by simp; omega) (by unfold maxLen; simp; omega) hU.size
    rw [List.nil_append] at h2
    obtain ⟨a1, k1, h5, _⟩ := h2.rd owCells_len
    exact ⟨v', w', h1, h2, h3, hU.trans h3 (by simp) (fun y hy => .inr (by simp [blk] at hy; omega)), a1, k1, by rw [h5, List.length_take, Nat.min_eq_left hb]⟩
  obtain ⟨D, hD, hcutD⟩ : ∃ D : Option Addr, D = (if co = k + 1 then ao else ao.map (·.add ((k + 1) * 2))) ∧ ∀ W, (Instr.slice 60 (.slice ao l.length co) (some (.int .i64 ((k : Int) + 1))) none none).run Try.prog W = .ok (.slice D (l.length - (k + 1)) (co - (k + 1))) W := ⟨_, rfl, fun W => by have h := run_cut (P := Try.prog) undOW sizeOW ao l.length co (k + 1) (by omega) W; simpa using h⟩
  have HD : Hid (RdN 2 owCells w2 (.slice D (l.length - (k + 1)) (co - (k + 1))) (l.drop (k + 1))) := by unfold Hid; rw [hD]; exact HR2.out.dropR (k + 1) (by omega)
  have HA3 : Hid (∀ (W : World) (a2 : Option Addr) (k2 : Nat), OwnN 2 owCells w2.heap.size 150 W (.slice a2 (k) k2) (l.take k) → Upd [] w2 W → ∃ v' w', (Builtin.append_ #[60, 60] 60 #[.slice a2 (k) k2, (.slice D (l.length - (k + 1)) (co - (k + 1)))]).run Try.prog W = .ok v' w' ∧ (OwnN 2 owCells w2.heap.size 150 w' v' (l.take k ++ l.drop (k + 1)) ∧ Upd [] w2 w' ∧ ∃ a3 n3 k3, v' = .slice a3 n3 k3)) := by
    intro W a2 k2 hO hU
    obtain ⟨v', w', h1, h2, h3, h4⟩ := run_appN (P := Try.prog) (ty := 60) (base := w2.heap.size) owCells_len (by decide) owCells_one undOW infoOW rfl _ (.slice D (l.length - (k + 1)) (co - (k + 1))) (l.take k) (l.drop (k + 1)) hO (HD.out.upd0 owCells_len hU) (by simp; omega) (by unfold maxLen; simp; omega) hU.size
    obtain ⟨a3, k3, h5, _⟩ := h2.rd owCells_len
    exact ⟨v', w', h1, h2, hU.trans h3 (by simp) (fun y hy => .inr (hO.ge y hy).1), a3, _, k3, h5⟩
  clear hD
  have hcutA : ∀ W, (Instr.slice 60 (.slice ao l.length co) none (some (.int .i64 (k : Int))) none).run Try.prog W = .ok (.slice ao k co) W := fun W => run_cut_h (P := Try.prog) undOW sizeOW ao l.length co k (by omega) W
  go_wp2_with fail
  go_region_held3 (fun w' => True) (trivial) (first
        | ((refine step_app_of rfl (.tmp 126) (.tmp 130) rfl (.slice a1 k k1) (.slice D (l.length - (k + 1)) (co - (k + 1))) (by rfl) (by rfl) (HA3.out _ a1 k1 ?_ ?_) ?_); (refine OwnN.upd (S := []) ho3 ?_ (by simp); (repeat (first | exact Upd.refl _ _ | apply Upd.drew | apply Upd.drewN | apply Upd.alloc))); (refine hu23.seq ?_; (repeat (first | exact Upd.refl _ _ | apply Upd.drew | apply Upd.drewN | apply Upd.alloc))); (rintro v3 w5 ⟨ho5, hu5, a3, n3, k3, rfl⟩; skip; dsimp only))
        | ((refine step_app_of rfl (.tmp 122) (.tmp 125) rfl (.slice (some ⟨w2.heap.size, 0, none⟩) 0 0) (.slice ao k co) (by rfl) (by rfl) (HA1.out _ (w2.heap.size) (by omega) ?_ ?_) ?_); (repeat (first | exact Upd.refl _ _ | apply Upd.drew | apply Upd.drewN | apply Upd.alloc)); (refine Blk.fresh (w := w2) (C := #[]) (xs := []) rfl rfl ?_; (repeat (first | exact Upd.refl _ _ | apply Upd.drew | apply Upd.drewN | apply Upd.alloc))); (rintro v1 w3 ⟨ho3, hu3, hu23, a1, k1, rfl⟩; skip; dsimp only)))
  have HO5 := Lib.hid ho5
  have HU5 := Lib.hid hu5
  clear ho5 hu5
  go_wp2_with fail
  go_ret
  have hset := HDEL.out
  rw [HK.out] at hset
  refine RDoes.of H.out rfl HO5.out HSQ.out (HUQ.out.seq HU5.out) ?_ ?_ ?_
  · rw [← hset, df_del]
  · rw [← hset]; exact H.out.ris.del strOrd _
  · intro c hc
    rw [← hset] at hc
    exact .inl (tDel_mem l nm c hc)
end
end Go.Proofs.Ytmhdhnipljonlaa
namespace Go.Proofs.Ytmhdhnipljonlaa
open Go.RowKit
set_option linter.unusedSimpArgs false
set_option linter.unusedVariables false
theorem OwnN.frozenR {α : Type} {sz : Nat} {c : α → List Value} {base : Nat} {e : TypeId} {w : World} {g n cap : Nat} {l : List α} (h : OwnN sz c base e w (.slice (some ⟨g, 0, none⟩) n cap) l) (k : Nat) : w.frozen? ⟨g, k, none⟩ = false := by
  obtain ⟨h1, h2⟩ := h
  rcases h2 with ⟨he, _⟩ | ⟨g', cap', cur, he, hb, hg, hc, hm, hs, ht⟩
  · simp at he
  · injection he with e1 e2 e3
    injection e1 with e1; injection e1 with e1
    subst e1
    exact frozen_of_row w g k cur e hg
theorem OwnN.cellR {α : Type} [Inhabited α] {sz : Nat} {c : α → List Value} {base : Nat} {e : TypeId} {w : World} {g n cap : Nat} {l : List α} (hsz : ∀ x, (c x).length = sz) (h : OwnN sz c base e w (.slice (some ⟨g, 0, none⟩) n cap) l) (j i : Nat) (hj : j < l.length) (hi : i < sz) : w.cell? ⟨g, j * sz + i, none⟩ = (c (nth l j))[i]? := by
  obtain ⟨a', cap', he, _, _, h3⟩ := h.rd hsz
  obtain ⟨b, off, hb, hc⟩ := h3 (fun q => by rw [q] at hj; simp at hj)
  have e1 : some (⟨g, 0, none⟩ : Addr) = a' := (Value.slice.inj he).1
  have e2 := Option.some.inj (e1.trans hb)
  injection e2 with e2 e3
  subst e2; subst e3
  have := hc j hj i hi
  rwa [Nat.zero_add] at this
theorem OwnN.addrR {α : Type} {sz : Nat} {c : α → List Value} {base : Nat} {e : TypeId} {w : World} {ao : Option Addr} {n cap : Nat} {l : List α} (h : OwnN sz c base e w (.slice ao n cap) l) (hne : 0 < l.length) (hn : n = l.length) : ∃ g, ao = some ⟨g, 0, none⟩ ∧ base ≤ g ∧ g < w.heap.size ∧ ∃ C f, w.heap[g]? = some (.cells C e f) := by
  rcases h.2 with ⟨he, h0⟩ | ⟨g, cap', cur, he, hb, hg, hc, hm, hs, ht⟩
  · omega
  · exact ⟨g, (Value.slice.inj he).1, hb, (Array.getElem?_eq_some_iff.1 hg).1, _, _, hg⟩
theorem own_emptyR (base : Nat) (W : World) (G : Nat) (h : base ≤ G) (hW : Blk W G 5 []) : Own bv base 5 W (.slice (some ⟨G, 0, none⟩) 0 0) [] :=
  ⟨by simp, .inr ⟨G, 0, #[], rfl, h, hW, Nat.le_refl _, Nat.zero_le _, by simp, by simp⟩⟩
theorem set_yes {l : List OW} {nm : ByteArray} (y : Sl × List UInt8) (k : Nat) (h : isIn strLt l nm = true) (hk : below strLt l nm = k) (hn : (nth l (below strLt l nm)).1 = nm) : tSet strLt l nm y = l.set k (nm, y) := by rw [tSet_in l nm y h, hn, hk]
section
variable {w : World} {R : List Nat} {v : Value} {l : List OW}
set_option maxRecDepth 20000 in
set_option maxHeartbeats 4000000 in
theorem rMade_4 (nm tn : ByteArray) (p : List UInt8) (m : Nat) (pa : Option Addr) (pn pk : Nat) (h : RL w R v l) (hl : l.length ≤ 10000) (hin : isIn strLt l nm = true) (old0 : List UInt8) (hold0 : (nth l (below strLt l nm)).2.2 = old0) (hm : m ≤ old0.length) (hsz : old0.length ≤ 100000000) :
    Calls Try.prog 93 #[v, wrv ⟨4, nm, tn, p, (m : Int)⟩ ⟨pa, pn, pk⟩] w (RDoes w R (tSet strLt (dfOf l) nm (old0.take m))) := by
  obtain ⟨ao0, co0, rfl, hlc, hcm, -⟩ := h.row
  have hcap : co0 ≤ 9223372036854775807 := by unfold maxLen at hcm; omega
  have HB0 := Lib.hid (Blk.new w 148 [.int .i64 4, sv nm, sv tn, .slice pa pn pk, .int .i64 (m : Int)])
  have HU0 := Lib.hid ((Upd.refl [] w).alloc (.cells #[.int .i64 4, sv nm, sv tn, .slice pa pn pk, .int .i64 (m : Int)] 148))
  have H := Lib.hid h
  clear h hcm
  go_enter Try.func93, Try.ntmps93
  have hb0 : Blk (w.alloc (.cells #[.int .i64 4, sv nm, sv tn, .slice pa pn pk, .int .i64 (m : Int)] 148)) w.heap.size 148 [.int .i64 4, sv nm, sv tn, .slice pa pn pk, .int .i64 (m : Int)] := HB0.out
  have HRUN : Hid (∀ ty (W : World) (G : Nat), G = w.heap.size + 1 → W = (w.alloc (.cells #[.int .i64 4, sv nm, sv tn, .slice pa pn pk, .int .i64 (m : Int)] 148)).alloc (.cells #[] 150) → ∃ v' w', (Builtin.append_ #[60, 60] ty #[.slice (some ⟨G, 0, none⟩) 0 0, .slice ao0 l.length co0]).run Try.prog W = .ok v' w' ∧ (OwnN 2 owCells (w.heap.size + 1) 150 w' v' l ∧ Upd [] (w.alloc (.cells #[.int .i64 4, sv nm, sv tn, .slice pa pn pk, .int .i64 (m : Int)] 148)) w')) := by
    rintro ty W G rfl rfl
    have hs : (w.alloc (.cells #[.int .i64 4, sv nm, sv tn, .slice pa pn pk, .int .i64 (m : Int)] 148)).heap.size = w.heap.size + 1 := by simp
    have hbk := Blk.new (w.alloc (.cells #[.int .i64 4, sv nm, sv tn, .slice pa pn pk, .int .i64 (m : Int)] 148)) 150 []
    rw [hs] at hbk
    have hu := (Upd.refl [] (w.alloc (.cells #[.int .i64 4, sv nm, sv tn, .slice pa pn pk, .int .i64 (m : Int)] 148))).alloc (.cells #[] 150)
    obtain ⟨v', w', h1, h2, h3, h4⟩ := run_appN (P := Try.prog) (ty := ty) (base := w.heap.size + 1) owCells_len (by decide) owCells_one undOW infoOW rfl _ (.slice ao0 l.length co0) [] l (ownN_emptyR 2 owCells (w.heap.size + 1) _ _ (w.heap.size + 1) (Nat.le_refl _) hbk) (H.out.row.upd0 owCells_len (HU0.out.seq hu)) (by simp; omega) (by unfold maxLen; simp; omega) (by simp)
    rw [List.nil_append] at h2
    exact ⟨v', w', h1, h2, hu.trans h3 (by simp) (fun y hy => .inr (by simp [blk] at hy; omega))⟩
  clear hb0
  go_wp2_with (at_builtin; go_must (refine wpList_app_of rfl _ _ rfl (.slice (some ⟨w.heap.size + 1, 0, none⟩) 0 0) (.slice ao0 l.length co0) rfl rfl (HRUN.out _ _ _ rfl rfl) ?_; rintro v1 w1 ⟨ho1, hu1⟩; have HO1 := Lib.hid ho1; have HU1 := Lib.hid hu1; obtain ⟨ao, co, rfl, -⟩ := ho1.rd owCells_len; have hb1 := HB0.out.upd hu1 (by simp); have d0 := hb1.cell 0; have d1 := hb1.cell 1; have d2 := hb1.cell 2; have d3 := hb1.cell 3; have d4 := hb1.cell 4; simp only [List.getElem?_cons_zero, List.getElem?_cons_succ] at d0 d1 d2 d3 d4; have HB1 := Lib.hid hb1; clear ho1 hu1 hb1 HRUN; dsimp only))
  (with_reducible refine (rdAt_any w1 _ l nm (HO1.out.rd owCells_len) H.out.ris (by omega)).mono ?_)
  rintro e wq ⟨rfl, huq⟩
  have D1 := Lib.hid (huq.cell d1 (by simp))
  have D2 := Lib.hid (huq.cell d2 (by simp))
  have D3 := Lib.hid (huq.cell d3 (by simp))
  have D4 := Lib.hid (huq.cell d4 (by simp))
  replace d0 := huq.cell d0 (by simp)
  have HOQ := Lib.hid (HO1.out.upd huq (by simp))
  have HUQ := Lib.hid ((HU0.out.seq HU1.out).seq huq)
  have hin' : isIn strLt l nm = true := hin
  unfold isIn at hin'
  obtain ⟨hkl, hkn⟩ := of_decide_eq_true hin'
  have hai : atI l nm = (below strLt l nm : Int) := by unfold atI; rw [hin]; rfl
  rw [hai]
  have HKN := Lib.hid hkn
  have HDEL : Hid (tDel strLt l nm = l.take (below strLt l nm) ++ l.drop (below strLt l nm + 1)) := by unfold Hid tDel; rw [hin]; rfl
  obtain ⟨k, hk⟩ : ∃ k, below strLt l nm = k := ⟨_, rfl⟩
  have HK := Lib.hid hk
  rw [hk] at hkl ⊢
  obtain ⟨hco, hlco⟩ : co ≤ 9223372036854775807 ∧ l.length ≤ co := by
    obtain ⟨a', k', he, h1, h2, -⟩ := HO1.out.rd owCells_len
    have := (Value.slice.inj he).2.2
    subst this; unfold maxLen at h2; exact ⟨by omega, h1⟩
  have HSQ : Hid (w.heap.size ≤ wq.heap.size) := HUQ.out.size
  have HIN := Lib.hid hin
  have p0 : (0 : Int) ≤ k := by omega
  have p1 : (k : Int) < l.length := by omega
  have p2 : (k : Int) + 1 ≤ l.length := by omega
  have p3 : (0 : Int) ≤ (k : Int) + 1 := by omega
  have hwr : IntKind.i64.wrap ((k : Int) + 1) = (k : Int) + 1 := by rw [IntKind.wrap_i64]; omega
  clear d1 d2 d3 d4 huq HO1 HU1 HB1 HB0 hin hin' hkn hai hk
  obtain ⟨g, rfl, hg1, hg2, Cg, fg, hgt⟩ := HOQ.out.addrR (by omega) rfl
  have hne2 : ¬ g = w.heap.size := by omega
  obtain ⟨⟨xn, ⟨oa, on, ok⟩, old⟩, hx⟩ : ∃ x, nth l k = x := ⟨_, rfl⟩
  have hxm : (xn, ((⟨oa, on, ok⟩ : Sl), old)) ∈ l := by rw [← hx, nth_get l k hkl]; exact List.getElem_mem _
  have hxn : xn = nm := by have := HKN.out; rw [HK.out, hx] at this; exact this
  subst hxn
  have HOLD : Hid (Bytes wq (.slice oa on ok) old) := (H.out.dat _ hxm).upd0 HUQ.out
  have hon : on = old.length := by
    obtain ⟨a', k', he, -⟩ := HOLD.out
    exact (Value.slice.inj he).2.1
  subst hon
  have hok : ok ≤ 9223372036854775807 ∧ old.length ≤ ok := by
    obtain ⟨a', k', he, h1, h2, -⟩ := HOLD.out
    have := (Value.slice.inj he).2.2
    subst this; unfold maxLen at h2; exact ⟨by omega, h1⟩
  obtain ⟨hok, hok2⟩ := hok
  have HX := Lib.hid hx
  have CR : Hid (wq.cell? ⟨g, k * 2 + 1, none⟩ = some (.slice oa old.length ok)) := by
    have := HOQ.out.cellR owCells_len k 1 hkl (by omega)
    rw [hx] at this; exact this
  have FR : Hid (∀ W, Upd [] wq W → W.frozen? ⟨g, k * 2 + 1, none⟩ = false) := fun W hW => (HOQ.out.upd hW (by simp)).frozenR _
  have HGT : Hid (∀ b, (∃ C f, wq.heap[b]? = some (.cells C 5 f)) → b ≠ g) := fun b hb he => by
    obtain ⟨C, f, hb⟩ := hb
    subst he
    exact absurd (ty_eq hb hgt) (by decide)
  have HG1 := Lib.hid hg1
  have HG2 := Lib.hid hg2
  have HXM := Lib.hid hxm
  clear hgt hg1 hx hxm hg2
  have HR1 : Hid (∀ (ty : TypeId) (W : World) (s : Option Addr) (m kk : Nat) (q : List UInt8), Upd [] wq W → Blk W wq.heap.size 5 [] → Bytes W (.slice s m kk) q → q.length ≤ 1000000000 → ∃ v' w', (Builtin.append_ #[27, 27] ty #[.slice (some ⟨wq.heap.size, 0, none⟩) 0 0, .slice s m kk]).run Try.prog W = .ok v' w' ∧ (Own bv wq.heap.size 5 w' v' q ∧ Upd [] wq w' ∧ ∃ a1 n1 k1, v' = .slice a1 n1 k1)) := by
    intro ty W s m kk q hU hB hq hql
    obtain ⟨v', w', h1, h2, h3, h4⟩ := run_app (P := Try.prog) (w := W) (ty := ty) bv_one Try.underlying27 infoB8 rfl _ (.slice s m kk) [] q (own_emptyR wq.heap.size W wq.heap.size (Nat.le_refl _) hB) hq (by simp; omega) (by simp [maxLen]; omega) hU.size
    rw [List.nil_append] at h2
    obtain ⟨a1, k1, h5, _⟩ := h2.rd
    exact ⟨v', w', h1, h2, hU.trans h3 (by simp) (fun y hy => .inr (by simp [blk] at hy; omega)), a1, _, k1, h5⟩
  obtain rfl : old = old0 := by rw [← hold0, HK.out, HX.out]
  clear hold0
  have hcutA : ∀ W, (Instr.slice 27 (.slice oa old.length ok) none (some (.int .i64 (m : Int))) none).run Try.prog W = .ok (.slice oa m ok) W := fun W => run_cut_h (P := Try.prog) (size := 1) Try.underlying27 (by kernel_rfl) oa old.length ok m (by omega) W
  have HCT : Hid (∀ W, Upd [] wq W → Bytes W (.slice oa m ok) (old.take m)) := fun W hW => (HOLD.out.upd0 hW).take m hm
  have HTL : Hid ((old.take m).length ≤ 1000000000) := by unfold Hid; rw [List.length_take]; omega
  have c1 := CR.out
  have c1' : (wq.alloc (Obj.cells #[] 5)).cell? ⟨g, k * 2 + 1, none⟩ = some (.slice oa old.length ok) := ((Upd.refl [] wq).alloc _).cell c1 (by simp)
  have d4 := D4.out
  have d4' : (wq.alloc (Obj.cells #[] 5)).cell? ⟨w.heap.size, 4, none⟩ = some (.int .i64 (m : Int)) := ((Upd.refl [] wq).alloc _).cell d4 (by simp)
  have m0 : (0 : Int) ≤ m := by omega
  have m1 : (m : Int) ≤ ok := by omega
  go_wp2_with fail
  go_region_law (first
    | ((refine step_app_of rfl (.tmp 108) (.tmp 116) rfl (.slice (some ⟨wq.heap.size, 0, none⟩) 0 0) (.slice oa m ok) (by rfl) (by rfl) (HR1.out _ _ oa m ok (old.take m) ?_ ?_ (HCT.out _ ?_) HTL.out) ?_); (repeat (first | exact Upd.refl _ _ | apply Upd.drew | apply Upd.drewN | apply Upd.alloc)); (refine Blk.fresh (w := wq) (C := #[]) (xs := []) rfl rfl ?_; (repeat (first | exact Upd.refl _ _ | apply Upd.drew | apply Upd.drewN | apply Upd.alloc))); (repeat (first | exact Upd.refl _ _ | apply Upd.drew | apply Upd.drewN | apply Upd.alloc)); (rintro v9 w9 ⟨ho9, hu9, a9, n9, k9, rfl⟩; have c9 := hu9.cell c1 (by simp); have f9 := FR.out w9 hu9; dsimp only)))
  all_goals
    have HO9 := Lib.hid ho9
    have HU9 := Lib.hid hu9
    clear ho9 hu9
    go_wp2_with fail
    go_ret
    have hset := set_yes (l := l) (nm := xn) ((⟨a9, n9, k9⟩ : Sl), old.take m) k HIN.out HK.out HKN.out
    have hst : Upd [g] w9 ((w9).setCell ⟨g, k * 2 + 1, none⟩ (.slice a9 n9 k9)) := (Upd.refl [g] _).setCell _ _ (.inl (by simp))
    have hrow := (HOQ.out.upd HU9.out (by simp)).set_ owCells_len k 1 hkl (by omega) (.slice a9 n9 k9) (xn, ((⟨a9, n9, k9⟩ : Sl), old.take m)) (by have := HX.out; rw [nth_get l k hkl] at this; rw [this]; rfl)
    rw [← hset] at hrow
    have hgw : w.heap.size ≤ g := by have := HG1.out; omega
    refine RDoes.of H.out rfl hrow (by omega) ((HUQ.out.seq HU9.out).trans hst (by simp) (fun y hy => .inr (by simp at hy; omega))) ?_ ?_ ?_
    · rw [df_set]
    · exact H.out.ris.set_ strOrd _ _
    · intro c hc
      rcases tSet_mem l xn _ c hc with rfl | q
      · refine .inr ⟨(HO9.out.upd hst (fun x hx hy => ?_)).rd, fun x hx => .inr ?_, fun _ x hx hy => ?_⟩
        · simp at hy; subst hy
          have h1 := (HO9.out.ge _ hx).1
          have h2 := HG2.out
          omega
        · have h1 := HO9.out.ge _ hx
          have h2 := HSQ.out
          exact ⟨by omega, by simpa using h1.2⟩
        · simp [blk] at hy; subst hy
          have h1 := (HO9.out.ge _ hx).1
          have h2 := HG2.out
          omega
      · exact .inl q
end
end Go.Proofs.Ytmhdhnipljonlaa
namespace Go.Proofs.Ytmhdhnipljonlaa
open Go.RowKit
set_option linter.unusedSimpArgs false
set_option linter.unusedVariables false
section
variable {w : World} {R : List Nat} {v : Value} {l : List OW}
set_option maxRecDepth 20000 in
set_option maxHeartbeats 4000000 in
theorem rMade_2 (nm tn : ByteArray) (p : List UInt8) (n : Int) (pa : Option Addr) (pn pk : Nat) (h : RL w R v l) (hl : l.length ≤ 10000) (hp : Bytes w (.slice pa pn pk) p) (hin : isIn strLt l nm = true) (old0 : List UInt8) (hold0 : (nth l (below strLt l nm)).2.2 = old0) (hsz : old0.length + p.length ≤ 100000000) :
    Calls Try.prog 93 #[v, wrv ⟨2, nm, tn, p, n⟩ ⟨pa, pn, pk⟩] w (RDoes w R (tSet strLt (dfOf l) nm (old0 ++ p))) := by
  have HP := Lib.hid hp
  clear hp
  obtain ⟨ao0, co0, rfl, hlc, hcm, -⟩ := h.row
  have hcap : co0 ≤ 9223372036854775807 := by unfold maxLen at hcm; omega
  have HB0 := Lib.hid (Blk.new w 148 [.int .i64 2, sv nm, sv tn, .slice pa pn pk, .int .i64 n])
  have HU0 := Lib.hid ((Upd.refl [] w).alloc (.cells #[.int .i64 2, sv nm, sv tn, .slice pa pn pk, .int .i64 n] 148))
  have H := Lib.hid h
  clear h hcm
  go_enter Try.func93, Try.ntmps93
  have hb0 : Blk (w.alloc (.cells #[.int .i64 2, sv nm, sv tn, .slice pa pn pk, .int .i64 n] 148)) w.heap.size 148 [.int .i64 2, sv nm, sv tn, .slice pa pn pk, .int .i64 n] := HB0.out
  have HRUN : Hid (∀ ty (W : World) (G : Nat), G = w.heap.size + 1 → W = (w.alloc (.cells #[.int .i64 2, sv nm, sv tn, .slice pa pn pk, .int .i64 n] 148)).alloc (.cells #[] 150) → ∃ v' w', (Builtin.append_ #[60, 60] ty #[.slice (some ⟨G, 0, none⟩) 0 0, .slice ao0 l.length co0]).run Try.prog W = .ok v' w' ∧ (OwnN 2 owCells (w.heap.size + 1) 150 w' v' l ∧ Upd [] (w.alloc (.cells #[.int .i64 2, sv nm, sv tn, .slice pa pn pk, .int .i64 n] 148)) w')) := by
    rintro ty W G rfl rfl
    have hs : (w.alloc (.cells #[.int .i64 2, sv nm, sv tn, .slice pa pn pk, .int .i64 n] 148)).heap.size = w.heap.size + 1 := by simp
    have hbk := Blk.new (w.alloc (.cells #[.int .i64 2, sv nm, sv tn, .slice pa pn pk, .int .i64 n] 148)) 150 []
    rw [hs] at hbk
    have hu := (Upd.refl [] (w.alloc (.cells #[.int .i64 2, sv nm, sv tn, .slice pa pn pk, .int .i64 n] 148))).alloc (.cells #[] 150)
    obtain ⟨v', w', h1, h2, h3, h4⟩ := run_appN (P := Try.prog) (ty := ty) (base := w.heap.size + 1) owCells_len (by decide) owCells_one undOW infoOW rfl _ (.slice ao0 l.length co0) [] l (ownN_emptyR 2 owCells (w.heap.size + 1) _ _ (w.heap.size + 1) (Nat.le_refl _) hbk) (H.out.row.upd0 owCells_len (HU0.out.seq hu)) (by simp; omega) (by unfold maxLen; simp; omega) (by simp)
    rw [List.nil_append] at h2
    exact ⟨v', w', h1, h2, hu.trans h3 (by simp) (fun y hy => .inr (by simp [blk] at hy; omega))⟩
  clear hb0
  go_wp2_with (at_builtin; go_must (refine wpList_app_of rfl _ _ rfl (.slice (some ⟨w.heap.size + 1, 0, none⟩) 0 0) (.slice ao0 l.length co0) rfl rfl (HRUN.out _ _ _ rfl rfl) ?_; rintro v1 w1 ⟨ho1, hu1⟩; have HO1 := Lib.hid ho1; have HU1 := Lib.hid hu1; obtain ⟨ao, co, rfl, -⟩ := ho1.rd owCells_len; have hb1 := HB0.out.upd hu1 (by simp); have d0 := hb1.cell 0; have d1 := hb1.cell 1; have d2 := hb1.cell 2; have d3 := hb1.cell 3; have d4 := hb1.cell 4; simp only [List.getElem?_cons_zero, List.getElem?_cons_succ] at d0 d1 d2 d3 d4; have HB1 := Lib.hid hb1; clear ho1 hu1 hb1 HRUN; dsimp only))
  (with_reducible refine (rdAt_any w1 _ l nm (HO1.out.rd owCells_len) H.out.ris (by omega)).mono ?_)
  rintro e wq ⟨rfl, huq⟩
  have D1 := Lib.hid (huq.cell d1 (by simp))
  have D2 := Lib.hid (huq.cell d2 (by simp))
  have D3 := Lib.hid (huq.cell d3 (by simp))
  have D4 := Lib.hid (huq.cell d4 (by simp))
  replace d0 := huq.cell d0 (by simp)
  have HOQ := Lib.hid (HO1.out.upd huq (by simp))
  have HUQ := Lib.hid ((HU0.out.seq HU1.out).seq huq)
  have hin' : isIn strLt l nm = true := hin
  unfold isIn at hin'
  obtain ⟨hkl, hkn⟩ := of_decide_eq_true hin'
  have hai : atI l nm = (below strLt l nm : Int) := by unfold atI; rw [hin]; rfl
  rw [hai]
  have HKN := Lib.hid hkn
  have HDEL : Hid (tDel strLt l nm = l.take (below strLt l nm) ++ l.drop (below strLt l nm + 1)) := by unfold Hid tDel; rw [hin]; rfl
  obtain ⟨k, hk⟩ : ∃ k, below strLt l nm = k := ⟨_, rfl⟩
  have HK := Lib.hid hk
  rw [hk] at hkl ⊢
  obtain ⟨hco, hlco⟩ : co ≤ 9223372036854775807 ∧ l.length ≤ co := by
    obtain ⟨a', k', he, h1, h2, -⟩ := HO1.out.rd owCells_len
    have := (Value.slice.inj he).2.2
    subst this; unfold maxLen at h2; exact ⟨by omega, h1⟩
  have HSQ : Hid (w.heap.size ≤ wq.heap.size) := HUQ.out.size
  have HIN := Lib.hid hin
  have p0 : (0 : Int) ≤ k := by omega
  have p1 : (k : Int) < l.length := by omega
  have p2 : (k : Int) + 1 ≤ l.length := by omega
  have p3 : (0 : Int) ≤ (k : Int) + 1 := by omega
  have hwr : IntKind.i64.wrap ((k : Int) + 1) = (k : Int) + 1 := by rw [IntKind.wrap_i64]; omega
  clear d1 d2 d3 d4 huq HO1 HU1 HB1 HB0 hin hin' hkn hai hk
  obtain ⟨g, rfl, hg1, hg2, Cg, fg, hgt⟩ := HOQ.out.addrR (by omega) rfl
  have hne2 : ¬ g = w.heap.size := by omega
  obtain ⟨⟨xn, ⟨oa, on, ok⟩, old⟩, hx⟩ : ∃ x, nth l k = x := ⟨_, rfl⟩
  have hxm : (xn, ((⟨oa, on, ok⟩ : Sl), old)) ∈ l := by rw [← hx, nth_get l k hkl]; exact List.getElem_mem _
  have hxn : xn = nm := by have := HKN.out; rw [HK.out, hx] at this; exact this
  subst hxn
  have HOLD : Hid (Bytes wq (.slice oa on ok) old) := (H.out.dat _ hxm).upd0 HUQ.out
  have hon : on = old.length := by
    obtain ⟨a', k', he, -⟩ := HOLD.out
    exact (Value.slice.inj he).2.1
  subst hon
  have hok : ok ≤ 9223372036854775807 ∧ old.length ≤ ok := by
    obtain ⟨a', k', he, h1, h2, -⟩ := HOLD.out
    have := (Value.slice.inj he).2.2
    subst this; unfold maxLen at h2; exact ⟨by omega, h1⟩
  obtain ⟨hok, hok2⟩ := hok
  have HX := Lib.hid hx
  have CR : Hid (wq.cell? ⟨g, k * 2 + 1, none⟩ = some (.slice oa old.length ok)) := by
    have := HOQ.out.cellR owCells_len k 1 hkl (by omega)
    rw [hx] at this; exact this
  have FR : Hid (∀ W, Upd [] wq W → W.frozen? ⟨g, k * 2 + 1, none⟩ = false) := fun W hW => (HOQ.out.upd hW (by simp)).frozenR _
  have HGT : Hid (∀ b, (∃ C f, wq.heap[b]? = some (.cells C 5 f)) → b ≠ g) := fun b hb he => by
    obtain ⟨C, f, hb⟩ := hb
    subst he
    exact absurd (ty_eq hb hgt) (by decide)
  have HG1 := Lib.hid hg1
  have HG2 := Lib.hid hg2
  have HXM := Lib.hid hxm
  clear hgt hg1 hx hxm hg2
  have HR1 : Hid (∀ (ty : TypeId) (W : World) (s : Option Addr) (m kk : Nat) (q : List UInt8), Upd [] wq W → Blk W wq.heap.size 5 [] → Bytes W (.slice s m kk) q → q.length ≤ 1000000000 → ∃ v' w', (Builtin.append_ #[27, 27] ty #[.slice (some ⟨wq.heap.size, 0, none⟩) 0 0, .slice s m kk]).run Try.prog W = .ok v' w' ∧ (Own bv wq.heap.size 5 w' v' q ∧ Upd [] wq w' ∧ ∃ a1 n1 k1, v' = .slice a1 n1 k1)) := by
    intro ty W s m kk q hU hB hq hql
    obtain ⟨v', w', h1, h2, h3, h4⟩ := run_app (P := Try.prog) (w := W) (ty := ty) bv_one Try.underlying27 infoB8 rfl _ (.slice s m kk) [] q (own_emptyR wq.heap.size W wq.heap.size (Nat.le_refl _) hB) hq (by simp; omega) (by simp [maxLen]; omega) hU.size
    rw [List.nil_append] at h2
    obtain ⟨a1, k1, h5, _⟩ := h2.rd
    exact ⟨v', w', h1, h2, hU.trans h3 (by simp) (fun y hy => .inr (by simp [blk] at hy; omega)), a1, _, k1, h5⟩
  obtain rfl : old = old0 := by rw [← hold0, HK.out, HX.out]
  clear hold0
  have HR2 : Hid (∀ (ty : TypeId) (W : World) (a1 : Option Addr) (n1 k1 : Nat), Own bv wq.heap.size 5 W (.slice a1 n1 k1) old → Upd [] wq W → ∃ v' w', (Builtin.append_ #[27, 27] ty #[.slice a1 n1 k1, .slice pa pn pk]).run Try.prog W = .ok v' w' ∧ (Own bv wq.heap.size 5 w' v' (old ++ p) ∧ Upd [] wq w' ∧ ∃ a9 n9 k9, v' = .slice a9 n9 k9)) := by
    intro ty W a1 n1 k1 hO hU
    obtain ⟨v', w', h1, h2, h3, h4⟩ := run_app (P := Try.prog) (w := W) (ty := ty) bv_one Try.underlying27 infoB8 rfl _ (.slice pa pn pk) old p hO (HP.out.upd0 (HUQ.out.seq hU)) (by omega) (by simp [maxLen]; omega) hU.size
    obtain ⟨a9, k9, h5, _⟩ := h2.rd
    exact ⟨v', w', h1, h2, hU.trans h3 (by simp) (fun y hy => .inr (hO.ge y hy).1), a9, _, k9, h5⟩
  have HTL : Hid (old.length ≤ 1000000000) := by unfold Hid; omega
  have c1 := CR.out
  have c1' : (wq.alloc (Obj.cells #[] 5)).cell? ⟨g, k * 2 + 1, none⟩ = some (.slice oa old.length ok) := ((Upd.refl [] wq).alloc _).cell c1 (by simp)
  have d3 := D3.out
  have d3' : (wq.alloc (Obj.cells #[] 5)).cell? ⟨w.heap.size, 3, none⟩ = some (.slice pa pn pk) := ((Upd.refl [] wq).alloc _).cell d3 (by simp)
  go_wp2_with fail
  go_region_law (first
    | ((refine step_app_of rfl (.tmp 61) (.tmp 63) rfl (.slice a1 n1 k1) (.slice pa pn pk) (by rfl) (by rfl) (HR2.out _ _ a1 n1 k1 ?_ ?_) ?_); (refine Own.upd (S := []) ho8 ?_ (by simp); (repeat (first | exact Upd.refl _ _ | apply Upd.drew | apply Upd.drewN | apply Upd.alloc))); (refine hu8.seq ?_; (repeat (first | exact Upd.refl _ _ | apply Upd.drew | apply Upd.drewN | apply Upd.alloc))); (rintro v9 w9 ⟨ho9, hu9, a9, n9, k9, rfl⟩; have c9 := hu9.cell c1 (by simp); have f9 := FR.out w9 hu9; dsimp only))
    | ((refine step_app_of rfl (.tmp 55) (.tmp 60) rfl (.slice (some ⟨wq.heap.size, 0, none⟩) 0 0) (.slice oa old.length ok) (by rfl) (by rfl) (HR1.out _ _ oa old.length ok old ?_ ?_ (HOLD.out.upd0 ?_) HTL.out) ?_); (repeat (first | exact Upd.refl _ _ | apply Upd.drew | apply Upd.drewN | apply Upd.alloc)); (refine Blk.fresh (w := wq) (C := #[]) (xs := []) rfl rfl ?_; (repeat (first | exact Upd.refl _ _ | apply Upd.drew | apply Upd.drewN | apply Upd.alloc))); (repeat (first | exact Upd.refl _ _ | apply Upd.drew | apply Upd.drewN | apply Upd.alloc)); (rintro v8 w8 ⟨ho8, hu8, a1, n1, k1, rfl⟩; have c8 := hu8.cell c1 (by simp); have d8 := hu8.cell d3 (by simp); dsimp only)))
  all_goals
    have HO9 := Lib.hid ho9
    have HU9 := Lib.hid hu9
    clear ho9 hu9
    go_wp2_with fail
    go_ret
    have hset := set_yes (l := l) (nm := xn) ((⟨a9, n9, k9⟩ : Sl), old ++ p) k HIN.out HK.out HKN.out
    have hst : Upd [g] w9 ((w9).setCell ⟨g, k * 2 + 1, none⟩ (.slice a9 n9 k9)) := (Upd.refl [g] _).setCell _ _ (.inl (by simp))
    have hrow := (HOQ.out.upd HU9.out (by simp)).set_ owCells_len k 1 hkl (by omega) (.slice a9 n9 k9) (xn, ((⟨a9, n9, k9⟩ : Sl), old ++ p)) (by have := HX.out; rw [nth_get l k hkl] at this; rw [this]; rfl)
    rw [← hset] at hrow
    have hgw : w.heap.size ≤ g := by have := HG1.out; omega
    refine RDoes.of H.out rfl hrow (by omega) ((HUQ.out.seq HU9.out).trans hst (by simp) (fun y hy => .inr (by simp at hy; omega))) ?_ ?_ ?_
    · rw [df_set]
    · exact H.out.ris.set_ strOrd _ _
    · intro c hc
      rcases tSet_mem l xn _ c hc with rfl | q
      · refine .inr ⟨(HO9.out.upd hst (fun x hx hy => ?_)).rd, fun x hx => .inr ?_, fun _ x hx hy => ?_⟩
        · simp at hy; subst hy
          have h1 := (HO9.out.ge _ hx).1
          have h2 := HG2.out
          omega
        · have h1 := HO9.out.ge _ hx
          have h2 := HSQ.out
          exact ⟨by omega, by simpa using h1.2⟩
        · simp [blk] at hy; subst hy
          have h1 := (HO9.out.ge _ hx).1
          have h2 := HG2.out
          omega
      · exact .inl q
end
end Go.Proofs.Ytmhdhnipljonlaa
