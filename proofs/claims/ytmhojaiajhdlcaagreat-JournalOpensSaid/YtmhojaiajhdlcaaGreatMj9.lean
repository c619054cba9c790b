/- Texts of the proof, joined: Chapter 24: the journal beside kept blocks; what is held in an array of texts. The document's disk: rows of files; where a name stands. The document's disk: a raw write, a file comes. The document's disk: bytes come behind a file's, a file is cut. The document's disk: bytes come behind a file's. The document's disk: a file has another name. The document's disk in memory; one raw write. -/
import Derived.Test.YtmhojaiajhdlcaaGreatMj8
import Derived.Test.YtmhojaiajhdlcaaGreatMj3
import Derived.Test.YtmhojaiajhdlcaaGreatMj6
import Derived.Test.YtmhojaiajhdlcaaGreatMj4
import Derived.Test.YtmhojaiajhdlcaaGreatMj2
import Derived.Deep.RegionHeld3
import Derived.Deep.RegionLaw
namespace Go.Proofs.YtmhojaiajhdlcaaGreat
open Go.RowKit
set_option linter.unusedSimpArgs false
set_option linter.unusedVariables false
set_option linter.unusedSectionVars false
/-- A journal in memory, beside the blocks X. -/
structure JX (w0 w : World) (gd gj : Nat) (X : List Nat) (t : JS) (s : DS) : Prop where
  ex : ∃ F G, JD w0 w gd gj F G t s ∧ ∀ x ∈ X, x < w.heap.size ∧ w0.heap.size ≤ x ∧ x ∉ F ∧ x ∉ G
/-- The blocks X are as they were. -/
def Kp (X : List Nat) (w w' : World) : Prop := ∀ x ∈ X, ∀ o, w.heap[x]? = some o → w'.heap[x]? = some o
theorem Kp.blk {X : List Nat} {w w' : World} (h : Kp X w w') {g : Nat} {e : TypeId} {xs : List Value} (hb : Blk w g e xs) (hg : g ∈ X) : Blk w' g e xs := h g hg _ hb
theorem Kp.of {X S : List Nat} {w w' : World} (hu : Upd S w w') (hs : ∀ x ∈ X, x ∉ S) : Kp X w w' := fun x hx o ho => hu.heap ho (hs x hx)
section
variable {w0 w w1 w' : World} {gd gj : Nat} {X : List Nat} {t t' : JS} {s s' : DS} {Q : List UInt8 → Prop} {k : Nat}
theorem JX.jp (h : JX w0 w gd gj X t s) : JP w0 w gd gj t s := by
  obtain ⟨F, G, h1, -⟩ := h.ex
  exact ⟨F, G, h1⟩
theorem JX.old (h : JX w0 w gd gj X t s) : Upd [] w0 w := h.jp.old
theorem JX.upd (h : JX w0 w gd gj X t s) {S : List Nat} (hu : Upd S w w') (hS : ∀ x ∈ S, x ∈ X) : JX w0 w' gd gj X t s := by
  obtain ⟨F, G, h1, h2⟩ := h.ex
  exact ⟨F, G, h1.upd hu (fun x hx hs => (h2 x (hS x hs)).2.2.1 hx) (fun x hx hs => (h2 x (hS x hs)).2.2.2 hx) (fun x hx => (h2 x (hS x hx)).2.1), fun x hx => ⟨Nat.lt_of_lt_of_le (h2 x hx).1 hu.size, (h2 x hx).2⟩⟩
theorem JX.upd0 (h : JX w0 w gd gj X t s) (hu : Upd [] w w') : JX w0 w' gd gj X t s := h.upd hu (by simp)
/-- One block more. -/
theorem JX.add (h : JX w0 w gd gj X t s) (o : Obj) : JX w0 (w.alloc o) gd gj (w.heap.size :: X) t s := by
  obtain ⟨F, G, h1, h2⟩ := h.ex
  have hu : Upd [] w (w.alloc o) := (Upd.refl [] w).alloc o
  have hsz : (w.alloc o).heap.size = w.heap.size + 1 := by simp
  refine ⟨F, G, h1.upd0 hu, fun x hx => ?_⟩
  rcases List.mem_cons.1 hx with rfl | hx
  · exact ⟨by omega, h1.old.size, fun q => by have := (h1.geF _ q).2; omega, fun q => by have := (h1.dd.ge _ q).2; omega⟩
  · exact ⟨by have := (h2 x hx).1; omega, (h2 x hx).2⟩
theorem JX.of {F G S : List Nat} {gk : Nat} (h1 : JD w0 w gd gj F G t s) (h2 : ∀ x ∈ X, x < w.heap.size ∧ w0.heap.size ≤ x ∧ x ∉ F ∧ x ∉ G) (hS : ∀ x ∈ S, x ∈ F ∨ x ∈ G) (ho : JOut w0 w gd gk S t' s' w') : JX w0 w' gd gk X t' s' ∧ Kp X w w' := by
  obtain ⟨F', G', k1, k2, k3, k4⟩ := ho
  have hno : ∀ x ∈ X, x ∉ S := fun x hx q => by
    rcases hS x q with q | q
    · exact (h2 x hx).2.2.1 q
    · exact (h2 x hx).2.2.2 q
  refine ⟨⟨F', G', k1, fun x hx => ⟨Nat.lt_of_lt_of_le (h2 x hx).1 k2.size, (h2 x hx).2.1, fun q => ?_, fun q => ?_⟩⟩, Kp.of k2 hno⟩
  · rcases k3 x q with q | q
    · exact hno x hx q
    · have := (h2 x hx).1; omega
  · rcases k4 x q with q | q
    · exact hno x hx q
    · have := (h2 x hx).1; omega
theorem jxSet (h : JX w0 w gd gj X t s) (hu : Upd [] w w1) (u : Value) (l : List Ch) (hl : RdN 2 chCells w1 u l) (hge : ∀ x ∈ blk u, w.heap.size ≤ x) (hI : ∀ c ∈ l, I64 c.1 ∧ c.2.size ≤ 1000000) (hs : St Q k s) (hk : k ≤ 470000000) {e : Int} (he : jSet t s l = (e, t', s')) :
    Calls Tryz.prog 45 #[.pointer (some ⟨gj, 0, none⟩), u] w1 fun x w' => x = .returned (.int .i64 e) ∧ JX w0 w' gd gj X t' s' ∧ Kp X w1 w' ∧ (∃ S, Upd S w1 w' ∧ ∀ x ∈ blk u, x ∉ S) := by
  obtain ⟨F, G, h1, h2⟩ := h.ex
  have hap : ∀ x ∈ blk u, x ∉ F ++ G := fun x hx hf => by
    have := hge x hx
    rcases List.mem_append.1 hf with q | q
    · have := (h1.geF x q).2; omega
    · have := (h1.dd.ge x q).2; omega
  have hc := jset_any u l (h1.upd0 hu) hl hap hI (by have := hs.now; omega) (by have := hs.lg; omega)
  rw [he] at hc
  refine hc.mono ?_
  rintro x w' ⟨rfl, ho⟩
  have hx := JX.of (X := X) (h1.upd0 hu) (fun x hx => ⟨Nat.lt_of_lt_of_le (h2 x hx).1 hu.size, (h2 x hx).2⟩) (fun x hx => List.mem_append.1 hx) ho
  obtain ⟨F', G', k1, k2, -⟩ := ho
  exact ⟨rfl, hx.1, hx.2, _, k2, hap⟩
theorem jxOpen (h : JX w0 w gd gj X t s) (hs : St Q k s) (hk : k ≤ 470000000) (he : jOpen s = (t', s')) :
    Calls Tryz.prog 40 #[.pointer (some ⟨gd, 0, none⟩)] w fun e w' => ∃ gk, e = .returned (.tuple #[.pointer (some ⟨gk, 0, none⟩), .int .i64 0]) ∧ JX w0 w' gd gk X t' s' ∧ Kp X w w' := by
  obtain ⟨F, G, h1, h2⟩ := h.ex
  have hc := jopen_any h1.dd (by have := hs.now; omega) (by have := hs.lg; omega)
  rw [he] at hc
  refine hc.mono ?_
  rintro e w' ⟨gk, rfl, ho⟩
  exact ⟨gk, rfl, JX.of h1 h2 (fun x hx => .inr hx) ho⟩
theorem jxMark (h : JX w0 w gd gj X t s) (hs : St Q k s) :
    Calls Tryz.prog 21 #[.pointer (some ⟨gd, 0, none⟩)] w fun e w' => e = .returned (.tuple #[]) ∧ JX w0 w' gd gj X t (dMark s) ∧ Kp X w w' := by
  obtain ⟨F, G, h1, h2⟩ := h.ex
  refine (dMark_any h1.dd (by have := hs.now; omega)).mono ?_
  rintro e w' ⟨rfl, ho⟩
  exact ⟨rfl, JX.of h1 h2 (fun x hx => List.mem_append.1 hx) (h1.disk ho)⟩
theorem jxBack (h : JX w0 w gd gj X t s) (n : Int) (hn : I64 n) (hs : St Q k s) :
    Calls Tryz.prog 35 #[.pointer (some ⟨gd, 0, none⟩), .int .i64 n] w fun e w' => e = .returned (.tuple #[]) ∧ JX w0 w' gd gj X t (dBack s n) ∧ Kp X w w' := by
  obtain ⟨F, G, h1, h2⟩ := h.ex
  refine (dBack_any n hn h1.dd (by have := hs.mlen; omega)).mono ?_
  rintro e w' ⟨rfl, ho⟩
  exact ⟨rfl, JX.of h1 h2 (fun x hx => List.mem_append.1 hx) (h1.disk ho)⟩
end
theorem JP.jx {w0 w : World} {gd gj : Nat} {t : JS} {s : DS} (h : JP w0 w gd gj t s) : JX w0 w gd gj [] t s := by
  obtain ⟨F, G, h1⟩ := h.ex
  exact ⟨F, G, h1, by simp⟩
/-- The changes stored into an array of texts. -/
def putAll (hv : List ByteArray) (l : List Ch) : List ByteArray := l.foldl (fun a c => a.set c.1.toNat c.2) hv
theorem putAll_take (hv : List ByteArray) (l : List Ch) (j : Nat) (hj : j < l.length) : putAll hv (l.take (j + 1)) = (putAll hv (l.take j)).set (nth l j).1.toNat (nth l j).2 := by
  rw [nth_get _ _ hj, List.take_add_one, List.getElem?_eq_getElem hj]
  unfold putAll
  rw [List.foldl_append]; rfl
theorem putAll_len (l : List Ch) : ∀ hv : List ByteArray, (putAll hv l).length = hv.length := by
  induction l with
  | nil => intro hv; rfl
  | cons c l ih => intro hv; show (putAll (hv.set c.1.toNat c.2) l).length = _; rw [ih, List.length_set]
/-- The array holds what the slots have. -/
structure Has (t : JS) (hv : List ByteArray) : Prop where
  len : hv.length = 41
  at_ : ∀ i, i < 41 → nth hv i = jGet t (i : Int)
theorem Has.put : ∀ (l : List Ch) {t : JS} {hv : List ByteArray}, JT t → (∀ c ∈ l, ChOk c) → Has t hv → Has (jAll t l) (putAll hv l)
  | [], t, hv, _, _, h => h
  | c :: l, t, hv, ht, hc, h => by
    have h1 := hc c (by simp)
    refine Has.put l (ht.hold1 c h1) (fun x hx => hc x (by simp [hx])) ⟨by rw [List.length_set]; exact h.len, fun i hi => ?_⟩
    have hlo := h1.lo
    have hhi := h1.hi
    rw [jGet_hold1 ht.ris, nth_set _ _ _ _ (by rw [h.len]; omega)]
    by_cases he : (i : Int) = c.1
    · rw [if_pos he, if_pos (by omega)]
    · rw [if_neg he, if_neg (by omega)]
      exact h.at_ i hi
theorem Has.zero : Has [] (List.replicate 41 s0) := ⟨by simp, fun i hi => by rw [nth_replicate _ _ _ hi]; rfl⟩
structure HoI (k : Nat) (t : JS) (s : DS) (hv : List ByteArray) : Prop where
  st : St (fun _ => True) (12000000 * k) s
  inv : JInv t s
  has : Has t hv
theorem HoI.zero : HoI 0 [] ⟨[], [], []⟩ (List.replicate 41 s0) := ⟨St.zero trivial, JInv.zero, Has.zero⟩
theorem HoI.step {k : Nat} {t : JS} {s : DS} {hv : List ByteArray} (h : HoI k t s hv) (ht : JT t) (l : List Ch) : ∃ e t' s', jSet t s l = (e, t', s') ∧ ((e ≠ 0 ∧ HoI (k + 1) t' s' hv) ∨ (e = 0 ∧ (∀ c ∈ l, 0 ≤ c.1 ∧ c.1 ≤ 40) ∧ HoI (k + 1) t' s' (putAll hv l))) := by
  have S := sets h.st h.inv l (fun _ _ _ => trivial) (fun _ => trivial)
  obtain ⟨e, t', s', he⟩ : ∃ e t2 s2, jSet t s l = (e, t2, s2) := ⟨_, _, _, rfl⟩
  rw [he] at S
  refine ⟨e, t', s', he, ?_⟩
  by_cases z : e = 0
  · obtain ⟨y, hok⟩ := S.yes z
    have y : t' = jAll t l := y
    subst y
    exact .inr ⟨z, fun c hc => ⟨(hok.ok c hc).lo, (hok.ok c hc).hi⟩, S.st.more (by omega), S.inv, h.has.put l ht hok.ok⟩
  · obtain ⟨y1, y2⟩ := S.no z
    have y1 : t' = t := y1
    have y2 : s' = s := y2
    subst y1; subst y2
    exact .inl ⟨z, S.st.more (by omega), S.inv, h.has⟩
end Go.Proofs.YtmhojaiajhdlcaaGreat
namespace Go.Proofs.YtmhojaiajhdlcaaGreat
open Go.RowKit
set_option linter.unusedSimpArgs false
set_option linter.unusedVariables false
set_option linter.unusedSectionVars false
abbrev OW := ByteArray × (Sl × List UInt8)
abbrev owCells (c : OW) : List Value := [sv c.1, slv c.2.1]
theorem owCells_len : ∀ x, (owCells x).length = 2 := fun _ => rfl
theorem owCells_one : ∀ x, ∀ u ∈ owCells x, u.oneCell' = true := by intro x u hu; simp [owCells] at hu; rcases hu with rfl | rfl <;> rfl
theorem infoOW : (Tryz.prog.info? 132).map (fun i => (i.zero, i.size, i.bytes)) = some (some (.agg #[.string ⟨#[]⟩, .slice none 0 0]), 2, 40) := by kernel_rfl
theorem undOW : Tryz.prog.underlying 42 = some (.slice 132) := by kernel_rfl
theorem sizeOW : (Tryz.prog.info? 132).map (·.size) = some 2 := by kernel_rfl
/-- Where a name stands, or -1. -/
def atI (l : List OW) (nm : ByteArray) : Int := if isIn strLt l nm then (below strLt l nm : Int) else -1
theorem str_neR {a b : ByteArray} (h : a ≠ b) : (a.toList == b.toList) = false := by rw [beq_eq_false_iff_ne]; exact fun q => h (str_inj _ _ q)
set_option maxRecDepth 20000 in
set_option maxHeartbeats 1000000 in
theorem rdAt_any (w : World) (v : Value) (l : List OW) (nm : ByteArray) (h : RdN 2 owCells w v l) (hr : Rising strLt l) (hl : l.length ≤ 100000) :
    Calls Tryz.prog 70 #[v, sv nm] w fun e w' => e = .returned (.int .i64 (atI l nm)) ∧ Upd [] w w' := by
  obtain ⟨a, cap, rfl, hlc, hcm, hcell⟩ := h
  have hcap : cap ≤ 9223372036854775807 := by unfold maxLen at hcm; omega
  have HC := Lib.hid hcell
  have HR := Lib.hid hr
  clear hcell hr hcm
  go_enter Tryz.func70, Tryz.ntmps70
  go_wp2_with fail
  go_loopw [5] (fun i wr => ∃ k : Nat, k ≤ l.length ∧ i = .int .i64 k ∧ Hid (Upd [] w wr) ∧ Hid (∀ j, j < k → (nth l j).1 ≠ nm)) (fun i _ => l.length - (intOf i).toNat)
  case atStart => exact ⟨0, Nat.zero_le _, rfl, Upd.refl _ _, fun j h => absurd h (by omega)⟩
  case round =>
    obtain ⟨k, hk, rfl, hu, hne⟩ := hrel
    by_cases hlt : k < l.length
    · obtain ⟨b, off, rfl, hc⟩ := HC.out (by intro h; simp [h] at hlt)
      have c0 : wr.cell? ⟨b, off + k * 2, none⟩ = some (.string (nth l k).1) := hu.out.cell (hc k hlt 0 (by omega)) (by simp)
      have HX : Hid (∃ m, (nth l k).1 = m) := ⟨_, rfl⟩
      have HK : Hid ((nth l k).1 = nm → atI l nm = (k : Int)) := fun he => by
        unfold atI
        rw [← he, isIn_at strOrd HR.out k hlt, below_at strOrd HR.out k hlt]; rfl
      have HNE : Hid ((nth l k).1 ≠ nm → ∀ j, j < k + 1 → (nth l j).1 ≠ nm) := fun he j hj => by
        rcases Nat.lt_or_eq_of_le (Nat.le_of_lt_succ hj) with q | q
        · exact hne.out j q
        · subst q; exact he
      clear hc HX hne
      generalize (nth l k).1 = m at *
      have q0 : (0 : Int) ≤ k := by omega
      have q1 : (k : Int) < l.length := by omega
      by_cases he : m = nm
      · have HI := Lib.hid (HK.out he)
        have t1 : (m.toList == nm.toList) = true := by rw [he]; simp
        clear he HK HNE
        go_wp2_with fail
        go_ret
        exact ⟨by rw [HI.out]; rfl, hu.out⟩
      · have HI := Lib.hid (HNE.out he)
        have t1 := str_neR he
        clear he HK HNE
        go_wp2_with fail
        go_roundw
        case rel => exact ⟨k + 1, by omega, by go_num, hu, HI⟩
        case measure => simp [intOf]; omega
    · obtain rfl : k = l.length := by omega
      have HI : Hid (atI l nm = -1) := by
        unfold Hid atI
        rw [if_neg]
        intro hin
        unfold isIn at hin
        obtain ⟨h1, h2⟩ := of_decide_eq_true hin
        exact hne.out _ h1 h2
      clear hne
      go_wp2_with fail
      go_ret
      exact ⟨by rw [HI.out]; rfl, hu.out⟩
end Go.Proofs.YtmhojaiajhdlcaaGreat
namespace Go.Proofs.YtmhojaiajhdlcaaGreat
open Go.RowKit
set_option linter.unusedSimpArgs false
set_option linter.unusedVariables false
theorem ownN_emptyR {α : Type} (sz : Nat) (c : α → List Value) (base : Nat) (e : TypeId) (W : World) (G : Nat) (h : base ≤ G) (hW : Blk W G e []) : OwnN sz c base e W (.slice (some ⟨G, 0, none⟩) 0 0) [] :=
  ⟨by simp, .inr ⟨G, 0, #[], rfl, h, hW, Nat.le_refl _, Nat.zero_le _, by simp, by simp⟩⟩
theorem RdN.takeR {α : Type} [Inhabited α] {sz : Nat} {c : α → List Value} {w : World} {a : Option Addr} {n cap : Nat} {l : List α} (h : RdN sz c w (.slice a n cap) l) (k : Nat) (hk : k ≤ l.length) : RdN sz c w (.slice a k cap) (l.take k) := by
  obtain ⟨a', cap', he, h1, h2, h3⟩ := h
  injection he with e1 e2 e3; subst e1; subst e3
  refine ⟨a, cap, by rw [List.length_take, Nat.min_eq_left hk], by rw [List.length_take]; omega, h2, fun hne => ?_⟩
  obtain ⟨b, off, rfl, hc⟩ := h3 (fun q => hne (by rw [q]; simp))
  exact ⟨b, off, rfl, fun j hj i hi => by rw [List.length_take] at hj; rw [nth_take _ _ _ (by omega)]; exact hc j (by omega) i hi⟩
theorem RdN.dropR {α : Type} [Inhabited α] {sz : Nat} {c : α → List Value} {w : World} {a : Option Addr} {n cap : Nat} {l : List α} (h : RdN sz c w (.slice a n cap) l) (k : Nat) (hk : k ≤ l.length) :
    RdN sz c w (.slice (if cap = k then a else a.map (·.add (k * sz))) (n - k) (cap - k)) (l.drop k) := by
  obtain ⟨a', cap', he, h1, h2, h3⟩ := h
  injection he with e1 e2 e3; subst e1; subst e2; subst e3
  refine ⟨_, _, by rw [List.length_drop], by rw [List.length_drop]; omega, by omega, fun hne => ?_⟩
  have hlt : k < l.length := by
    rcases Nat.lt_or_ge k l.length with q | q
    · exact q
    · exact absurd (List.drop_eq_nil_of_le q) hne
  obtain ⟨b, off, rfl, hc⟩ := h3 (fun q => by rw [q] at hlt; simp at hlt)
  rw [if_neg (by omega)]
  refine ⟨b, off + k * sz, by simp [add_none], fun j hj i hi => ?_⟩
  rw [List.length_drop] at hj
  have := hc (k + j) (by omega) i hi
  rw [nth_drop]
  rw [show off + k * sz + (j * sz + i) = off + ((k + j) * sz + i) by rw [Nat.add_mul]; omega]
  exact this
theorem OwnN.base_leR {α : Type} {sz : Nat} {c : α → List Value} {base base' : Nat} {e : TypeId} {w : World} {v : Value} {l : List α} (h : OwnN sz c base e w v l) (hb : base' ≤ base) : OwnN sz c base' e w v l := by
  obtain ⟨h1, h2⟩ := h
  refine ⟨h1, ?_⟩
  rcases h2 with h2 | ⟨g, cap, cur, rfl, hb', hg, r⟩
  · exact .inl h2
  · exact .inr ⟨g, cap, cur, rfl, by omega, hg, r⟩
/-- A list of files in blocks that nobody writes. -/
structure RL (w : World) (R : List Nat) (v : Value) (l : List OW) : Prop where
  row : RdN 2 owCells w v l
  vR : ∀ x ∈ blk v, x ∈ R
  dat : ∀ c ∈ l, Bytes w (slv c.2.1) c.2.2
  dR : ∀ c ∈ l, ∀ x ∈ blk (slv c.2.1), x ∈ R
  ris : Rising strLt l
theorem RL.upd {w w' : World} {R : List Nat} {v : Value} {l : List OW} (h : RL w R v l) {S : List Nat} (hu : Upd S w w') (hs : ∀ x ∈ R, x ∉ S) : RL w' R v l :=
  ⟨h.row.upd owCells_len hu (fun x hx => hs x (h.vR x hx)), h.vR, fun c hc => (h.dat c hc).upd hu (fun x hx => hs x (h.dR c hc x hx)), h.dR, h.ris⟩
theorem RL.upd0 {w w' : World} {R : List Nat} {v : Value} {l : List OW} (h : RL w R v l) (hu : Upd [] w w') : RL w' R v l := h.upd hu (by simp)
/-- What a raw write gives. -/
def RDoes (w : World) (R : List Nat) (fs' : DF) (e : Ending) (w' : World) : Prop := ∃ v' R' l', e = .returned v' ∧ RL w' R' v' l' ∧ OwnN 2 owCells w.heap.size 132 w' v' l' ∧ dfOf l' = fs' ∧ Upd [] w w' ∧ (∀ x ∈ R, x ∈ R') ∧ (∀ x ∈ R', x ∈ R ∨ (w.heap.size ≤ x ∧ x < w'.heap.size)) ∧ (∀ c ∈ l', c.2.2 ≠ [] → ∀ x ∈ blk (slv c.2.1), x ∉ blk v')
theorem RDoes.later {w w1 w' : World} {R : List Nat} {fs' : DF} {e : Ending} (hu : Upd [] w w1) (h : RDoes w1 R fs' e w') : RDoes w R fs' e w' := by
  obtain ⟨v', R', l', h1, h2, ho, h3, h4, h5, h6, h7⟩ := h
  exact ⟨v', R', l', h1, h2, ho.base_leR hu.size, h3, hu.seq h4, h5, fun x hx => (h6 x hx).imp id (fun q => ⟨by have := hu.size; omega, q.2⟩), h7⟩
/-- Rows in a new block, over the same bytes or new ones. -/
theorem RDoes.of {w w' : World} {R : List Nat} {v : Value} {l : List OW} (h : RL w R v l) {base : Nat} {v' : Value} {l' : List OW} {fs' : DF} {e : Ending} (he : e = .returned v') (ho : OwnN 2 owCells base 132 w' v' l') (hb : w.heap.size ≤ base) (hu : Upd [] w w') (hfs : dfOf l' = fs') (hr : Rising strLt l')
    (hd : ∀ c ∈ l', c ∈ l ∨ (Bytes w' (slv c.2.1) c.2.2 ∧ (∀ x ∈ blk (slv c.2.1), x ∈ R ∨ (w.heap.size ≤ x ∧ x < w'.heap.size)) ∧ (c.2.2 ≠ [] → ∀ x ∈ blk (slv c.2.1), x ∉ blk v'))) : RDoes w R fs' e w' := by
  refine ⟨v', R ++ (blk v' ++ l'.flatMap fun c => (blk (slv c.2.1))), l', he, ⟨ho.rd owCells_len, fun x hx => by simp [hx], fun c hc => ?_, fun c hc x hx => ?_, hr⟩, ho.base_leR hb, hfs, hu, fun x hx => by simp [hx], fun x hx => ?_, fun c hc hne x hx hy => ?_⟩
  · rcases hd c hc with q | q
    · exact (h.dat c q).upd0 hu
    · exact q.1
  · exact List.mem_append.2 (.inr (List.mem_append.2 (.inr (List.mem_flatMap.2 ⟨c, hc, hx⟩))))
  · rcases List.mem_append.1 hx with q | q
    · exact .inl q
    · rcases List.mem_append.1 q with q | q
      · exact .inr ⟨by have := (ho.ge x q).1; omega, (ho.ge x q).2⟩
      · obtain ⟨c, hc, hx'⟩ := List.mem_flatMap.1 q
        rcases hd c hc with r | r
        · exact .inl (h.dR c r x hx')
        · exact r.2.1 x hx'
  · rcases hd c hc with r | r
    · have h1 := (h.dat c r).lt hne x hx
      have h2 := (ho.ge x hy).1
      omega
    · exact r.2.2 hne x hx hy
theorem set_no {l : List OW} {nm : ByteArray} (y : Sl × List UInt8) (h : isIn strLt l nm = false) : tSet strLt l nm y = l.take (below strLt l nm) ++ [(nm, y)] ++ l.drop (below strLt l nm) := by unfold tSet; rw [h]; simp
section
variable {w : World} {R : List Nat} {v : Value} {l : List OW}
set_option maxRecDepth 20000 in
set_option maxHeartbeats 4000000 in
theorem rMade_1 (nm tn : ByteArray) (p : List UInt8) (n : Int) (pa : Option Addr) (pn pk : Nat) (h : RL w R v l) (hl : l.length ≤ 10000) (hin : isIn strLt l nm = false) :
    Calls Tryz.prog 80 #[v, wrv ⟨1, nm, tn, p, n⟩ ⟨pa, pn, pk⟩] w (RDoes w R (tSet strLt (dfOf l) nm [])) := by
  obtain ⟨ao0, co0, rfl, hlc, hcm, -⟩ := h.row
  have hcap : co0 ≤ 9223372036854775807 := by unfold maxLen at hcm; omega
  have HB0 := Lib.hid (Blk.new w 119 [.int .i64 1, sv nm, sv tn, .slice pa pn pk, .int .i64 n])
  have HU0 := Lib.hid ((Upd.refl [] w).alloc (.cells #[.int .i64 1, sv nm, sv tn, .slice pa pn pk, .int .i64 n] 119))
  have H := Lib.hid h
  clear h hcm
  go_enter Tryz.func80, Tryz.ntmps80
  have hb0 : Blk (w.alloc (.cells #[.int .i64 1, sv nm, sv tn, .slice pa pn pk, .int .i64 n] 119)) w.heap.size 119 [.int .i64 1, sv nm, sv tn, .slice pa pn pk, .int .i64 n] := HB0.out
  have HRUN : Hid (∀ ty (W : World) (G : Nat), G = w.heap.size + 1 → W = (w.alloc (.cells #[.int .i64 1, sv nm, sv tn, .slice pa pn pk, .int .i64 n] 119)).alloc (.cells #[] 132) → ∃ v' w', (Builtin.append_ #[42, 42] ty #[.slice (some ⟨G, 0, none⟩) 0 0, .slice ao0 l.length co0]).run Tryz.prog W = .ok v' w' ∧ (OwnN 2 owCells (w.heap.size + 1) 132 w' v' l ∧ Upd [] (w.alloc (.cells #[.int .i64 1, sv nm, sv tn, .slice pa pn pk, .int .i64 n] 119)) w')) := by
    rintro ty W G rfl rfl
    have hs : (w.alloc (.cells #[.int .i64 1, sv nm, sv tn, .slice pa pn pk, .int .i64 n] 119)).heap.size = w.heap.size + 1 := by simp
    have hbk := Blk.new (w.alloc (.cells #[.int .i64 1, sv nm, sv tn, .slice pa pn pk, .int .i64 n] 119)) 132 []
    rw [hs] at hbk
    have hu := (Upd.refl [] (w.alloc (.cells #[.int .i64 1, sv nm, sv tn, .slice pa pn pk, .int .i64 n] 119))).alloc (.cells #[] 132)
    obtain ⟨v', w', h1, h2, h3, h4⟩ := run_appN (P := Tryz.prog) (ty := ty) (base := w.heap.size + 1) owCells_len (by decide) owCells_one undOW infoOW rfl _ (.slice ao0 l.length co0) [] l (ownN_emptyR 2 owCells (w.heap.size + 1) _ _ (w.heap.size + 1) (Nat.le_refl _) hbk) (H.out.row.upd0 owCells_len (HU0.out.seq hu)) (by simp; omega) (by unfold maxLen; simp; omega) (by simp)
    rw [List.nil_append] at h2
    exact ⟨v', w', h1, h2, hu.trans h3 (by simp) (fun y hy => .inr (by simp [blk] at hy; omega))⟩
  clear hb0
  go_wp2_with (at_builtin; go_must (refine wpList_app_of rfl _ _ rfl (.slice (some ⟨w.heap.size + 1, 0, none⟩) 0 0) (.slice ao0 l.length co0) rfl rfl (HRUN.out _ _ _ rfl rfl) ?_; rintro v1 w1 ⟨ho1, hu1⟩; have HO1 := Lib.hid ho1; have HU1 := Lib.hid hu1; obtain ⟨ao, co, rfl, -⟩ := ho1.rd owCells_len; have hb1 := HB0.out.upd hu1 (by simp); have d0 := hb1.cell 0; have d1 := hb1.cell 1; have d2 := hb1.cell 2; have d3 := hb1.cell 3; have d4 := hb1.cell 4; simp only [List.getElem?_cons_zero, List.getElem?_cons_succ] at d0 d1 d2 d3 d4; have HB1 := Lib.hid hb1; clear ho1 hu1 hb1 HRUN; dsimp only))
  (with_reducible refine (rdAt_any w1 _ l nm (HO1.out.rd owCells_len) H.out.ris (by omega)).mono ?_)
  rintro e wq ⟨rfl, huq⟩
  have D1 := Lib.hid (huq.cell d1 (by simp))
  replace d0 := huq.cell d0 (by simp)
  have HOQ := Lib.hid (HO1.out.upd huq (by simp))
  have HUQ := Lib.hid ((HU0.out.seq HU1.out).seq huq)
  generalize atI l nm = ai at *
  obtain ⟨hco, hlco⟩ : co ≤ 9223372036854775807 ∧ l.length ≤ co := by
    obtain ⟨a', k', he, h1, h2, -⟩ := HO1.out.rd owCells_len
    have := (Value.slice.inj he).2.2
    subst this; unfold maxLen at h2; exact ⟨by omega, h1⟩
  have HSQ : Hid (w.heap.size ≤ wq.heap.size) := HUQ.out.size
  have HIN := Lib.hid hin
  clear d1 d2 d3 d4 huq HO1 HU1 HB1 HB0 hin
  go_wp2_with fail
  go_loopw [7] (fun i wr => ∃ k : Nat, k ≤ l.length ∧ i = .int .i64 k ∧ Hid (Upd [] wq wr) ∧ Hid (∀ j, j < k → strLt (nth l j).1 nm = true)) (fun i _ => l.length - (intOf i).toNat)
  case atStart => exact ⟨0, Nat.zero_le _, rfl, Upd.refl _ _, fun j h => absurd h (by omega)⟩
  case round =>
    obtain ⟨k, hk, rfl, hu, hlo⟩ := hrel
    clear d0
    have e1 := hu.out.cell D1.out (by simp)
    by_cases hlt : k < l.length
    · obtain ⟨a', co', he, -, -, hcell⟩ := (HOQ.out.rd owCells_len)
      obtain ⟨lb, loff, e2, hcell⟩ := hcell (by intro h; simp [h] at hlt)
      obtain rfl : ao = some ⟨lb, loff, none⟩ := ((Value.slice.inj he).1).trans e2
      have e3 : wr.cell? ⟨lb, loff + k * 2, none⟩ = some (.string (nth l k).1) := hu.out.cell (hcell k hlt 0 (by omega)) (by simp)
      have q0 : (0 : Int) ≤ k := by omega
      have q1 : (k : Int) < l.length := by omega
      clear he e2 hcell
      cases hcmp : strLt (nth l k).1 nm with
      | true =>
        have HLO : Hid (∀ j, j < k + 1 → strLt (nth l j).1 nm = true) := fun j hj => by
          rcases Nat.lt_or_eq_of_le (Nat.le_of_lt_succ hj) with q | q
          · exact hlo.out j q
          · subst q; exact hcmp
        generalize (nth l k).1 = m at *
        have hc1 := hcmp
        clear hcmp hlo
        go_wp2_with fail
        go_quiet (fail)
        have HU3 := Lib.hid (hu.out.drewN nq)
        generalize wr.drewN nq = w2 at *
        clear hu e1 e3
        go_wp2_with fail
        go_roundw
        case rel => exact ⟨k + 1, by omega, by go_num, HU3, HLO⟩
        case measure => simp [intOf]; omega
      | false =>
        have HAT : Hid (below strLt l nm = k) := below_eq l nm k hk hlo.out (fun _ => hcmp)
        generalize (nth l k).1 = m at *
        have hc1 := hcmp
        clear hcmp hlo
        go_wp2_with fail
        go_quiet (fail)
        have HU3 := Lib.hid (hu.out.drewN nq)
        replace e1 := HU3.out.cell D1.out (by simp)
        generalize wr.drewN nq = w2 at *
        clear hu
        have hb : k ≤ l.length := by omega
        have HR2 := Lib.hid ((HOQ.out.upd HU3.out (by simp)).rd owCells_len)
        have HA1 : Hid (∀ (W : World) (G : Nat), w2.heap.size ≤ G → Upd [] w2 W → Blk W G 132 [] → ∃ v' w', (Builtin.append_ #[42, 42] 42 #[.slice (some ⟨G, 0, none⟩) 0 0, .slice (some ⟨lb, loff, none⟩) k co]).run Tryz.prog W = .ok v' w' ∧ (OwnN 2 owCells w2.heap.size 132 w' v' (l.take k) ∧ Upd [G] W w' ∧ Upd [] w2 w' ∧ ∃ a1 k1, v' = .slice a1 k k1)) := by
          intro W G hG hU hB
          obtain ⟨v', w', h1, h2, h3, h4⟩ := run_appN (P := Tryz.prog) (ty := 42) (base := w2.heap.size) owCells_len (by decide) owCells_one undOW infoOW rfl _ (.slice (some ⟨lb, loff, none⟩) k co) [] (l.take k) (ownN_emptyR 2 owCells _ _ W G hG hB) ((HR2.out.takeR k hb).upd0 owCells_len hU) (by simp; omega) (by unfold maxLen; simp; omega) hU.size
          rw [List.nil_append] at h2
          obtain ⟨a1, k1, h5, _⟩ := h2.rd owCells_len
          exact ⟨v', w', h1, h2, h3, hU.trans h3 (by simp) (fun y hy => .inr (by simp [blk] at hy; omega)), a1, k1, by rw [h5, List.length_take, Nat.min_eq_left hb]⟩
        have HA2 : Hid (∀ (W : World) (a1 : Option Addr) (k1 GR : Nat), OwnN 2 owCells w2.heap.size 132 W (.slice a1 k k1) (l.take k) → Upd [] w2 W → (∀ j u, ([.string nm, .slice none 0 0] : List Value)[j]? = some u → W.cell? ⟨GR, j, none⟩ = some u) → ∃ v' w', (Builtin.append_ #[42, 42] 42 #[.slice a1 k k1, .slice (some ⟨GR, 0, none⟩) 1 1]).run Tryz.prog W = .ok v' w' ∧ (OwnN 2 owCells w2.heap.size 132 w' v' (l.take k ++ [(nm, (⟨none, 0, 0⟩, []))]) ∧ Upd [] w2 w' ∧ ∃ a2 k2, v' = .slice a2 (k + 1) k2)) := by
          intro W a1 k1 GR hO hU hc
          have hr : RdN 2 owCells W (.slice (some ⟨GR, 0, none⟩) 1 1) [(nm, ((⟨none, 0, 0⟩ : Sl), ([] : List UInt8)))] := ⟨_, 1, rfl, by simp, by simp [maxLen], fun _ => ⟨GR, 0, rfl, fun j hj i hi => by
            simp at hj; subst hj
            have hi2 : i = 0 ∨ i = 1 := by omega
            rcases hi2 with rfl | rfl
            · simpa [nth_cons_zero] using hc 0 _ rfl
            · simpa [nth_cons_zero] using hc 1 _ rfl⟩⟩
          obtain ⟨v', w', h1, h2, h3, h4⟩ := run_appN (P := Tryz.prog) (ty := 42) (base := w2.heap.size) owCells_len (by decide) owCells_one undOW infoOW rfl _ _ (l.take k) [(nm, ((⟨none, 0, 0⟩ : Sl), ([] : List UInt8)))] hO hr (by simp; omega) (by unfold maxLen; simp; omega) hU.size
          obtain ⟨a2, k2, h5, _⟩ := h2.rd owCells_len
          exact ⟨v', w', h1, h2, hU.trans h3 (by simp) (fun y hy => .inr (hO.ge y hy).1), a2, k2, by rw [h5, List.length_append, List.length_take, Nat.min_eq_left hb]; rfl⟩
        obtain ⟨D, hD, hcutD⟩ : ∃ D : Option Addr, D = (if co = k then (some ⟨lb, loff, none⟩) else ((some ⟨lb, loff, none⟩) : Option Addr).map (·.add (k * 2))) ∧ ∀ W, (Instr.slice 42 (.slice (some ⟨lb, loff, none⟩) l.length co) (some (.int .i64 ((k : Nat) : Int))) none none).run Tryz.prog W = .ok (.slice D (l.length - k) (co - k)) W := ⟨_, rfl, fun W => run_cut (P := Tryz.prog) undOW sizeOW (some ⟨lb, loff, none⟩) l.length co k hb W⟩
        have HD : Hid (RdN 2 owCells w2 (.slice D (l.length - k) (co - k)) (l.drop k)) := by unfold Hid; rw [hD]; exact HR2.out.dropR k hb
        have HA3 : Hid (∀ (W : World) (a2 : Option Addr) (k2 : Nat), OwnN 2 owCells w2.heap.size 132 W (.slice a2 (k + 1) k2) (l.take k ++ [(nm, ((⟨none, 0, 0⟩ : Sl), ([] : List UInt8)))]) → Upd [] w2 W → ∃ v' w', (Builtin.append_ #[42, 42] 42 #[.slice a2 (k + 1) k2, (.slice D (l.length - k) (co - k))]).run Tryz.prog W = .ok v' w' ∧ (OwnN 2 owCells w2.heap.size 132 w' v' (l.take k ++ [(nm, ((⟨none, 0, 0⟩ : Sl), ([] : List UInt8)))] ++ l.drop k) ∧ Upd [] w2 w' ∧ ∃ a3 n3 k3, v' = .slice a3 n3 k3)) := by
          intro W a2 k2 hO hU
          obtain ⟨v', w', h1, h2, h3, h4⟩ := run_appN (P := Tryz.prog) (ty := 42) (base := w2.heap.size) owCells_len (by decide) owCells_one undOW infoOW rfl _ (.slice D (l.length - k) (co - k)) (l.take k ++ [(nm, ((⟨none, 0, 0⟩ : Sl), ([] : List UInt8)))]) (l.drop k) hO (HD.out.upd0 owCells_len hU) (by simp; omega) (by unfold maxLen; simp; omega) hU.size
          obtain ⟨a3, k3, h5, _⟩ := h2.rd owCells_len
          exact ⟨v', w', h1, h2, hU.trans h3 (by simp) (fun y hy => .inr (hO.ge y hy).1), a3, _, k3, h5⟩
        clear hD
        have hcutA : ∀ W, (Instr.slice 42 (.slice (some ⟨lb, loff, none⟩) l.length co) none (some (.int .i64 ((k : Nat) : Int))) none).run Tryz.prog W = .ok (.slice (some ⟨lb, loff, none⟩) k co) W := fun W => run_cut_h (P := Tryz.prog) undOW sizeOW (some ⟨lb, loff, none⟩) l.length co k (by omega) W
        go_wp2_with fail
        go_region_held3 (fun w' => w'.cell? ⟨w.heap.size, 1, none⟩ = some (sv nm)) (first | go_keep | exact hkeep3 | exact hkeep2 | exact hkeep)
          (first
                | ((refine step_app_of rfl (.tmp 46) (.tmp 49) rfl (.slice a2 (k + 1) k2) (.slice D (l.length - k) (co - k)) (by rfl) (by rfl) (HA3.out _ a2 k2 ?_ ?_) ?_); (refine OwnN.upd (S := []) ho4 ?_ (by simp); (repeat (first | exact Upd.refl _ _ | apply Upd.drew | apply Upd.drewN | apply Upd.alloc))); (refine hu4.seq ?_; (repeat (first | exact Upd.refl _ _ | apply Upd.drew | apply Upd.drewN | apply Upd.alloc))); (rintro v3 w5 ⟨ho5, hu5, a3, n3, k3, rfl⟩; have hkeep3 := hu5.cell e1 (by simp); dsimp only))
                | ((refine step_app_of rfl (.tmp 41) (.tmp 45) rfl (.slice a1 k k1) (.slice (some ⟨w3.heap.size, 0, none⟩) 1 1) (by rfl) (by rfl) (HA2.out _ a1 k1 (w3.heap.size) ?_ ?_ ?_) ?_); (refine OwnN.upd (S := []) ho3 ?_ (by simp); (repeat (first | exact Upd.refl _ _ | apply Upd.drew | apply Upd.drewN | apply Upd.alloc))); (refine hu23.seq ?_; (repeat (first | exact Upd.refl _ _ | apply Upd.drew | apply Upd.drewN | apply Upd.alloc))); exact fun j u h => ((Upd.refl [] _).drew).cell (cells_new (W := w3) rfl rfl j u h) (by simp); (rintro v2 w4 ⟨ho4, hu4, a2, k2, rfl⟩; have hkeep2 := hu4.cell e1 (by simp); dsimp only))
                | ((refine step_app_of rfl (.tmp 41) (.tmp 45) rfl (.slice a1 k k1) (.slice (some ⟨w2.heap.size + 1, 0, none⟩) 1 1) (by rfl) (by rfl) (HA2.out _ a1 k1 (w2.heap.size + 1) ?_ ?_ ?_) ?_); (refine OwnN.upd (S := []) ho3 ?_ (by simp); (repeat (first | exact Upd.refl _ _ | apply Upd.drew | apply Upd.drewN | apply Upd.alloc))); (refine hu23.seq ?_; (repeat (first | exact Upd.refl _ _ | apply Upd.drew | apply Upd.drewN | apply Upd.alloc))); exact fun j u h => ((Upd.refl [] _).drew).cell (hcr j u h) (by simp); (rintro v2 w4 ⟨ho4, hu4, a2, k2, rfl⟩; have hkeep2 := hu4.cell e1 (by simp); dsimp only))
                | ((refine step_app_of rfl (.tmp 41) (.tmp 45) rfl (.slice a1 k k1) (.slice (some ⟨w2.heap.size, 0, none⟩) 1 1) (by rfl) (by rfl) (HA2.out _ a1 k1 (w2.heap.size) ?_ ?_ ?_) ?_); (refine OwnN.upd (S := []) ho3 ?_ (by simp); (repeat (first | exact Upd.refl _ _ | apply Upd.drew | apply Upd.drewN | apply Upd.alloc))); (refine hu23.seq ?_; (repeat (first | exact Upd.refl _ _ | apply Upd.drew | apply Upd.drewN | apply Upd.alloc))); exact fun j u h => ((Upd.refl [] _).drew).cell (hcr j u h) (by simp); (rintro v2 w4 ⟨ho4, hu4, a2, k2, rfl⟩; have hkeep2 := hu4.cell e1 (by simp); dsimp only))
                | ((refine step_app_of rfl (.tmp 37) (.tmp 40) rfl (.slice (some ⟨w2.heap.size, 0, none⟩) 0 0) (.slice (some ⟨lb, loff, none⟩) k co) (by rfl) (by rfl) (HA1.out _ (w2.heap.size) (by omega) ?_ ?_) ?_); (repeat (first | exact Upd.refl _ _ | apply Upd.drew | apply Upd.drewN | apply Upd.alloc)); (refine Blk.fresh (w := w2) (C := #[]) (xs := []) rfl rfl ?_; (repeat (first | exact Upd.refl _ _ | apply Upd.drew | apply Upd.drewN | apply Upd.alloc))); (rintro v1 w3 ⟨ho3, hu3, hu23, a1, k1, rfl⟩; have hkeep := hu23.cell e1 (by simp); have hcr : ∀ j u, ([.string nm, .slice none 0 0] : List Value)[j]? = some u → w3.cell? ⟨w2.heap.size + 1, j, none⟩ = some u := fun j u h => hu3.cell (((Upd.refl [] _).drew).cell (cells_new (W := w2.alloc (Obj.cells #[] 132)) (by simp) rfl j u h) (by simp)) (by simp); dsimp only))
                | ((refine step_app_of rfl (.tmp 37) (.tmp 40) rfl (.slice (some ⟨w2.heap.size, 0, none⟩) 0 0) (.slice (some ⟨lb, loff, none⟩) k co) (by rfl) (by rfl) (HA1.out _ (w2.heap.size) (by omega) ?_ ?_) ?_); (repeat (first | exact Upd.refl _ _ | apply Upd.drew | apply Upd.drewN | apply Upd.alloc)); (refine Blk.fresh (w := w2) (C := #[]) (xs := []) rfl rfl ?_; (repeat (first | exact Upd.refl _ _ | apply Upd.drew | apply Upd.drewN | apply Upd.alloc))); (rintro v1 w3 ⟨ho3, hu3, hu23, a1, k1, rfl⟩; have hkeep := hu23.cell e1 (by simp); dsimp only))
                | ((refine step_app_of rfl (.tmp 37) (.tmp 40) rfl (.slice (some ⟨w2.heap.size + 1, 0, none⟩) 0 0) (.slice (some ⟨lb, loff, none⟩) k co) (by rfl) (by rfl) (HA1.out _ (w2.heap.size + 1) (by omega) ?_ ?_) ?_); (repeat (first | exact Upd.refl _ _ | apply Upd.drew | apply Upd.drewN | apply Upd.alloc)); (refine Blk.fresh (w := w2.alloc (Obj.cells #[.string nm, .slice none 0 0] 132)) (C := #[]) (xs := []) (by simp) rfl ?_; (repeat (first | exact Upd.refl _ _ | apply Upd.drew | apply Upd.drewN | apply Upd.alloc))); (rintro v1 w3 ⟨ho3, hu3, hu23, a1, k1, rfl⟩; have hkeep := hu23.cell e1 (by simp); have hcr : ∀ j u, ([.string nm, .slice none 0 0] : List Value)[j]? = some u → w3.cell? ⟨w2.heap.size, j, none⟩ = some u := fun j u h => hu3.cell ((((Upd.refl [] _).alloc _).drew).cell (cells_new (W := w2) rfl rfl j u h) (by simp)) (by simp); dsimp only)))
        all_goals
          have HO5 := Lib.hid ho5
          have HU5 := Lib.hid hu5
          clear ho5 hu5
          go_wp2_with fail
          go_ret
          have hset := set_no ((⟨none, 0, 0⟩ : Sl), ([] : List UInt8)) HIN.out
          rw [HAT.out] at hset
          refine RDoes.of H.out rfl HO5.out (by have := HU3.out.size; have := HSQ.out; omega) ((HUQ.out.seq HU3.out).seq HU5.out) ?_ ?_ ?_
          · rw [← hset, df_set]
          · rw [← hset]; exact H.out.ris.set_ strOrd _ _
          · intro c hc
            rw [← hset] at hc
            rcases tSet_mem l nm _ c hc with rfl | q
            · exact .inr ⟨Rd.nil _, fun x hx => by simp [blk] at hx, fun h => absurd rfl h⟩
            · exact .inl q
    · have HAT : Hid (below strLt l nm = k) := below_eq l nm k hk hlo.out (fun h => absurd h hlt)
      have hd : decide (k < l.length) = false := decide_eq_false hlt
      have hd2 : ¬ (k : Int) < l.length := by omega
      clear hlo hlt
      go_wp2_with fail
      go_quiet (fail)
      have HU3 := Lib.hid (hu.out.drewN nq)
      replace e1 := HU3.out.cell D1.out (by simp)
      generalize wr.drewN nq = w2 at *
      clear hu
      have hb : k ≤ l.length := by omega
      have HR2 := Lib.hid ((HOQ.out.upd HU3.out (by simp)).rd owCells_len)
      have HA1 : Hid (∀ (W : World) (G : Nat), w2.heap.size ≤ G → Upd [] w2 W → Blk W G 132 [] → ∃ v' w', (Builtin.append_ #[42, 42] 42 #[.slice (some ⟨G, 0, none⟩) 0 0, .slice ao k co]).run Tryz.prog W = .ok v' w' ∧ (OwnN 2 owCells w2.heap.size 132 w' v' (l.take k) ∧ Upd [G] W w' ∧ Upd [] w2 w' ∧ ∃ a1 k1, v' = .slice a1 k k1)) := by
        intro W G hG hU hB
        obtain ⟨v', w', h1, h2, h3, h4⟩ := run_appN (P := Tryz.prog) (ty := 42) (base := w2.heap.size) owCells_len (by decide) owCells_one undOW infoOW rfl _ (.slice ao k co) [] (l.take k) (ownN_emptyR 2 owCells _ _ W G hG hB) ((HR2.out.takeR k hb).upd0 owCells_len hU) (by simp; omega) (by unfold maxLen; simp; omega) hU.size
        rw [List.nil_append] at h2
        obtain ⟨a1, k1, h5, _⟩ := h2.rd owCells_len
        exact ⟨v', w', h1, h2, h3, hU.trans h3 (by simp) (fun y hy => .inr (by simp [blk] at hy; omega)), a1, k1, by rw [h5, List.length_take, Nat.min_eq_left hb]⟩
      have HA2 : Hid (∀ (W : World) (a1 : Option Addr) (k1 GR : Nat), OwnN 2 owCells w2.heap.size 132 W (.slice a1 k k1) (l.take k) → Upd [] w2 W → (∀ j u, ([.string nm, .slice none 0 0] : List Value)[j]? = some u → W.cell? ⟨GR, j, none⟩ = some u) → ∃ v' w', (Builtin.append_ #[42, 42] 42 #[.slice a1 k k1, .slice (some ⟨GR, 0, none⟩) 1 1]).run Tryz.prog W = .ok v' w' ∧ (OwnN 2 owCells w2.heap.size 132 w' v' (l.take k ++ [(nm, (⟨none, 0, 0⟩, []))]) ∧ Upd [] w2 w' ∧ ∃ a2 k2, v' = .slice a2 (k + 1) k2)) := by
        intro W a1 k1 GR hO hU hc
        have hr : RdN 2 owCells W (.slice (some ⟨GR, 0, none⟩) 1 1) [(nm, ((⟨none, 0, 0⟩ : Sl), ([] : List UInt8)))] := ⟨_, 1, rfl, by simp, by simp [maxLen], fun _ => ⟨GR, 0, rfl, fun j hj i hi => by
          simp at hj; subst hj
          have hi2 : i = 0 ∨ i = 1 := by omega
          rcases hi2 with rfl | rfl
          · simpa [nth_cons_zero] using hc 0 _ rfl
          · simpa [nth_cons_zero] using hc 1 _ rfl⟩⟩
        obtain ⟨v', w', h1, h2, h3, h4⟩ := run_appN (P := Tryz.prog) (ty := 42) (base := w2.heap.size) owCells_len (by decide) owCells_one undOW infoOW rfl _ _ (l.take k) [(nm, ((⟨none, 0, 0⟩ : Sl), ([] : List UInt8)))] hO hr (by simp; omega) (by unfold maxLen; simp; omega) hU.size
        obtain ⟨a2, k2, h5, _⟩ := h2.rd owCells_len
        exact ⟨v', w', h1, h2, hU.trans h3 (by simp) (fun y hy => .inr (hO.ge y hy).1), a2, k2, by rw [h5, List.length_append, List.length_take, Nat.min_eq_left hb]; rfl⟩
      obtain ⟨D, hD, hcutD⟩ : ∃ D : Option Addr, D = (if co = k then ao else (ao : Option Addr).map (·.add (k * 2))) ∧ ∀ W, (Instr.slice 42 (.slice ao l.length co) (some (.int .i64 ((k : Nat) : Int))) none none).run Tryz.prog W = .ok (.slice D (l.length - k) (co - k)) W := ⟨_, rfl, fun W => run_cut (P := Tryz.prog) undOW sizeOW ao l.length co k hb W⟩
      have HD : Hid (RdN 2 owCells w2 (.slice D (l.length - k) (co - k)) (l.drop k)) := by unfold Hid; rw [hD]; exact HR2.out.dropR k hb
      have HA3 : Hid (∀ (W : World) (a2 : Option Addr) (k2 : Nat), OwnN 2 owCells w2.heap.size 132 W (.slice a2 (k + 1) k2) (l.take k ++ [(nm, ((⟨none, 0, 0⟩ : Sl), ([] : List UInt8)))]) → Upd [] w2 W → ∃ v' w', (Builtin.append_ #[42, 42] 42 #[.slice a2 (k + 1) k2, (.slice D (l.length - k) (co - k))]).run Tryz.prog W = .ok v' w' ∧ (OwnN 2 owCells w2.heap.size 132 w' v' (l.take k ++ [(nm, ((⟨none, 0, 0⟩ : Sl), ([] : List UInt8)))] ++ l.drop k) ∧ Upd [] w2 w' ∧ ∃ a3 n3 k3, v' = .slice a3 n3 k3)) := by
        intro W a2 k2 hO hU
        obtain ⟨v', w', h1, h2, h3, h4⟩ := run_appN (P := Tryz.prog) (ty := 42) (base := w2.heap.size) owCells_len (by decide) owCells_one undOW infoOW rfl _ (.slice D (l.length - k) (co - k)) (l.take k ++ [(nm, ((⟨none, 0, 0⟩ : Sl), ([] : List UInt8)))]) (l.drop k) hO (HD.out.upd0 owCells_len hU) (by simp; omega) (by unfold maxLen; simp; omega) hU.size
        obtain ⟨a3, k3, h5, _⟩ := h2.rd owCells_len
        exact ⟨v', w', h1, h2, hU.trans h3 (by simp) (fun y hy => .inr (hO.ge y hy).1), a3, _, k3, h5⟩
      clear hD
      have hcutA : ∀ W, (Instr.slice 42 (.slice ao l.length co) none (some (.int .i64 ((k : Nat) : Int))) none).run Tryz.prog W = .ok (.slice ao k co) W := fun W => run_cut_h (P := Tryz.prog) undOW sizeOW ao l.length co k (by omega) W
      go_wp2_with fail
      go_region_held3 (fun w' => w'.cell? ⟨w.heap.size, 1, none⟩ = some (sv nm)) (first | go_keep | exact hkeep3 | exact hkeep2 | exact hkeep)
        (first
              | ((refine step_app_of rfl (.tmp 46) (.tmp 49) rfl (.slice a2 (k + 1) k2) (.slice D (l.length - k) (co - k)) (by rfl) (by rfl) (HA3.out _ a2 k2 ?_ ?_) ?_); (refine OwnN.upd (S := []) ho4 ?_ (by simp); (repeat (first | exact Upd.refl _ _ | apply Upd.drew | apply Upd.drewN | apply Upd.alloc))); (refine hu4.seq ?_; (repeat (first | exact Upd.refl _ _ | apply Upd.drew | apply Upd.drewN | apply Upd.alloc))); (rintro v3 w5 ⟨ho5, hu5, a3, n3, k3, rfl⟩; have hkeep3 := hu5.cell e1 (by simp); dsimp only))
              | ((refine step_app_of rfl (.tmp 41) (.tmp 45) rfl (.slice a1 k k1) (.slice (some ⟨w3.heap.size, 0, none⟩) 1 1) (by rfl) (by rfl) (HA2.out _ a1 k1 (w3.heap.size) ?_ ?_ ?_) ?_); (refine OwnN.upd (S := []) ho3 ?_ (by simp); (repeat (first | exact Upd.refl _ _ | apply Upd.drew | apply Upd.drewN | apply Upd.alloc))); (refine hu23.seq ?_; (repeat (first | exact Upd.refl _ _ | apply Upd.drew | apply Upd.drewN | apply Upd.alloc))); exact fun j u h => ((Upd.refl [] _).drew).cell (cells_new (W := w3) rfl rfl j u h) (by simp); (rintro v2 w4 ⟨ho4, hu4, a2, k2, rfl⟩; have hkeep2 := hu4.cell e1 (by simp); dsimp only))
              | ((refine step_app_of rfl (.tmp 41) (.tmp 45) rfl (.slice a1 k k1) (.slice (some ⟨w2.heap.size + 1, 0, none⟩) 1 1) (by rfl) (by rfl) (HA2.out _ a1 k1 (w2.heap.size + 1) ?_ ?_ ?_) ?_); (refine OwnN.upd (S := []) ho3 ?_ (by simp); (repeat (first | exact Upd.refl _ _ | apply Upd.drew | apply Upd.drewN | apply Upd.alloc))); (refine hu23.seq ?_; (repeat (first | exact Upd.refl _ _ | apply Upd.drew | apply Upd.drewN | apply Upd.alloc))); exact fun j u h => ((Upd.refl [] _).drew).cell (hcr j u h) (by simp); (rintro v2 w4 ⟨ho4, hu4, a2, k2, rfl⟩; have hkeep2 := hu4.cell e1 (by simp); dsimp only))
              | ((refine step_app_of rfl (.tmp 41) (.tmp 45) rfl (.slice a1 k k1) (.slice (some ⟨w2.heap.size, 0, none⟩) 1 1) (by rfl) (by rfl) (HA2.out _ a1 k1 (w2.heap.size) ?_ ?_ ?_) ?_); (refine OwnN.upd (S := []) ho3 ?_ (by simp); (repeat (first | exact Upd.refl _ _ | apply Upd.drew | apply Upd.drewN | apply Upd.alloc))); (refine hu23.seq ?_; (repeat (first | exact Upd.refl _ _ | apply Upd.drew | apply Upd.drewN | apply Upd.alloc))); exact fun j u h => ((Upd.refl [] _).drew).cell (hcr j u h) (by simp); (rintro v2 w4 ⟨ho4, hu4, a2, k2, rfl⟩; have hkeep2 := hu4.cell e1 (by simp); dsimp only))
              | ((refine step_app_of rfl (.tmp 37) (.tmp 40) rfl (.slice (some ⟨w2.heap.size, 0, none⟩) 0 0) (.slice ao k co) (by rfl) (by rfl) (HA1.out _ (w2.heap.size) (by omega) ?_ ?_) ?_); (repeat (first | exact Upd.refl _ _ | apply Upd.drew | apply Upd.drewN | apply Upd.alloc)); (refine Blk.fresh (w := w2) (C := #[]) (xs := []) rfl rfl ?_; (repeat (first | exact Upd.refl _ _ | apply Upd.drew | apply Upd.drewN | apply Upd.alloc))); (rintro v1 w3 ⟨ho3, hu3, hu23, a1, k1, rfl⟩; have hkeep := hu23.cell e1 (by simp); have hcr : ∀ j u, ([.string nm, .slice none 0 0] : List Value)[j]? = some u → w3.cell? ⟨w2.heap.size + 1, j, none⟩ = some u := fun j u h => hu3.cell (((Upd.refl [] _).drew).cell (cells_new (W := w2.alloc (Obj.cells #[] 132)) (by simp) rfl j u h) (by simp)) (by simp); dsimp only))
              | ((refine step_app_of rfl (.tmp 37) (.tmp 40) rfl (.slice (some ⟨w2.heap.size, 0, none⟩) 0 0) (.slice ao k co) (by rfl) (by rfl) (HA1.out _ (w2.heap.size) (by omega) ?_ ?_) ?_); (repeat (first | exact Upd.refl _ _ | apply Upd.drew | apply Upd.drewN | apply Upd.alloc)); (refine Blk.fresh (w := w2) (C := #[]) (xs := []) rfl rfl ?_; (repeat (first | exact Upd.refl _ _ | apply Upd.drew | apply Upd.drewN | apply Upd.alloc))); (rintro v1 w3 ⟨ho3, hu3, hu23, a1, k1, rfl⟩; have hkeep := hu23.cell e1 (by simp); dsimp only))
              | ((refine step_app_of rfl (.tmp 37) (.tmp 40) rfl (.slice (some ⟨w2.heap.size + 1, 0, none⟩) 0 0) (.slice ao k co) (by rfl) (by rfl) (HA1.out _ (w2.heap.size + 1) (by omega) ?_ ?_) ?_); (repeat (first | exact Upd.refl _ _ | apply Upd.drew | apply Upd.drewN | apply Upd.alloc)); (refine Blk.fresh (w := w2.alloc (Obj.cells #[.string nm, .slice none 0 0] 132)) (C := #[]) (xs := []) (by simp) rfl ?_; (repeat (first | exact Upd.refl _ _ | apply Upd.drew | apply Upd.drewN | apply Upd.alloc))); (rintro v1 w3 ⟨ho3, hu3, hu23, a1, k1, rfl⟩; have hkeep := hu23.cell e1 (by simp); have hcr : ∀ j u, ([.string nm, .slice none 0 0] : List Value)[j]? = some u → w3.cell? ⟨w2.heap.size, j, none⟩ = some u := fun j u h => hu3.cell ((((Upd.refl [] _).alloc _).drew).cell (cells_new (W := w2) rfl rfl j u h) (by simp)) (by simp); dsimp only)))
      all_goals
        have HO5 := Lib.hid ho5
        have HU5 := Lib.hid hu5
        clear ho5 hu5
        go_wp2_with fail
        go_ret
        have hset := set_no ((⟨none, 0, 0⟩ : Sl), ([] : List UInt8)) HIN.out
        rw [HAT.out] at hset
        refine RDoes.of H.out rfl HO5.out (by have := HU3.out.size; have := HSQ.out; omega) ((HUQ.out.seq HU3.out).seq HU5.out) ?_ ?_ ?_
        · rw [← hset, df_set]
        · rw [← hset]; exact H.out.ris.set_ strOrd _ _
        · intro c hc
          rw [← hset] at hc
          rcases tSet_mem l nm _ c hc with rfl | q
          · exact .inr ⟨Rd.nil _, fun x hx => by simp [blk] at hx, fun h => absurd rfl h⟩
          · exact .inl q
set_option maxRecDepth 20000 in
set_option maxHeartbeats 4000000 in
theorem rMade_5 (nm tn : ByteArray) (p : List UInt8) (n : Int) (pa : Option Addr) (pn pk : Nat) (h : RL w R v l) (hl : l.length ≤ 10000) (hin : isIn strLt l nm = true) :
    Calls Tryz.prog 80 #[v, wrv ⟨5, nm, tn, p, n⟩ ⟨pa, pn, pk⟩] w (RDoes w R (tDel strLt (dfOf l) nm)) := by
  obtain ⟨ao0, co0, rfl, hlc, hcm, -⟩ := h.row
  have hcap : co0 ≤ 9223372036854775807 := by unfold maxLen at hcm; omega
  have HB0 := Lib.hid (Blk.new w 119 [.int .i64 5, sv nm, sv tn, .slice pa pn pk, .int .i64 n])
  have HU0 := Lib.hid ((Upd.refl [] w).alloc (.cells #[.int .i64 5, sv nm, sv tn, .slice pa pn pk, .int .i64 n] 119))
  have H := Lib.hid h
  clear h hcm
  go_enter Tryz.func80, Tryz.ntmps80
  have hb0 : Blk (w.alloc (.cells #[.int .i64 5, sv nm, sv tn, .slice pa pn pk, .int .i64 n] 119)) w.heap.size 119 [.int .i64 5, sv nm, sv tn, .slice pa pn pk, .int .i64 n] := HB0.out
  have HRUN : Hid (∀ ty (W : World) (G : Nat), G = w.heap.size + 1 → W = (w.alloc (.cells #[.int .i64 5, sv nm, sv tn, .slice pa pn pk, .int .i64 n] 119)).alloc (.cells #[] 132) → ∃ v' w', (Builtin.append_ #[42, 42] ty #[.slice (some ⟨G, 0, none⟩) 0 0, .slice ao0 l.length co0]).run Tryz.prog W = .ok v' w' ∧ (OwnN 2 owCells (w.heap.size + 1) 132 w' v' l ∧ Upd [] (w.alloc (.cells #[.int .i64 5, sv nm, sv tn, .slice pa pn pk, .int .i64 n] 119)) w')) := by
    rintro ty W G rfl rfl
    have hs : (w.alloc (.cells #[.int .i64 5, sv nm, sv tn, .slice pa pn pk, .int .i64 n] 119)).heap.size = w.heap.size + 1 := by simp
    have hbk := Blk.new (w.alloc (.cells #[.int .i64 5, sv nm, sv tn, .slice pa pn pk, .int .i64 n] 119)) 132 []
    rw [hs] at hbk
    have hu := (Upd.refl [] (w.alloc (.cells #[.int .i64 5, sv nm, sv tn, .slice pa pn pk, .int .i64 n] 119))).alloc (.cells #[] 132)
    obtain ⟨v', w', h1, h2, h3, h4⟩ := run_appN (P := Tryz.prog) (ty := ty) (base := w.heap.size + 1) owCells_len (by decide) owCells_one undOW infoOW rfl _ (.slice ao0 l.length co0) [] l (ownN_emptyR 2 owCells (w.heap.size + 1) _ _ (w.heap.size + 1) (Nat.le_refl _) hbk) (H.out.row.upd0 owCells_len (HU0.out.seq hu)) (by simp; omega) (by unfold maxLen; simp; omega) (by simp)
    rw [List.nil_append] at h2
    exact ⟨v', w', h1, h2, hu.trans h3 (by simp) (fun y hy => .inr (by simp [blk] at hy; omega))⟩
  clear hb0
  go_wp2_with (at_builtin; go_must (refine wpList_app_of rfl _ _ rfl (.slice (some ⟨w.heap.size + 1, 0, none⟩) 0 0) (.slice ao0 l.length co0) rfl rfl (HRUN.out _ _ _ rfl rfl) ?_; rintro v1 w1 ⟨ho1, hu1⟩; have HO1 := Lib.hid ho1; have HU1 := Lib.hid hu1; obtain ⟨ao, co, rfl, -⟩ := ho1.rd owCells_len; have hb1 := HB0.out.upd hu1 (by simp); have d0 := hb1.cell 0; have d1 := hb1.cell 1; have d2 := hb1.cell 2; have d3 := hb1.cell 3; have d4 := hb1.cell 4; simp only [List.getElem?_cons_zero, List.getElem?_cons_succ] at d0 d1 d2 d3 d4; have HB1 := Lib.hid hb1; clear ho1 hu1 hb1 HRUN; dsimp only))
  (with_reducible refine (rdAt_any w1 _ l nm (HO1.out.rd owCells_len) H.out.ris (by omega)).mono ?_)
  rintro e wq ⟨rfl, huq⟩
  have D1 := Lib.hid (huq.cell d1 (by simp))
  have D2 := Lib.hid (huq.cell d2 (by simp))
  have D3 := Lib.hid (huq.cell d3 (by simp))
  have D4 := Lib.hid (huq.cell d4 (by simp))
  replace d0 := huq.cell d0 (by simp)
  have HOQ := Lib.hid (HO1.out.upd huq (by simp))
  have HUQ := Lib.hid ((HU0.out.seq HU1.out).seq huq)
  have hin' : isIn strLt l nm = true := hin
  unfold isIn at hin'
  obtain ⟨hkl, hkn⟩ := of_decide_eq_true hin'
  have hai : atI l nm = (below strLt l nm : Int) := by unfold atI; rw [hin]; rfl
  rw [hai]
  have HKN := Lib.hid hkn
  have HDEL : Hid (tDel strLt l nm = l.take (below strLt l nm) ++ l.drop (below strLt l nm + 1)) := by unfold Hid tDel; rw [hin]; rfl
  obtain ⟨k, hk⟩ : ∃ k, below strLt l nm = k := ⟨_, rfl⟩
  have HK := Lib.hid hk
  rw [hk] at hkl ⊢
  obtain ⟨hco, hlco⟩ : co ≤ 9223372036854775807 ∧ l.length ≤ co := by
    obtain ⟨a', k', he, h1, h2, -⟩ := HO1.out.rd owCells_len
    have := (Value.slice.inj he).2.2
    subst this; unfold maxLen at h2; exact ⟨by omega, h1⟩
  have HSQ : Hid (w.heap.size ≤ wq.heap.size) := HUQ.out.size
  have HIN := Lib.hid hin
  have p0 : (0 : Int) ≤ k := by omega
  have p1 : (k : Int) < l.length := by omega
  have p2 : (k : Int) + 1 ≤ l.length := by omega
  have p3 : (0 : Int) ≤ (k : Int) + 1 := by omega
  have hwr : IntKind.i64.wrap ((k : Int) + 1) = (k : Int) + 1 := by rw [IntKind.wrap_i64]; omega
  clear d1 d2 d3 d4 huq HO1 HU1 HB1 HB0 hin hin' hkn hai hk
  have HR2 := Lib.hid (HOQ.out.rd owCells_len)
  generalize wq = w2 at *
  have hb : k ≤ l.length := by omega
  have HA1 : Hid (∀ (W : World) (G : Nat), w2.heap.size ≤ G → Upd [] w2 W → Blk W G 132 [] → ∃ v' w', (Builtin.append_ #[42, 42] 42 #[.slice (some ⟨G, 0, none⟩) 0 0, .slice ao k co]).run Tryz.prog W = .ok v' w' ∧ (OwnN 2 owCells w2.heap.size 132 w' v' (l.take k) ∧ Upd [G] W w' ∧ Upd [] w2 w' ∧ ∃ a1 k1, v' = .slice a1 k k1)) := by
    intro W G hG hU hB
    obtain ⟨v', w', h1, h2, h3, h4⟩ := run_appN (P := Tryz.prog) (ty := 42) (base := w2.heap.size) owCells_len (by decide) owCells_one undOW infoOW rfl _ (.slice ao k co) [] (l.take k) (ownN_emptyR 2 owCells _ _ W G hG hB) ((HR2.out.takeR k hb).upd0 owCells_len hU) (by simp; omega) (by unfold maxLen; simp; omega) hU.size
    rw [List.nil_append] at h2
    obtain ⟨a1, k1, h5, _⟩ := h2.rd owCells_len
    exact ⟨v', w', h1, h2, h3, hU.trans h3 (by simp) (fun y hy => .inr (by simp [blk] at hy; omega)), a1, k1, by rw [h5, List.length_take, Nat.min_eq_left hb]⟩
  obtain ⟨D, hD, hcutD⟩ : ∃ D : Option Addr, D = (if co = k + 1 then ao else ao.map (·.add ((k + 1) * 2))) ∧ ∀ W, (Instr.slice 42 (.slice ao l.length co) (some (.int .i64 ((k : Int) + 1))) none none).run Tryz.prog W = .ok (.slice D (l.length - (k + 1)) (co - (k + 1))) W := ⟨_, rfl, fun W => by have h := run_cut (P := Tryz.prog) undOW sizeOW ao l.length co (k + 1) (by omega) W; simpa using h⟩
  have HD : Hid (RdN 2 owCells w2 (.slice D (l.length - (k + 1)) (co - (k + 1))) (l.drop (k + 1))) := by unfold Hid; rw [hD]; exact HR2.out.dropR (k + 1) (by omega)
  have HA3 : Hid (∀ (W : World) (a2 : Option Addr) (k2 : Nat), OwnN 2 owCells w2.heap.size 132 W (.slice a2 (k) k2) (l.take k) → Upd [] w2 W → ∃ v' w', (Builtin.append_ #[42, 42] 42 #[.slice a2 (k) k2, (.slice D (l.length - (k + 1)) (co - (k + 1)))]).run Tryz.prog W = .ok v' w' ∧ (OwnN 2 owCells w2.heap.size 132 w' v' (l.take k ++ l.drop (k + 1)) ∧ Upd [] w2 w' ∧ ∃ a3 n3 k3, v' = .slice a3 n3 k3)) := by
    intro W a2 k2 hO hU
    obtain ⟨v', w', h1, h2, h3, h4⟩ := run_appN (P := Tryz.prog) (ty := 42) (base := w2.heap.size) owCells_len (by decide) owCells_one undOW infoOW rfl _ (.slice D (l.length - (k + 1)) (co - (k + 1))) (l.take k) (l.drop (k + 1)) hO (HD.out.upd0 owCells_len hU) (by simp; omega) (by unfold maxLen; simp; omega) hU.size
    obtain ⟨a3, k3, h5, _⟩ := h2.rd owCells_len
    exact ⟨v', w', h1, h2, hU.trans h3 (by simp) (fun y hy => .inr (hO.ge y hy).1), a3, _, k3, h5⟩
  clear hD
  have hcutA : ∀ W, (Instr.slice 42 (.slice ao l.length co) none (some (.int .i64 (k : Int))) none).run Tryz.prog W = .ok (.slice ao k co) W := fun W => run_cut_h (P := Tryz.prog) undOW sizeOW ao l.length co k (by omega) W
  go_wp2_with fail
  go_region_held3 (fun w' => True) (trivial) (first
        | ((refine step_app_of rfl (.tmp 126) (.tmp 130) rfl (.slice a1 k k1) (.slice D (l.length - (k + 1)) (co - (k + 1))) (by rfl) (by rfl) (HA3.out _ a1 k1 ?_ ?_) ?_); (refine OwnN.upd (S := []) ho3 ?_ (by simp); (repeat (first | exact Upd.refl _ _ | apply Upd.drew | apply Upd.drewN | apply Upd.alloc))); (refine hu23.seq ?_; (repeat (first | exact Upd.refl _ _ | apply Upd.drew | apply Upd.drewN | apply Upd.alloc))); (rintro v3 w5 ⟨ho5, hu5, a3, n3, k3, rfl⟩; skip; dsimp only))
        | ((refine step_app_of rfl (.tmp 122) (.tmp 125) rfl (.slice (some ⟨w2.heap.size, 0, none⟩) 0 0) (.slice ao k co) (by rfl) (by rfl) (HA1.out _ (w2.heap.size) (by omega) ?_ ?_) ?_); (repeat (first | exact Upd.refl _ _ | apply Upd.drew | apply Upd.drewN | apply Upd.alloc)); (refine Blk.fresh (w := w2) (C := #[]) (xs := []) rfl rfl ?_; (repeat (first | exact Upd.refl _ _ | apply Upd.drew | apply Upd.drewN | apply Upd.alloc))); (rintro v1 w3 ⟨ho3, hu3, hu23, a1, k1, rfl⟩; skip; dsimp only)))
  have HO5 := Lib.hid ho5
  have HU5 := Lib.hid hu5
  clear ho5 hu5
  go_wp2_with fail
  go_ret
  have hset := HDEL.out
  rw [HK.out] at hset
  refine RDoes.of H.out rfl HO5.out HSQ.out (HUQ.out.seq HU5.out) ?_ ?_ ?_
  · rw [← hset, df_del]
  · rw [← hset]; exact H.out.ris.del strOrd _
  · intro c hc
    rw [← hset] at hc
    exact .inl (tDel_mem l nm c hc)
end
end Go.Proofs.YtmhojaiajhdlcaaGreat
namespace Go.Proofs.YtmhojaiajhdlcaaGreat
open Go.RowKit
set_option linter.unusedSimpArgs false
set_option linter.unusedVariables false
theorem OwnN.frozenR {α : Type} {sz : Nat} {c : α → List Value} {base : Nat} {e : TypeId} {w : World} {g n cap : Nat} {l : List α} (h : OwnN sz c base e w (.slice (some ⟨g, 0, none⟩) n cap) l) (k : Nat) : w.frozen? ⟨g, k, none⟩ = false := by
  obtain ⟨h1, h2⟩ := h
  rcases h2 with ⟨he, _⟩ | ⟨g', cap', cur, he, hb, hg, hc, hm, hs, ht⟩
  · simp at he
  · injection he with e1 e2 e3
    injection e1 with e1; injection e1 with e1
    subst e1
    exact frozen_of_row w g k cur e hg
theorem OwnN.cellR {α : Type} [Inhabited α] {sz : Nat} {c : α → List Value} {base : Nat} {e : TypeId} {w : World} {g n cap : Nat} {l : List α} (hsz : ∀ x, (c x).length = sz) (h : OwnN sz c base e w (.slice (some ⟨g, 0, none⟩) n cap) l) (j i : Nat) (hj : j < l.length) (hi : i < sz) : w.cell? ⟨g, j * sz + i, none⟩ = (c (nth l j))[i]? := by
  obtain ⟨a', cap', he, _, _, h3⟩ := h.rd hsz
  obtain ⟨b, off, hb, hc⟩ := h3 (fun q => by rw [q] at hj; simp at hj)
  have e1 : some (⟨g, 0, none⟩ : Addr) = a' := (Value.slice.inj he).1
  have e2 := Option.some.inj (e1.trans hb)
  injection e2 with e2 e3
  subst e2; subst e3
  have := hc j hj i hi
  rwa [Nat.zero_add] at this
theorem OwnN.addrR {α : Type} {sz : Nat} {c : α → List Value} {base : Nat} {e : TypeId} {w : World} {ao : Option Addr} {n cap : Nat} {l : List α} (h : OwnN sz c base e w (.slice ao n cap) l) (hne : 0 < l.length) (hn : n = l.length) : ∃ g, ao = some ⟨g, 0, none⟩ ∧ base ≤ g ∧ g < w.heap.size ∧ ∃ C f, w.heap[g]? = some (.cells C e f) := by
  rcases h.2 with ⟨he, h0⟩ | ⟨g, cap', cur, he, hb, hg, hc, hm, hs, ht⟩
  · omega
  · exact ⟨g, (Value.slice.inj he).1, hb, (Array.getElem?_eq_some_iff.1 hg).1, _, _, hg⟩
theorem own_emptyR (base : Nat) (W : World) (G : Nat) (h : base ≤ G) (hW : Blk W G 5 []) : Own bv base 5 W (.slice (some ⟨G, 0, none⟩) 0 0) [] :=
  ⟨by simp, .inr ⟨G, 0, #[], rfl, h, hW, Nat.le_refl _, Nat.zero_le _, by simp, by simp⟩⟩
theorem set_yes {l : List OW} {nm : ByteArray} (y : Sl × List UInt8) (k : Nat) (h : isIn strLt l nm = true) (hk : below strLt l nm = k) (hn : (nth l (below strLt l nm)).1 = nm) : tSet strLt l nm y = l.set k (nm, y) := by rw [tSet_in l nm y h, hn, hk]
section
variable {w : World} {R : List Nat} {v : Value} {l : List OW}
set_option maxRecDepth 20000 in
set_option maxHeartbeats 4000000 in
theorem rMade_4 (nm tn : ByteArray) (p : List UInt8) (m : Nat) (pa : Option Addr) (pn pk : Nat) (h : RL w R v l) (hl : l.length ≤ 10000) (hin : isIn strLt l nm = true) (old0 : List UInt8) (hold0 : (nth l (below strLt l nm)).2.2 = old0) (hm : m ≤ old0.length) (hsz : old0.length ≤ 100000000) :
    Calls Tryz.prog 80 #[v, wrv ⟨4, nm, tn, p, (m : Int)⟩ ⟨pa, pn, pk⟩] w (RDoes w R (tSet strLt (dfOf l) nm (old0.take m))) := by
  obtain ⟨ao0, co0, rfl, hlc, hcm, -⟩ := h.row
  have hcap : co0 ≤ 9223372036854775807 := by unfold maxLen at hcm; omega
  have HB0 := Lib.hid (Blk.new w 119 [.int .i64 4, sv nm, sv tn, .slice pa pn pk, .int .i64 (m : Int)])
  have HU0 := Lib.hid ((Upd.refl [] w).alloc (.cells #[.int .i64 4, sv nm, sv tn, .slice pa pn pk, .int .i64 (m : Int)] 119))
  have H := Lib.hid h
  clear h hcm
  go_enter Tryz.func80, Tryz.ntmps80
  have hb0 : Blk (w.alloc (.cells #[.int .i64 4, sv nm, sv tn, .slice pa pn pk, .int .i64 (m : Int)] 119)) w.heap.size 119 [.int .i64 4, sv nm, sv tn, .slice pa pn pk, .int .i64 (m : Int)] := HB0.out
  have HRUN : Hid (∀ ty (W : World) (G : Nat), G = w.heap.size + 1 → W = (w.alloc (.cells #[.int .i64 4, sv nm, sv tn, .slice pa pn pk, .int .i64 (m : Int)] 119)).alloc (.cells #[] 132) → ∃ v' w', (Builtin.append_ #[42, 42] ty #[.slice (some ⟨G, 0, none⟩) 0 0, .slice ao0 l.length co0]).run Tryz.prog W = .ok v' w' ∧ (OwnN 2 owCells (w.heap.size + 1) 132 w' v' l ∧ Upd [] (w.alloc (.cells #[.int .i64 4, sv nm, sv tn, .slice pa pn pk, .int .i64 (m : Int)] 119)) w')) := by
    rintro ty W G rfl rfl
    have hs : (w.alloc (.cells #[.int .i64 4, sv nm, sv tn, .slice pa pn pk, .int .i64 (m : Int)] 119)).heap.size = w.heap.size + 1 := by simp
    have hbk := Blk.new (w.alloc (.cells #[.int .i64 4, sv nm, sv tn, .slice pa pn pk, .int .i64 (m : Int)] 119)) 132 []
    rw [hs] at hbk
    have hu := (Upd.refl [] (w.alloc (.cells #[.int .i64 4, sv nm, sv tn, .slice pa pn pk, .int .i64 (m : Int)] 119))).alloc (.cells #[] 132)
    obtain ⟨v', w', h1, h2, h3, h4⟩ := run_appN (P := Tryz.prog) (ty := ty) (base := w.heap.size + 1) owCells_len (by decide) owCells_one undOW infoOW rfl _ (.slice ao0 l.length co0) [] l (ownN_emptyR 2 owCells (w.heap.size + 1) _ _ (w.heap.size + 1) (Nat.le_refl _) hbk) (H.out.row.upd0 owCells_len (HU0.out.seq hu)) (by simp; omega) (by unfold maxLen; simp; omega) (by simp)
    rw [List.nil_append] at h2
    exact ⟨v', w', h1, h2, hu.trans h3 (by simp) (fun y hy => .inr (by simp [blk] at hy; omega))⟩
  clear hb0
  go_wp2_with (at_builtin; go_must (refine wpList_app_of rfl _ _ rfl (.slice (some ⟨w.heap.size + 1, 0, none⟩) 0 0) (.slice ao0 l.length co0) rfl rfl (HRUN.out _ _ _ rfl rfl) ?_; rintro v1 w1 ⟨ho1, hu1⟩; have HO1 := Lib.hid ho1; have HU1 := Lib.hid hu1; obtain ⟨ao, co, rfl, -⟩ := ho1.rd owCells_len; have hb1 := HB0.out.upd hu1 (by simp); have d0 := hb1.cell 0; have d1 := hb1.cell 1; have d2 := hb1.cell 2; have d3 := hb1.cell 3; have d4 := hb1.cell 4; simp only [List.getElem?_cons_zero, List.getElem?_cons_succ] at d0 d1 d2 d3 d4; have HB1 := Lib.hid hb1; clear ho1 hu1 hb1 HRUN; dsimp only))
  (with_reducible refine (rdAt_any w1 _ l nm (HO1.out.rd owCells_len) H.out.ris (by omega)).mono ?_)
  rintro e wq ⟨rfl, huq⟩
  have D1 := Lib.hid (huq.cell d1 (by simp))
  have D2 := Lib.hid (huq.cell d2 (by simp))
  have D3 := Lib.hid (huq.cell d3 (by simp))
  have D4 := Lib.hid (huq.cell d4 (by simp))
  replace d0 := huq.cell d0 (by simp)
  have HOQ := Lib.hid (HO1.out.upd huq (by simp))
  have HUQ := Lib.hid ((HU0.out.seq HU1.out).seq huq)
  have hin' : isIn strLt l nm = true := hin
  unfold isIn at hin'
  obtain ⟨hkl, hkn⟩ := of_decide_eq_true hin'
  have hai : atI l nm = (below strLt l nm : Int) := by unfold atI; rw [hin]; rfl
  rw [hai]
  have HKN := Lib.hid hkn
  have HDEL : Hid (tDel strLt l nm = l.take (below strLt l nm) ++ l.drop (below strLt l nm + 1)) := by unfold Hid tDel; rw [hin]; rfl
  obtain ⟨k, hk⟩ : ∃ k, below strLt l nm = k := ⟨_, rfl⟩
  have HK := Lib.hid hk
  rw [hk] at hkl ⊢
  obtain ⟨hco, hlco⟩ : co ≤ 9223372036854775807 ∧ l.length ≤ co := by
    obtain ⟨a', k', he, h1, h2, -⟩ := HO1.out.rd owCells_len
    have := (Value.slice.inj he).2.2
    subst this; unfold maxLen at h2; exact ⟨by omega, h1⟩
  have HSQ : Hid (w.heap.size ≤ wq.heap.size) := HUQ.out.size
  have HIN := Lib.hid hin
  have p0 : (0 : Int) ≤ k := by omega
  have p1 : (k : Int) < l.length := by omega
  have p2 : (k : Int) + 1 ≤ l.length := by omega
  have p3 : (0 : Int) ≤ (k : Int) + 1 := by omega
  have hwr : IntKind.i64.wrap ((k : Int) + 1) = (k : Int) + 1 := by rw [IntKind.wrap_i64]; omega
  clear d1 d2 d3 d4 huq HO1 HU1 HB1 HB0 hin hin' hkn hai hk
  obtain ⟨g, rfl, hg1, hg2, Cg, fg, hgt⟩ := HOQ.out.addrR (by omega) rfl
  have hne2 : ¬ g = w.heap.size := by omega
  obtain ⟨⟨xn, ⟨oa, on, ok⟩, old⟩, hx⟩ : ∃ x, nth l k = x := ⟨_, rfl⟩
  have hxm : (xn, ((⟨oa, on, ok⟩ : Sl), old)) ∈ l := by rw [← hx, nth_get l k hkl]; exact List.getElem_mem _
  have hxn : xn = nm := by have := HKN.out; rw [HK.out, hx] at this; exact this
  subst hxn
  have HOLD : Hid (Bytes wq (.slice oa on ok) old) := (H.out.dat _ hxm).upd0 HUQ.out
  have hon : on = old.length := by
    obtain ⟨a', k', he, -⟩ := HOLD.out
    exact (Value.slice.inj he).2.1
  subst hon
  have hok : ok ≤ 9223372036854775807 ∧ old.length ≤ ok := by
    obtain ⟨a', k', he, h1, h2, -⟩ := HOLD.out
    have := (Value.slice.inj he).2.2
    subst this; unfold maxLen at h2; exact ⟨by omega, h1⟩
  obtain ⟨hok, hok2⟩ := hok
  have HX := Lib.hid hx
  have CR : Hid (wq.cell? ⟨g, k * 2 + 1, none⟩ = some (.slice oa old.length ok)) := by
    have := HOQ.out.cellR owCells_len k 1 hkl (by omega)
    rw [hx] at this; exact this
  have FR : Hid (∀ W, Upd [] wq W → W.frozen? ⟨g, k * 2 + 1, none⟩ = false) := fun W hW => (HOQ.out.upd hW (by simp)).frozenR _
  have HGT : Hid (∀ b, (∃ C f, wq.heap[b]? = some (.cells C 5 f)) → b ≠ g) := fun b hb he => by
    obtain ⟨C, f, hb⟩ := hb
    subst he
    exact absurd (ty_eq hb hgt) (by decide)
  have HG1 := Lib.hid hg1
  have HG2 := Lib.hid hg2
  have HXM := Lib.hid hxm
  clear hgt hg1 hx hxm hg2
  have HR1 : Hid (∀ (ty : TypeId) (W : World) (s : Option Addr) (m kk : Nat) (q : List UInt8), Upd [] wq W → Blk W wq.heap.size 5 [] → Bytes W (.slice s m kk) q → q.length ≤ 1000000000 → ∃ v' w', (Builtin.append_ #[28, 28] ty #[.slice (some ⟨wq.heap.size, 0, none⟩) 0 0, .slice s m kk]).run Tryz.prog W = .ok v' w' ∧ (Own bv wq.heap.size 5 w' v' q ∧ Upd [] wq w' ∧ ∃ a1 n1 k1, v' = .slice a1 n1 k1)) := by
    intro ty W s m kk q hU hB hq hql
    obtain ⟨v', w', h1, h2, h3, h4⟩ := run_app (P := Tryz.prog) (w := W) (ty := ty) bv_one Tryz.underlying28 infoB8 rfl _ (.slice s m kk) [] q (own_emptyR wq.heap.size W wq.heap.size (Nat.le_refl _) hB) hq (by simp; omega) (by simp [maxLen]; omega) hU.size
    rw [List.nil_append] at h2
    obtain ⟨a1, k1, h5, _⟩ := h2.rd
    exact ⟨v', w', h1, h2, hU.trans h3 (by simp) (fun y hy => .inr (by simp [blk] at hy; omega)), a1, _, k1, h5⟩
  obtain rfl : old = old0 := by rw [← hold0, HK.out, HX.out]
  clear hold0
  have hcutA : ∀ W, (Instr.slice 28 (.slice oa old.length ok) none (some (.int .i64 (m : Int))) none).run Tryz.prog W = .ok (.slice oa m ok) W := fun W => run_cut_h (P := Tryz.prog) (size := 1) Tryz.underlying28 (by kernel_rfl) oa old.length ok m (by omega) W
  have HCT : Hid (∀ W, Upd [] wq W → Bytes W (.slice oa m ok) (old.take m)) := fun W hW => (HOLD.out.upd0 hW).take m hm
  have HTL : Hid ((old.take m).length ≤ 1000000000) := by unfold Hid; rw [List.length_take]; omega
  have c1 := CR.out
  have c1' : (wq.alloc (Obj.cells #[] 5)).cell? ⟨g, k * 2 + 1, none⟩ = some (.slice oa old.length ok) := ((Upd.refl [] wq).alloc _).cell c1 (by simp)
  have d4 := D4.out
  have d4' : (wq.alloc (Obj.cells #[] 5)).cell? ⟨w.heap.size, 4, none⟩ = some (.int .i64 (m : Int)) := ((Upd.refl [] wq).alloc _).cell d4 (by simp)
  have m0 : (0 : Int) ≤ m := by omega
  have m1 : (m : Int) ≤ ok := by omega
  go_wp2_with fail
  go_region_law (first
    | ((refine step_app_of rfl (.tmp 108) (.tmp 116) rfl (.slice (some ⟨wq.heap.size, 0, none⟩) 0 0) (.slice oa m ok) (by rfl) (by rfl) (HR1.out _ _ oa m ok (old.take m) ?_ ?_ (HCT.out _ ?_) HTL.out) ?_); (repeat (first | exact Upd.refl _ _ | apply Upd.drew | apply Upd.drewN | apply Upd.alloc)); (refine Blk.fresh (w := wq) (C := #[]) (xs := []) rfl rfl ?_; (repeat (first | exact Upd.refl _ _ | apply Upd.drew | apply Upd.drewN | apply Upd.alloc))); (repeat (first | exact Upd.refl _ _ | apply Upd.drew | apply Upd.drewN | apply Upd.alloc)); (rintro v9 w9 ⟨ho9, hu9, a9, n9, k9, rfl⟩; have c9 := hu9.cell c1 (by simp); have f9 := FR.out w9 hu9; dsimp only)))
  all_goals
    have HO9 := Lib.hid ho9
    have HU9 := Lib.hid hu9
    clear ho9 hu9
    go_wp2_with fail
    go_ret
    have hset := set_yes (l := l) (nm := xn) ((⟨a9, n9, k9⟩ : Sl), old.take m) k HIN.out HK.out HKN.out
    have hst : Upd [g] w9 ((w9).setCell ⟨g, k * 2 + 1, none⟩ (.slice a9 n9 k9)) := (Upd.refl [g] _).setCell _ _ (.inl (by simp))
    have hrow := (HOQ.out.upd HU9.out (by simp)).set_ owCells_len k 1 hkl (by omega) (.slice a9 n9 k9) (xn, ((⟨a9, n9, k9⟩ : Sl), old.take m)) (by have := HX.out; rw [nth_get l k hkl] at this; rw [this]; rfl)
    rw [← hset] at hrow
    have hgw : w.heap.size ≤ g := by have := HG1.out; omega
    refine RDoes.of H.out rfl hrow (by omega) ((HUQ.out.seq HU9.out).trans hst (by simp) (fun y hy => .inr (by simp at hy; omega))) ?_ ?_ ?_
    · rw [df_set]
    · exact H.out.ris.set_ strOrd _ _
    · intro c hc
      rcases tSet_mem l xn _ c hc with rfl | q
      · refine .inr ⟨(HO9.out.upd hst (fun x hx hy => ?_)).rd, fun x hx => .inr ?_, fun _ x hx hy => ?_⟩
        · simp at hy; subst hy
          have h1 := (HO9.out.ge _ hx).1
          have h2 := HG2.out
          omega
        · have h1 := HO9.out.ge _ hx
          have h2 := HSQ.out
          exact ⟨by omega, by simpa using h1.2⟩
        · simp [blk] at hy; subst hy
          have h1 := (HO9.out.ge _ hx).1
          have h2 := HG2.out
          omega
      · exact .inl q
end
end Go.Proofs.YtmhojaiajhdlcaaGreat
namespace Go.Proofs.YtmhojaiajhdlcaaGreat
open Go.RowKit
set_option linter.unusedSimpArgs false
set_option linter.unusedVariables false
section
variable {w : World} {R : List Nat} {v : Value} {l : List OW}
set_option maxRecDepth 20000 in
set_option maxHeartbeats 4000000 in
theorem rMade_2 (nm tn : ByteArray) (p : List UInt8) (n : Int) (pa : Option Addr) (pn pk : Nat) (h : RL w R v l) (hl : l.length ≤ 10000) (hp : Bytes w (.slice pa pn pk) p) (hin : isIn strLt l nm = true) (old0 : List UInt8) (hold0 : (nth l (below strLt l nm)).2.2 = old0) (hsz : old0.length + p.length ≤ 100000000) :
    Calls Tryz.prog 80 #[v, wrv ⟨2, nm, tn, p, n⟩ ⟨pa, pn, pk⟩] w (RDoes w R (tSet strLt (dfOf l) nm (old0 ++ p))) := by
  have HP := Lib.hid hp
  clear hp
  obtain ⟨ao0, co0, rfl, hlc, hcm, -⟩ := h.row
  have hcap : co0 ≤ 9223372036854775807 := by unfold maxLen at hcm; omega
  have HB0 := Lib.hid (Blk.new w 119 [.int .i64 2, sv nm, sv tn, .slice pa pn pk, .int .i64 n])
  have HU0 := Lib.hid ((Upd.refl [] w).alloc (.cells #[.int .i64 2, sv nm, sv tn, .slice pa pn pk, .int .i64 n] 119))
  have H := Lib.hid h
  clear h hcm
  go_enter Tryz.func80, Tryz.ntmps80
  have hb0 : Blk (w.alloc (.cells #[.int .i64 2, sv nm, sv tn, .slice pa pn pk, .int .i64 n] 119)) w.heap.size 119 [.int .i64 2, sv nm, sv tn, .slice pa pn pk, .int .i64 n] := HB0.out
  have HRUN : Hid (∀ ty (W : World) (G : Nat), G = w.heap.size + 1 → W = (w.alloc (.cells #[.int .i64 2, sv nm, sv tn, .slice pa pn pk, .int .i64 n] 119)).alloc (.cells #[] 132) → ∃ v' w', (Builtin.append_ #[42, 42] ty #[.slice (some ⟨G, 0, none⟩) 0 0, .slice ao0 l.length co0]).run Tryz.prog W = .ok v' w' ∧ (OwnN 2 owCells (w.heap.size + 1) 132 w' v' l ∧ Upd [] (w.alloc (.cells #[.int .i64 2, sv nm, sv tn, .slice pa pn pk, .int .i64 n] 119)) w')) := by
    rintro ty W G rfl rfl
    have hs : (w.alloc (.cells #[.int .i64 2, sv nm, sv tn, .slice pa pn pk, .int .i64 n] 119)).heap.size = w.heap.size + 1 := by simp
    have hbk := Blk.new (w.alloc (.cells #[.int .i64 2, sv nm, sv tn, .slice pa pn pk, .int .i64 n] 119)) 132 []
    rw [hs] at hbk
    have hu := (Upd.refl [] (w.alloc (.cells #[.int .i64 2, sv nm, sv tn, .slice pa pn pk, .int .i64 n] 119))).alloc (.cells #[] 132)
    obtain ⟨v', w', h1, h2, h3, h4⟩ := run_appN (P := Tryz.prog) (ty := ty) (base := w.heap.size + 1) owCells_len (by decide) owCells_one undOW infoOW rfl _ (.slice ao0 l.length co0) [] l (ownN_emptyR 2 owCells (w.heap.size + 1) _ _ (w.heap.size + 1) (Nat.le_refl _) hbk) (H.out.row.upd0 owCells_len (HU0.out.seq hu)) (by simp; omega) (by unfold maxLen; simp; omega) (by simp)
    rw [List.nil_append] at h2
    exact ⟨v', w', h1, h2, hu.trans h3 (by simp) (fun y hy => .inr (by simp [blk] at hy; omega))⟩
  clear hb0
  go_wp2_with (at_builtin; go_must (refine wpList_app_of rfl _ _ rfl (.slice (some ⟨w.heap.size + 1, 0, none⟩) 0 0) (.slice ao0 l.length co0) rfl rfl (HRUN.out _ _ _ rfl rfl) ?_; rintro v1 w1 ⟨ho1, hu1⟩; have HO1 := Lib.hid ho1; have HU1 := Lib.hid hu1; obtain ⟨ao, co, rfl, -⟩ := ho1.rd owCells_len; have hb1 := HB0.out.upd hu1 (by simp); have d0 := hb1.cell 0; have d1 := hb1.cell 1; have d2 := hb1.cell 2; have d3 := hb1.cell 3; have d4 := hb1.cell 4; simp only [List.getElem?_cons_zero, List.getElem?_cons_succ] at d0 d1 d2 d3 d4; have HB1 := Lib.hid hb1; clear ho1 hu1 hb1 HRUN; dsimp only))
  (with_reducible refine (rdAt_any w1 _ l nm (HO1.out.rd owCells_len) H.out.ris (by omega)).mono ?_)
  rintro e wq ⟨rfl, huq⟩
  have D1 := Lib.hid (huq.cell d1 (by simp))
  have D2 := Lib.hid (huq.cell d2 (by simp))
  have D3 := Lib.hid (huq.cell d3 (by simp))
  have D4 := Lib.hid (huq.cell d4 (by simp))
  replace d0 := huq.cell d0 (by simp)
  have HOQ := Lib.hid (HO1.out.upd huq (by simp))
  have HUQ := Lib.hid ((HU0.out.seq HU1.out).seq huq)
  have hin' : isIn strLt l nm = true := hin
  unfold isIn at hin'
  obtain ⟨hkl, hkn⟩ := of_decide_eq_true hin'
  have hai : atI l nm = (below strLt l nm : Int) := by unfold atI; rw [hin]; rfl
  rw [hai]
  have HKN := Lib.hid hkn
  have HDEL : Hid (tDel strLt l nm = l.take (below strLt l nm) ++ l.drop (below strLt l nm + 1)) := by unfold Hid tDel; rw [hin]; rfl
  obtain ⟨k, hk⟩ : ∃ k, below strLt l nm = k := ⟨_, rfl⟩
  have HK := Lib.hid hk
  rw [hk] at hkl ⊢
  obtain ⟨hco, hlco⟩ : co ≤ 9223372036854775807 ∧ l.length ≤ co := by
    obtain ⟨a', k', he, h1, h2, -⟩ := HO1.out.rd owCells_len
    have := (Value.slice.inj he).2.2
    subst this; unfold maxLen at h2; exact ⟨by omega, h1⟩
  have HSQ : Hid (w.heap.size ≤ wq.heap.size) := HUQ.out.size
  have HIN := Lib.hid hin
  have p0 : (0 : Int) ≤ k := by omega
  have p1 : (k : Int) < l.length := by omega
  have p2 : (k : Int) + 1 ≤ l.length := by omega
  have p3 : (0 : Int) ≤ (k : Int) + 1 := by omega
  have hwr : IntKind.i64.wrap ((k : Int) + 1) = (k : Int) + 1 := by rw [IntKind.wrap_i64]; omega
  clear d1 d2 d3 d4 huq HO1 HU1 HB1 HB0 hin hin' hkn hai hk
  obtain ⟨g, rfl, hg1, hg2, Cg, fg, hgt⟩ := HOQ.out.addrR (by omega) rfl
  have hne2 : ¬ g = w.heap.size := by omega
  obtain ⟨⟨xn, ⟨oa, on, ok⟩, old⟩, hx⟩ : ∃ x, nth l k = x := ⟨_, rfl⟩
  have hxm : (xn, ((⟨oa, on, ok⟩ : Sl), old)) ∈ l := by rw [← hx, nth_get l k hkl]; exact List.getElem_mem _
  have hxn : xn = nm := by have := HKN.out; rw [HK.out, hx] at this; exact this
  subst hxn
  have HOLD : Hid (Bytes wq (.slice oa on ok) old) := (H.out.dat _ hxm).upd0 HUQ.out
  have hon : on = old.length := by
    obtain ⟨a', k', he, -⟩ := HOLD.out
    exact (Value.slice.inj he).2.1
  subst hon
  have hok : ok ≤ 9223372036854775807 ∧ old.length ≤ ok := by
    obtain ⟨a', k', he, h1, h2, -⟩ := HOLD.out
    have := (Value.slice.inj he).2.2
    subst this; unfold maxLen at h2; exact ⟨by omega, h1⟩
  obtain ⟨hok, hok2⟩ := hok
  have HX := Lib.hid hx
  have CR : Hid (wq.cell? ⟨g, k * 2 + 1, none⟩ = some (.slice oa old.length ok)) := by
    have := HOQ.out.cellR owCells_len k 1 hkl (by omega)
    rw [hx] at this; exact this
  have FR : Hid (∀ W, Upd [] wq W → W.frozen? ⟨g, k * 2 + 1, none⟩ = false) := fun W hW => (HOQ.out.upd hW (by simp)).frozenR _
  have HGT : Hid (∀ b, (∃ C f, wq.heap[b]? = some (.cells C 5 f)) → b ≠ g) := fun b hb he => by
    obtain ⟨C, f, hb⟩ := hb
    subst he
    exact absurd (ty_eq hb hgt) (by decide)
  have HG1 := Lib.hid hg1
  have HG2 := Lib.hid hg2
  have HXM := Lib.hid hxm
  clear hgt hg1 hx hxm hg2
  have HR1 : Hid (∀ (ty : TypeId) (W : World) (s : Option Addr) (m kk : Nat) (q : List UInt8), Upd [] wq W → Blk W wq.heap.size 5 [] → Bytes W (.slice s m kk) q → q.length ≤ 1000000000 → ∃ v' w', (Builtin.append_ #[28, 28] ty #[.slice (some ⟨wq.heap.size, 0, none⟩) 0 0, .slice s m kk]).run Tryz.prog W = .ok v' w' ∧ (Own bv wq.heap.size 5 w' v' q ∧ Upd [] wq w' ∧ ∃ a1 n1 k1, v' = .slice a1 n1 k1)) := by
    intro ty W s m kk q hU hB hq hql
    obtain ⟨v', w', h1, h2, h3, h4⟩ := run_app (P := Tryz.prog) (w := W) (ty := ty) bv_one Tryz.underlying28 infoB8 rfl _ (.slice s m kk) [] q (own_emptyR wq.heap.size W wq.heap.size (Nat.le_refl _) hB) hq (by simp; omega) (by simp [maxLen]; omega) hU.size
    rw [List.nil_append] at h2
    obtain ⟨a1, k1, h5, _⟩ := h2.rd
    exact ⟨v', w', h1, h2, hU.trans h3 (by simp) (fun y hy => .inr (by simp [blk] at hy; omega)), a1, _, k1, h5⟩
  obtain rfl : old = old0 := by rw [← hold0, HK.out, HX.out]
  clear hold0
  have HR2 : Hid (∀ (ty : TypeId) (W : World) (a1 : Option Addr) (n1 k1 : Nat), Own bv wq.heap.size 5 W (.slice a1 n1 k1) old → Upd [] wq W → ∃ v' w', (Builtin.append_ #[28, 28] ty #[.slice a1 n1 k1, .slice pa pn pk]).run Tryz.prog W = .ok v' w' ∧ (Own bv wq.heap.size 5 w' v' (old ++ p) ∧ Upd [] wq w' ∧ ∃ a9 n9 k9, v' = .slice a9 n9 k9)) := by
    intro ty W a1 n1 k1 hO hU
    obtain ⟨v', w', h1, h2, h3, h4⟩ := run_app (P := Tryz.prog) (w := W) (ty := ty) bv_one Tryz.underlying28 infoB8 rfl _ (.slice pa pn pk) old p hO (HP.out.upd0 (HUQ.out.seq hU)) (by omega) (by simp [maxLen]; omega) hU.size
    obtain ⟨a9, k9, h5, _⟩ := h2.rd
    exact ⟨v', w', h1, h2, hU.trans h3 (by simp) (fun y hy => .inr (hO.ge y hy).1), a9, _, k9, h5⟩
  have HTL : Hid (old.length ≤ 1000000000) := by unfold Hid; omega
  have c1 := CR.out
  have c1' : (wq.alloc (Obj.cells #[] 5)).cell? ⟨g, k * 2 + 1, none⟩ = some (.slice oa old.length ok) := ((Upd.refl [] wq).alloc _).cell c1 (by simp)
  have d3 := D3.out
  have d3' : (wq.alloc (Obj.cells #[] 5)).cell? ⟨w.heap.size, 3, none⟩ = some (.slice pa pn pk) := ((Upd.refl [] wq).alloc _).cell d3 (by simp)
  go_wp2_with fail
  go_region_law (first
    | ((refine step_app_of rfl (.tmp 61) (.tmp 63) rfl (.slice a1 n1 k1) (.slice pa pn pk) (by rfl) (by rfl) (HR2.out _ _ a1 n1 k1 ?_ ?_) ?_); (refine Own.upd (S := []) ho8 ?_ (by simp); (repeat (first | exact Upd.refl _ _ | apply Upd.drew | apply Upd.drewN | apply Upd.alloc))); (refine hu8.seq ?_; (repeat (first | exact Upd.refl _ _ | apply Upd.drew | apply Upd.drewN | apply Upd.alloc))); (rintro v9 w9 ⟨ho9, hu9, a9, n9, k9, rfl⟩; have c9 := hu9.cell c1 (by simp); have f9 := FR.out w9 hu9; dsimp only))
    | ((refine step_app_of rfl (.tmp 55) (.tmp 60) rfl (.slice (some ⟨wq.heap.size, 0, none⟩) 0 0) (.slice oa old.length ok) (by rfl) (by rfl) (HR1.out _ _ oa old.length ok old ?_ ?_ (HOLD.out.upd0 ?_) HTL.out) ?_); (repeat (first | exact Upd.refl _ _ | apply Upd.drew | apply Upd.drewN | apply Upd.alloc)); (refine Blk.fresh (w := wq) (C := #[]) (xs := []) rfl rfl ?_; (repeat (first | exact Upd.refl _ _ | apply Upd.drew | apply Upd.drewN | apply Upd.alloc))); (repeat (first | exact Upd.refl _ _ | apply Upd.drew | apply Upd.drewN | apply Upd.alloc)); (rintro v8 w8 ⟨ho8, hu8, a1, n1, k1, rfl⟩; have c8 := hu8.cell c1 (by simp); have d8 := hu8.cell d3 (by simp); dsimp only)))
  all_goals
    have HO9 := Lib.hid ho9
    have HU9 := Lib.hid hu9
    clear ho9 hu9
    go_wp2_with fail
    go_ret
    have hset := set_yes (l := l) (nm := xn) ((⟨a9, n9, k9⟩ : Sl), old ++ p) k HIN.out HK.out HKN.out
    have hst : Upd [g] w9 ((w9).setCell ⟨g, k * 2 + 1, none⟩ (.slice a9 n9 k9)) := (Upd.refl [g] _).setCell _ _ (.inl (by simp))
    have hrow := (HOQ.out.upd HU9.out (by simp)).set_ owCells_len k 1 hkl (by omega) (.slice a9 n9 k9) (xn, ((⟨a9, n9, k9⟩ : Sl), old ++ p)) (by have := HX.out; rw [nth_get l k hkl] at this; rw [this]; rfl)
    rw [← hset] at hrow
    have hgw : w.heap.size ≤ g := by have := HG1.out; omega
    refine RDoes.of H.out rfl hrow (by omega) ((HUQ.out.seq HU9.out).trans hst (by simp) (fun y hy => .inr (by simp at hy; omega))) ?_ ?_ ?_
    · rw [df_set]
    · exact H.out.ris.set_ strOrd _ _
    · intro c hc
      rcases tSet_mem l xn _ c hc with rfl | q
      · refine .inr ⟨(HO9.out.upd hst (fun x hx hy => ?_)).rd, fun x hx => .inr ?_, fun _ x hx hy => ?_⟩
        · simp at hy; subst hy
          have h1 := (HO9.out.ge _ hx).1
          have h2 := HG2.out
          omega
        · have h1 := HO9.out.ge _ hx
          have h2 := HSQ.out
          exact ⟨by omega, by simpa using h1.2⟩
        · simp [blk] at hy; subst hy
          have h1 := (HO9.out.ge _ hx).1
          have h2 := HG2.out
          omega
      · exact .inl q
end
end Go.Proofs.YtmhojaiajhdlcaaGreat
namespace Go.Proofs.YtmhojaiajhdlcaaGreat
open Go.RowKit
set_option linter.unusedSimpArgs false
set_option linter.unusedVariables false
theorem set_set {fs : DF} (hr : Rising strLt fs) (k : ByteArray) (x y : List UInt8) : tSet strLt (tSet strLt fs k x) k y = tSet strLt fs k y := by
  have hle := below_le (lt := strLt) fs k
  have htk : (fs.take (below strLt fs k)).length = below strLt fs k := by rw [List.length_take]; omega
  rw [tSet_in _ k y (in_set hr k x), below_set hr, nth_set_at]
  unfold tSet
  rw [List.set_append_right _ _ (by rw [htk]; exact Nat.le_refl _), htk, Nat.sub_self, List.set_cons_zero]
theorem bytes_upd' {w w' : World} {v : Value} {l : List UInt8} (h : Bytes w v l) {S : List Nat} (hu : Upd S w w') (hs : l ≠ [] → ∀ x ∈ blk v, x ∉ S) : Bytes w' v l := by
  by_cases hne : l = []
  · obtain ⟨a, k, e, h1, h2, h3⟩ := h
    exact ⟨a, k, e, h1, h2, fun q => absurd hne q⟩
  · exact h.upd hu (hs hne)
section
variable {w : World} {R : List Nat} {v : Value} {l : List OW}
/-- The bytes' slice is laid into the row of the new name. -/
theorem ren_fin (H : RL w R v l) {wx : World} {base gx nx cx kk : Nat} {L : List OW} {tn : ByteArray} {oa : Option Addr} {on ok : Nat} {old : List UInt8} (hrow : OwnN 2 owCells base 132 wx (.slice (some ⟨gx, 0, none⟩) nx cx) L) (hb : w.heap.size ≤ base) (hu : Upd [] w wx) (hdat : ∀ c ∈ L, Bytes wx (slv c.2.1) c.2.2 ∧ (∀ x ∈ blk (slv c.2.1), x ∈ R ∨ (w.heap.size ≤ x ∧ x < wx.heap.size)) ∧ (c.2.2 ≠ [] → ∀ x ∈ blk (slv c.2.1), x ≠ gx))
    (hold : Bytes w (.slice oa on ok) old) (hoR : ∀ x ∈ blk (.slice oa on ok), x ∈ R) (hin : isIn strLt L tn = true) (hk : below strLt L tn = kk) (hr : Rising strLt L) :
    RDoes w R (tSet strLt (dfOf L) tn old) (.returned (.slice (some ⟨gx, 0, none⟩) nx cx)) (wx.setCell ⟨gx, kk * 2 + 1, none⟩ (.slice oa on ok)) := by
  have hin' := hin
  unfold isIn at hin'
  obtain ⟨hkl, hkn⟩ := of_decide_eq_true hin'
  have hset := set_yes (l := L) (nm := tn) ((⟨oa, on, ok⟩ : Sl), old) kk hin hk hkn
  rw [hk] at hkl hkn
  have hst : Upd [gx] wx (wx.setCell ⟨gx, kk * 2 + 1, none⟩ (.slice oa on ok)) := (Upd.refl [gx] _).setCell _ _ (.inl (by simp))
  have hrow2 := hrow.set_ owCells_len kk 1 hkl (by omega) (.slice oa on ok) (tn, ((⟨oa, on, ok⟩ : Sl), old)) (by rw [nth_get L kk hkl] at hkn; rw [← hkn]; rfl)
  rw [← hset] at hrow2
  have hgx : base ≤ gx := (hrow.ge gx (by simp [blk])).1
  have hnold : old ≠ [] → ∀ x ∈ blk (.slice oa on ok), x ≠ gx := fun hne x hx he => by have := hold.lt hne x hx; omega
  have hup : Upd [] w (wx.setCell ⟨gx, kk * 2 + 1, none⟩ (.slice oa on ok)) := hu.trans hst (by simp) (fun y hy => .inr (by simp at hy; omega))
  refine RDoes.of H rfl hrow2 hb hup ?_ (hr.set_ strOrd _ _) ?_
  · rw [df_set]
  · intro c hc
    refine .inr ?_
    rcases tSet_mem L tn _ c hc with rfl | q
    · exact ⟨hold.upd0 hup, fun x hx => .inl (hoR x hx), fun hne x hx hy => hnold hne x hx (by simpa [blk] using hy)⟩
    · obtain ⟨q1, q2, q3⟩ := hdat c q
      exact ⟨bytes_upd' q1 hst (fun hne x hx hy => q3 hne x hx (by simpa using hy)), fun x hx => (q2 x hx).imp id (fun q => by simpa using q), fun hne x hx hy => q3 hne x hx (by simpa [blk] using hy)⟩
set_option maxRecDepth 20000 in
set_option maxHeartbeats 4000000 in
theorem rMade_3 (nm tn : ByteArray) (p : List UInt8) (n : Int) (pa : Option Addr) (pn pk : Nat) (h : RL w R v l) (hl : l.length ≤ 10000) (hin : isIn strLt l nm = true) (old0 : List UInt8) (hold0 : (nth l (below strLt l nm)).2.2 = old0) :
    Calls Tryz.prog 80 #[v, wrv ⟨3, nm, tn, p, n⟩ ⟨pa, pn, pk⟩] w (RDoes w R (tSet strLt (tDel strLt (dfOf l) nm) tn old0)) := by
  obtain ⟨ao0, co0, rfl, hlc, hcm, -⟩ := h.row
  have hcap : co0 ≤ 9223372036854775807 := by unfold maxLen at hcm; omega
  have HB0 := Lib.hid (Blk.new w 119 [.int .i64 3, sv nm, sv tn, .slice pa pn pk, .int .i64 n])
  have HU0 := Lib.hid ((Upd.refl [] w).alloc (.cells #[.int .i64 3, sv nm, sv tn, .slice pa pn pk, .int .i64 n] 119))
  have H := Lib.hid h
  clear h hcm
  go_enter Tryz.func80, Tryz.ntmps80
  have hb0 : Blk (w.alloc (.cells #[.int .i64 3, sv nm, sv tn, .slice pa pn pk, .int .i64 n] 119)) w.heap.size 119 [.int .i64 3, sv nm, sv tn, .slice pa pn pk, .int .i64 n] := HB0.out
  have HRUN : Hid (∀ ty (W : World) (G : Nat), G = w.heap.size + 1 → W = (w.alloc (.cells #[.int .i64 3, sv nm, sv tn, .slice pa pn pk, .int .i64 n] 119)).alloc (.cells #[] 132) → ∃ v' w', (Builtin.append_ #[42, 42] ty #[.slice (some ⟨G, 0, none⟩) 0 0, .slice ao0 l.length co0]).run Tryz.prog W = .ok v' w' ∧ (OwnN 2 owCells (w.heap.size + 1) 132 w' v' l ∧ Upd [] (w.alloc (.cells #[.int .i64 3, sv nm, sv tn, .slice pa pn pk, .int .i64 n] 119)) w')) := by
    rintro ty W G rfl rfl
    have hs : (w.alloc (.cells #[.int .i64 3, sv nm, sv tn, .slice pa pn pk, .int .i64 n] 119)).heap.size = w.heap.size + 1 := by simp
    have hbk := Blk.new (w.alloc (.cells #[.int .i64 3, sv nm, sv tn, .slice pa pn pk, .int .i64 n] 119)) 132 []
    rw [hs] at hbk
    have hu := (Upd.refl [] (w.alloc (.cells #[.int .i64 3, sv nm, sv tn, .slice pa pn pk, .int .i64 n] 119))).alloc (.cells #[] 132)
    obtain ⟨v', w', h1, h2, h3, h4⟩ := run_appN (P := Tryz.prog) (ty := ty) (base := w.heap.size + 1) owCells_len (by decide) owCells_one undOW infoOW rfl _ (.slice ao0 l.length co0) [] l (ownN_emptyR 2 owCells (w.heap.size + 1) _ _ (w.heap.size + 1) (Nat.le_refl _) hbk) (H.out.row.upd0 owCells_len (HU0.out.seq hu)) (by simp; omega) (by unfold maxLen; simp; omega) (by simp)
    rw [List.nil_append] at h2
    exact ⟨v', w', h1, h2, hu.trans h3 (by simp) (fun y hy => .inr (by simp [blk] at hy; omega))⟩
  clear hb0
  go_wp2_with (at_builtin; go_must (refine wpList_app_of rfl _ _ rfl (.slice (some ⟨w.heap.size + 1, 0, none⟩) 0 0) (.slice ao0 l.length co0) rfl rfl (HRUN.out _ _ _ rfl rfl) ?_; rintro v1 w1 ⟨ho1, hu1⟩; have HO1 := Lib.hid ho1; have HU1 := Lib.hid hu1; obtain ⟨ao, co, rfl, -⟩ := ho1.rd owCells_len; have hb1 := HB0.out.upd hu1 (by simp); have d0 := hb1.cell 0; have d1 := hb1.cell 1; have d2 := hb1.cell 2; have d3 := hb1.cell 3; have d4 := hb1.cell 4; simp only [List.getElem?_cons_zero, List.getElem?_cons_succ] at d0 d1 d2 d3 d4; have HB1 := Lib.hid hb1; clear ho1 hu1 hb1 HRUN; dsimp only))
  (with_reducible refine (rdAt_any w1 _ l nm (HO1.out.rd owCells_len) H.out.ris (by omega)).mono ?_)
  rintro e wq ⟨rfl, huq⟩
  have D1 := Lib.hid (huq.cell d1 (by simp))
  have D2 := Lib.hid (huq.cell d2 (by simp))
  have D3 := Lib.hid (huq.cell d3 (by simp))
  have D4 := Lib.hid (huq.cell d4 (by simp))
  replace d0 := huq.cell d0 (by simp)
  have HOQ := Lib.hid (HO1.out.upd huq (by simp))
  have HUQ := Lib.hid ((HU0.out.seq HU1.out).seq huq)
  have hin' : isIn strLt l nm = true := hin
  unfold isIn at hin'
  obtain ⟨hkl, hkn⟩ := of_decide_eq_true hin'
  have hai : atI l nm = (below strLt l nm : Int) := by unfold atI; rw [hin]; rfl
  rw [hai]
  have HKN := Lib.hid hkn
  have HDEL : Hid (tDel strLt l nm = l.take (below strLt l nm) ++ l.drop (below strLt l nm + 1)) := by unfold Hid tDel; rw [hin]; rfl
  obtain ⟨k, hk⟩ : ∃ k, below strLt l nm = k := ⟨_, rfl⟩
  have HK := Lib.hid hk
  rw [hk] at hkl ⊢
  obtain ⟨hco, hlco⟩ : co ≤ 9223372036854775807 ∧ l.length ≤ co := by
    obtain ⟨a', k', he, h1, h2, -⟩ := HO1.out.rd owCells_len
    have := (Value.slice.inj he).2.2
    subst this; unfold maxLen at h2; exact ⟨by omega, h1⟩
  have HSQ : Hid (w.heap.size ≤ wq.heap.size) := HUQ.out.size
  have HIN := Lib.hid hin
  have p0 : (0 : Int) ≤ k := by omega
  have p1 : (k : Int) < l.length := by omega
  have p2 : (k : Int) + 1 ≤ l.length := by omega
  have p3 : (0 : Int) ≤ (k : Int) + 1 := by omega
  have hwr : IntKind.i64.wrap ((k : Int) + 1) = (k : Int) + 1 := by rw [IntKind.wrap_i64]; omega
  clear d1 d2 d3 d4 huq HO1 HU1 HB1 HB0 hin hin' hkn hai hk
  obtain ⟨g, rfl, hg1, hg2, Cg, fg, hgt⟩ := HOQ.out.addrR (by omega) rfl
  have hne2 : ¬ g = w.heap.size := by omega
  obtain ⟨⟨xn, ⟨oa, on, ok⟩, old⟩, hx⟩ : ∃ x, nth l k = x := ⟨_, rfl⟩
  have hxm : (xn, ((⟨oa, on, ok⟩ : Sl), old)) ∈ l := by rw [← hx, nth_get l k hkl]; exact List.getElem_mem _
  have hxn : xn = nm := by have := HKN.out; rw [HK.out, hx] at this; exact this
  subst hxn
  have HOLD : Hid (Bytes wq (.slice oa on ok) old) := (H.out.dat _ hxm).upd0 HUQ.out
  have hon : on = old.length := by
    obtain ⟨a', k', he, -⟩ := HOLD.out
    exact (Value.slice.inj he).2.1
  subst hon
  have hok : ok ≤ 9223372036854775807 ∧ old.length ≤ ok := by
    obtain ⟨a', k', he, h1, h2, -⟩ := HOLD.out
    have := (Value.slice.inj he).2.2
    subst this; unfold maxLen at h2; exact ⟨by omega, h1⟩
  obtain ⟨hok, hok2⟩ := hok
  have HX := Lib.hid hx
  have CR : Hid (wq.cell? ⟨g, k * 2 + 1, none⟩ = some (.slice oa old.length ok)) := by
    have := HOQ.out.cellR owCells_len k 1 hkl (by omega)
    rw [hx] at this; exact this
  have FR : Hid (∀ W, Upd [] wq W → W.frozen? ⟨g, k * 2 + 1, none⟩ = false) := fun W hW => (HOQ.out.upd hW (by simp)).frozenR _
  have HGT : Hid (∀ b, (∃ C f, wq.heap[b]? = some (.cells C 5 f)) → b ≠ g) := fun b hb he => by
    obtain ⟨C, f, hb⟩ := hb
    subst he
    exact absurd (ty_eq hb hgt) (by decide)
  have HG1 := Lib.hid hg1
  have HG2 := Lib.hid hg2
  have HXM := Lib.hid hxm
  clear hgt hg1 hx hxm hg2
  obtain rfl : old = old0 := by rw [← hold0, HK.out, HX.out]
  clear hold0
  have HOL0 : Hid (Bytes w (.slice oa old.length ok) old) := H.out.dat _ HXM.out
  have HOR0 : Hid (∀ x ∈ blk (.slice oa old.length ok), x ∈ R) := H.out.dR _ HXM.out
  have c1 := CR.out
  have HR2 := Lib.hid (HOQ.out.rd owCells_len)
  generalize wq = w2 at *
  have hb : k ≤ l.length := by omega
  have HA1 : Hid (∀ (W : World) (G : Nat), w2.heap.size ≤ G → Upd [] w2 W → Blk W G 132 [] → ∃ v' w', (Builtin.append_ #[42, 42] 42 #[.slice (some ⟨G, 0, none⟩) 0 0, .slice (some ⟨g, 0, none⟩) k co]).run Tryz.prog W = .ok v' w' ∧ (OwnN 2 owCells w2.heap.size 132 w' v' (l.take k) ∧ Upd [G] W w' ∧ Upd [] w2 w' ∧ ∃ a1 k1, v' = .slice a1 k k1)) := by
    intro W G hG hU hB
    obtain ⟨v', w', h1, h2, h3, h4⟩ := run_appN (P := Tryz.prog) (ty := 42) (base := w2.heap.size) owCells_len (by decide) owCells_one undOW infoOW rfl _ (.slice (some ⟨g, 0, none⟩) k co) [] (l.take k) (ownN_emptyR 2 owCells _ _ W G hG hB) ((HR2.out.takeR k hb).upd0 owCells_len hU) (by simp; omega) (by unfold maxLen; simp; omega) hU.size
    rw [List.nil_append] at h2
    obtain ⟨a1, k1, h5, _⟩ := h2.rd owCells_len
    exact ⟨v', w', h1, h2, h3, hU.trans h3 (by simp) (fun y hy => .inr (by simp [blk] at hy; omega)), a1, k1, by rw [h5, List.length_take, Nat.min_eq_left hb]⟩
  obtain ⟨D, hD, hcutD⟩ : ∃ D : Option Addr, D = (if co = k + 1 then (some ⟨g, 0, none⟩) else (some ⟨g, 0, none⟩ : Option Addr).map (·.add ((k + 1) * 2))) ∧ ∀ W, (Instr.slice 42 (.slice (some ⟨g, 0, none⟩) l.length co) (some (.int .i64 ((k : Int) + 1))) none none).run Tryz.prog W = .ok (.slice D (l.length - (k + 1)) (co - (k + 1))) W := ⟨_, rfl, fun W => by have h := run_cut (P := Tryz.prog) undOW sizeOW (some ⟨g, 0, none⟩) l.length co (k + 1) (by omega) W; simpa using h⟩
  have HD : Hid (RdN 2 owCells w2 (.slice D (l.length - (k + 1)) (co - (k + 1))) (l.drop (k + 1))) := by unfold Hid; rw [hD]; exact HR2.out.dropR (k + 1) (by omega)
  have HA3 : Hid (∀ (W : World) (a2 : Option Addr) (k2 : Nat), OwnN 2 owCells w2.heap.size 132 W (.slice a2 (k) k2) (l.take k) → Upd [] w2 W → ∃ v' w', (Builtin.append_ #[42, 42] 42 #[.slice a2 (k) k2, (.slice D (l.length - (k + 1)) (co - (k + 1)))]).run Tryz.prog W = .ok v' w' ∧ (OwnN 2 owCells w2.heap.size 132 w' v' (l.take k ++ l.drop (k + 1)) ∧ Upd [] w2 w' ∧ ∃ a3 n3 k3, v' = .slice a3 n3 k3)) := by
    intro W a2 k2 hO hU
    obtain ⟨v', w', h1, h2, h3, h4⟩ := run_appN (P := Tryz.prog) (ty := 42) (base := w2.heap.size) owCells_len (by decide) owCells_one undOW infoOW rfl _ (.slice D (l.length - (k + 1)) (co - (k + 1))) (l.take k) (l.drop (k + 1)) hO (HD.out.upd0 owCells_len hU) (by simp; omega) (by unfold maxLen; simp; omega) hU.size
    obtain ⟨a3, k3, h5, _⟩ := h2.rd owCells_len
    exact ⟨v', w', h1, h2, hU.trans h3 (by simp) (fun y hy => .inr (hO.ge y hy).1), a3, _, k3, h5⟩
  clear hD
  have hcutA : ∀ W, (Instr.slice 42 (.slice (some ⟨g, 0, none⟩) l.length co) none (some (.int .i64 (k : Int))) none).run Tryz.prog W = .ok (.slice (some ⟨g, 0, none⟩) k co) W := fun W => run_cut_h (P := Tryz.prog) undOW sizeOW (some ⟨g, 0, none⟩) l.length co k (by omega) W
  go_wp2_with fail
  go_region_held3 (fun w' => True) (trivial) (first
        | ((refine step_app_of rfl (.tmp 78) (.tmp 82) rfl (.slice a1 k k1) (.slice D (l.length - (k + 1)) (co - (k + 1))) (by rfl) (by rfl) (HA3.out _ a1 k1 ?_ ?_) ?_); (refine OwnN.upd (S := []) ho3 ?_ (by simp); (repeat (first | exact Upd.refl _ _ | apply Upd.drew | apply Upd.drewN | apply Upd.alloc))); (refine hu23.seq ?_; (repeat (first | exact Upd.refl _ _ | apply Upd.drew | apply Upd.drewN | apply Upd.alloc))); (rintro v3 w5 ⟨ho5, hu5, a3, n3, k3, rfl⟩; skip; dsimp only))
        | ((refine step_app_of rfl (.tmp 74) (.tmp 77) rfl (.slice (some ⟨w2.heap.size, 0, none⟩) 0 0) (.slice (some ⟨g, 0, none⟩) k co) (by rfl) (by rfl) (HA1.out _ (w2.heap.size) (by omega) ?_ ?_) ?_); (repeat (first | exact Upd.refl _ _ | apply Upd.drew | apply Upd.drewN | apply Upd.alloc)); (refine Blk.fresh (w := w2) (C := #[]) (xs := []) rfl rfl ?_; (repeat (first | exact Upd.refl _ _ | apply Upd.drew | apply Upd.drewN | apply Upd.alloc))); (rintro v1 w3 ⟨ho3, hu3, hu23, a1, k1, rfl⟩; skip; dsimp only)))
  all_goals
    obtain ⟨LD, hLD⟩ : ∃ LD, tDel strLt l xn = LD := ⟨_, rfl⟩
    have hset := HDEL.out
    rw [HK.out, hLD] at hset
    rw [← hset] at ho5
    have hn3 : n3 = LD.length := by
      obtain ⟨a', k', he, -⟩ := ho5.rd owCells_len
      exact (Value.slice.inj he).2.1
    subst hn3
    have HO5 := Lib.hid ho5
    have HU5 := Lib.hid hu5
    have HLD := Lib.hid hLD
    have HDL : Hid (dfOf LD = tDel strLt (dfOf l) xn) := by unfold Hid; rw [← hLD, df_del]
    have HRD : Hid (Rising strLt LD) := by unfold Hid; rw [← hLD]; exact H.out.ris.del strOrd _
    have HML : Hid (∀ c ∈ LD, c ∈ l) := fun c hc => by rw [← hLD] at hc; exact tDel_mem l xn c hc
    have HLL : Hid (LD.length ≤ 10000) := by unfold Hid; rw [← hLD]; have := tDel_len (lt := strLt) l xn; omega
    have e2 := hu5.cell D2.out (by simp)
    have E2 := Lib.hid e2
    have hk3 : k3 ≤ 9223372036854775807 ∧ LD.length ≤ k3 := by
      obtain ⟨a', k', he, h1, h2, -⟩ := ho5.rd owCells_len
      have := (Value.slice.inj he).2.2
      subst this; unfold maxLen at h2; exact ⟨by omega, h1⟩
    obtain ⟨hk3, hk3'⟩ := hk3
    have HSZ5 : Hid (w.heap.size ≤ w5.heap.size) := ((HUQ.out.seq hu5)).size
    clear ho5 hu5 hset hLD c1 hcutA hcutD
    go_wp2_with fail
    (with_reducible refine (rdAt_any w5 _ LD tn (HO5.out.rd owCells_len) HRD.out (by have := HLL.out; omega)).mono ?_)
    rintro e w6 ⟨rfl, hu6⟩
    have HO6 := Lib.hid (HO5.out.upd hu6 (by simp))
    have HU6 := Lib.hid ((HUQ.out.seq HU5.out).seq hu6)
    replace e2 := hu6.cell e2 (by simp)
    have HDAT : Hid (∀ c ∈ LD, Bytes w6 (slv c.2.1) c.2.2 ∧ (∀ x ∈ blk (slv c.2.1), x ∈ R ∨ (w.heap.size ≤ x ∧ x < w6.heap.size))) := fun c hc => ⟨(H.out.dat c (HML.out c hc)).upd0 HU6.out, fun x hx => .inl (H.out.dR c (HML.out c hc) x hx)⟩
    clear hu6
    cases hti : isIn strLt LD tn with
    | true =>
      have hai : atI LD tn = (below strLt LD tn : Int) := by unfold atI; rw [hti]; rfl
      rw [hai]
      have hti' := hti
      unfold isIn at hti'
      obtain ⟨hkl2, -⟩ := of_decide_eq_true hti'
      obtain ⟨kk, hkk⟩ : ∃ kk, below strLt LD tn = kk := ⟨_, rfl⟩
      have HKK := Lib.hid hkk
      rw [hkk] at hkl2 ⊢
      obtain ⟨g3, rfl, hg3, hg3', -⟩ := HO6.out.addrR (by omega) rfl
      have z0 : ¬ (kk : Int) < 0 := by omega
      have z1 : (0 : Int) ≤ kk := by omega
      have z2 : (kk : Int) < LD.length := by omega
      have s0 : w6.cell? ⟨g3, kk * 2 + 1, none⟩ = some (slv (nth LD kk).2.1) := by
        have := HO6.out.cellR owCells_len kk 1 hkl2 (by omega)
        exact this
      have f0 := HO6.out.frozenR (kk * 2 + 1)
      have HTI := Lib.hid hti
      have HFIN := Lib.hid (ren_fin H.out (tn := tn) (kk := kk) HO6.out (by have := HSQ.out; omega) HU6.out (fun c hc => ⟨(HDAT.out c hc).1, (HDAT.out c hc).2, fun hne x hx he => by have h1 := (H.out.dat c (HML.out c hc)).lt hne x hx; have h2 := HSQ.out; omega⟩) HOL0.out HOR0.out hti hkk HRD.out)
      generalize slv (nth LD kk).2.1 = sv0 at *
      clear hti hti' hai hkk
      go_wp2_with fail
      go_ret
      have := HFIN.out
      rw [HDL.out] at this
      exact this
    | false =>
      have hai : atI LD tn = -1 := by unfold atI; rw [hti]; rfl
      rw [hai]
      have HTI := Lib.hid hti
      have HRL : Hid (RL w6 (R ++ blk (.slice a3 LD.length k3)) (.slice a3 LD.length k3) LD) := ⟨HO6.out.rd owCells_len, fun x hx => by simp [hx], fun c hc => (HDAT.out c hc).1, fun c hc x hx => by simp [H.out.dR c (HML.out c hc) x hx], HRD.out⟩
      have HB3 : Hid (∀ x ∈ blk (.slice a3 LD.length k3), w.heap.size ≤ x ∧ x < w6.heap.size) := fun x hx => by have h1 := HO6.out.ge x hx; have h2 := HSQ.out; exact ⟨by omega, h1.2⟩
      clear hti hai
      go_wp2_with fail
      (with_reducible refine (rMade_1 tn ⟨#[]⟩ [] 0 none 0 0 HRL.out HLL.out HTI.out).mono ?_)
      rintro e w7 ⟨v7, R7, L7, rfl, hrl7, ho7, hd7, hu7, hR7, hR7', hne7⟩
      have hin7 : isIn strLt L7 tn = true := by rw [← in_df, hd7]; exact in_set (mapS_rising' (fun x : Sl × List UInt8 => x.2) HRD.out) tn []
      have hl7 : L7.length ≤ 10001 := by
        have := congrArg List.length hd7
        rw [df_len] at this
        have h2 := tSet_len (lt := strLt) (dfOf LD) tn []
        rw [df_len] at h2
        have := HLL.out
        omega
      obtain ⟨a7, c7, rfl, hk7', hk7, -⟩ := ho7.rd owCells_len
      have hk7b : c7 ≤ 9223372036854775807 := by unfold maxLen at hk7; omega
      have HO7 := Lib.hid ho7
      have HRL7 := Lib.hid hrl7
      have HD7 := Lib.hid hd7
      have HU7 := Lib.hid (HU6.out.seq hu7)
      have HS67 : Hid (w6.heap.size ≤ w7.heap.size) := hu7.size
      have HR7' := Lib.hid hR7'
      have HNE7 := Lib.hid hne7
      have HIN7 := Lib.hid hin7
      have e7 := hu7.cell e2 (by simp)
      have HS6 : Hid (w.heap.size ≤ w6.heap.size) := HU6.out.size
      have HL7 : Hid (L7.length ≤ 100000) := by unfold Hid; omega
      clear hrl7 ho7 hd7 hu7 hR7 hR7' hne7 hin7 e2 hk7
      go_wp2_with fail
      (with_reducible refine (rdAt_any w7 _ L7 tn HRL7.out.row HRL7.out.ris HL7.out).mono ?_)
      rintro e w8 ⟨rfl, hu8⟩
      have hti' := HIN7.out
      unfold isIn at hti'
      obtain ⟨hkl2, -⟩ := of_decide_eq_true hti'
      have hai : atI L7 tn = (below strLt L7 tn : Int) := by unfold atI; rw [HIN7.out]; rfl
      rw [hai]
      obtain ⟨kk, hkk⟩ : ∃ kk, below strLt L7 tn = kk := ⟨_, rfl⟩
      have HKK := Lib.hid hkk
      rw [hkk] at hkl2 ⊢
      have HO8 := Lib.hid (HO7.out.upd hu8 (by simp))
      obtain ⟨g8, rfl, hg8, hg8', -⟩ := HO8.out.addrR (by omega) rfl
      have z1 : (0 : Int) ≤ kk := by omega
      have z2 : (kk : Int) < L7.length := by omega
      have s0 : w8.cell? ⟨g8, kk * 2 + 1, none⟩ = some (slv (nth L7 kk).2.1) := by
        have := HO8.out.cellR owCells_len kk 1 hkl2 (by omega)
        exact this
      have f0 := HO8.out.frozenR (kk * 2 + 1)
      have HFIN := Lib.hid (ren_fin H.out (tn := tn) (kk := kk) HO8.out HS6.out (HU7.out.seq hu8) (fun c hc => ⟨(HRL7.out.dat c hc).upd0 hu8, fun x hx => by
        rcases HR7'.out x (HRL7.out.dR c hc x hx) with q | q
        · rcases List.mem_append.1 q with r | r
          · exact .inl r
          · have h1 := HB3.out x r
            have h2 := HS67.out
            have h3 := hu8.size
            exact .inr ⟨h1.1, by omega⟩
        · have h3 := hu8.size
          exact .inr ⟨by have := HS6.out; omega, by omega⟩, fun hne x hx he => HNE7.out c hc hne x hx (by simp [blk, he])⟩) HOL0.out HOR0.out HIN7.out hkk HRL7.out.ris)
      generalize slv (nth L7 kk).2.1 = sv0 at *
      clear hti' hai hkk hu8
      go_wp2_with fail
      go_ret
      have := HFIN.out
      rw [HD7.out, set_set (mapS_rising' (fun x : Sl × List UInt8 => x.2) HRD.out)] at this
      have : RDoes w R (tSet strLt (dfOf LD) tn old) _ _ := this
      rw [HDL.out] at this
      exact this
end
end Go.Proofs.YtmhojaiajhdlcaaGreat
namespace Go.Proofs.YtmhojaiajhdlcaaGreat
open Go.RowKit
set_option linter.unusedSimpArgs false
set_option linter.unusedVariables false
set_option linter.unusedSectionVars false
theorem isIn_dfOf (l : List OW) (k : ByteArray) : isIn strLt l k = inD (dfOf l) k := (in_df l k).symm
theorem rMade_any {w : World} {R : List Nat} {v : Value} {l : List OW} (x : Wr) (sl : Sl) (h : RL w R v l) (hx : WrOk x (dfOf l)) (hp : Bytes w (slv sl) x.p) (ht : dTotal (dfOf l) ≤ 16777216) :
    Calls Tryz.prog 80 #[v, wrv x sl] w (RDoes w R (wApply x (dfOf l))) := by
  have hlen : l.length ≤ 10000 := by have := hx.len; rw [df_len] at this; omega
  have hkd := hx.kd
  have hhas := hx.has
  have hnew := hx.new
  have hput := hx.put
  have hcut := hx.cut
  have hgt := get_le_total (dfOf l) x.nm
  obtain ⟨kd, nm, tn, p, n⟩ := x
  obtain ⟨pa, pn, pk⟩ := sl
  dsimp only at hkd hhas hnew hput hcut hgt
  rcases (show kd = 1 ∨ kd = 2 ∨ kd = 3 ∨ kd = 4 ∨ kd = 5 by omega) with rfl | rfl | rfl | rfl | rfl
  · rw [wApply_1]
    exact rMade_1 nm tn p n pa pn pk h hlen (by rw [isIn_dfOf]; exact hnew rfl)
  · have hin : isIn strLt l nm = true := by rw [isIn_dfOf]; exact hhas (by decide)
    have hg := get_df l nm hin
    rw [wApply_2, hg]
    have hb := (hput rfl).2
    rw [hg] at hb
    dsimp only at hb ⊢
    exact rMade_2 nm tn p n pa pn pk h hlen hp hin _ rfl (by omega)
  · have hin : isIn strLt l nm = true := by rw [isIn_dfOf]; exact hhas (by decide)
    have hg := get_df l nm hin
    rw [wApply_3, hhas (by decide), if_pos rfl, hg]
    dsimp only
    exact rMade_3 nm tn p n pa pn pk h hlen hin _ rfl
  · have hin : isIn strLt l nm = true := by rw [isIn_dfOf]; exact hhas (by decide)
    have hg := get_df l nm hin
    obtain ⟨h0, hle⟩ := hcut rfl
    rw [hg] at hle
    obtain ⟨m, rfl⟩ := Int.eq_ofNat_of_zero_le h0
    rw [wApply_4, hg, Int.toNat_natCast]
    rw [hg] at hgt
    dsimp only at hle hgt ⊢
    exact rMade_4 nm tn p m pa pn pk h hlen hin _ rfl (by omega) (by omega)
  · rw [wApply_5]
    exact rMade_5 nm tn p n pa pn pk h hlen (by rw [isIn_dfOf]; exact hhas (by decide))
/-- The document's disk at gr. -/
structure RC (w0 w : World) (gr : Nat) (R : List Nat) (nv mv : Sl) (ln lm : List OW) (ov : Value) (ops : List LW) : Prop where
  dk : Blk w gr 45 [slv nv, slv mv, ov]
  grb : w0.heap.size ≤ gr
  grR : gr ∉ R
  now : RL w R (slv nv) ln
  mark : RL w R (slv mv) lm
  opw : OwnN 5 lwCells w0.heap.size 119 w ov ops
  odat : ∀ x ∈ ops, Bytes w (slv x.2) x.1.p
  oR : ∀ x ∈ ops, ∀ y ∈ blk (slv x.2), y ∈ R
  oap : Ap (blk ov) R
  old : Upd [] w0 w
  Rlt : ∀ x ∈ R, w0.heap.size ≤ x ∧ x < w.heap.size
def rfoot (gr : Nat) (R : List Nat) (ov : Value) : List Nat := gr :: (R ++ blk ov)
theorem rfoot_mem (gr : Nat) (R : List Nat) (ov : Value) (x : Nat) : x ∈ rfoot gr R ov ↔ x = gr ∨ x ∈ R ∨ x ∈ blk ov := by
  unfold rfoot
  simp only [List.mem_cons, List.mem_append]
section
variable {w0 w w' : World} {gr : Nat} {R : List Nat} {nv mv : Sl} {ln lm : List OW} {ov : Value} {ops : List LW}
theorem RC.upd (h : RC w0 w gr R nv mv ln lm ov ops) {S : List Nat} (hu : Upd S w w') (hs : ∀ x ∈ rfoot gr R ov, x ∉ S) (hS : ∀ x ∈ S, w0.heap.size ≤ x) : RC w0 w' gr R nv mv ln lm ov ops :=
  have hR : ∀ x ∈ R, x ∉ S := fun x hx => hs x ((rfoot_mem _ _ _ _).2 (.inr (.inl hx)))
  ⟨h.dk.upd hu (hs gr ((rfoot_mem _ _ _ _).2 (.inl rfl))), h.grb, h.grR, h.now.upd hu hR, h.mark.upd hu hR, h.opw.upd hu (fun x hx => hs x ((rfoot_mem _ _ _ _).2 (.inr (.inr hx)))), fun x hx => (h.odat x hx).upd hu (fun y hy => hR y (h.oR x hx y hy)), h.oR, h.oap, h.old.trans hu (by simp) (fun x hx => .inr (hS x hx)), fun x hx => ⟨(h.Rlt x hx).1, by have := (h.Rlt x hx).2; have := hu.size; omega⟩⟩
theorem RC.upd0 (h : RC w0 w gr R nv mv ln lm ov ops) (hu : Upd [] w w') : RC w0 w' gr R nv mv ln lm ov ops := h.upd hu (by simp) (by simp)
theorem RC.ge (h : RC w0 w gr R nv mv ln lm ov ops) : ∀ x ∈ rfoot gr R ov, w0.heap.size ≤ x ∧ x < w.heap.size := by
  intro x hx
  rcases (rfoot_mem _ _ _ _).1 hx with rfl | hx | hx
  · exact ⟨h.grb, h.dk.lt⟩
  · exact h.Rlt x hx
  · exact h.opw.ge x hx
theorem RC.nops (h : RC w0 w gr R nv mv ln lm ov ops) : gr ∉ blk ov := fun hx => by
  obtain ⟨C, f, h1⟩ := h.opw.typ gr hx
  exact absurd (ty_eq h1 h.dk) (by decide)
end
/-- The document's disk, as the laws see it; G: its blocks. -/
structure RD (w0 w : World) (gr : Nat) (G : List Nat) (s : DS) : Prop where
  ex : ∃ R nv mv ln lm ov ops, RC w0 w gr R nv mv ln lm ov ops ∧ s = ⟨dfOf ln, dfOf lm, ops.map (·.1)⟩ ∧ DOk s ∧ G = rfoot gr R ov
def ROut (w0 w : World) (gr : Nat) (G : List Nat) (s' : DS) (w' : World) : Prop := ∃ G', RD w0 w' gr G' s' ∧ Upd G w w' ∧ (∀ x ∈ G', x ∈ G ∨ w.heap.size ≤ x)
section
variable {w0 w w' : World} {gr : Nat} {G : List Nat} {s : DS}
theorem RD.old (h : RD w0 w gr G s) : Upd [] w0 w := by
  obtain ⟨R, nv, mv, ln, lm, ov, ops, hc, -⟩ := h.ex
  exact hc.old
theorem RD.ge (h : RD w0 w gr G s) : ∀ x ∈ G, w0.heap.size ≤ x ∧ x < w.heap.size := by
  obtain ⟨R, nv, mv, ln, lm, ov, ops, hc, -, -, rfl⟩ := h.ex
  exact hc.ge
theorem RD.ok (h : RD w0 w gr G s) : DOk s := by
  obtain ⟨R, nv, mv, ln, lm, ov, ops, hc, -, ho, -⟩ := h.ex
  exact ho
theorem RD.upd (h : RD w0 w gr G s) {S : List Nat} (hu : Upd S w w') (hs : ∀ x ∈ G, x ∉ S) (hS : ∀ x ∈ S, w0.heap.size ≤ x) : RD w0 w' gr G s := by
  obtain ⟨R, nv, mv, ln, lm, ov, ops, hc, e, ho, rfl⟩ := h.ex
  exact ⟨R, nv, mv, ln, lm, ov, ops, hc.upd hu hs hS, e, ho, rfl⟩
theorem RD.upd0 (h : RD w0 w gr G s) (hu : Upd [] w w') : RD w0 w' gr G s := h.upd hu (by simp) (by simp)
theorem RD.out0 (h : RD w0 w gr G s) (hu : Upd [] w w') : ROut w0 w gr G s w' := ⟨G, h.upd0 hu, hu.mono (by simp), fun x hx => .inl hx⟩
theorem ROut.later {w1 : World} (hu : Upd [] w w1) (h : ROut w0 w1 gr G s w') : ROut w0 w gr G s w' := by
  obtain ⟨G', h1, h2, h3⟩ := h
  exact ⟨G', h1, hu.trans h2 (by simp) (fun x hx => .inl hx), fun x hx => (h3 x hx).imp id (fun q => by have := hu.size; omega)⟩
end
end Go.Proofs.YtmhojaiajhdlcaaGreat
