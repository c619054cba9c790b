/- Texts of the proof, joined: Bytes in blocks that only grow at their end: slices that show a part of a block, and append onto them. A table as a list of rows by rising keys: the plain law. Tables: what the laws of chapter 4 want of rows by rising keys. The order of texts. Names of files: plain. Chapter 22 as plain law: files by rising names, raw writes, what they do. Chapter 4's reads at string,[]uint8. copy of elements of several cells into a known row: the run. Rows known whole: pieces, copies, appends and clears within them: the runs. slices. Chapter 4's Get, At and Least at string,[]uint8. A store into one cell of a row of several cells, the list the call's own. Chapter 4's Set on a key that is there, at string,[]uint8. -/
import Derived.Test.YtmhojaiajhdlcaaGreatMb3
import Derived.Test.YtmhojaiajhdlcaaGreatMb1
import Derived.Test.YtmhojaiajhdlcaaGreatRows
import Derived.ArgAppend
import Derived.StillTailTactics
import Derived.Lib.AppendZerosOnto
import Derived.Lib.Overlaps
import Derived.Deep.RegionLaw
import Derived.Test.YtmhojaiajhdlcaaGreatMb2
namespace Go.Proofs.YtmhojaiajhdlcaaGreat
open Go.RowKit
set_option linter.unusedSimpArgs false
set_option linter.unusedVariables false
/-- What a block holds, and how much it can hold. -/
abbrev KB := Nat → List UInt8 × Nat
abbrev OwnB (base : Nat) (w : World) (x : Nat) (c : List UInt8 × Nat) : Prop := Own bv base 5 w (.slice (some ⟨x, 0, none⟩) c.1.length c.2) c.1
/-- The blocks of B hold what K says. -/
structure Bks (base : Nat) (w : World) (B : List Nat) (K : KB) : Prop where
  own : ∀ x ∈ B, OwnB base w x (K x)
/-- A slice shows bytes of the blocks. -/
structure Sh (B : List Nat) (K : KB) (s : Sl) (l : List UInt8) : Prop where
  n : s.n = l.length
  k : s.n ≤ s.k
  m : s.k ≤ maxLen
  nul : s.a = none → s.k = 0
  ex : l ≠ [] → ∃ b off, s.a = some ⟨b, off, none⟩ ∧ b ∈ B ∧ off + l.length ≤ (K b).1.length ∧ ((K b).1.drop off).take l.length = l
/-- A slice with room behind it is the end of its block. -/
def Gr (B : List Nat) (K : KB) (s : Sl) (l : List UInt8) : Prop := s.n < s.k → ∃ b, s.a = some ⟨b, 0, none⟩ ∧ b ∈ B ∧ K b = (l, s.k)
/-- The block that a slice may grow in. -/
def gb (s : Sl) : List Nat := if s.n < s.k then blk (slv s) else []
/-- More blocks, and more in them. -/
structure Ext (B : List Nat) (K : KB) (B' : List Nat) (K' : KB) : Prop where
  sub : ∀ x ∈ B, x ∈ B'
  pre : ∀ x ∈ B, ∃ t, (K' x).1 = (K x).1 ++ t
section
variable {base : Nat} {w w' : World} {B B' B'' : List Nat} {K K' K'' : KB} {s : Sl} {l : List UInt8}
theorem Ext.refl (B : List Nat) (K : KB) : Ext B K B K := ⟨fun _ h => h, fun _ _ => ⟨[], (List.append_nil _).symm⟩⟩
theorem Ext.trans (h : Ext B K B' K') (k : Ext B' K' B'' K'') : Ext B K B'' K'' :=
  ⟨fun x hx => k.sub x (h.sub x hx), fun x hx => by
    obtain ⟨t, ht⟩ := h.pre x hx
    obtain ⟨u, hu⟩ := k.pre x (h.sub x hx)
    exact ⟨t ++ u, by rw [hu, ht, List.append_assoc]⟩⟩
theorem Bks.upd (h : Bks base w B K) {S : List Nat} (hu : Upd S w w') (hs : ∀ x ∈ B, x ∉ S) : Bks base w' B K :=
  ⟨fun x hx => (h.own x hx).upd hu (fun y hy => by simp [blk] at hy; subst hy; exact hs _ hx)⟩
theorem Bks.ge (h : Bks base w B K) : ∀ x ∈ B, base ≤ x ∧ x < w.heap.size := fun x hx => (h.own x hx).ge x (by simp [blk])
theorem Bks.typ (h : Bks base w B K) : ∀ x ∈ B, ∃ C f, w.heap[x]? = some (.cells C 5 f) := fun x hx => by
  rcases (h.own x hx).2 with ⟨he, _⟩ | ⟨g, cap, cur, he, _, hg, _⟩
  · simp at he
  · injection he with e1 e2 e3; injection e1 with e1; injection e1 with e1 e4; subst e1; exact ⟨_, _, hg⟩
theorem Sh.ext (h : Sh B K s l) (he : Ext B K B' K') : Sh B' K' s l := by
  refine ⟨h.n, h.k, h.m, h.nul, fun hne => ?_⟩
  obtain ⟨b, off, h1, h2, h3, h4⟩ := h.ex hne
  obtain ⟨t, ht⟩ := he.pre b h2
  refine ⟨b, off, h1, he.sub b h2, by rw [ht, List.length_append]; omega, ?_⟩
  rw [ht, List.drop_append_of_le_length (by omega), List.take_append_of_le_length (by rw [List.length_drop]; omega)]
  exact h4
theorem Sh.rd (hB : Bks base w B K) (h : Sh B K s l) : Bytes w (slv s) l := by
  have h1 := h.n
  have h2 := h.k
  have h3 := h.m
  have h4 := h.ex
  obtain ⟨a, n, k⟩ := s
  dsimp only at h1 h2 h3 h4
  subst h1
  refine ⟨a, k, rfl, h2, h3, fun hne => ?_⟩
  obtain ⟨b, off, rfl, hb, h5, h6⟩ := h4 hne
  refine ⟨b, off, rfl, fun j hj => ?_⟩
  obtain ⟨a', k', he, -, -, hc⟩ := (hB.own b hb).rd
  injection he with e1 e2 e3
  subst e1
  obtain ⟨b', off', e4, hc⟩ := hc (fun q => by rw [q] at h5; simp only [List.length_nil] at h5; omega)
  injection e4 with e4; injection e4 with e4 e5; subst e4; subst e5
  have hq := hc (off + j) (by omega)
  rw [Nat.zero_add] at hq
  have hn : nth l j = nth (K b).1 (off + j) := by
    have : nth (((K b).1.drop off).take l.length) j = nth l j := by rw [h6]
    rw [← this, nth_take _ _ _ hj, nth_drop]
  rw [hn]; exact hq
theorem gb_in (hg : Gr B K s l) : ∀ x ∈ gb s, x ∈ B ∧ K x = (l, s.k) ∧ s.a = some ⟨x, 0, none⟩ := by
  intro x hx
  unfold gb at hx
  split at hx
  · rename_i h
    obtain ⟨b, h1, h2, h3⟩ := hg h
    rw [show slv s = .slice s.a s.n s.k from rfl, h1] at hx
    simp [blk] at hx; subst hx
    exact ⟨h2, h3, h1⟩
  · simp at hx
theorem Gr.full (h : s.k ≤ s.n) : Gr B K s l := fun q => absurd q (by omega)
theorem gb_full (h : s.k ≤ s.n) : gb s = [] := by unfold gb; rw [if_neg (by omega)]
theorem Sh.nil : Sh B K ⟨none, 0, 0⟩ [] := ⟨rfl, Nat.le_refl _, Nat.zero_le _, fun _ => rfl, fun h => absurd rfl h⟩
/-- The first bytes, without room behind them. -/
theorem Sh.cut (h : Sh B K s l) (n : Nat) (hn : n ≤ l.length) : Sh B K ⟨s.a, n, n⟩ (l.take n) := by
  have h1 := h.n
  have h2 := h.k
  have h3 := h.m
  refine ⟨by rw [List.length_take]; show n = _; omega, Nat.le_refl _, by show n ≤ _; omega, fun q => by have := h.nul q; show n = 0; omega, fun hne => ?_⟩
  have hl : l ≠ [] := fun q => hne (by rw [q]; simp)
  obtain ⟨b, off, e1, e2, e3, e4⟩ := h.ex hl
  refine ⟨b, off, e1, e2, by rw [List.length_take]; omega, ?_⟩
  rw [List.length_take, Nat.min_eq_left hn, ← e4, List.take_take, Nat.min_eq_left hn]
/-- A new block. -/
theorem Bks.new (hB : Bks base w B K) {w' : World} {v : Value} {l : List UInt8} (ho : Own bv w.heap.size 5 w' v l) (hu : Upd [] w w') (hbase : base ≤ w.heap.size) :
    ∃ s B' K', v = slv s ∧ Bks base w' B' K' ∧ Ext B K B' K' ∧ (∀ x ∈ B', x ∈ B ∨ w.heap.size ≤ x) ∧ Sh B' K' s l ∧ Gr B' K' s l ∧ (∀ x ∈ gb s, w.heap.size ≤ x) ∧ (∀ x ∈ B, K' x = K x) := by
  have ho' := ho
  obtain ⟨h1, h2⟩ := ho'
  rcases h2 with ⟨rfl, hn⟩ | ⟨g, cap, cur, rfl, hb, hg, hc, hm, hs, ht⟩
  · obtain rfl : l = [] := List.eq_nil_of_length_eq_zero hn
    exact ⟨⟨none, 0, 0⟩, B, K, rfl, hB.upd hu (by simp), Ext.refl _ _, fun x hx => .inl hx, Sh.nil, Gr.full (Nat.le_refl _), fun x hx => by rw [gb_full (Nat.le_refl _)] at hx; simp at hx, fun _ _ => rfl⟩
  · have hne : ∀ x ∈ B, x ≠ g := fun x hx q => by have := (hB.ge x hx).2; omega
    have hk : ∀ x ∈ B, (if x = g then (l, cap) else K x) = K x := fun x hx => if_neg (hne x hx)
    refine ⟨⟨some ⟨g, 0, none⟩, l.length, cap⟩, g :: B, fun x => if x = g then (l, cap) else K x, rfl, ⟨fun x hx => ?_⟩, ⟨fun x hx => by simp [hx], fun x hx => ⟨[], by rw [hk x hx, List.append_nil]⟩⟩, fun x hx => ?_, ⟨rfl, hc, hm, fun q => by simp at q, fun _ => ⟨g, 0, rfl, by simp, by simp, by simp⟩⟩, fun _ => ⟨g, rfl, by simp, by simp⟩, fun x hx => ?_, hk⟩
    · rcases List.mem_cons.1 hx with rfl | hx
      · show OwnB base w' x (if x = x then (l, cap) else K x)
        rw [if_pos rfl]; exact ho.base_le hbase
      · show OwnB base w' x (if x = g then (l, cap) else K x)
        rw [hk x hx]; exact (hB.own x hx).upd hu (by simp)
    · rcases List.mem_cons.1 hx with rfl | hx
      · exact .inr hb
      · exact .inl hx
    · unfold gb at hx
      split at hx
      · simp [blk] at hx; omega
      · simp at hx
theorem Gr.keep (h : Gr B K s l) (hs : ∀ x ∈ B, x ∈ B') (hk : ∀ x ∈ B, K' x = K x) : Gr B' K' s l := fun q => by
  obtain ⟨b, h1, h2, h3⟩ := h q
  exact ⟨b, h1, hs b h2, by rw [hk b h2, h3]⟩
/-- Behind an append: the new slice, the blocks, and what becomes of others. -/
def Grew (base : Nat) (w : World) (B : List Nat) (K : KB) (s : Sl) (l : List UInt8) (v' : Value) (w' : World) : Prop :=
  ∃ s' B' K', v' = slv s' ∧ Bks base w' B' K' ∧ Ext B K B' K' ∧ (∀ x ∈ B', x ∈ B ∨ w.heap.size ≤ x) ∧ Sh B' K' s' l ∧ Gr B' K' s' l ∧ Upd B w w' ∧ (∀ s2 l2, Gr B K s2 l2 → Ap (gb s2) (gb s) → Gr B' K' s2 l2 ∧ Ap (gb s2) (gb s'))
theorem infoB8 : (Tryz.prog.info? 5).map (fun i => (i.zero, i.size, i.bytes)) = some (some (.int .u8 0), 1, 1) := by kernel_rfl
theorem app_step {ty : TypeId} {u : Value} {p : List UInt8} (hB : Bks base w B K) (hs : Sh B K s l) (hg : Gr B K s l) (hp : Bytes w u p) (hne : p ≠ []) (hlen : l.length + p.length ≤ 1000000000) (hbase : base ≤ w.heap.size) :
    ∃ v' w', (Builtin.append_ #[28, 28] ty #[slv s, u]).run Tryz.prog w = .ok v' w' ∧ Grew base w B K s (l ++ p) v' w' := by
  have hrd := hs.rd hB
  have h1 := hs.n
  have h2 := hs.k
  have h3 := hs.m
  have h4 := hs.nul
  have hmax : l.length + p.length ≤ maxLen := by unfold maxLen; omega
  obtain ⟨i, i1, i2, i3, i4⟩ := info_parts infoB8
  obtain ⟨A, cap, rfl, hle, hcm, hcell0⟩ := hp
  obtain ⟨pb, poff, rfl, hcell⟩ := hcell0 hne
  have hnews : ∀ j u, (p.map bv)[j]? = some u → w.cell? ((⟨pb, poff, none⟩ : Addr).add j) = some u := fun j u hj => by
    rw [add_none]
    rw [List.getElem?_map] at hj
    obtain ⟨x, hx, rfl⟩ := Option.map_eq_some_iff.1 hj
    rw [hcell j (List.getElem?_eq_some_iff.1 hx).1, nth_of p j x hx]
  have hpos : 0 < p.length := List.length_pos_iff.2 hne
  by_cases hroom : l.length + p.length ≤ s.k
  · -- there is room
    obtain ⟨b, hb, hbB, hK⟩ := hg (by omega)
    have hown := hB.own b hbB
    rw [hK] at hown
    obtain ⟨o1, o2⟩ := hown
    rcases o2 with ⟨he, _⟩ | ⟨g, cap', cur, he, hbg, hgc, hnc, hcm', hcs, htk⟩
    · simp at he
    injection he with e1 e2 e3
    injection e1 with e1; injection e1 with e1 e5; subst e1
    dsimp only at e3 hcs htk
    rw [Nat.mul_one] at hcs htk
    have hfit : l.length * i.size + (p.map bv).length ≤ cur.size := by rw [i3, Nat.mul_one, List.length_map, hcs, ← e3]; exact hroom
    have hr := run_append_room (P := Tryz.prog) w 28 ty 5 i Tryz.underlying28 i1 b l.length s.k cur hgc ⟨pb, poff, none⟩ p.length cap (p.map bv) (by simp [i3]) hnews (oneCell_map bv_one p) hroom hfit
    rw [i3, Nat.mul_one, List.length_map, htk] at hr
    rw [show slv s = .slice s.a s.n s.k from rfl, hb, h1]
    generalize hys : (l.map bv ++ p.map bv ++ cur.toList.drop (l.length + p.length)).toArray = ys at hr
    have hys2 : ys.toList = (l ++ p).map bv ++ cur.toList.drop (l.length + p.length) := by rw [← hys]; simp
    have hysz : ys.size = s.k := by
      rw [← hys]
      simp only [List.size_toArray, List.length_append, List.length_map, List.length_drop, Array.length_toList, hcs]
      omega
    have hnew : OwnB base (w.setRow b ys) b (l ++ p, s.k) := by
      refine ⟨by simp, .inr ⟨b, s.k, ys, rfl, hbg, setRow_heap w b cur ys _ _ hgc, by simp; omega, h3, by rw [hysz, Nat.mul_one], ?_⟩⟩
      rw [hys2, Nat.mul_one, List.take_append_of_le_length (by simp)]
      exact List.take_of_length_le (by simp)
    have hu : Upd [b] w (w.setRow b ys) := ⟨rfl, rfl, rfl, by simp, fun k _ hk => setRow_other w b k _ (by simpa using hk)⟩
    refine ⟨_, _, hr, ⟨some ⟨b, 0, none⟩, l.length + p.length, s.k⟩, B, fun x => if x = b then (l ++ p, s.k) else K x, rfl, ⟨fun x hx => ?_⟩, ⟨fun _ h => h, fun x hx => ?_⟩, fun x hx => .inl hx, ⟨by simp, hroom, h3, fun q => by simp at q, fun _ => ⟨b, 0, rfl, hbB, by show 0 + _ ≤ (if b = b then (l ++ p, s.k) else K b).1.length; rw [if_pos rfl]; simp, by show ((if b = b then (l ++ p, s.k) else K b).1.drop 0).take _ = _; rw [if_pos rfl]; exact List.take_length⟩⟩, fun _ => ⟨b, rfl, hbB, by show (if b = b then (l ++ p, s.k) else K b) = _; rw [if_pos rfl]⟩, hu.mono (fun x hx => by simp at hx; subst hx; exact .inl hbB), fun s2 l2 g2 hap => ?_⟩
    · show OwnB base (w.setRow b ys) x (if x = b then (l ++ p, s.k) else K x)
      split
      · rename_i h; subst h; exact hnew
      · rename_i h; exact (hB.own x hx).upd hu (fun y hy => by simp [blk] at hy; subst hy; simpa using h)
    · show ∃ t, (if x = b then (l ++ p, s.k) else K x).1 = (K x).1 ++ t
      split
      · rename_i h; subst h; rw [hK]; exact ⟨p, rfl⟩
      · exact ⟨[], (List.append_nil _).symm⟩
    · have hgb : gb s = [b] := by unfold gb; rw [if_pos (by omega), show slv s = .slice s.a s.n s.k from rfl, hb]; rfl
      rw [hgb] at hap
      refine ⟨fun q => ?_, fun x hx => ?_⟩
      · obtain ⟨b2, q1, q2, q3⟩ := g2 q
        have hn2 : b2 ≠ b := fun e => hap b2 (by unfold gb; rw [if_pos q, show slv s2 = .slice s2.a s2.n s2.k from rfl, q1]; simp [blk]) (by simp [e])
        exact ⟨b2, q1, q2, by show (if b2 = b then (l ++ p, s.k) else K b2) = _; rw [if_neg hn2, q3]⟩
      · have h9 := hap x hx
        unfold gb
        split
        · simpa [blk] using h9
        · simp
  · -- it grows
    have key : ∃ v' w', (Builtin.append_ #[28, 28] ty #[slv s, .slice (some ⟨pb, poff, none⟩) p.length cap]).run Tryz.prog w = .ok v' w' ∧ Own bv w.heap.size 5 w' v' (l ++ p) ∧ Upd [] w w' := by
      obtain ⟨a, n, k⟩ := s
      dsimp only at h1 h2 h3 h4 hroom hrd
      subst h1
      cases a with
      | some ad =>
        have holds : ∀ j u, (l.map bv)[j]? = some u → w.cell? (ad.add j) = some u := fun j u hj => by
          rw [List.getElem?_map] at hj
          obtain ⟨x, hx, rfl⟩ := Option.map_eq_some_iff.1 hj
          have hjl := (List.getElem?_eq_some_iff.1 hx).1
          obtain ⟨a', k', he, -, -, hc⟩ := hrd
          have e1 : some ad = a' := (Value.slice.inj he).1
          obtain ⟨b, off, e4, hc⟩ := hc (by intro q; rw [q] at hjl; simp at hjl)
          obtain rfl : ad = ⟨b, off, none⟩ := Option.some.inj (e1.trans e4)
          rw [add_none, hc j hjl, nth_of l j x hx]
        obtain ⟨v', w', hr, r1, r2⟩ := run_append_arg_grows (P := Tryz.prog) w 28 ty 5 i _ 1 1 Tryz.underlying28 i1 i2 i3 i4 rfl (by decide) ad l.length k (l.map bv) (by simp) holds ⟨pb, poff, none⟩ p.length cap (p.map bv) (by simp) hnews (by omega) hmax (by omega)
        exact ⟨v', w', hr, by unfold Own; rw [List.length_append, List.map_append]; exact r1, Upd.of_grown r2⟩
      | none =>
        obtain rfl : k = 0 := h4 rfl
        obtain rfl : l = [] := List.eq_nil_of_length_eq_zero (by omega)
        obtain ⟨v', w', hr, r1, r2, _⟩ := run_append_own (P := Tryz.prog) w w.heap.size 28 ty 5 i _ 1 1 Tryz.underlying28 i1 i2 i3 i4 rfl (by decide) (.slice none 0 0) 0 [] (World.ownsRow_nil w _ _ 1) ⟨pb, poff, none⟩ p.length cap (p.map bv) (by simp) hnews (oneCell_map bv_one p) (by simpa using hmax) (by simp at hlen ⊢; omega) (Nat.le_refl _)
        refine ⟨v', w', hr, by unfold Own; rw [List.length_append, List.map_append]; exact r1, Upd.of_grown r2⟩
    obtain ⟨v', w', hr, ho, hu⟩ := key
    obtain ⟨s', B', K', rfl, k1, k2, k3, k4, k5, k6, k7⟩ := hB.new ho hu hbase
    refine ⟨_, _, hr, s', B', K', rfl, k1, k2, k3, k4, k5, hu.mono (by simp), fun s2 l2 g2 hap => ⟨g2.keep k2.sub k7, fun x hx hx' => ?_⟩⟩
    have := k6 x hx'
    have := (hB.ge x (gb_in g2 x hx).1).2
    omega
end
end Go.Proofs.YtmhojaiajhdlcaaGreat
namespace Go.Proofs.YtmhojaiajhdlcaaGreat
open Go.RowKit
set_option linter.unusedSimpArgs false
set_option linter.unusedVariables false
set_option linter.unusedSectionVars false
/-- An order of keys. -/
structure KOrd {κ : Type} (lt : κ → κ → Bool) : Prop where
  irr : ∀ a, lt a a = false
  trans : ∀ a b c, lt a b = true → lt b c = true → lt a c = true
  tot : ∀ a b, lt a b = false → lt b a = false → a = b
section
variable {κ ν : Type} [Inhabited κ] [Inhabited ν] [DecidableEq κ] {lt : κ → κ → Bool}
def below (lt : κ → κ → Bool) (l : List (κ × ν)) (k : κ) : Nat := (l.takeWhile fun p => lt p.1 k).length
def isIn (lt : κ → κ → Bool) (l : List (κ × ν)) (k : κ) : Bool := decide (below lt l k < l.length ∧ (nth l (below lt l k)).1 = k)
def tSet (lt : κ → κ → Bool) (l : List (κ × ν)) (k : κ) (v : ν) : List (κ × ν) := l.take (below lt l k) ++ (k, v) :: l.drop (below lt l k + if isIn lt l k then 1 else 0)
def tDel (lt : κ → κ → Bool) (l : List (κ × ν)) (k : κ) : List (κ × ν) := if isIn lt l k then l.take (below lt l k) ++ l.drop (below lt l k + 1) else l
def Rising (lt : κ → κ → Bool) (l : List (κ × ν)) : Prop := ∀ i j, i < j → j < l.length → lt (nth l i).1 (nth l j).1 = true
theorem below_le (l : List (κ × ν)) (k : κ) : below lt l k ≤ l.length := by
  unfold below
  induction l with
  | nil => simp
  | cons p l ih => rw [List.takeWhile_cons]; split <;> simp; exact ih
theorem below_lt : ∀ (l : List (κ × ν)) (k : κ) (j : Nat), j < below lt l k → lt (nth l j).1 k = true
  | [], k, j, h => by simp [below] at h
  | p :: l, k, j, h => by
    unfold below at h
    rw [List.takeWhile_cons] at h
    split at h
    · rename_i hp
      cases j with
      | zero => rw [nth_cons_zero]; exact hp
      | succ j => rw [nth_cons_succ]; exact below_lt l k j (by simpa [below] using h)
    · simp at h
theorem below_ge : ∀ (l : List (κ × ν)) (k : κ), below lt l k < l.length → lt (nth l (below lt l k)).1 k = false
  | [], k, h => by simp [below] at h
  | p :: l, k, h => by
    cases hp : lt p.1 k with
    | false =>
      have : below lt (p :: l) k = 0 := by unfold below; rw [List.takeWhile_cons]; simp [hp]
      rw [this, nth_cons_zero]; exact hp
    | true =>
      have e : below lt (p :: l) k = below lt l k + 1 := by unfold below; rw [List.takeWhile_cons]; simp [hp]
      rw [e, nth_cons_succ]
      exact below_ge l k (by rw [e] at h; simpa using h)
theorem below_eq (l : List (κ × ν)) (k : κ) (i : Nat) (h1 : i ≤ l.length) (h2 : ∀ j, j < i → lt (nth l j).1 k = true) (h3 : i < l.length → lt (nth l i).1 k = false) : below lt l k = i := by
  rcases Nat.lt_trichotomy (below lt l k) i with h | h | h
  · have a := below_ge l k (Nat.lt_of_lt_of_le h h1)
    rw [h2 _ h] at a; exact absurd a (by simp)
  · exact h
  · have a := below_lt l k i h
    have b := h3 (Nat.lt_of_lt_of_le h (below_le l k))
    rw [a] at b; exact absurd b (by simp)
def tGet (lt : κ → κ → Bool) (z : ν) (l : List (κ × ν)) (k : κ) : ν × Bool := if isIn lt l k then ((nth l (below lt l k)).2, true) else (z, false)
def tAt (zk : κ) (zv : ν) (l : List (κ × ν)) (i : Int) : κ × ν × Bool := if 0 ≤ i ∧ i < l.length then ((nth l i.toNat).1, (nth l i.toNat).2, true) else (zk, zv, false)
theorem tSet_len (l : List (κ × ν)) (k : κ) (v : ν) : (tSet lt l k v).length ≤ l.length + 1 := by
  unfold tSet
  have := below_le (lt := lt) l k
  rw [List.length_append, List.length_take, List.length_cons, List.length_drop]
  split <;> omega
theorem tDel_len (l : List (κ × ν)) (k : κ) : (tDel lt l k).length ≤ l.length := by
  unfold tDel
  split
  · rw [List.length_append, List.length_take, List.length_drop]; omega
  · exact Nat.le_refl _
theorem tSet_in (l : List (κ × ν)) (k : κ) (v : ν) (h : isIn lt l k = true) : tSet lt l k v = l.set (below lt l k) ((nth l (below lt l k)).1, v) := by
  unfold tSet
  rw [h]
  unfold isIn at h
  obtain ⟨h1, h2⟩ := of_decide_eq_true h
  rw [h2, List.set_eq_take_append_cons_drop, if_pos h1]
  rfl
theorem Rising.mono (ho : KOrd lt) {l : List (κ × ν)} (h : Rising lt l) (k : κ) (i j : Nat) (hij : i ≤ j) (hj : j < l.length) (hl : lt (nth l j).1 k = true) : lt (nth l i).1 k = true := by
  rcases Nat.lt_or_eq_of_le hij with e | e
  · exact ho.trans _ _ _ (h i j e hj) hl
  · rw [e]; exact hl
theorem Rising.nil : Rising lt ([] : List (κ × ν)) := fun i j _ h => by simp at h
theorem Rising.take {l : List (κ × ν)} (h : Rising lt l) (n : Nat) : Rising lt (l.take n) := fun i j hij hj => by
  rw [List.length_take] at hj
  rw [nth_take l n i (by omega), nth_take l n j (by omega)]; exact h i j hij (by omega)
theorem Rising.drop {l : List (κ × ν)} (h : Rising lt l) (n : Nat) : Rising lt (l.drop n) := fun i j hij hj => by
  rw [List.length_drop] at hj
  rw [nth_drop, nth_drop]; exact h _ _ (by omega) (by omega)
theorem Rising.app {l m : List (κ × ν)} (hl : Rising lt l) (hm : Rising lt m) (hlm : ∀ i j, i < l.length → j < m.length → lt (nth l i).1 (nth m j).1 = true) : Rising lt (l ++ m) := fun i j hij hj => by
  rw [List.length_append] at hj
  by_cases h1 : j < l.length
  · rw [nth_append_left _ _ _ h1, nth_append_left _ _ _ (by omega)]; exact hl i j hij h1
  · rw [nth_append_right _ _ j (by omega)]
    by_cases h2 : i < l.length
    · rw [nth_append_left _ _ _ h2]; exact hlm _ _ h2 (by omega)
    · rw [nth_append_right _ _ i (by omega)]; exact hm _ _ (by omega) (by omega)
theorem Rising.one (p : κ × ν) : Rising lt [p] := fun i j hij hj => by simp at hj; omega
/-- What stands from a place on is above the key, the key's own row left out. -/
theorem above (ho : KOrd lt) {l : List (κ × ν)} (h : Rising lt l) (k : κ) (j : Nat) (hj : below lt l k + (if isIn lt l k then 1 else 0) ≤ j) (hl : j < l.length) : lt k (nth l j).1 = true := by
  have hb : below lt l k < l.length := by split at hj <;> omega
  have h1 := below_ge l k hb
  by_cases hin : isIn lt l k = true
  · rw [if_pos hin] at hj
    unfold isIn at hin
    have e := (of_decide_eq_true hin).2
    have := h (below lt l k) j (by omega) hl
    rwa [e] at this
  · rw [if_neg hin] at hj
    have hne : (nth l (below lt l k)).1 ≠ k := by
      intro e; apply hin; unfold isIn; exact decide_eq_true ⟨hb, e⟩
    have h2 : lt k (nth l (below lt l k)).1 = true := by
      cases hc : lt k (nth l (below lt l k)).1 with
      | true => rfl
      | false => exact absurd (ho.tot _ _ h1 hc) hne
    rcases Nat.lt_or_eq_of_le hj with q | q
    · exact ho.trans _ _ _ h2 (h _ _ (by simpa using q) hl)
    · rw [Nat.add_zero] at q; rw [← q]; exact h2
theorem Rising.set_ (ho : KOrd lt) {l : List (κ × ν)} (h : Rising lt l) (k : κ) (v : ν) : Rising lt (tSet lt l k v) := by
  unfold tSet
  refine (h.take _).app ?_ ?_
  · have : (k, v) :: l.drop (below lt l k + if isIn lt l k then 1 else 0) = [(k, v)] ++ l.drop (below lt l k + if isIn lt l k then 1 else 0) := rfl
    rw [this]
    refine (Rising.one _).app (h.drop _) ?_
    intro i j hi hj
    simp at hi; subst hi
    rw [List.length_drop] at hj
    rw [nth_drop]
    exact above ho h k _ (by omega) (by omega)
  · intro i j hi hj
    rw [List.length_take] at hi
    rw [nth_take _ _ _ (by omega)]
    have h1 := below_lt (lt := lt) l k i (by omega)
    cases j with
    | zero => rw [nth_cons_zero]; exact h1
    | succ j =>
      rw [nth_cons_succ, nth_drop]
      rw [List.length_cons, List.length_drop] at hj
      exact ho.trans _ _ _ h1 (above ho h k _ (by omega) (by omega))
theorem Rising.del (ho : KOrd lt) {l : List (κ × ν)} (h : Rising lt l) (k : κ) : Rising lt (tDel lt l k) := by
  unfold tDel
  split
  · refine (h.take _).app (h.drop _) ?_
    intro i j hi hj
    rw [List.length_take] at hi
    rw [List.length_drop] at hj
    rw [nth_take _ _ _ (by omega), nth_drop]
    exact h _ _ (by omega) (by omega)
  · exact h
end
theorem intOrd : KOrd (fun a b : Int => decide (a < b)) := ⟨fun a => by simp, fun a b c => by simp; omega, fun a b => by simp; omega⟩
end Go.Proofs.YtmhojaiajhdlcaaGreat
namespace Go.Proofs.YtmhojaiajhdlcaaGreat
open Go.RowKit
set_option linter.unusedSimpArgs false
set_option linter.unusedVariables false
set_option linter.unusedSectionVars false
section
variable {κ ν : Type} [Inhabited κ] [Inhabited ν] [DecidableEq κ] {lt : κ → κ → Bool}
theorem lt_below (ho : KOrd lt) {l : List (κ × ν)} (h : Rising lt l) (k : κ) (i : Nat) (hi : i < l.length) : lt (nth l i).1 k = decide (i < below lt l k) := by
  by_cases hb : i < below lt l k
  · rw [below_lt l k i hb, decide_eq_true hb]
  · rw [decide_eq_false hb]
    cases hq : lt (nth l i).1 k with
    | false => rfl
    | true =>
      have h1 := below_ge (lt := lt) l k (by omega)
      rw [h.mono ho k (below lt l k) i (by omega) hi hq] at h1
      exact absurd h1 (by simp)
theorem below_at (ho : KOrd lt) {l : List (κ × ν)} (h : Rising lt l) (i : Nat) (hi : i < l.length) : below lt l (nth l i).1 = i :=
  below_eq l _ i (by omega) (fun j hj => h j i hj hi) (fun _ => ho.irr _)
theorem isIn_at (ho : KOrd lt) {l : List (κ × ν)} (h : Rising lt l) (i : Nat) (hi : i < l.length) : isIn lt l (nth l i).1 = true := by
  unfold isIn
  rw [below_at ho h i hi]
  exact decide_eq_true ⟨hi, rfl⟩
theorem tGet_at (ho : KOrd lt) (z : ν) {l : List (κ × ν)} (h : Rising lt l) (i : Nat) (hi : i < l.length) : tGet lt z l (nth l i).1 = ((nth l i).2, true) := by
  unfold tGet
  rw [isIn_at ho h i hi, below_at ho h i hi]; rfl
theorem tAt_at (zk : κ) (zv : ν) (l : List (κ × ν)) (i : Nat) (hi : i < l.length) : tAt zk zv l (i : Int) = ((nth l i).1, (nth l i).2, true) := by
  unfold tAt
  rw [if_pos ⟨by omega, by omega⟩]; rfl
theorem nth_keys (l : List (κ × ν)) (i : Nat) (hi : i < l.length) : nth (l.map (·.1)) i = (nth l i).1 := by
  rw [nth_get _ _ (by simpa using hi), nth_get _ _ hi]; simp
theorem tSet_mem (l : List (κ × ν)) (k : κ) (v : ν) (p : κ × ν) (h : p ∈ tSet lt l k v) : p = (k, v) ∨ p ∈ l := by
  unfold tSet at h
  rcases List.mem_append.1 h with h | h
  · exact .inr (List.mem_of_mem_take h)
  · rcases List.mem_cons.1 h with h | h
    · exact .inl h
    · exact .inr (List.mem_of_mem_drop h)
theorem tDel_mem (l : List (κ × ν)) (k : κ) (p : κ × ν) (h : p ∈ tDel lt l k) : p ∈ l := by
  unfold tDel at h
  split at h
  · rcases List.mem_append.1 h with h | h
    · exact List.mem_of_mem_take h
    · exact List.mem_of_mem_drop h
  · exact h
theorem nth_mem {l : List (κ × ν)} (i : Nat) (hi : i < l.length) : nth l i ∈ l := by rw [nth_get l i hi]; exact List.getElem_mem hi
theorem min_below (ho : KOrd lt) {l : List (κ × ν)} (h : Rising lt l) (k : κ) (i : Nat) (hi : i < l.length) : min (i + 1) (below lt l k) = min i (below lt l k) + (if lt (nth l i).1 k then 1 else 0) := by
  rw [lt_below ho h k i hi]
  by_cases hb : i < below lt l k
  · rw [decide_eq_true hb, if_pos rfl]; omega
  · rw [decide_eq_false hb, if_neg (by simp)]; omega
end
section
variable {κ ν κ' ν' : Type} [Inhabited κ] [Inhabited ν] [DecidableEq κ] [Inhabited κ'] [Inhabited ν'] [DecidableEq κ'] {lt : κ → κ → Bool} {lt' : κ' → κ' → Bool} (f : κ → κ') (h : ν → ν') (ok : κ → Prop)
/-- A table's rows with other names for keys and things, the order kept. -/
def tMap (l : List (κ × ν)) : List (κ' × ν') := l.map fun p => (f p.1, h p.2)
theorem tMap_nth (l : List (κ × ν)) (i : Nat) (hi : i < l.length) : nth (tMap f h l) i = (f (nth l i).1, h (nth l i).2) := by
  unfold tMap
  rw [nth_get _ _ (by simpa using hi), nth_get _ _ hi]; simp
variable (hf : ∀ a b, ok a → ok b → lt' (f a) (f b) = lt a b) (hi : ∀ a b, ok a → ok b → f a = f b → a = b)
include hf
theorem tMap_below (l : List (κ × ν)) (hl : ∀ p ∈ l, ok p.1) (k : κ) (hk : ok k) : below lt' (tMap f h l) (f k) = below lt l k := by
  unfold below tMap
  induction l with
  | nil => rfl
  | cons p l ih =>
    rw [List.map_cons, List.takeWhile_cons, List.takeWhile_cons]
    rw [hf p.1 k (hl p (by simp)) hk]
    split
    · rw [List.length_cons, List.length_cons, ih (fun q hq => hl q (by simp [hq]))]
    · rfl
include hi
theorem tMap_isIn (l : List (κ × ν)) (hl : ∀ p ∈ l, ok p.1) (k : κ) (hk : ok k) : isIn lt' (tMap f h l) (f k) = isIn lt l k := by
  unfold isIn
  rw [tMap_below f h ok hf l hl k hk]
  have hlen : (tMap f h l).length = l.length := by simp [tMap]
  rw [hlen]
  apply decide_eq_decide.2
  constructor
  · rintro ⟨h1, h2⟩
    rw [tMap_nth f h l _ h1] at h2
    exact ⟨h1, hi _ _ (hl _ (nth_mem _ h1)) hk h2⟩
  · rintro ⟨h1, h2⟩
    refine ⟨h1, ?_⟩
    rw [tMap_nth f h l _ h1]
    exact congrArg f h2
theorem tMap_set (l : List (κ × ν)) (hl : ∀ p ∈ l, ok p.1) (k : κ) (hk : ok k) (v : ν) : tSet lt' (tMap f h l) (f k) (h v) = tMap f h (tSet lt l k v) := by
  unfold tSet
  rw [tMap_isIn f h ok hf hi l hl k hk, tMap_below f h ok hf l hl k hk]
  unfold tMap
  simp [List.map_take, List.map_drop]
theorem tMap_del (l : List (κ × ν)) (hl : ∀ p ∈ l, ok p.1) (k : κ) (hk : ok k) : tDel lt' (tMap f h l) (f k) = tMap f h (tDel lt l k) := by
  unfold tDel
  rw [tMap_isIn f h ok hf hi l hl k hk, tMap_below f h ok hf l hl k hk]
  unfold tMap
  split <;> simp [List.map_take, List.map_drop]
theorem tMap_get (z : ν') (l : List (κ × ν)) (hl : ∀ p ∈ l, ok p.1) (k : κ) (hk : ok k) (z0 : ν) : tGet lt' z (tMap f h l) (f k) = if isIn lt l k then (h (tGet lt z0 l k).1, true) else (z, false) := by
  unfold tGet
  rw [tMap_isIn f h ok hf hi l hl k hk, tMap_below f h ok hf l hl k hk]
  split
  · rename_i hin
    unfold isIn at hin
    rw [tMap_nth f h l _ (of_decide_eq_true hin).1]
  · rfl
end
end Go.Proofs.YtmhojaiajhdlcaaGreat
namespace Go.Proofs.YtmhojaiajhdlcaaGreat
open Go.RowKit
set_option linter.unusedSimpArgs false
set_option linter.unusedVariables false
theorem bl_irr : ∀ a : List UInt8, Op.bytesLess a a = false
  | [] => rfl
  | x :: a => by simp [Op.bytesLess, bl_irr a]
theorem bl_cons (x y : UInt8) (a b : List UInt8) : Op.bytesLess (x :: a) (y :: b) = true ↔ x.toNat < y.toNat ∨ (x = y ∧ Op.bytesLess a b = true) := by
  simp [Op.bytesLess, UInt8.lt_iff_toNat_lt]
theorem bl_trans : ∀ a b c : List UInt8, Op.bytesLess a b = true → Op.bytesLess b c = true → Op.bytesLess a c = true
  | [], [], c, h, _ => by simp [Op.bytesLess] at h
  | [], _ :: _, [], _, h => by simp [Op.bytesLess] at h
  | [], _ :: _, _ :: _, _, _ => by simp [Op.bytesLess]
  | _ :: _, [], _, h, _ => by simp [Op.bytesLess] at h
  | _ :: _, _ :: _, [], _, h => by simp [Op.bytesLess] at h
  | x :: a, y :: b, z :: c, h, k => by
    rw [bl_cons] at h k ⊢
    rcases h with h | ⟨rfl, h⟩
    · rcases k with k | ⟨rfl, k⟩
      · exact .inl (by omega)
      · exact .inl h
    · rcases k with k | ⟨rfl, k⟩
      · exact .inl k
      · exact .inr ⟨rfl, bl_trans a b c h k⟩
theorem bl_tot : ∀ a b : List UInt8, Op.bytesLess a b = false → Op.bytesLess b a = false → a = b
  | [], [], _, _ => rfl
  | [], _ :: _, h, _ => by simp [Op.bytesLess] at h
  | _ :: _, [], _, h => by simp [Op.bytesLess] at h
  | x :: a, y :: b, h, k => by
    have h1 : ¬ (x.toNat < y.toNat ∨ (x = y ∧ Op.bytesLess a b = true)) := fun q => by rw [(bl_cons x y a b).2 q] at h; exact absurd h (by simp)
    have k1 : ¬ (y.toNat < x.toNat ∨ (y = x ∧ Op.bytesLess b a = true)) := fun q => by rw [(bl_cons y x b a).2 q] at k; exact absurd k (by simp)
    have e : x = y := UInt8.toNat_inj.1 (by omega)
    subst e
    have h2 : Op.bytesLess a b = false := by
      cases hq : Op.bytesLess a b with
      | false => rfl
      | true => exact absurd (.inr ⟨rfl, hq⟩) h1
    have k2 : Op.bytesLess b a = false := by
      cases hq : Op.bytesLess b a with
      | false => rfl
      | true => exact absurd (.inr ⟨rfl, hq⟩) k1
    rw [bl_tot a b h2 k2]
abbrev strLt (a b : ByteArray) : Bool := Op.bytesLess a.toList b.toList
theorem strOrd : KOrd strLt := ⟨fun a => bl_irr _, fun a b c => bl_trans _ _ _, fun a b h k => str_inj _ _ (bl_tot _ _ h k)⟩
instance : DecidableEq ByteArray := fun a b => decidable_of_iff (a.toList = b.toList) ⟨str_inj a b, fun h => by rw [h]⟩
end Go.Proofs.YtmhojaiajhdlcaaGreat
namespace Go.Proofs.YtmhojaiajhdlcaaGreat
open Go.RowKit
/-- A name is 1 to 32 bytes from 33 to 126. -/
def nameOk (s : ByteArray) : Bool := decide (1 ≤ s.size ∧ s.size ≤ 32 ∧ ∀ j (h : j < s.size), 33 ≤ (s[j]).toNat ∧ (s[j]).toNat ≤ 126)
end Go.Proofs.YtmhojaiajhdlcaaGreat
namespace Go.Proofs.YtmhojaiajhdlcaaGreat
open Go.RowKit
set_option linter.unusedSimpArgs false
set_option linter.unusedVariables false
abbrev DF := List (ByteArray × List UInt8)
def dTotal (fs : DF) : Nat := (fs.map fun p => p.2.length).sum
/-- A raw write. -/
structure Wr where
  kd : Int
  nm : ByteArray
  tn : ByteArray
  p : List UInt8
  n : Int
instance : Inhabited Wr := ⟨⟨0, ⟨#[]⟩, ⟨#[]⟩, [], 0⟩⟩
abbrev inD (fs : DF) (s : ByteArray) : Bool := isIn strLt fs s
def dGet (fs : DF) (s : ByteArray) : List UInt8 × Bool := tGet strLt [] fs s
theorem dGet_in (fs : DF) (s : ByteArray) : (dGet fs s).2 = inD fs s := by unfold dGet tGet inD; cases isIn strLt fs s <;> rfl
theorem dGet_no {fs : DF} {s : ByteArray} (h : inD fs s = false) : dGet fs s = ([], false) := by unfold dGet tGet; rw [show isIn strLt fs s = _ from h]; rfl
def wApply (x : Wr) (fs : DF) : DF :=
  if x.kd = 1 then tSet strLt fs x.nm [] else
  if x.kd = 2 then tSet strLt fs x.nm ((dGet fs x.nm).1 ++ x.p) else
  if x.kd = 3 then (if inD fs x.nm then tSet strLt (tDel strLt fs x.nm) x.tn (dGet fs x.nm).1 else fs) else
  if x.kd = 4 then tSet strLt fs x.nm ((dGet fs x.nm).1.take x.n.toNat) else
  if x.kd = 5 then tDel strLt fs x.nm else fs
def wAll (fs : DF) (l : List Wr) : DF := l.foldl (fun f x => wApply x f) fs
structure WrOk (x : Wr) (fs : DF) : Prop where
  len : fs.length ≤ 5000
  kd : 1 ≤ x.kd ∧ x.kd ≤ 5
  put : x.kd = 2 → x.p ≠ [] ∧ (dGet fs x.nm).1.length + x.p.length ≤ 16777216
  cut : x.kd = 4 → 0 ≤ x.n ∧ x.n ≤ (dGet fs x.nm).1.length
  tot : dTotal (wApply x fs) ≤ 16777216
  has : x.kd ≠ 1 → inD fs x.nm = true
  new : x.kd = 1 → inD fs x.nm = false
def LogOk : DF → List Wr → Prop
  | _, [] => True
  | fs, x :: l => WrOk x fs ∧ LogOk (wApply x fs) l
theorem LogOk.snoc : ∀ {fs : DF} {l : List Wr} {x : Wr}, LogOk fs l → WrOk x (wAll fs l) → LogOk fs (l ++ [x])
  | fs, [], x, _, h => ⟨h, trivial⟩
  | fs, y :: l, x, h, k => ⟨h.1, LogOk.snoc h.2 k⟩
theorem LogOk.at_ : ∀ {fs : DF} {l : List Wr} (k : Nat), LogOk fs l → k < l.length → WrOk (nth l k) (wAll fs (l.take k))
  | fs, [], k, _, h => by simp at h
  | fs, y :: l, 0, h, _ => h.1
  | fs, y :: l, k + 1, h, hk => by
    rw [nth_cons_succ, List.take_succ_cons]
    exact LogOk.at_ (fs := wApply y fs) k h.2 (by simpa using hk)
theorem LogOk.take : ∀ {fs : DF} {l : List Wr} (k : Nat), LogOk fs l → LogOk fs (l.take k)
  | fs, [], k, _ => by simp [LogOk]
  | fs, y :: l, 0, h => trivial
  | fs, y :: l, k + 1, h => ⟨h.1, LogOk.take k h.2⟩
theorem wAll_snoc (fs : DF) (l : List Wr) (x : Wr) : wAll fs (l ++ [x]) = wApply x (wAll fs l) := by unfold wAll; rw [List.foldl_append]; rfl
theorem take_succ_nth {α : Type} [Inhabited α] (l : List α) (k : Nat) (h : k < l.length) : l.take (k + 1) = l.take k ++ [nth l k] := by rw [List.take_add_one, nth_get _ _ h, List.getElem?_eq_getElem h]; rfl
theorem wAll_take (fs : DF) (l : List Wr) (k : Nat) (h : k < l.length) : wAll fs (l.take (k + 1)) = wApply (nth l k) (wAll fs (l.take k)) := by rw [take_succ_nth l k h, wAll_snoc]
theorem wApply_rising {fs : DF} (h : Rising strLt fs) (x : Wr) : Rising strLt (wApply x fs) := by
  unfold wApply
  split
  · exact h.set_ strOrd _ _
  split
  · exact h.set_ strOrd _ _
  split
  · split
    · exact (h.del strOrd _).set_ strOrd _ _
    · exact h
  split
  · exact h.set_ strOrd _ _
  split
  · exact h.del strOrd _
  · exact h
theorem wAll_rising {fs : DF} (h : Rising strLt fs) : ∀ l : List Wr, Rising strLt (wAll fs l)
  | [] => h
  | x :: l => wAll_rising (wApply_rising h x) l
theorem total_app (a b : DF) : dTotal (a ++ b) = dTotal a + dTotal b := by unfold dTotal; rw [List.map_append, List.sum_append]
theorem total_cons (p : ByteArray × List UInt8) (b : DF) : dTotal (p :: b) = p.2.length + dTotal b := by unfold dTotal; rw [List.map_cons, List.sum_cons]
theorem split_at (fs : DF) (i : Nat) (h : i < fs.length) : fs.take i ++ nth fs i :: fs.drop (i + 1) = fs := by
  rw [nth_get _ _ h, List.getElem_cons_drop, List.take_append_drop]
theorem total_take (fs : DF) (i : Nat) (h : i < fs.length) : dTotal (fs.take (i + 1)) = dTotal (fs.take i) + (nth fs i).2.length := by
  rw [take_succ_nth fs i h, total_app, total_cons]; rfl
theorem total_le (fs : DF) (i : Nat) : dTotal (fs.take i) ≤ dTotal fs := by
  have := total_app (fs.take i) (fs.drop i)
  rw [List.take_append_drop] at this; omega
theorem in_at {fs : DF} {s : ByteArray} (h : inD fs s = true) : below strLt fs s < fs.length ∧ (nth fs (below strLt fs s)).1 = s := by unfold inD isIn at h; exact of_decide_eq_true h
theorem dGet_yes {fs : DF} {s : ByteArray} (h : inD fs s = true) : dGet fs s = ((nth fs (below strLt fs s)).2, true) := by unfold dGet tGet; rw [show isIn strLt fs s = _ from h]; rfl
theorem total_set_in {fs : DF} {s : ByteArray} (v : List UInt8) (h : inD fs s = true) : dTotal (tSet strLt fs s v) + (dGet fs s).1.length = dTotal fs + v.length := by
  obtain ⟨h1, h2⟩ := in_at h
  have h3 := split_at fs _ h1
  have h4 : dTotal fs = dTotal (fs.take (below strLt fs s)) + ((nth fs (below strLt fs s)).2.length + dTotal (fs.drop (below strLt fs s + 1))) := by
    conv => lhs; rw [← h3]
    rw [total_app, total_cons]
  unfold tSet
  rw [show isIn strLt fs s = true from h, if_pos rfl, total_app, total_cons, dGet_yes h, h4]
  show dTotal _ + (v.length + _) + (nth fs (below strLt fs s)).2.length = _
  omega
theorem total_set_no {fs : DF} {s : ByteArray} (v : List UInt8) (h : inD fs s = false) : dTotal (tSet strLt fs s v) = dTotal fs + v.length := by
  have h4 := total_app (fs.take (below strLt fs s)) (fs.drop (below strLt fs s))
  rw [List.take_append_drop] at h4
  unfold tSet
  rw [show isIn strLt fs s = false from h, if_neg (by simp), total_app, total_cons, Nat.add_zero, h4]
  show _ + (v.length + _) = _
  omega
theorem total_del {fs : DF} {s : ByteArray} (h : inD fs s = true) : dTotal (tDel strLt fs s) + (dGet fs s).1.length = dTotal fs := by
  obtain ⟨h1, h2⟩ := in_at h
  have h3 := split_at fs _ h1
  have h4 : dTotal fs = dTotal (fs.take (below strLt fs s)) + ((nth fs (below strLt fs s)).2.length + dTotal (fs.drop (below strLt fs s + 1))) := by
    conv => lhs; rw [← h3]
    rw [total_app, total_cons]
  unfold tDel
  rw [show isIn strLt fs s = true from h, if_pos rfl, total_app, dGet_yes h, h4]
  show dTotal _ + _ + (nth fs (below strLt fs s)).2.length = _
  omega
theorem total_set_le {fs : DF} (s : ByteArray) (v : List UInt8) : dTotal (tSet strLt fs s v) ≤ dTotal fs + v.length := by
  cases h : inD fs s with
  | true => have := total_set_in v h; omega
  | false => have := total_set_no v h; omega
theorem get_le_total (fs : DF) (s : ByteArray) : (dGet fs s).1.length ≤ dTotal fs := by
  cases h : inD fs s with
  | true => have := total_del h; omega
  | false => rw [dGet_no h]; simp
theorem set_len_in {fs : DF} {s : ByteArray} (v : List UInt8) (h : inD fs s = true) : (tSet strLt fs s v).length = fs.length := by
  rw [tSet_in fs s v h, List.length_set]
theorem below_set {fs : DF} (hr : Rising strLt fs) (s : ByteArray) (v : List UInt8) : below strLt (tSet strLt fs s v) s = below strLt fs s := by
  have hle := below_le (lt := strLt) fs s
  have htk : (fs.take (below strLt fs s)).length = below strLt fs s := by rw [List.length_take]; omega
  refine below_eq _ _ _ (by unfold tSet; simp; omega) (fun j hj => ?_) (fun _ => ?_)
  · unfold tSet
    rw [nth_append_left _ _ _ (by rw [htk]; exact hj), nth_take _ _ _ hj]
    exact below_lt fs s j hj
  · unfold tSet
    rw [nth_append_right _ _ _ (by rw [htk]; exact Nat.le_refl _), htk, Nat.sub_self, nth_cons_zero]
    exact strOrd.irr s
theorem nth_set_at (fs : DF) (s : ByteArray) (v : List UInt8) : nth (tSet strLt fs s v) (below strLt fs s) = (s, v) := by
  have hle := below_le (lt := strLt) fs s
  have htk : (fs.take (below strLt fs s)).length = below strLt fs s := by rw [List.length_take]; omega
  unfold tSet
  rw [nth_append_right _ _ _ (by rw [htk]; exact Nat.le_refl _), htk, Nat.sub_self, nth_cons_zero]
theorem in_set {fs : DF} (hr : Rising strLt fs) (s : ByteArray) (v : List UInt8) : inD (tSet strLt fs s v) s = true := by
  have hle := below_le (lt := strLt) fs s
  unfold inD isIn
  rw [below_set hr, nth_set_at]
  exact decide_eq_true ⟨by unfold tSet; simp; omega, rfl⟩
theorem get_set {fs : DF} (hr : Rising strLt fs) (s : ByteArray) (v : List UInt8) : dGet (tSet strLt fs s v) s = (v, true) := by
  rw [dGet_yes (in_set hr s v), below_set hr, nth_set_at]
/-- A disk's state. -/
structure DS where
  now : DF
  mark : DF
  log : List Wr
def dDo (x : Wr) (s : DS) : DS := ⟨wApply x s.now, s.mark, s.log ++ [x]⟩
structure DOk (s : DS) : Prop where
  ris : Rising strLt s.now
  rim : Rising strLt s.mark
  eq : s.now = wAll s.mark s.log
  log : LogOk s.mark s.log
  tot : dTotal s.now ≤ 16777216
  totm : dTotal s.mark ≤ 16777216
theorem DOk.do_ {s : DS} (h : DOk s) {x : Wr} (hx : WrOk x s.now) : DOk (dDo x s) :=
  ⟨wApply_rising h.ris x, h.rim, by unfold dDo; dsimp only; rw [wAll_snoc, ← h.eq], h.log.snoc (by rw [← h.eq]; exact hx), hx.tot, h.totm⟩
abbrev wMake (nm : ByteArray) : Wr := ⟨1, nm, ⟨#[]⟩, [], 0⟩
abbrev wPut (nm : ByteArray) (p : List UInt8) : Wr := ⟨2, nm, ⟨#[]⟩, p, 0⟩
abbrev wRen (nm tn : ByteArray) : Wr := ⟨3, nm, tn, [], 0⟩
abbrev wCut (nm : ByteArray) (n : Int) : Wr := ⟨4, nm, ⟨#[]⟩, [], n⟩
abbrev wRem (nm : ByteArray) : Wr := ⟨5, nm, ⟨#[]⟩, [], 0⟩
def chunks (p : List UInt8) : List (List UInt8) := (List.range ((p.length + 31) / 32)).map fun i => (p.drop (32 * i)).take 32
def dPut (nm : ByteArray) (s : DS) (l : List (List UInt8)) : DS := l.foldl (fun s c => dDo (wPut nm c) s) s
theorem chunks_len (p : List UInt8) : (chunks p).length = (p.length + 31) / 32 := by unfold chunks; simp
theorem chunks_nth (p : List UInt8) (i : Nat) (h : i < (chunks p).length) : nth (chunks p) i = (p.drop (32 * i)).take 32 := by
  unfold chunks at h ⊢
  rw [nth_get _ _ h]; simp
theorem dPut_snoc (nm : ByteArray) (s : DS) (l : List (List UInt8)) (c : List UInt8) : dPut nm s (l ++ [c]) = dDo (wPut nm c) (dPut nm s l) := by unfold dPut; rw [List.foldl_append]; rfl
theorem dPut_take (nm : ByteArray) (s : DS) (p : List UInt8) (i : Nat) (h : i < (chunks p).length) : dPut nm s ((chunks p).take (i + 1)) = dDo (wPut nm ((p.drop (32 * i)).take 32)) (dPut nm s ((chunks p).take i)) := by
  rw [take_succ_nth _ _ h, dPut_snoc, chunks_nth p i h]
theorem put_now (nm : ByteArray) (c : List UInt8) (s : DS) : (dDo (wPut nm c) s).now = tSet strLt s.now nm ((dGet s.now nm).1 ++ c) := rfl
/-- Behind so many chunks. -/
structure PutOk (nm : ByteArray) (s0 s : DS) (n : Nat) : Prop where
  ok : DOk s
  has : inD s.now nm = true
  len : s.now.length = s0.now.length
  tot : dTotal s.now = dTotal s0.now + n
  log : s.log.length ≤ s0.log.length + n
  mark : s.mark = s0.mark
theorem PutOk.step {nm : ByteArray} {s0 s : DS} {n : Nat} (h : PutOk nm s0 s n) (c : List UInt8) (hc : c ≠ []) (hl : s0.now.length ≤ 5000) (ht : dTotal s0.now + (n + c.length) ≤ 16777216) : WrOk (wPut nm c) s.now ∧ PutOk nm s0 (dDo (wPut nm c) s) (n + c.length) := by
  have h1 := total_set_in ((dGet s.now nm).1 ++ c) h.has
  have h2 := get_le_total s.now nm
  rw [List.length_append] at h1
  have h3 := h.tot
  have hcl : 0 < c.length := List.length_pos_iff.2 hc
  have hw : WrOk (wPut nm c) s.now := ⟨by rw [h.len]; exact hl, ⟨by show (1 : Int) ≤ 2; decide, by show (2 : Int) ≤ 5; decide⟩, fun _ => ⟨hc, by show (dGet s.now nm).1.length + c.length ≤ _; omega⟩, fun q => absurd q (show ¬ (2 : Int) = 4 by decide), by show dTotal (tSet strLt s.now nm ((dGet s.now nm).1 ++ c)) ≤ _; omega, fun _ => h.has, fun q => absurd q (show ¬ (2 : Int) = 1 by decide)⟩
  refine ⟨hw, h.ok.do_ hw, in_set h.ok.ris _ _, by rw [put_now, set_len_in _ h.has]; exact h.len, by rw [put_now]; omega, ?_, h.mark⟩
  have := h.log
  unfold dDo; simp; omega
theorem PutOk.all {nm : ByteArray} {s0 : DS} (p : List UInt8) (h : DOk s0) (hin : inD s0.now nm = true) (hl : s0.now.length ≤ 5000) (ht : dTotal s0.now + p.length ≤ 16777216) : ∀ i, i ≤ (chunks p).length → PutOk nm s0 (dPut nm s0 ((chunks p).take i)) (min (32 * i) p.length)
  | 0, _ => ⟨h, hin, rfl, by simp [dPut], by simp [dPut], rfl⟩
  | i + 1, hi => by
    have hlen := chunks_len p
    rw [dPut_take nm s0 p i (by omega)]
    have ih := PutOk.all p h hin hl ht i (by omega)
    have hlt : 32 * i < p.length := by omega
    have hcl : ((p.drop (32 * i)).take 32).length = min 32 (p.length - 32 * i) := by rw [List.length_take, List.length_drop]
    have := (ih.step ((p.drop (32 * i)).take 32) (fun q => by rw [q] at hcl; simp at hcl; omega) hl (by rw [hcl]; omega)).2
    rw [hcl] at this
    rw [show min (32 * (i + 1)) p.length = min (32 * i) p.length + min 32 (p.length - 32 * i) by omega]
    exact this
def dAppend (s : DS) (nm : ByteArray) (p : List UInt8) : Int × DS :=
  if nameOk nm then (if 16777216 < dTotal s.now + p.length then (9, s) else (0, dPut nm (if inD s.now nm then s else dDo (wMake nm) s) (chunks p))) else (14, s)
def dRename (s : DS) (nm tn : ByteArray) : Int × DS := if nameOk tn then (if inD s.now nm then (0, dDo (wRen nm tn) s) else (7, s)) else (14, s)
def dCut (s : DS) (nm : ByteArray) (n : Int) : Int × DS := if inD s.now nm then (if n < 0 ∨ (dGet s.now nm).1.length < n then (1, s) else (0, dDo (wCut nm n) s)) else (7, s)
def dRemove (s : DS) (nm : ByteArray) : Int × DS := if inD s.now nm then (0, dDo (wRem nm) s) else (7, s)
def dMark (s : DS) : DS := ⟨s.now, s.now, []⟩
def dBackF (s : DS) (n : Int) : DF := wAll s.mark (s.log.take n.toNat)
def dBack (s : DS) (n : Int) : DS := ⟨dBackF s n, dBackF s n, []⟩
theorem DOk.make {s : DS} (h : DOk s) (nm : ByteArray) (hn : inD s.now nm = false) (hl : s.now.length ≤ 5000) : WrOk (wMake nm) s.now ∧ DOk (dDo (wMake nm) s) ∧ inD (dDo (wMake nm) s).now nm = true ∧ dTotal (dDo (wMake nm) s).now = dTotal s.now ∧ (dDo (wMake nm) s).now.length ≤ s.now.length + 1 := by
  have ht := total_set_no (s := nm) [] hn
  have hw : WrOk (wMake nm) s.now := ⟨hl, ⟨by show (1 : Int) ≤ 1; decide, by show (1 : Int) ≤ 5; decide⟩, fun q => absurd q (show ¬ (1 : Int) = 2 by decide), fun q => absurd q (show ¬ (1 : Int) = 4 by decide), by show dTotal (tSet strLt s.now nm []) ≤ _; have := h.tot; simp at ht; omega, fun q => absurd (show (1 : Int) = 1 from rfl) q, fun _ => hn⟩
  have he : (dDo (wMake nm) s).now = tSet strLt s.now nm [] := rfl
  refine ⟨hw, h.do_ hw, ?_, ?_, ?_⟩
  · rw [he]; exact in_set h.ris _ _
  · rw [he, ht]; rfl
  · rw [he]; exact tSet_len _ _ _
theorem DOk.ren {s : DS} (h : DOk s) (nm tn : ByteArray) (hn : inD s.now nm = true) (hl : s.now.length ≤ 5000) : WrOk (wRen nm tn) s.now ∧ DOk (dDo (wRen nm tn) s) := by
  suffices hw : WrOk (wRen nm tn) s.now from ⟨hw, h.do_ hw⟩
  refine ⟨hl, ⟨by show (1 : Int) ≤ 3; decide, by show (3 : Int) ≤ 5; decide⟩, fun q => absurd q (show ¬ (3 : Int) = 2 by decide), fun q => absurd q (show ¬ (3 : Int) = 4 by decide), ?_, fun _ => hn, fun q => absurd q (show ¬ (3 : Int) = 1 by decide)⟩
  show dTotal (if inD s.now nm = true then tSet strLt (tDel strLt s.now nm) tn (dGet s.now nm).1 else s.now) ≤ _
  rw [if_pos hn]
  have h1 := total_set_le (fs := tDel strLt s.now nm) tn (dGet s.now nm).1
  have h2 := total_del hn
  have := h.tot
  omega
theorem DOk.cut {s : DS} (h : DOk s) (nm : ByteArray) (n : Int) (hn : inD s.now nm = true) (h0 : 0 ≤ n) (hle : n ≤ (dGet s.now nm).1.length) (hl : s.now.length ≤ 5000) : WrOk (wCut nm n) s.now ∧ DOk (dDo (wCut nm n) s) := by
  suffices hw : WrOk (wCut nm n) s.now from ⟨hw, h.do_ hw⟩
  refine ⟨hl, ⟨by show (1 : Int) ≤ 4; decide, by show (4 : Int) ≤ 5; decide⟩, fun q => absurd q (show ¬ (4 : Int) = 2 by decide), fun _ => ⟨h0, hle⟩, ?_, fun _ => hn, fun q => absurd q (show ¬ (4 : Int) = 1 by decide)⟩
  show dTotal (tSet strLt s.now nm ((dGet s.now nm).1.take n.toNat)) ≤ _
  have h1 := total_set_in ((dGet s.now nm).1.take n.toNat) hn
  rw [List.length_take] at h1
  have := h.tot
  omega
theorem DOk.rem {s : DS} (h : DOk s) (nm : ByteArray) (hn : inD s.now nm = true) (hl : s.now.length ≤ 5000) : WrOk (wRem nm) s.now ∧ DOk (dDo (wRem nm) s) := by
  suffices hw : WrOk (wRem nm) s.now from ⟨hw, h.do_ hw⟩
  refine ⟨hl, ⟨by show (1 : Int) ≤ 5; decide, by show (5 : Int) ≤ 5; decide⟩, fun q => absurd q (show ¬ (5 : Int) = 2 by decide), fun q => absurd q (show ¬ (5 : Int) = 4 by decide), ?_, fun _ => hn, fun q => absurd q (show ¬ (5 : Int) = 1 by decide)⟩
  show dTotal (tDel strLt s.now nm) ≤ _
  have h1 := total_del hn
  have := h.tot
  omega
theorem wAll_tot : ∀ {fs : DF} {l : List Wr}, LogOk fs l → dTotal fs ≤ 16777216 → dTotal (wAll fs l) ≤ 16777216
  | fs, [], _, h => h
  | fs, x :: l, h, _ => wAll_tot (fs := wApply x fs) h.2 h.1.tot
theorem DOk.mark {s : DS} (h : DOk s) : DOk (dMark s) := ⟨h.ris, h.ris, rfl, trivial, h.tot, h.tot⟩
theorem DOk.back {s : DS} (h : DOk s) (n : Int) : DOk (dBack s n) :=
  have hr := wAll_rising h.rim (s.log.take n.toNat)
  have ht := wAll_tot (h.log.take n.toNat) h.totm
  ⟨hr, hr, rfl, trivial, ht, ht⟩
theorem DOk.zero : DOk ⟨[], [], []⟩ := ⟨Rising.nil, Rising.nil, rfl, trivial, by simp [dTotal], by simp [dTotal]⟩
theorem DOk.append {s : DS} (h : DOk s) (nm : ByteArray) (p : List UInt8) (hl : s.now.length ≤ 4999) : DOk (dAppend s nm p).2 := by
  unfold dAppend
  split
  · split
    · exact h
    · rename_i ht
      dsimp only
      cases hin : inD s.now nm with
      | true =>
        rw [if_pos rfl]
        have := (PutOk.all p h hin (by omega) (by omega) (chunks p).length (Nat.le_refl _)).ok
        rwa [List.take_length] at this
      | false =>
        rw [if_neg (by simp)]
        obtain ⟨h1, h2, h3, h4, h5⟩ := h.make nm hin (by omega)
        have := (PutOk.all p h2 h3 (by omega) (by omega) (chunks p).length (Nat.le_refl _)).ok
        rwa [List.take_length] at this
  · exact h
end Go.Proofs.YtmhojaiajhdlcaaGreat
namespace Go.Proofs.YtmhojaiajhdlcaaGreat
open Go.RowKit
set_option linter.unusedSimpArgs false
set_option linter.unusedVariables false
abbrev rcSL (p : ByteArray × Sl) : List Value := [sv p.1, slv p.2]
theorem rcSL_len : ∀ p, (rcSL p).length = 2 := fun _ => rfl
theorem infoRowSL : (Tryz.prog.info? 180).map (fun i => (i.zero, i.size, i.bytes)) = some (some (.agg #[.string ⟨#[]⟩, .slice none 0 0]), 2, 40) := by kernel_rfl
abbrev ltSL : ByteArray → ByteArray → Bool := strLt
/-- The table at g, its rows lv. -/
structure TBSL (base : Nat) (w : World) (g : Nat) (lv : Value) (l : List (ByteArray × Sl)) : Prop where
  tab : Blk w g 174 [lv]
  rows : OwnN 2 rcSL base 180 w lv l
  gb : base ≤ g
section
variable {base : Nat} {g : Nat} {lv : Value} {l : List (ByteArray × Sl)} {w w' : World}
theorem TBSL.upd (h : TBSL base w g lv l) {S : List Nat} (hu : Upd S w w') (hs : ∀ x ∈ g :: blk lv, x ∉ S) : TBSL base w' g lv l :=
  ⟨h.tab.upd hu (hs g (by simp)), h.rows.upd hu (fun x hx => hs x (by simp [hx])), h.gb⟩
theorem TBSL.upd0 (h : TBSL base w g lv l) (hu : Upd [] w w') : TBSL base w' g lv l := h.upd hu (by simp)
theorem TBSL.g_lv (h : TBSL base w g lv l) : g ∉ blk lv := fun e => by
  obtain ⟨C, f, hq⟩ := h.rows.typ g e
  exact h.tab.ne g hq (by decide) rfl
theorem TBSL.lt (h : TBSL base w g lv l) : ∀ x ∈ g :: blk lv, base ≤ x ∧ x < w.heap.size := by
  intro x hx
  rcases List.mem_cons.1 hx with rfl | hx
  · exact ⟨h.gb, h.tab.lt⟩
  · exact h.rows.ge x hx
theorem tLenSL_any (w : World) (hs : TBSL base w g lv l) :
    Calls Tryz.prog 105 #[.pointer (some ⟨g, 0, none⟩)] w fun e w' => e = .returned (.int .i64 (l.length : Int)) ∧ w = w' := by
  obtain ⟨ao, co, rfl, -⟩ := hs.rows.rd rcSL_len
  have c0 : w.cell? ⟨g, 0, none⟩ = some (.slice ao l.length co) := hs.tab.cell 0
  go_enter Tryz.func105, Tryz.ntmps105
  go_wp2
  go_ret
  exact ⟨rfl, rfl⟩
theorem tNewSL_any (w : World) :
    Calls Tryz.prog 63 #[] w fun e w' => e = .returned (.pointer (some ⟨w.heap.size, 0, none⟩)) ∧ TBSL w.heap.size w' w.heap.size (.slice none 0 0) [] ∧ Upd [] w w' := by
  go_enter Tryz.func63, Tryz.ntmps63
  go_wp2
  go_ret
  exact ⟨rfl, ⟨Blk.new w _ [.slice none 0 0], OwnN.nil _ _ _, Nat.le_refl _⟩, (Upd.refl [] w).alloc _⟩
set_option maxRecDepth 20000 in
set_option maxHeartbeats 1000000 in
theorem tFindSL_any (w : World) (k : ByteArray) (hs : TBSL base w g lv l) (hr : Rising ltSL l) (hlen : l.length ≤ 100000) (hk : True) :
    Calls Tryz.prog 107 #[.pointer (some ⟨g, 0, none⟩), sv k] w fun e w' => e = .returned (.tuple #[.int .i64 (below ltSL l k : Int), .bool (isIn ltSL l k)]) ∧ Upd [] w w' := by
  have HS := Lib.hid hs
  have HR := Lib.hid hr
  obtain ⟨ao, co, rfl, hlc, hcm, hcell⟩ := hs.rows.rd rcSL_len
  have c0 : w.cell? ⟨g, 0, none⟩ = some (.slice ao l.length co) := hs.tab.cell 0
  have HC := Lib.hid hcell
  clear hs hr hcell hcm
  go_enter Tryz.func107, Tryz.ntmps107
  go_wp2_with fail
  go_quiet (fail)
  have HU := Lib.hid ((Upd.refl [] w).drewN nq)
  generalize w.drewN nq = v at *
  replace c0 := HU.out.cell c0 (by simp)
  go_wp2_with fail
  go_loop [6, 7] (fun lo hi => ∃ a b : Nat, lo = .int .i64 a ∧ hi = .int .i64 b ∧ a ≤ b ∧ b ≤ l.length ∧ Hid (∀ j, j < a → ltSL (nth l j).1 k = true) ∧ Hid (∀ j, b ≤ j → j < l.length → ltSL (nth l j).1 k = false)) (fun lo hi => (intOf hi).toNat - (intOf lo).toNat)
  case atStart => exact ⟨0, l.length, rfl, rfl, Nat.zero_le _, Nat.le_refl _, fun j h => absurd h (by omega), fun j h1 h2 => absurd h1 (by omega)⟩
  case round =>
    obtain ⟨a, b, rfl, rfl, hab, hbl, hlo, hhi⟩ := hrel
    by_cases hlt : a < b
    · have hmid : (a + b) / 2 < l.length := by omega
      obtain ⟨bl, off, rfl, hc⟩ := HC.out (by intro h; simp [h] at hmid)
      have d0 : v.cell? ⟨bl, off + (a + b) / 2 * 2, none⟩ = some (sv (nth l ((a + b) / 2)).1) := HU.out.cell (hc _ hmid 0 (by omega)) (by simp)
      clear hc
      cases hcmp : ltSL (nth l ((a + b) / 2)).1 k with
      | true =>
        have HLO : Hid (∀ j, j < (a + b) / 2 + 1 → ltSL (nth l j).1 k = true) := fun j hj => HR.out.mono strOrd k j ((a + b) / 2) (by omega) hmid hcmp
        generalize (nth l ((a + b) / 2)).1 = m at *
        have hc1 := hcmp
        clear hcmp
        go_wp2
        go_round
        case rel => exact ⟨(a + b) / 2 + 1, b, by go_num, rfl, by omega, hbl, HLO, hhi⟩
        case measure => simp [intOf]; omega
      | false =>
        have HHI : Hid (∀ j, (a + b) / 2 ≤ j → j < l.length → ltSL (nth l j).1 k = false) := fun j h1 h2 => by
          cases hq : ltSL (nth l j).1 k with
          | false => rfl
          | true => exact absurd ((HR.out.mono strOrd k _ j h1 h2 hq).symm.trans hcmp) (by simp)
        generalize (nth l ((a + b) / 2)).1 = m at *
        have hc1 := hcmp
        clear hcmp
        go_wp2
        go_round
        case rel => exact ⟨a, (a + b) / 2, rfl, by go_num, by omega, by omega, hlo, HHI⟩
        case measure => simp [intOf]; omega
    · obtain rfl : a = b := by omega
      have hbel : below ltSL l k = a := below_eq l k a hbl hlo.out (fun h => hhi.out a (Nat.le_refl _) h)
      have HIN : Hid (isIn ltSL l k = decide (a < l.length ∧ (nth l a).1 = k)) := by unfold Hid isIn; rw [hbel]
      have HBEL := Lib.hid hbel
      clear hbel
      by_cases hal : a < l.length
      · obtain ⟨bl, off, rfl, hc⟩ := HC.out (by intro h; simp [h] at hal)
        have d0 : v.cell? ⟨bl, off + a * 2, none⟩ = some (sv (nth l a).1) := HU.out.cell (hc _ hal 0 (by omega)) (by simp)
        have HIN2 : Hid (isIn ltSL l k = decide ((nth l a).1 = k)) := by unfold Hid; rw [HIN.out]; simp [hal]
        clear hc
        generalize (nth l a).1 = m at *
        have q1 : (0 : Int) ≤ a := by omega
        have q2 : (a : Int) < l.length := by omega
        by_cases he : m = k
        · have t1 : (m.toList == k.toList) = true := by rw [he]; simp
          have HF : Hid (isIn ltSL l k = true) := by unfold Hid; rw [HIN2.out]; simp [he]
          clear he
          go_wp2_with fail
          go_quiet (fail)
          go_wp2_with fail
          go_ret2
          exact ⟨by rw [HBEL.out, HF.out]; rfl, by first | exact HU.out.drewN _ | exact HU.out.drew⟩
        · have t1 : (m.toList == k.toList) = false := by rw [beq_eq_false_iff_ne]; exact fun h => he (str_inj _ _ h)
          have HF : Hid (isIn ltSL l k = false) := by unfold Hid; rw [HIN2.out]; simp [he]
          clear he
          go_wp2_with fail
          go_quiet (fail)
          go_wp2_with fail
          go_ret2
          exact ⟨by rw [HBEL.out, HF.out]; rfl, by first | exact HU.out.drewN _ | exact HU.out.drew⟩
      · have HF : Hid (isIn ltSL l k = false) := by unfold Hid; rw [HIN.out]; simp [hal]
        have hd : decide (a < l.length) = false := by simpa using hal
        go_wp2_with fail
        go_quiet (fail)
        go_wp2_with fail
        go_ret2
        exact ⟨by rw [HBEL.out, HF.out]; rfl, by first | exact HU.out.drewN _ | exact HU.out.drew⟩
end
end Go.Proofs.YtmhojaiajhdlcaaGreat
namespace Go.Proofs.YtmhojaiajhdlcaaGreat
open Go.RowKit
set_option linter.unusedSimpArgs false
set_option linter.unusedVariables false
section
variable {P : Program}
theorem run_copyN (w : World) (dT sT ty elem : TypeId) (sz g o dLen dCap : Nat) (a : Addr) (sLen sCap : Nat) (cur : Array Value) (t : TypeId) (cs : List Value) (k : Nat)
    (hu : P.underlying dT = some (.slice elem)) (hs : (P.info? elem).map (·.size) = some sz)
    (hg : w.heap[g]? = some (.cells cur t (0, 0))) (hk : Nat.min sLen dLen = k) (hn : cs.length = k * sz)
    (hsrc : ∀ j v, cs[j]? = some v → w.cell? (a.add j) = some v) (hfit : o + cs.length ≤ cur.size) (h1 : ∀ v ∈ cs, v.oneCell' = true) :
    (Builtin.copy_ #[dT, sT] ty #[.slice (some ⟨g, o, none⟩) dLen dCap, .slice (some a) sLen sCap]).run P w =
      .ok (goInt k) (w.setRow g (cur.toList.take o ++ cs ++ cur.toList.drop (o + cs.length)).toArray) := by
  have hl := run_loadCells_list (P := P) w a cs hsrc
  have hst := run_storeCells_at P g o t cs 0 cur w hg (by simpa using hfit) h1
  cases hq : P.info? elem with
  | none => simp [hq] at hs
  | some i =>
    have hi : i.size = sz := by simpa [hq] using hs
    simp [Builtin.copy_, run_underlying hu, Builtin.lenOf, Builtin.firstCells, sizeOf, typeInfo, hq, hi, hk, ← hn, hl, hst]
end
section
variable {P : Program} {ops : Array Oper} {rest : List Oper} {o : Oper} {a : Act} {w w' : World} {Q : Exit → Act → World → Prop} {K : Act → World → Prop} {E : Prop}
theorem wp_copy_of (d s : Operand) {t t' : TypeId} (ho : o.op = .call { callee := .builtin .copy, args := #[d, s], argTypes := #[t, t'] }) (v u : Value) (hd : a.eval d = v) (hs : a.eval s = u)
    {R : Value → World → Prop} (hr : ∃ v' w', (Builtin.copy_ #[t, t'] o.type #[v, u]).run P w = .ok v' w' ∧ R v' w') (h : ∀ v' w', R v' w' → K (a.put o.dst v') w') : o.wp P a w K Q := by
  obtain ⟨v', w', hr, hR⟩ := hr
  unfold Oper.wp execOp
  simp only [ho, resolve, invoke, builtin, Sem.run_bind, Sem.run_pure, Result.andThen_ok, List.map_toArray, List.map_cons, List.map_nil, hd, hs, hr]
  exact h v' w' hR
theorem wpList_copy_of (hgd : o.guard = none) (d s : Operand) {t t' : TypeId} (ho : o.op = .call { callee := .builtin .copy, args := #[d, s], argTypes := #[t, t'] }) (v u : Value) (hd : a.eval d = v) (hs : a.eval s = u)
    {R : Value → World → Prop} (hr : ∃ v' w', (Builtin.copy_ #[t, t'] o.type #[v, u]).run P w = .ok v' w' ∧ R v' w') (h : ∀ v' w', R v' w' → wpList P ops Q rest (a.put o.dst v') w') : wpList P ops Q (o :: rest) a w :=
  wpList_plain hgd fun K hK => wp_copy_of d s ho v u hd hs hr fun v' w' hR => hK _ _ (h v' w' hR)
theorem step_copy_of (hgd : o.guard = none) (d s : Operand) {t t' : TypeId} (ho : o.op = .call { callee := .builtin .copy, args := #[d, s], argTypes := #[t, t'] }) (v u : Value) (hd : a.eval d = v) (hs : a.eval s = u)
    {R : Value → World → Prop} (hr : ∃ v' w', (Builtin.copy_ #[t, t'] o.type #[v, u]).run P w = .ok v' w' ∧ R v' w') (h : ∀ v' w', R v' w' → K (a.put o.dst v') w') :
    if Region.wanted o (yielded ops a.tmps) = true then Oper.wp P o a w K Q else E := by
  have hw : Region.wanted o (yielded ops a.tmps) = true := by simp [Region.wanted, hgd]
  rw [if_pos hw]
  exact wp_copy_of d s ho v u hd hs hr h
end
end Go.Proofs.YtmhojaiajhdlcaaGreat
namespace Go.Proofs.YtmhojaiajhdlcaaGreat
open Go.RowKit
set_option linter.unusedSimpArgs false
set_option linter.unusedVariables false
def lay_ (cur : Array Value) (o : Nat) (cs : List Value) : Array Value := (cur.toList.take o ++ cs ++ cur.toList.drop (o + cs.length)).toArray
theorem lay_get (cur : Array Value) (o : Nat) (cs : List Value) (hfit : o + cs.length ≤ cur.size) (i : Nat) : (lay_ cur o cs)[i]? = if i < o then cur[i]? else if i < o + cs.length then cs[i - o]? else cur[i]? := by
  unfold lay_
  rw [List.getElem?_toArray, List.append_assoc, List.getElem?_append, List.length_take, Array.length_toList, Nat.min_eq_left (by omega)]
  by_cases h1 : i < o
  · rw [if_pos h1, if_pos h1, List.getElem?_take, if_pos h1, Array.getElem?_toList]
  · rw [if_neg h1, if_neg h1, List.getElem?_append]
    by_cases h2 : i < o + cs.length
    · rw [if_pos (by omega), if_pos h2]
    · rw [if_neg (by omega), if_neg h2, List.getElem?_drop, Array.getElem?_toList]
      congr 1; omega
theorem lay_sz (cur : Array Value) (o : Nat) (cs : List Value) (hfit : o + cs.length ≤ cur.size) : (lay_ cur o cs).size = cur.size := by
  unfold lay_
  simp only [List.size_toArray, List.length_append, List.length_take, List.length_drop, Array.length_toList]
  omega
def Piece (cur : Array Value) (o : Nat) (cs : List Value) : Prop := ∀ j u, cs[j]? = some u → cur[o + j]? = some u
theorem Piece.lay (cur : Array Value) (o : Nat) (cs : List Value) (hfit : o + cs.length ≤ cur.size) : Piece (lay_ cur o cs) o cs := fun j u h => by
  have hj := (List.getElem?_eq_some_iff.1 h).1
  rw [lay_get cur o cs hfit, if_neg (by omega), if_pos (by omega), Nat.add_sub_cancel_left]; exact h
theorem Piece.stay {cur : Array Value} {p : Nat} {ds : List Value} (h : Piece cur p ds) (o : Nat) (cs : List Value) (hfit : o + cs.length ≤ cur.size) (hd : p + ds.length ≤ o ∨ o + cs.length ≤ p) : Piece (lay_ cur o cs) p ds := fun j u hu => by
  have hj := (List.getElem?_eq_some_iff.1 hu).1
  rw [lay_get cur o cs hfit]
  by_cases h1 : p + j < o
  · rw [if_pos h1]; exact h j u hu
  · rw [if_neg h1, if_neg (by omega)]; exact h j u hu
theorem Piece.app {cur : Array Value} {o : Nat} {a b : List Value} (h : Piece cur o a) (k : Piece cur (o + a.length) b) : Piece cur o (a ++ b) := fun j u hu => by
  rw [List.getElem?_append] at hu
  split at hu
  · exact h j u hu
  · rename_i hj
    have := k _ u hu
    rwa [show o + a.length + (j - a.length) = o + j by omega] at this
theorem Piece.left {cur : Array Value} {o : Nat} {a b : List Value} (h : Piece cur o (a ++ b)) : Piece cur o a := fun j u hu => by
  refine h j u ?_
  rw [List.getElem?_append_left (List.getElem?_eq_some_iff.1 hu).1]; exact hu
theorem Piece.right {cur : Array Value} {o : Nat} {a b : List Value} (h : Piece cur o (a ++ b)) : Piece cur (o + a.length) b := fun j u hu => by
  have := h (a.length + j) u (by rw [List.getElem?_append_right (by omega), Nat.add_sub_cancel_left]; exact hu)
  rwa [← Nat.add_assoc] at this
theorem Piece.of_take {cur : Array Value} {cs : List Value} {n : Nat} (h : cur.toList.take n = cs) : Piece cur 0 cs := fun j u hu => by
  rw [← h, List.getElem?_take] at hu
  split at hu
  · rw [Nat.zero_add, ← Array.getElem?_toList]; exact hu
  · simp at hu
theorem Piece.take {cur : Array Value} {cs : List Value} {n : Nat} (h : Piece cur 0 cs) (hn : n = cs.length) : cur.toList.take n = cs := by
  subst hn
  apply List.ext_getElem?
  intro j
  rw [List.getElem?_take]
  by_cases hj : j < cs.length
  · rw [if_pos hj, Array.getElem?_toList]
    have := h j cs[j] (List.getElem?_eq_getElem hj)
    rw [Nat.zero_add] at this
    rw [this, List.getElem?_eq_getElem hj]
  · rw [if_neg hj, List.getElem?_eq_none (by omega)]
theorem Piece.cell {w : World} {g : Nat} {cur : Array Value} {e : TypeId} {f : Nat × Nat} {o : Nat} {cs : List Value} (h : Piece cur o cs) (hg : w.heap[g]? = some (.cells cur e f)) : ∀ j u, cs[j]? = some u → w.cell? ⟨g, o + j, none⟩ = some u := fun j u hu => by
  rw [cell_of_row w g (o + j) cur e f hg]; exact h j u hu
theorem flat_split {α : Type} (c : α → List Value) (l : List α) (i : Nat) : l.flatMap c = (l.take i).flatMap c ++ (l.drop i).flatMap c := by
  rw [← List.flatMap_append, List.take_append_drop]
theorem OwnN.open_ {α : Type} {sz : Nat} {c : α → List Value} {base : Nat} {e : TypeId} {w : World} {g n cap : Nat} {l : List α} (hsz : ∀ x, (c x).length = sz) (h : OwnN sz c base e w (.slice (some ⟨g, 0, none⟩) n cap) l) :
    n = l.length ∧ base ≤ g ∧ l.length ≤ cap ∧ cap ≤ maxLen ∧ ∃ cur : Array Value, w.heap[g]? = some (.cells cur e (0, 0)) ∧ cur.size = cap * sz ∧ Piece cur 0 (l.flatMap c) := by
  obtain ⟨h1, h2⟩ := h
  rcases h2 with ⟨he, _⟩ | ⟨g', cap', cur, he, hb, hg, hc, hm, hs, ht⟩
  · simp at he
  · injection he with e1 e2 e3
    injection e1 with e1; injection e1 with e1
    subst e1; subst e2; subst e3
    exact ⟨rfl, hb, hc, hm, cur, hg, hs, Piece.of_take ht⟩
theorem OwnN.of_piece {α : Type} {sz : Nat} {c : α → List Value} {base : Nat} {e : TypeId} {w : World} {g n cap : Nat} {l : List α} (hsz : ∀ x, (c x).length = sz) (cur : Array Value) (hn : n = l.length) (hb : base ≤ g) (hc : l.length ≤ cap) (hm : cap ≤ maxLen)
    (hg : w.heap[g]? = some (.cells cur e (0, 0))) (hs : cur.size = cap * sz) (hp : Piece cur 0 (l.flatMap c)) : OwnN sz c base e w (.slice (some ⟨g, 0, none⟩) n cap) l := by
  subst hn
  exact ⟨flatMap_len hsz l, .inr ⟨g, cap, cur, rfl, hb, hg, hc, hm, hs, hp.take (flatMap_len hsz l).symm⟩⟩
theorem OwnN.slice_ {α : Type} {sz : Nat} {c : α → List Value} {base : Nat} {e : TypeId} {w : World} {v : Value} {l : List α} (h : OwnN sz c base e w v l) : ∃ ao n co, v = .slice ao n co := by
  rcases h.2 with ⟨rfl, _⟩ | ⟨_, _, _, rfl, _⟩
  · exact ⟨_, _, _, rfl⟩
  · exact ⟨_, _, _, rfl⟩
theorem Upd.setRow {S : List Nat} {a b : World} (h : Upd S a b) (g : Nat) (cs : Array Value) (hg : g ∈ S ∨ a.heap.size ≤ g) : Upd S a (b.setRow g cs) :=
  ⟨h.os, h.tape, h.output, by have := h.size; simp; omega, fun k hk hn => by
    rw [setRow_other b g k cs (fun e => by subst e; rcases hg with q | q; exact hn q; omega)]; exact h.block k hk hn⟩
section
variable {P : Program}
theorem run_copy_lay {dT sT ty elem t : TypeId} {sz g o dLen dCap : Nat} {a : Addr} {sLen sCap : Nat} {cur : Array Value} {cs : List Value} {k : Nat}
    (hu : P.underlying dT = some (.slice elem)) (hs : (P.info? elem).map (·.size) = some sz) (w : World)
    (hg : w.heap[g]? = some (.cells cur t (0, 0))) (hk : Nat.min sLen dLen = k) (hn : cs.length = k * sz)
    (hsrc : ∀ j v, cs[j]? = some v → w.cell? (a.add j) = some v) (hfit : o + cs.length ≤ cur.size) (h1 : ∀ v ∈ cs, v.oneCell' = true) :
    (Builtin.copy_ #[dT, sT] ty #[.slice (some ⟨g, o, none⟩) dLen dCap, .slice (some a) sLen sCap]).run P w = .ok (goInt k) (w.setRow g (lay_ cur o cs)) :=
  run_copyN w dT sT ty elem sz g o dLen dCap a sLen sCap cur t cs k hu hs hg hk hn hsrc hfit h1
theorem run_app_lay {t ty e et : TypeId} {sz : Nat} (ht : P.underlying t = some (.slice e)) (hi : (P.info? e).map (·.size) = some sz) {g n cap m c : Nat} {a : Addr} {cur : Array Value} {news : List Value} (w : World)
    (hg : w.heap[g]? = some (.cells cur et (0, 0))) (hl : news.length = m * sz) (hnews : ∀ j u, news[j]? = some u → w.cell? (a.add j) = some u) (h1 : ∀ u ∈ news, u.oneCell' = true)
    (hroom : n + m ≤ cap) (hfit : n * sz + news.length ≤ cur.size) :
    (Builtin.append_ #[t, t] ty #[.slice (some ⟨g, 0, none⟩) n cap, .slice (some a) m c]).run P w = .ok (.slice (some ⟨g, 0, none⟩) (n + m) cap) (w.setRow g (lay_ cur (n * sz) news)) := by
  obtain ⟨i, hi1, rfl⟩ : ∃ i, P.info? e = some i ∧ i.size = sz := by
    cases hq : P.info? e with
    | none => simp [hq] at hi
    | some i => exact ⟨i, rfl, by simpa [hq] using hi⟩
  have hfc := run_firstCells_some (P := P) w i.size m a m c news hl hnews
  have hst := run_storeCells_at (P := P) g (n * i.size) et news 0 cur w hg (by simpa using hfit) h1
  simp only [Nat.add_zero] at hst
  simp [Builtin.append_, run_underlying ht, sizeOf, typeInfo, hi1, Builtin.lenOf, hroom, hfc, Addr.add_lit, hst, lay_]
theorem run_clear_lay {t ty e et : TypeId} {z : Value} {sz bytes : Nat} (ht : P.underlying t = some (.slice e)) (hi : (P.info? e).map (fun i => (i.zero, i.size, i.bytes)) = some (some z, sz, bytes)) (hz : z.cells.size = sz) (h1 : ∀ u ∈ z.cells, u.oneCell' = true)
    {g o n c : Nat} {cur : Array Value} (w : World) (hn : 0 < n) (hg : w.heap[g]? = some (.cells cur et (0, 0))) (hfit : o + n * sz ≤ cur.size) :
    (Builtin.clear_ #[t] ty #[.slice (some ⟨g, o, none⟩) n c]).run P w = .ok (.tuple #[]) (w.setRow g (lay_ cur o (Builtin.zeroCells z.cells n).toList)) := by
  obtain ⟨n, rfl⟩ : ∃ k, n = k + 1 := ⟨n - 1, by omega⟩
  obtain ⟨i, i1, i2, i3, i4⟩ := info_parts hi
  have hzl : (Builtin.zeroCells z.cells (n + 1)).toList.length = (n + 1) * sz := by rw [Array.length_toList, size_zeroCells, hz]
  have hst := run_storeCells_at (P := P) g o et _ 0 cur w hg (by rw [hzl]; simpa using hfit) (zeroCells_one h1 (n + 1))
  simp only [Nat.add_zero] at hst
  have hzv : (zeroValue e).run P w = .ok z w := by simp [zeroValue, typeInfo, i1, i2]
  simp only [Builtin.clear_]
  simp [run_underlying ht, hzv, hst, lay_]
end
section
variable {P : Program} {ops : Array Oper} {rest : List Oper} {o : Oper} {a : Act} {w w' : World} {Q : Exit → Act → World → Prop} {K : Act → World → Prop} {E : Prop}
theorem wpList_clear_of (hgd : o.guard = none) (s : Operand) {t : TypeId} (ho : o.op = .call { callee := .builtin .clear, args := #[s], argTypes := #[t] }) (v : Value) (hs : a.eval s = v)
    {R : Value → World → Prop} (hr : ∃ v' w', (Builtin.clear_ #[t] o.type #[v]).run P w = .ok v' w' ∧ R v' w') (h : ∀ v' w', R v' w' → wpList P ops Q rest (a.put o.dst v') w') : wpList P ops Q (o :: rest) a w := by
  obtain ⟨v', w', hr, hR⟩ := hr
  refine wpList_plain hgd fun K hK => ?_
  unfold Oper.wp execOp
  simp only [ho, resolve, invoke, builtin, Sem.run_bind, Sem.run_pure, Result.andThen_ok, List.map_toArray, List.map_cons, List.map_nil, hs, hr]
  exact hK _ _ (h v' w' hR)
end
section
variable {P : Program} {ops : Array Oper} {rest : List Oper} {o : Oper} {a : Act} {w w' : World} {Q : Exit → Act → World → Prop} {K : Act → World → Prop} {E : Prop}
theorem step_app_eq (hgd : o.guard = none) (s x : Operand) (t : TypeId) (ho : o.op = .call { callee := .builtin .append, args := #[s, x], argTypes := #[t, t] }) (v u : Value) (hs : a.eval s = v) (hx : a.eval x = u)
    {v' : Value} (hr : (Builtin.append_ #[t, t] o.type #[v, u]).run P w = .ok v' w') (h : K (a.put o.dst v') w') :
    if Region.wanted o (yielded ops a.tmps) = true then Oper.wp P o a w K Q else E :=
  step_app_of hgd s x ho v u hs hx (R := fun p q => p = v' ∧ q = w') ⟨_, _, hr, rfl, rfl⟩ (fun _ _ ⟨h1, h2⟩ => by rw [h1, h2]; exact h)
theorem step_copy_eq (hgd : o.guard = none) (d s : Operand) (t t' : TypeId) (ho : o.op = .call { callee := .builtin .copy, args := #[d, s], argTypes := #[t, t'] }) (v u : Value) (hd : a.eval d = v) (hs : a.eval s = u)
    {v' : Value} (hr : (Builtin.copy_ #[t, t'] o.type #[v, u]).run P w = .ok v' w') (h : K (a.put o.dst v') w') :
    if Region.wanted o (yielded ops a.tmps) = true then Oper.wp P o a w K Q else E :=
  step_copy_of hgd d s ho v u hd hs (R := fun p q => p = v' ∧ q = w') ⟨_, _, hr, rfl, rfl⟩ (fun _ _ ⟨h1, h2⟩ => by rw [h1, h2]; exact h)
theorem wpList_copy_eq (hgd : o.guard = none) (d s : Operand) (t t' : TypeId) (ho : o.op = .call { callee := .builtin .copy, args := #[d, s], argTypes := #[t, t'] }) (v u : Value) (hd : a.eval d = v) (hs : a.eval s = u)
    {v' : Value} (hr : (Builtin.copy_ #[t, t'] o.type #[v, u]).run P w = .ok v' w') (h : wpList P ops Q rest (a.put o.dst v') w') : wpList P ops Q (o :: rest) a w :=
  wpList_copy_of hgd d s ho v u hd hs (R := fun p q => p = v' ∧ q = w') ⟨_, _, hr, rfl, rfl⟩ (fun _ _ ⟨h1, h2⟩ => by rw [h1, h2]; exact h)
theorem wpList_clear_eq (hgd : o.guard = none) (s : Operand) (t : TypeId) (ho : o.op = .call { callee := .builtin .clear, args := #[s], argTypes := #[t] }) (v : Value) (hs : a.eval s = v)
    {v' : Value} (hr : (Builtin.clear_ #[t] o.type #[v]).run P w = .ok v' w') (h : wpList P ops Q rest (a.put o.dst v') w') : wpList P ops Q (o :: rest) a w :=
  wpList_clear_of hgd s ho v hs (R := fun p q => p = v' ∧ q = w') ⟨_, _, hr, rfl, rfl⟩ (fun _ _ ⟨h1, h2⟩ => by rw [h1, h2]; exact h)
theorem wpList_app_eq (hgd : o.guard = none) (s x : Operand) (t t' : TypeId) (ho : o.op = .call { callee := .builtin .append, args := #[s, x], argTypes := #[t, t'] }) (v u : Value) (hs : a.eval s = v) (hx : a.eval x = u)
    {v' : Value} (hr : (Builtin.append_ #[t, t'] o.type #[v, u]).run P w = .ok v' w') (h : wpList P ops Q rest (a.put o.dst v') w') : wpList P ops Q (o :: rest) a w := by
  refine wpList_plain hgd fun K hK => ?_
  unfold Oper.wp execOp
  simp only [ho, resolve, invoke, builtin, Sem.run_bind, Sem.run_pure, Result.andThen_ok, List.map_toArray, List.map_cons, List.map_nil, hs, hx, hr]
  exact hK _ _ h
end
theorem mem_flat_one {α : Type} {c : α → List Value} (hone : ∀ x, ∀ u ∈ c x, u.oneCell' = true) (l : List α) : ∀ u ∈ l.flatMap c, u.oneCell' = true := fun u hu => by
  obtain ⟨x, _, hx⟩ := List.mem_flatMap.1 hu; exact hone x u hx
end Go.Proofs.YtmhojaiajhdlcaaGreat
namespace Go.Proofs.YtmhojaiajhdlcaaGreat
open Go.RowKit
set_option linter.unusedSimpArgs false
set_option linter.unusedVariables false
theorem rcSL_one : ∀ p, ∀ u ∈ rcSL p, u.oneCell' = true := by intro p u hu; simp [rcSL] at hu; rcases hu with rfl | rfl <;> rfl
theorem undSL : Tryz.prog.underlying 172 = some (.slice 180) := by kernel_rfl
section
variable {base : Nat} {g : Nat} {lv : Value} {l : List (ByteArray × Sl)} {w w' : World}
set_option maxRecDepth 20000 in
set_option maxHeartbeats 1000000 in
theorem slDelSL (w : World) (v : Value) (i : Nat) (hs : OwnN 2 rcSL base 180 w v l) (hi : i < l.length) (hlen : l.length ≤ 100000) :
    Calls Tryz.prog 132 #[v, .int .i64 (i : Int), .int .i64 ((i : Int) + 1)] w fun e w' => ∃ v', e = .returned v' ∧ OwnN 2 rcSL base 180 w' v' (l.take i ++ l.drop (i + 1)) ∧ Upd (blk v) w w' ∧ blk v' = blk v := by
  rcases hs.2 with ⟨-, h0⟩ | ⟨g, cap, cur0, rfl, -⟩
  · omega
  obtain ⟨-, hb, hc, hm, cur, hg, hsz, hp⟩ := hs.open_ rcSL_len
  obtain ⟨m, hlm⟩ : ∃ m, l.length = i + 1 + m := ⟨l.length - (i + 1), by omega⟩
  have hcl : ((l.drop (i + 1)).flatMap rcSL).length = m * 2 := by rw [flatMap_len rcSL_len, List.length_drop, hlm]; congr 1; omega
  have htl : ((l.take i).flatMap rcSL).length = i * 2 := by rw [flatMap_len rcSL_len, List.length_take]; congr 1; omega
  have htl' : ((l.take (i + 1)).flatMap rcSL).length = (i + 1) * 2 := by rw [flatMap_len rcSL_len, List.length_take]; congr 1; omega
  have hp1 : Piece cur 0 ((l.take i).flatMap rcSL) := by rw [flat_split rcSL l i] at hp; exact hp.left
  have hp2 : Piece cur ((i + 1) * 2) ((l.drop (i + 1)).flatMap rcSL) := by rw [flat_split rcSL l (i + 1)] at hp; have := hp.right; rwa [htl', Nat.zero_add] at this
  generalize hcs : (l.drop (i + 1)).flatMap rcSL = cs at *
  have hcap : (i + 1 + m) * 2 ≤ cur.size := by rw [hsz]; exact Nat.mul_le_mul_right 2 (by omega)
  have hfit : i * 2 + cs.length ≤ cur.size := by rw [hcl]; omega
  obtain ⟨A, hA, hsrc⟩ : ∃ A : Addr, (if cap = i + 1 then some (⟨g, 0, none⟩ : Addr) else some ⟨g, (i + 1) * 2, none⟩) = some A ∧ ∀ j u, cs[j]? = some u → w.cell? (A.add j) = some u := by
    by_cases h : cap = i + 1
    · refine ⟨⟨g, 0, none⟩, by simp [h], fun j u hu => ?_⟩
      have h0 : cs.length = 0 := by rw [hcl]; omega
      rw [List.length_eq_zero_iff.1 h0] at hu
      simp at hu
    · refine ⟨⟨g, (i + 1) * 2, none⟩, by simp [h], fun j u hu => ?_⟩
      rw [add_none]; exact hp2.cell hg j u hu
  have h1c : ∀ u ∈ cs, u.oneCell' = true := by rw [← hcs]; exact mem_flat_one rcSL_one _
  have HA := Lib.hid (fun ty c => run_app_lay (P := Tryz.prog) (ty := ty) (n := i) (m := m) (cap := cap) (c := c) (sz := 2) undSL (by kernel_rfl) w.drew hg hcl hsrc h1c (by omega) hfit)
  have hz := lay_sz cur (i * 2) cs hfit
  have k1 := hp1.stay (i * 2) cs hfit (.inl (by omega))
  have k2 := Piece.lay cur (i * 2) cs hfit
  generalize lay_ cur (i * 2) cs = cur1 at *
  have hg1 : (w.drew.setRow g cur1).heap[g]? = some (.cells cur1 180 (0, 0)) := setRow_heap w.drew g cur cur1 _ _ hg
  have hfit1 : (i + m) * 2 + 1 * 2 ≤ cur1.size := by rw [hz]; omega
  have q7 : i + 1 + m - (i + m) = 1 := by omega
  have hB := (fun ty c => run_clear_lay (P := Tryz.prog) (ty := ty) (c := c) (n := 1) undSL infoRowSL rfl (by intro u hu; simp [Value.cells] at hu; rcases hu with rfl | rfl <;> rfl) (w.drew.setRow g cur1) (by omega) hg1 hfit1)
  have HB : Hid (∀ ty c, (Builtin.clear_ #[172] ty #[.slice (some ⟨g, (i + m) * 2, none⟩) (i + 1 + m - (i + m)) c]).run Tryz.prog (w.drew.setRow g cur1) = .ok (.tuple #[]) ((w.drew.setRow g cur1).setRow g (lay_ cur1 ((i + m) * 2) (Builtin.zeroCells (Value.agg #[.string ⟨#[]⟩, .slice none 0 0]).cells 1).toList))) := fun ty c => by rw [q7]; exact hB ty c
  clear hB
  have HK := Lib.hid (show OwnN 2 rcSL base 180 ((w.drew.setRow g cur1).setRow g (lay_ cur1 ((i + m) * 2) (Builtin.zeroCells (Value.agg #[.string ⟨#[]⟩, .slice none 0 0]).cells 1).toList)) (.slice (some ⟨g, 0, none⟩) (i + m) cap) (l.take i ++ l.drop (i + 1)) from by
    have hzl : (Builtin.zeroCells (Value.agg #[.string ⟨#[]⟩, .slice none 0 0]).cells 1).toList.length = 2 := by rw [Array.length_toList, size_zeroCells]; rfl
    have hf2 : (i + m) * 2 + (Builtin.zeroCells (Value.agg #[.string ⟨#[]⟩, .slice none 0 0]).cells 1).toList.length ≤ cur1.size := by rw [hzl]; omega
    refine OwnN.of_piece rcSL_len _ (by simp; omega) hb (by simp; omega) hm (setRow_heap _ g cur1 _ _ _ hg1) (by rw [lay_sz _ _ _ hf2, hz, hsz]) ?_
    rw [List.flatMap_append, hcs]
    refine (k1.stay _ _ hf2 (.inl (by omega))).app ?_
    rw [htl, Nat.zero_add (i * 2)]
    exact k2.stay _ _ hf2 (.inl (by omega)))
  clear hs hp hp1 hp2 hsz hg hcl htl htl' hsrc h1c hfit hz k1 k2 hg1 hfit1 hcs hcap
  rw [hlm] at hlen hc ⊢
  have hwr : IntKind.i64.wrap ((i : Int) + 1) = (i : Int) + 1 := by rw [IntKind.wrap_i64]; omega
  have q1 : (0 : Int) ≤ (i : Int) + 1 := by omega
  have q2 : (i : Int) + 1 ≤ (i : Int) + 1 + (m : Int) := by omega
  have q3 : ((i : Int) + 1).toNat = i + 1 := by omega
  have q4 : i + 1 + m - (i + 1) = m := by omega
  have q5 : i ≤ cap := by omega
  have q6 : ¬ (cap = i + m) := by omega
  have q8 : i + m ≤ i + 1 + m := by omega
  have q9 : (i : Int) + (m : Int) ≤ (i : Int) + 1 + (m : Int) := by omega
  go_enter Tryz.func132, Tryz.ntmps132
  go_wp2_with fail
  go_region_law (refine step_app_eq rfl (.tmp 22) (.tmp 25) 172 rfl (.slice (some ⟨g, 0, none⟩) i cap) (.slice (some A) m (cap - (i + 1))) (by simp [Act.eval, Act.put]) (by simp [Act.eval, Act.put]) (HA.out _ _) ?_)
  go_wp2_with (with_reducible refine wpList_clear_eq rfl (.tmp 31) 172 rfl (.slice (some ⟨g, (i + m) * 2, none⟩) (i + 1 + m - (i + m)) (cap - (i + m))) rfl (HB.out _ _) ?_)
  go_ret
  exact ⟨_, rfl, HK.out, ((Upd.refl [g] w).drew.setRow g _ (.inl (by simp))).setRow g _ (.inl (by simp)), rfl⟩
set_option maxRecDepth 20000 in
set_option maxHeartbeats 400000 in
theorem tDelSL_no (w : World) (k : ByteArray) (hs : TBSL base w g lv l) (hr : Rising ltSL l) (hlen : l.length ≤ 100000) (hk : True) (hn : isIn ltSL l k = false) :
    Calls Tryz.prog 112 #[.pointer (some ⟨g, 0, none⟩), sv k] w fun e w' => e = .returned (.bool false) ∧ Upd [] w w' := by
  have hc := tFindSL_any w k hs hr hlen hk
  rw [hn] at hc
  have HC := Lib.hid hc
  clear hs hr hlen hk hc hn
  go_enter Tryz.func112, Tryz.ntmps112
  go_wp2_with fail
  with_reducible refine HC.out.mono ?_
  rintro e w1 ⟨rfl, hu1⟩
  go_wp2_with fail
  go_ret
  exact ⟨rfl, hu1⟩
set_option maxRecDepth 20000 in
set_option maxHeartbeats 400000 in
theorem tDelSL_yes (w : World) (k : ByteArray) (hs : TBSL base w g lv l) (hr : Rising ltSL l) (hlen : l.length ≤ 100000) (hk : True) (hn : isIn ltSL l k = true) :
    Calls Tryz.prog 112 #[.pointer (some ⟨g, 0, none⟩), sv k] w fun e w' => e = .returned (.bool true) ∧ ∃ lv', TBSL base w' g lv' (l.take (below ltSL l k) ++ l.drop (below ltSL l k + 1)) ∧ Upd (g :: blk lv) w w' ∧ blk lv' = blk lv := by
  have hc := tFindSL_any w k hs hr hlen hk
  rw [hn] at hc
  have HC := Lib.hid hc
  have HS := Lib.hid hs
  unfold isIn at hn
  have hlt := (of_decide_eq_true hn).1
  have HD := Lib.hid (fun w1 (h : Upd [] w w1) => slDelSL w1 lv (below ltSL l k) (hs.rows.upd h (by simp)) hlt hlen)
  have D0 := Lib.hid (show w.cell? ⟨g, 0, none⟩ = some lv from hs.tab.cell 0)
  obtain ⟨ao, n, co, rfl⟩ := hs.rows.slice_
  clear hs hr hk hc hn
  generalize below ltSL l k = i at *
  have hwr : IntKind.i64.wrap ((i : Int) + 1) = (i : Int) + 1 := by rw [IntKind.wrap_i64]; omega
  go_enter Tryz.func112, Tryz.ntmps112
  go_wp2_with fail
  with_reducible refine HC.out.mono ?_
  rintro e w1 ⟨rfl, hu1⟩
  have d0 := hu1.cell D0.out (by simp)
  have HU1 := Lib.hid hu1
  go_wp2_with fail
  with_reducible refine (HD.out w1 HU1.out).mono ?_
  rintro e w2 ⟨v2, rfl, ho2, hu2, hb2⟩
  have hgl := HS.out.g_lv
  have f0 : w2.frozen? ⟨g, 0, none⟩ = false := ((HS.out.tab.upd HU1.out (by simp)).upd hu2 hgl).frozen 0
  have d2 : w2.cell? ⟨g, 0, none⟩ = some (.slice ao n co) := hu2.cell d0 hgl
  obtain ⟨ao2, n2, co2, rfl⟩ := ho2.slice_
  have HT := Lib.hid (show TBSL base (w2.setCell ⟨g, 0, none⟩ (.slice ao2 n2 co2)) g (.slice ao2 n2 co2) (l.take i ++ l.drop (i + 1)) from
    ⟨by simpa using ((HS.out.tab.upd HU1.out (by simp)).upd hu2 hgl).set_ 0 (.slice ao2 n2 co2), ho2.upd ((Upd.refl [g] _).setCell _ _ (.inl (by simp))) (by rw [hb2]; intro x hx; simp; rintro rfl; exact hgl hx), HS.out.gb⟩)
  have HU2 := Lib.hid (show Upd (g :: blk (.slice ao n co)) w (w2.setCell ⟨g, 0, none⟩ (.slice ao2 n2 co2)) from (HU1.out.trans (T := g :: blk (.slice ao n co)) hu2 (by simp) (fun x hx => .inl (by simp [hx]))).setCell _ _ (.inl (by simp)))
  clear ho2 hu1 hu2 hgl
  go_wp2_with fail
  go_ret
  exact ⟨rfl, _, HT.out, HU2.out, hb2⟩
end
section
variable {base : Nat} {g : Nat} {lv : Value} {l : List (ByteArray × Sl)} {w w' : World}
theorem tDelSL_any (w : World) (k : ByteArray) (hs : TBSL base w g lv l) (hr : Rising ltSL l) (hlen : l.length ≤ 100000) (hk : True) :
    Calls Tryz.prog 112 #[.pointer (some ⟨g, 0, none⟩), sv k] w fun e w' => e = .returned (.bool (isIn ltSL l k)) ∧ ∃ lv', TBSL base w' g lv' (tDel ltSL l k) ∧ Upd (g :: blk lv) w w' ∧ (∀ x ∈ blk lv', x ∈ blk lv ∨ w.heap.size ≤ x) := by
  cases hn : isIn ltSL l k with
  | false =>
    refine (tDelSL_no w k hs hr hlen hk hn).mono ?_
    rintro e w' ⟨rfl, hu⟩
    exact ⟨rfl, lv, by unfold tDel; rw [hn]; exact hs.upd0 hu, hu.mono (by simp), fun x hx => .inl hx⟩
  | true =>
    refine (tDelSL_yes w k hs hr hlen hk hn).mono ?_
    rintro e w' ⟨rfl, v', ht, hu, hb⟩
    exact ⟨rfl, v', by unfold tDel; rw [hn]; exact ht, hu, fun x hx => .inl (by rw [← hb]; exact hx)⟩
end
end Go.Proofs.YtmhojaiajhdlcaaGreat
namespace Go.Proofs.YtmhojaiajhdlcaaGreat
open Go.RowKit
set_option linter.unusedSimpArgs false
set_option linter.unusedVariables false
section
variable {base : Nat} {g : Nat} {lv : Value} {l : List (ByteArray × Sl)} {w w' : World}
set_option maxRecDepth 20000 in
set_option maxHeartbeats 400000 in
theorem tGetSL_no (w : World) (k : ByteArray) (hs : TBSL base w g lv l) (hr : Rising ltSL l) (hlen : l.length ≤ 100000) (hk : True) (hn : isIn ltSL l k = false) :
    Calls Tryz.prog 66 #[.pointer (some ⟨g, 0, none⟩), sv k] w fun e w' => e = .returned (.tuple #[.slice none 0 0, .bool false]) ∧ Upd [] w w' := by
  have hc := tFindSL_any w k hs hr hlen hk
  rw [hn] at hc
  have HC := Lib.hid hc
  clear hs hr hlen hk hc hn
  go_enter Tryz.func66, Tryz.ntmps66
  go_wp2_with fail
  refine HC.out.mono ?_
  rintro e w1 ⟨rfl, hu1⟩
  go_wp2_with fail
  go_ret2
  exact ⟨rfl, hu1⟩
set_option maxRecDepth 20000 in
set_option maxHeartbeats 400000 in
theorem tGetSL_ok (w : World) (k : ByteArray) (hs : TBSL base w g lv l) (hr : Rising ltSL l) (hlen : l.length ≤ 100000) (hk : True) (hn : isIn ltSL l k = true) :
    Calls Tryz.prog 66 #[.pointer (some ⟨g, 0, none⟩), sv k] w fun e w' => e = .returned (.tuple #[slv (nth l (below ltSL l k)).2, .bool true]) ∧ Upd [] w w' := by
  have hc := tFindSL_any w k hs hr hlen hk
  rw [hn] at hc
  have HC := Lib.hid hc
  unfold isIn at hn
  have hlt := (of_decide_eq_true hn).1
  obtain ⟨ao, co, rfl, hlc, hcm, hcell⟩ := hs.rows.rd rcSL_len
  obtain ⟨b, off, rfl, hc'⟩ := hcell (by intro h; simp [h] at hlt)
  have D0 := Lib.hid (show w.cell? ⟨g, 0, none⟩ = some (.slice (some ⟨b, off, none⟩) l.length co) from hs.tab.cell 0)
  have D1 := Lib.hid (show w.cell? ⟨b, off + below ltSL l k * 2 + 1, none⟩ = some (slv (nth l (below ltSL l k)).2) from hc' _ hlt 1 (by omega))
  clear hs hr hk hc hn hcell hc' hcm
  generalize (nth l (below ltSL l k)).2 = x at *
  generalize below ltSL l k = i at *
  have q1 : (0 : Int) ≤ i := by omega
  have q2 : (i : Int) < l.length := by omega
  go_enter Tryz.func66, Tryz.ntmps66
  go_wp2_with fail
  refine HC.out.mono ?_
  rintro e w1 ⟨rfl, hu1⟩
  have d0 := hu1.cell D0.out (by simp)
  have d1 := hu1.cell D1.out (by simp)
  go_wp2_with fail
  go_ret2
  exact ⟨rfl, hu1⟩
set_option maxRecDepth 20000 in
set_option maxHeartbeats 400000 in
theorem tAtSL_ok (w : World) (i : Nat) (hs : TBSL base w g lv l) (hlen : l.length ≤ 100000) (hi : i < l.length) :
    Calls Tryz.prog 106 #[.pointer (some ⟨g, 0, none⟩), .int .i64 (i : Int)] w fun e w' => e = .returned (.tuple #[sv (nth l i).1, slv (nth l i).2, .bool true]) ∧ Upd [] w w' := by
  obtain ⟨ao, co, rfl, hlc, hcm, hcell⟩ := hs.rows.rd rcSL_len
  obtain ⟨b, off, rfl, hc'⟩ := hcell (by intro h; simp [h] at hi)
  have d0 : w.cell? ⟨g, 0, none⟩ = some (.slice (some ⟨b, off, none⟩) l.length co) := hs.tab.cell 0
  have d1 : w.cell? ⟨b, off + i * 2, none⟩ = some (sv (nth l i).1) := hc' _ hi 0 (by omega)
  have d2 : w.cell? ⟨b, off + i * 2 + 1, none⟩ = some (slv (nth l i).2) := hc' _ hi 1 (by omega)
  clear hs hcell hc' hcm
  generalize (nth l i).1 = x at *
  generalize (nth l i).2 = y at *
  have q1 : (0 : Int) ≤ i := by omega
  have q2 : (i : Int) < l.length := by omega
  go_enter Tryz.func106, Tryz.ntmps106
  go_wp2_with fail
  go_quiet (fail)
  go_wp2_with fail
  go_ret3
  exact ⟨rfl, by first | exact (Upd.refl [] _).drewN _ | exact (Upd.refl [] _).drew⟩
end
end Go.Proofs.YtmhojaiajhdlcaaGreat
namespace Go.Proofs.YtmhojaiajhdlcaaGreat
open Go.RowKit
set_option linter.unusedSimpArgs false
set_option linter.unusedVariables false
theorem flatMap_set {α : Type} {sz : Nat} {c : α → List Value} (hsz : ∀ x, (c x).length = sz) (i : Nat) (hi : i < sz) (u : Value) (y : α) : ∀ (l : List α) (k : Nat) (hk : k < l.length), c y = (c l[k]).set i u → (l.set k y).flatMap c = (l.flatMap c).set (k * sz + i) u
  | x :: l, 0, _, h => by
    simp only [List.set_cons_zero, List.flatMap_cons, Nat.zero_mul, Nat.zero_add]
    rw [List.set_append_left _ _ (by rw [hsz]; exact hi)]
    simp only [List.getElem_cons_zero] at h
    rw [h]
  | x :: l, k + 1, hk, h => by
    simp only [List.set_cons_succ, List.flatMap_cons]
    have e : (k + 1) * sz + i = (c x).length + (k * sz + i) := by rw [hsz, Nat.add_mul]; omega
    rw [e, List.set_append_right _ _ (by omega), Nat.add_sub_cancel_left]
    rw [flatMap_set hsz i hi u y l k (by simpa using hk) (by simpa using h)]
theorem OwnN.set_ {α : Type} {sz : Nat} {c : α → List Value} {base : Nat} {e : TypeId} {w : World} {g n cap : Nat} {l : List α} (hsz : ∀ x, (c x).length = sz) (h : OwnN sz c base e w (.slice (some ⟨g, 0, none⟩) n cap) l) (k i : Nat) (hk : k < l.length) (hi : i < sz) (u : Value) (y : α) (hy : c y = (c l[k]).set i u) :
    OwnN sz c base e (w.setCell ⟨g, k * sz + i, none⟩ u) (.slice (some ⟨g, 0, none⟩) n cap) (l.set k y) := by
  obtain ⟨h1, h2⟩ := h
  rcases h2 with ⟨he, _⟩ | ⟨g', cap', cur, he, hb, hg, hc, hm, hs, ht⟩
  · simp at he
  · injection he with e1 e2 e3
    injection e1 with e1; injection e1 with e1
    subst e1; subst e2; subst e3
    refine ⟨by rw [flatMap_len hsz], .inr ⟨g, cap, cur.setIfInBounds (k * sz + i) u, by simp, hb, ?_, by simpa using hc, hm, by simpa using hs, ?_⟩⟩
    · exact heap_setCell_same w g (k * sz + i) cur e u hg
    · rw [List.length_set, Array.toList_setIfInBounds, List.take_set, ht, flatMap_set hsz i hi u y l k hk hy]
end Go.Proofs.YtmhojaiajhdlcaaGreat
namespace Go.Proofs.YtmhojaiajhdlcaaGreat
open Go.RowKit
set_option linter.unusedSimpArgs false
set_option linter.unusedVariables false
section
variable {base : Nat} {g : Nat} {lv : Value} {l : List (ByteArray × Sl)} {w w' : World}
set_option maxRecDepth 20000 in
set_option maxHeartbeats 400000 in
theorem tSetSL_old (w : World) (k : ByteArray) (v : Sl) (hs : TBSL base w g lv l) (hr : Rising ltSL l) (hlen : l.length ≤ 100000) (hk : True) (hn : isIn ltSL l k = true) :
    Calls Tryz.prog 108 #[.pointer (some ⟨g, 0, none⟩), sv k, slv v] w fun e w' => e = .returned (.bool false) ∧ TBSL base w' g lv (l.set (below ltSL l k) ((nth l (below ltSL l k)).1, v)) ∧ Upd (blk lv) w w' := by
  have hc := tFindSL_any w k hs hr hlen hk
  rw [hn] at hc
  have HC := Lib.hid hc
  have HS := Lib.hid hs
  unfold isIn at hn
  have hlt := (of_decide_eq_true hn).1
  have hgl := hs.g_lv
  rcases hs.rows.2 with ⟨-, h0⟩ | ⟨b, co, cur, rfl, hb, hg, -⟩
  · omega
  have D0 := Lib.hid (show w.cell? ⟨g, 0, none⟩ = some (.slice (some ⟨b, 0, none⟩) l.length co) from hs.tab.cell 0)
  have HL := Lib.hid hlt
  have D1 := Lib.hid (show ∃ u, w.cell? ⟨b, below ltSL l k * 2 + 1, none⟩ = some u from by
    obtain ⟨ao', co', e', -, -, hcell⟩ := hs.rows.rd rcSL_len
    injection e' with e1 e2 e3
    obtain ⟨b', off, e4, hc'⟩ := hcell (by intro h; simp [h] at hlt)
    rw [e4] at e1
    injection e1 with e1; injection e1 with e1 e5
    subst e1; subst e5
    exact ⟨_, by simpa using hc' _ hlt 1 (by omega)⟩)
  have HG := Lib.hid hg
  clear hs hr hk hc hn hgl hg
  generalize below ltSL l k = i at *
  have q1 : (0 : Int) ≤ i := by omega
  have q2 : (i : Int) < l.length := by omega
  go_enter Tryz.func108, Tryz.ntmps108
  go_wp2_with fail
  with_reducible refine HC.out.mono ?_
  rintro e w1 ⟨rfl, hu1⟩
  have d0 := hu1.cell D0.out (by simp)
  obtain ⟨u, hu⟩ := D1.out
  have d1 := hu1.cell hu (by simp)
  have f1 : w1.frozen? ⟨b, i * 2 + 1, none⟩ = false := frozen_of_row w1 b _ cur _ (hu1.heap HG.out (by simp))
  go_wp2_with fail
  go_ret
  have hst : Upd [b] w1 (w1.setCell ⟨b, i * 2 + 1, none⟩ (slv v)) := (Upd.refl [b] w1).setCell _ _ (.inl (by simp))
  have hs1 := HS.out.upd0 hu1
  have hl := HL.out
  have hgb : g ≠ b := fun e => HS.out.g_lv (by rw [e]; simp [blk])
  refine ⟨rfl, ⟨hs1.tab.upd hst (by simpa using hgb), ?_, hs1.gb⟩, ?_⟩
  · refine OwnN.set_ rcSL_len hs1.rows i 1 hl (by omega) (slv v) _ ?_
    rw [nth_get l i hl]
    rfl
  · exact (show Upd [b] w w1 from hu1.mono (by simp)).setCell _ _ (.inl (by simp))
end
end Go.Proofs.YtmhojaiajhdlcaaGreat
