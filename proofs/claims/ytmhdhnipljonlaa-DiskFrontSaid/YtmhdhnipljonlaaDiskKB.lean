/- Bytes in blocks that only grow at their end: slices that show a part of a block, and append onto them. -/
import Derived.Test.YtmhdhnipljonlaaSls
import Derived.Test.YtmhdhnipljonlaaApart
import Derived.Test.YtmhdhnipljonlaaBookPlain
import Derived.Test.YtmhdhnipljonlaaRows
import Derived.ArgAppend
namespace Go.Proofs.Ytmhdhnipljonlaa
open Go.RowKit
set_option linter.unusedSimpArgs false
set_option linter.unusedVariables false
/-- What a block holds, and how much it can hold. -/
abbrev KB := Nat → List UInt8 × Nat
abbrev OwnB (base : Nat) (w : World) (x : Nat) (c : List UInt8 × Nat) : Prop := Own bv base 5 w (.slice (some ⟨x, 0, none⟩) c.1.length c.2) c.1
/-- The blocks of B hold what K says. -/
structure Bks (base : Nat) (w : World) (B : List Nat) (K : KB) : Prop where
  own : ∀ x ∈ B, OwnB base w x (K x)
/-- A slice shows bytes of the blocks. -/
structure Sh (B : List Nat) (K : KB) (s : Sl) (l : List UInt8) : Prop where
  n : s.n = l.length
  k : s.n ≤ s.k
  m : s.k ≤ maxLen
  nul : s.a = none → s.k = 0
  ex : l ≠ [] → ∃ b off, s.a = some ⟨b, off, none⟩ ∧ b ∈ B ∧ off + l.length ≤ (K b).1.length ∧ ((K b).1.drop off).take l.length = l
/-- A slice with room behind it is the end of its block. -/
def Gr (B : List Nat) (K : KB) (s : Sl) (l : List UInt8) : Prop := s.n < s.k → ∃ b, s.a = some ⟨b, 0, none⟩ ∧ b ∈ B ∧ K b = (l, s.k)
/-- The block that a slice may grow in. -/
def gb (s : Sl) : List Nat := if s.n < s.k then blk (slv s) else []
/-- More blocks, and more in them. -/
structure Ext (B : List Nat) (K : KB) (B' : List Nat) (K' : KB) : Prop where
  sub : ∀ x ∈ B, x ∈ B'
  pre : ∀ x ∈ B, ∃ t, (K' x).1 = (K x).1 ++ t
section
variable {base : Nat} {w w' : World} {B B' B'' : List Nat} {K K' K'' : KB} {s : Sl} {l : List UInt8}
theorem Ext.refl (B : List Nat) (K : KB) : Ext B K B K := ⟨fun _ h => h, fun _ _ => ⟨[], (List.append_nil _).symm⟩⟩
theorem Ext.trans (h : Ext B K B' K') (k : Ext B' K' B'' K'') : Ext B K B'' K'' :=
  ⟨fun x hx => k.sub x (h.sub x hx), fun x hx => by
    obtain ⟨t, ht⟩ := h.pre x hx
    obtain ⟨u, hu⟩ := k.pre x (h.sub x hx)
    exact ⟨t ++ u, by rw [hu, ht, List.append_assoc]⟩⟩
theorem Bks.upd (h : Bks base w B K) {S : List Nat} (hu : Upd S w w') (hs : ∀ x ∈ B, x ∉ S) : Bks base w' B K :=
  ⟨fun x hx => (h.own x hx).upd hu (fun y hy => by simp [blk] at hy; subst hy; exact hs _ hx)⟩
theorem Bks.ge (h : Bks base w B K) : ∀ x ∈ B, base ≤ x ∧ x < w.heap.size := fun x hx => (h.own x hx).ge x (by simp [blk])
theorem Bks.typ (h : Bks base w B K) : ∀ x ∈ B, ∃ C f, w.heap[x]? = some (.cells C 5 f) := fun x hx => by
  rcases (h.own x hx).2 with ⟨he, _⟩ | ⟨g, cap, cur, he, _, hg, _⟩
  · simp at he
  · injection he with e1 e2 e3; injection e1 with e1; injection e1 with e1 e4; subst e1; exact ⟨_, _, hg⟩
theorem Sh.ext (h : Sh B K s l) (he : Ext B K B' K') : Sh B' K' s l := by
  refine ⟨h.n, h.k, h.m, h.nul, fun hne => ?_⟩
  obtain ⟨b, off, h1, h2, h3, h4⟩ := h.ex hne
  obtain ⟨t, ht⟩ := he.pre b h2
  refine ⟨b, off, h1, he.sub b h2, by rw [ht, List.length_append]; omega, ?_⟩
  rw [ht, List.drop_append_of_le_length (by omega), List.take_append_of_le_length (by rw [List.length_drop]; omega)]
  exact h4
theorem Sh.rd (hB : Bks base w B K) (h : Sh B K s l) : Bytes w (slv s) l := by
  have h1 := h.n
  have h2 := h.k
  have h3 := h.m
  have h4 := h.ex
  obtain ⟨a, n, k⟩ := s
  dsimp only at h1 h2 h3 h4
  subst h1
  refine ⟨a, k, rfl, h2, h3, fun hne => ?_⟩
  obtain ⟨b, off, rfl, hb, h5, h6⟩ := h4 hne
  refine ⟨b, off, rfl, fun j hj => ?_⟩
  obtain ⟨a', k', he, -, -, hc⟩ := (hB.own b hb).rd
  injection he with e1 e2 e3
  subst e1
  obtain ⟨b', off', e4, hc⟩ := hc (fun q => by rw [q] at h5; simp only [List.length_nil] at h5; omega)
  injection e4 with e4; injection e4 with e4 e5; subst e4; subst e5
  have hq := hc (off + j) (by omega)
  rw [Nat.zero_add] at hq
  have hn : nth l j = nth (K b).1 (off + j) := by
    have : nth (((K b).1.drop off).take l.length) j = nth l j := by rw [h6]
    rw [← this, nth_take _ _ _ hj, nth_drop]
  rw [hn]; exact hq
theorem gb_in (hg : Gr B K s l) : ∀ x ∈ gb s, x ∈ B ∧ K x = (l, s.k) ∧ s.a = some ⟨x, 0, none⟩ := by
  intro x hx
  unfold gb at hx
  split at hx
  · rename_i h
    obtain ⟨b, h1, h2, h3⟩ := hg h
    rw [show slv s = .slice s.a s.n s.k from rfl, h1] at hx
    simp [blk] at hx; subst hx
    exact ⟨h2, h3, h1⟩
  · simp at hx
theorem Gr.full (h : s.k ≤ s.n) : Gr B K s l := fun q => absurd q (by omega)
theorem gb_full (h : s.k ≤ s.n) : gb s = [] := by unfold gb; rw [if_neg (by omega)]
theorem Sh.nil : Sh B K ⟨none, 0, 0⟩ [] := ⟨rfl, Nat.le_refl _, Nat.zero_le _, fun _ => rfl, fun h => absurd rfl h⟩
/-- The first bytes, without room behind them. -/
theorem Sh.cut (h : Sh B K s l) (n : Nat) (hn : n ≤ l.length) : Sh B K ⟨s.a, n, n⟩ (l.take n) := by
  have h1 := h.n
  have h2 := h.k
  have h3 := h.m
  refine ⟨by rw [List.length_take]; show n = _; omega, Nat.le_refl _, by show n ≤ _; omega, fun q => by have := h.nul q; show n = 0; omega, fun hne => ?_⟩
  have hl : l ≠ [] := fun q => hne (by rw [q]; simp)
  obtain ⟨b, off, e1, e2, e3, e4⟩ := h.ex hl
  refine ⟨b, off, e1, e2, by rw [List.length_take]; omega, ?_⟩
  rw [List.length_take, Nat.min_eq_left hn, ← e4, List.take_take, Nat.min_eq_left hn]
/-- A new block. -/
theorem Bks.new (hB : Bks base w B K) {w' : World} {v : Value} {l : List UInt8} (ho : Own bv w.heap.size 5 w' v l) (hu : Upd [] w w') (hbase : base ≤ w.heap.size) :
    ∃ s B' K', v = slv s ∧ Bks base w' B' K' ∧ Ext B K B' K' ∧ (∀ x ∈ B', x ∈ B ∨ w.heap.size ≤ x) ∧ Sh B' K' s l ∧ Gr B' K' s l ∧ (∀ x ∈ gb s, w.heap.size ≤ x) ∧ (∀ x ∈ B, K' x = K x) := by
  have ho' := ho
  obtain ⟨h1, h2⟩ := ho'
  rcases h2 with ⟨rfl, hn⟩ | ⟨g, cap, cur, rfl, hb, hg, hc, hm, hs, ht⟩
  · obtain rfl : l = [] := List.eq_nil_of_length_eq_zero hn
    exact ⟨⟨none, 0, 0⟩, B, K, rfl, hB.upd hu (by simp), Ext.refl _ _, fun x hx => .inl hx, Sh.nil, Gr.full (Nat.le_refl _), fun x hx => by rw [gb_full (Nat.le_refl _)] at hx; simp at hx, fun _ _ => rfl⟩
  · have hne : ∀ x ∈ B, x ≠ g := fun x hx q => by have := (hB.ge x hx).2; omega
    have hk : ∀ x ∈ B, (if x = g then (l, cap) else K x) = K x := fun x hx => if_neg (hne x hx)
    refine ⟨⟨some ⟨g, 0, none⟩, l.length, cap⟩, g :: B, fun x => if x = g then (l, cap) else K x, rfl, ⟨fun x hx => ?_⟩, ⟨fun x hx => by simp [hx], fun x hx => ⟨[], by rw [hk x hx, List.append_nil]⟩⟩, fun x hx => ?_, ⟨rfl, hc, hm, fun q => by simp at q, fun _ => ⟨g, 0, rfl, by simp, by simp, by simp⟩⟩, fun _ => ⟨g, rfl, by simp, by simp⟩, fun x hx => ?_, hk⟩
    · rcases List.mem_cons.1 hx with rfl | hx
      · show OwnB base w' x (if x = x then (l, cap) else K x)
        rw [if_pos rfl]; exact ho.base_le hbase
      · show OwnB base w' x (if x = g then (l, cap) else K x)
        rw [hk x hx]; exact (hB.own x hx).upd hu (by simp)
    · rcases List.mem_cons.1 hx with rfl | hx
      · exact .inr hb
      · exact .inl hx
    · unfold gb at hx
      split at hx
      · simp [blk] at hx; omega
      · simp at hx
theorem Gr.keep (h : Gr B K s l) (hs : ∀ x ∈ B, x ∈ B') (hk : ∀ x ∈ B, K' x = K x) : Gr B' K' s l := fun q => by
  obtain ⟨b, h1, h2, h3⟩ := h q
  exact ⟨b, h1, hs b h2, by rw [hk b h2, h3]⟩
/-- Behind an append: the new slice, the blocks, and what becomes of others. -/
def Grew (base : Nat) (w : World) (B : List Nat) (K : KB) (s : Sl) (l : List UInt8) (v' : Value) (w' : World) : Prop :=
  ∃ s' B' K', v' = slv s' ∧ Bks base w' B' K' ∧ Ext B K B' K' ∧ (∀ x ∈ B', x ∈ B ∨ w.heap.size ≤ x) ∧ Sh B' K' s' l ∧ Gr B' K' s' l ∧ Upd B w w' ∧ (∀ s2 l2, Gr B K s2 l2 → Ap (gb s2) (gb s) → Gr B' K' s2 l2 ∧ Ap (gb s2) (gb s'))
theorem infoB8 : (Try.prog.info? 5).map (fun i => (i.zero, i.size, i.bytes)) = some (some (.int .u8 0), 1, 1) := by kernel_rfl
theorem app_step {ty : TypeId} {u : Value} {p : List UInt8} (hB : Bks base w B K) (hs : Sh B K s l) (hg : Gr B K s l) (hp : Bytes w u p) (hne : p ≠ []) (hlen : l.length + p.length ≤ 1000000000) (hbase : base ≤ w.heap.size) :
    ∃ v' w', (Builtin.append_ #[27, 27] ty #[slv s, u]).run Try.prog w = .ok v' w' ∧ Grew base w B K s (l ++ p) v' w' := by
  have hrd := hs.rd hB
  have h1 := hs.n
  have h2 := hs.k
  have h3 := hs.m
  have h4 := hs.nul
  have hmax : l.length + p.length ≤ maxLen := by unfold maxLen; omega
  obtain ⟨i, i1, i2, i3, i4⟩ := info_parts infoB8
  obtain ⟨A, cap, rfl, hle, hcm, hcell0⟩ := hp
  obtain ⟨pb, poff, rfl, hcell⟩ := hcell0 hne
  have hnews : ∀ j u, (p.map bv)[j]? = some u → w.cell? ((⟨pb, poff, none⟩ : Addr).add j) = some u := fun j u hj => by
    rw [add_none]
    rw [List.getElem?_map] at hj
    obtain ⟨x, hx, rfl⟩ := Option.map_eq_some_iff.1 hj
    rw [hcell j (List.getElem?_eq_some_iff.1 hx).1, nth_of p j x hx]
  have hpos : 0 < p.length := List.length_pos_iff.2 hne
  by_cases hroom : l.length + p.length ≤ s.k
  · -- there is room
    obtain ⟨b, hb, hbB, hK⟩ := hg (by omega)
    have hown := hB.own b hbB
    rw [hK] at hown
    obtain ⟨o1, o2⟩ := hown
    rcases o2 with ⟨he, _⟩ | ⟨g, cap', cur, he, hbg, hgc, hnc, hcm', hcs, htk⟩
    · simp at he
    injection he with e1 e2 e3
    injection e1 with e1; injection e1 with e1 e5; subst e1
    dsimp only at e3 hcs htk
    rw [Nat.mul_one] at hcs htk
    have hfit : l.length * i.size + (p.map bv).length ≤ cur.size := by rw [i3, Nat.mul_one, List.length_map, hcs, ← e3]; exact hroom
    have hr := run_append_room (P := Try.prog) w 27 ty 5 i Try.underlying27 i1 b l.length s.k cur hgc ⟨pb, poff, none⟩ p.length cap (p.map bv) (by simp [i3]) hnews (oneCell_map bv_one p) hroom hfit
    rw [i3, Nat.mul_one, List.length_map, htk] at hr
    rw [show slv s = .slice s.a s.n s.k from rfl, hb, h1]
    generalize hys : (l.map bv ++ p.map bv ++ cur.toList.drop (l.length + p.length)).toArray = ys at hr
    have hys2 : ys.toList = (l ++ p).map bv ++ cur.toList.drop (l.length + p.length) := by rw [← hys]; simp
    have hysz : ys.size = s.k := by
      rw [← hys]
      simp only [List.size_toArray, List.length_append, List.length_map, List.length_drop, Array.length_toList, hcs]
      omega
    have hnew : OwnB base (w.setRow b ys) b (l ++ p, s.k) := by
      refine ⟨by simp, .inr ⟨b, s.k, ys, rfl, hbg, setRow_heap w b cur ys _ _ hgc, by simp; omega, h3, by rw [hysz, Nat.mul_one], ?_⟩⟩
      rw [hys2, Nat.mul_one, List.take_append_of_le_length (by simp)]
      exact List.take_of_length_le (by simp)
    have hu : Upd [b] w (w.setRow b ys) := ⟨rfl, rfl, rfl, by simp, fun k _ hk => setRow_other w b k _ (by simpa using hk)⟩
    refine ⟨_, _, hr, ⟨some ⟨b, 0, none⟩, l.length + p.length, s.k⟩, B, fun x => if x = b then (l ++ p, s.k) else K x, rfl, ⟨fun x hx => ?_⟩, ⟨fun _ h => h, fun x hx => ?_⟩, fun x hx => .inl hx, ⟨by simp, hroom, h3, fun q => by simp at q, fun _ => ⟨b, 0, rfl, hbB, by show 0 + _ ≤ (if b = b then (l ++ p, s.k) else K b).1.length; rw [if_pos rfl]; simp, by show ((if b = b then (l ++ p, s.k) else K b).1.drop 0).take _ = _; rw [if_pos rfl]; exact List.take_length⟩⟩, fun _ => ⟨b, rfl, hbB, by show (if b = b then (l ++ p, s.k) else K b) = _; rw [if_pos rfl]⟩, hu.mono (fun x hx => by simp at hx; subst hx; exact .inl hbB), fun s2 l2 g2 hap => ?_⟩
    · show OwnB base (w.setRow b ys) x (if x = b then (l ++ p, s.k) else K x)
      split
      · rename_i h; subst h; exact hnew
      · rename_i h; exact (hB.own x hx).upd hu (fun y hy => by simp [blk] at hy; subst hy; simpa using h)
    · show ∃ t, (if x = b then (l ++ p, s.k) else K x).1 = (K x).1 ++ t
      split
      · rename_i h; subst h; rw [hK]; exact ⟨p, rfl⟩
      · exact ⟨[], (List.append_nil _).symm⟩
    · have hgb : gb s = [b] := by unfold gb; rw [if_pos (by omega), show slv s = .slice s.a s.n s.k from rfl, hb]; rfl
      rw [hgb] at hap
      refine ⟨fun q => ?_, fun x hx => ?_⟩
      · obtain ⟨b2, q1, q2, q3⟩ := g2 q
        have hn2 : b2 ≠ b := fun e => hap b2 (by unfold gb; rw [if_pos q, show slv s2 = .slice s2.a s2.n s2.k from rfl, q1]; simp [blk]) (by simp [e])
        exact ⟨b2, q1, q2, by show (if b2 = b then (l ++ p, s.k) else K b2) = _; rw [if_neg hn2, q3]⟩
      · have h9 := hap x hx
        unfold gb
        split
        · simpa [blk] using h9
        · simp
  · -- it grows
    have key : ∃ v' w', (Builtin.append_ #[27, 27] ty #[slv s, .slice (some ⟨pb, poff, none⟩) p.length cap]).run Try.prog w = .ok v' w' ∧ Own bv w.heap.size 5 w' v' (l ++ p) ∧ Upd [] w w' := by
      obtain ⟨a, n, k⟩ := s
      dsimp only at h1 h2 h3 h4 hroom hrd
      subst h1
      cases a with
      | some ad =>
        have holds : ∀ j u, (l.map bv)[j]? = some u → w.cell? (ad.add j) = some u := fun j u hj => by
          rw [List.getElem?_map] at hj
          obtain ⟨x, hx, rfl⟩ := Option.map_eq_some_iff.1 hj
          have hjl := (List.getElem?_eq_some_iff.1 hx).1
          obtain ⟨a', k', he, -, -, hc⟩ := hrd
          have e1 : some ad = a' := (Value.slice.inj he).1
          obtain ⟨b, off, e4, hc⟩ := hc (by intro q; rw [q] at hjl; simp at hjl)
          obtain rfl : ad = ⟨b, off, none⟩ := Option.some.inj (e1.trans e4)
          rw [add_none, hc j hjl, nth_of l j x hx]
        obtain ⟨v', w', hr, r1, r2⟩ := run_append_arg_grows (P := Try.prog) w 27 ty 5 i _ 1 1 Try.underlying27 i1 i2 i3 i4 rfl (by decide) ad l.length k (l.map bv) (by simp) holds ⟨pb, poff, none⟩ p.length cap (p.map bv) (by simp) hnews (by omega) hmax (by omega)
        exact ⟨v', w', hr, by unfold Own; rw [List.length_append, List.map_append]; exact r1, Upd.of_grown r2⟩
      | none =>
        obtain rfl : k = 0 := h4 rfl
        obtain rfl : l = [] := List.eq_nil_of_length_eq_zero (by omega)
        obtain ⟨v', w', hr, r1, r2, _⟩ := run_append_own (P := Try.prog) w w.heap.size 27 ty 5 i _ 1 1 Try.underlying27 i1 i2 i3 i4 rfl (by decide) (.slice none 0 0) 0 [] (World.ownsRow_nil w _ _ 1) ⟨pb, poff, none⟩ p.length cap (p.map bv) (by simp) hnews (oneCell_map bv_one p) (by simpa using hmax) (by simp at hlen ⊢; omega) (Nat.le_refl _)
        refine ⟨v', w', hr, by unfold Own; rw [List.length_append, List.map_append]; exact r1, Upd.of_grown r2⟩
    obtain ⟨v', w', hr, ho, hu⟩ := key
    obtain ⟨s', B', K', rfl, k1, k2, k3, k4, k5, k6, k7⟩ := hB.new ho hu hbase
    refine ⟨_, _, hr, s', B', K', rfl, k1, k2, k3, k4, k5, hu.mono (by simp), fun s2 l2 g2 hap => ⟨g2.keep k2.sub k7, fun x hx hx' => ?_⟩⟩
    have := k6 x hx'
    have := (hB.ge x (gb_in g2 x hx).1).2
    omega
end
end Go.Proofs.Ytmhdhnipljonlaa
