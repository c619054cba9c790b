/- Texts of the proof, joined: The document's disk: bytes come behind a file's. The document's disk: a file has another name. The document's disk in memory; one raw write. The document's disk: one raw write, kept. The document's own look at a name. The document's disk: Rename, Remove, SetMark. The document's disk: Cut, SetMark, Read. The document's disk: SetMark, Total, Names. The document's disk: Back. The document's disk: new bytes, put. -/
import Derived.Test.YtmhojaiajhdlcaaGreatMp7
import Derived.Test.YtmhojaiajhdlcaaGreatMp5
import Derived.Deep.RegionLaw
import Derived.Deep.RegionWith
import Derived.Test.YtmhojaiajhdlcaaGreatRows
import Derived.Test.YtmhojaiajhdlcaaGreatMp4
import Derived.Test.YtmhojaiajhdlcaaGreatMp1
import Derived.Test.YtmhojaiajhdlcaaGreatMp6
namespace Go.Proofs.YtmhojaiajhdlcaaGreat
open Go.RowKit
set_option linter.unusedSimpArgs false
set_option linter.unusedVariables false
section
variable {w : World} {R : List Nat} {v : Value} {l : List OW}
set_option maxRecDepth 20000 in
set_option maxHeartbeats 4000000 in
theorem rMade_2 (nm tn : ByteArray) (p : List UInt8) (n : Int) (pa : Option Addr) (pn pk : Nat) (h : RL w R v l) (hl : l.length ≤ 10000) (hp : Bytes w (.slice pa pn pk) p) (hin : isIn strLt l nm = true) (old0 : List UInt8) (hold0 : (nth l (below strLt l nm)).2.2 = old0) (hsz : old0.length + p.length ≤ 100000000) :
    Calls Tryz.prog 80 #[v, wrv ⟨2, nm, tn, p, n⟩ ⟨pa, pn, pk⟩] w (RDoes w R (tSet strLt (dfOf l) nm (old0 ++ p))) := by
  have HP := Lib.hid hp
  clear hp
  obtain ⟨ao0, co0, rfl, hlc, hcm, -⟩ := h.row
  have hcap : co0 ≤ 9223372036854775807 := by unfold maxLen at hcm; omega
  have HB0 := Lib.hid (Blk.new w 119 [.int .i64 2, sv nm, sv tn, .slice pa pn pk, .int .i64 n])
  have HU0 := Lib.hid ((Upd.refl [] w).alloc (.cells #[.int .i64 2, sv nm, sv tn, .slice pa pn pk, .int .i64 n] 119))
  have H := Lib.hid h
  clear h hcm
  go_enter Tryz.func80, Tryz.ntmps80
  have hb0 : Blk (w.alloc (.cells #[.int .i64 2, sv nm, sv tn, .slice pa pn pk, .int .i64 n] 119)) w.heap.size 119 [.int .i64 2, sv nm, sv tn, .slice pa pn pk, .int .i64 n] := HB0.out
  have HRUN : Hid (∀ ty (W : World) (G : Nat), G = w.heap.size + 1 → W = (w.alloc (.cells #[.int .i64 2, sv nm, sv tn, .slice pa pn pk, .int .i64 n] 119)).alloc (.cells #[] 132) → ∃ v' w', (Builtin.append_ #[42, 42] ty #[.slice (some ⟨G, 0, none⟩) 0 0, .slice ao0 l.length co0]).run Tryz.prog W = .ok v' w' ∧ (OwnN 2 owCells (w.heap.size + 1) 132 w' v' l ∧ Upd [] (w.alloc (.cells #[.int .i64 2, sv nm, sv tn, .slice pa pn pk, .int .i64 n] 119)) w')) := by
    rintro ty W G rfl rfl
    have hs : (w.alloc (.cells #[.int .i64 2, sv nm, sv tn, .slice pa pn pk, .int .i64 n] 119)).heap.size = w.heap.size + 1 := by simp
    have hbk := Blk.new (w.alloc (.cells #[.int .i64 2, sv nm, sv tn, .slice pa pn pk, .int .i64 n] 119)) 132 []
    rw [hs] at hbk
    have hu := (Upd.refl [] (w.alloc (.cells #[.int .i64 2, sv nm, sv tn, .slice pa pn pk, .int .i64 n] 119))).alloc (.cells #[] 132)
    obtain ⟨v', w', h1, h2, h3, h4⟩ := run_appN (P := Tryz.prog) (ty := ty) (base := w.heap.size + 1) owCells_len (by decide) owCells_one undOW infoOW rfl _ (.slice ao0 l.length co0) [] l (ownN_emptyR 2 owCells (w.heap.size + 1) _ _ (w.heap.size + 1) (Nat.le_refl _) hbk) (H.out.row.upd0 owCells_len (HU0.out.seq hu)) (by simp; omega) (by unfold maxLen; simp; omega) (by simp)
    rw [List.nil_append] at h2
    exact ⟨v', w', h1, h2, hu.trans h3 (by simp) (fun y hy => .inr (by simp [blk] at hy; omega))⟩
  clear hb0
  go_wp2_with (at_builtin; go_must (refine wpList_app_of rfl _ _ rfl (.slice (some ⟨w.heap.size + 1, 0, none⟩) 0 0) (.slice ao0 l.length co0) rfl rfl (HRUN.out _ _ _ rfl rfl) ?_; rintro v1 w1 ⟨ho1, hu1⟩; have HO1 := Lib.hid ho1; have HU1 := Lib.hid hu1; obtain ⟨ao, co, rfl, -⟩ := ho1.rd owCells_len; have hb1 := HB0.out.upd hu1 (by simp); have d0 := hb1.cell 0; have d1 := hb1.cell 1; have d2 := hb1.cell 2; have d3 := hb1.cell 3; have d4 := hb1.cell 4; simp only [List.getElem?_cons_zero, List.getElem?_cons_succ] at d0 d1 d2 d3 d4; have HB1 := Lib.hid hb1; clear ho1 hu1 hb1 HRUN; dsimp only))
  (with_reducible refine (rdAt_any w1 _ l nm (HO1.out.rd owCells_len) H.out.ris (by omega)).mono ?_)
  rintro e wq ⟨rfl, huq⟩
  have D1 := Lib.hid (huq.cell d1 (by simp))
  have D2 := Lib.hid (huq.cell d2 (by simp))
  have D3 := Lib.hid (huq.cell d3 (by simp))
  have D4 := Lib.hid (huq.cell d4 (by simp))
  replace d0 := huq.cell d0 (by simp)
  have HOQ := Lib.hid (HO1.out.upd huq (by simp))
  have HUQ := Lib.hid ((HU0.out.seq HU1.out).seq huq)
  have hin' : isIn strLt l nm = true := hin
  unfold isIn at hin'
  obtain ⟨hkl, hkn⟩ := of_decide_eq_true hin'
  have hai : atI l nm = (below strLt l nm : Int) := by unfold atI; rw [hin]; rfl
  rw [hai]
  have HKN := Lib.hid hkn
  have HDEL : Hid (tDel strLt l nm = l.take (below strLt l nm) ++ l.drop (below strLt l nm + 1)) := by unfold Hid tDel; rw [hin]; rfl
  obtain ⟨k, hk⟩ : ∃ k, below strLt l nm = k := ⟨_, rfl⟩
  have HK := Lib.hid hk
  rw [hk] at hkl ⊢
  obtain ⟨hco, hlco⟩ : co ≤ 9223372036854775807 ∧ l.length ≤ co := by
    obtain ⟨a', k', he, h1, h2, -⟩ := HO1.out.rd owCells_len
    have := (Value.slice.inj he).2.2
    subst this; unfold maxLen at h2; exact ⟨by omega, h1⟩
  have HSQ : Hid (w.heap.size ≤ wq.heap.size) := HUQ.out.size
  have HIN := Lib.hid hin
  have p0 : (0 : Int) ≤ k := by omega
  have p1 : (k : Int) < l.length := by omega
  have p2 : (k : Int) + 1 ≤ l.length := by omega
  have p3 : (0 : Int) ≤ (k : Int) + 1 := by omega
  have hwr : IntKind.i64.wrap ((k : Int) + 1) = (k : Int) + 1 := by rw [IntKind.wrap_i64]; omega
  clear d1 d2 d3 d4 huq HO1 HU1 HB1 HB0 hin hin' hkn hai hk
  obtain ⟨g, rfl, hg1, hg2, Cg, fg, hgt⟩ := HOQ.out.addrR (by omega) rfl
  have hne2 : ¬ g = w.heap.size := by omega
  obtain ⟨⟨xn, ⟨oa, on, ok⟩, old⟩, hx⟩ : ∃ x, nth l k = x := ⟨_, rfl⟩
  have hxm : (xn, ((⟨oa, on, ok⟩ : Sl), old)) ∈ l := by rw [← hx, nth_get l k hkl]; exact List.getElem_mem _
  have hxn : xn = nm := by have := HKN.out; rw [HK.out, hx] at this; exact this
  subst hxn
  have HOLD : Hid (Bytes wq (.slice oa on ok) old) := (H.out.dat _ hxm).upd0 HUQ.out
  have hon : on = old.length := by
    obtain ⟨a', k', he, -⟩ := HOLD.out
    exact (Value.slice.inj he).2.1
  subst hon
  have hok : ok ≤ 9223372036854775807 ∧ old.length ≤ ok := by
    obtain ⟨a', k', he, h1, h2, -⟩ := HOLD.out
    have := (Value.slice.inj he).2.2
    subst this; unfold maxLen at h2; exact ⟨by omega, h1⟩
  obtain ⟨hok, hok2⟩ := hok
  have HX := Lib.hid hx
  have CR : Hid (wq.cell? ⟨g, k * 2 + 1, none⟩ = some (.slice oa old.length ok)) := by
    have := HOQ.out.cellR owCells_len k 1 hkl (by omega)
    rw [hx] at this; exact this
  have FR : Hid (∀ W, Upd [] wq W → W.frozen? ⟨g, k * 2 + 1, none⟩ = false) := fun W hW => (HOQ.out.upd hW (by simp)).frozenR _
  have HGT : Hid (∀ b, (∃ C f, wq.heap[b]? = some (.cells C 5 f)) → b ≠ g) := fun b hb he => by
    obtain ⟨C, f, hb⟩ := hb
    subst he
    exact absurd (ty_eq hb hgt) (by decide)
  have HG1 := Lib.hid hg1
  have HG2 := Lib.hid hg2
  have HXM := Lib.hid hxm
  clear hgt hg1 hx hxm hg2
  have HR1 : Hid (∀ (ty : TypeId) (W : World) (s : Option Addr) (m kk : Nat) (q : List UInt8), Upd [] wq W → Blk W wq.heap.size 5 [] → Bytes W (.slice s m kk) q → q.length ≤ 1000000000 → ∃ v' w', (Builtin.append_ #[28, 28] ty #[.slice (some ⟨wq.heap.size, 0, none⟩) 0 0, .slice s m kk]).run Tryz.prog W = .ok v' w' ∧ (Own bv wq.heap.size 5 w' v' q ∧ Upd [] wq w' ∧ ∃ a1 n1 k1, v' = .slice a1 n1 k1)) := by
    intro ty W s m kk q hU hB hq hql
    obtain ⟨v', w', h1, h2, h3, h4⟩ := run_app (P := Tryz.prog) (w := W) (ty := ty) bv_one Tryz.underlying28 infoB8 rfl _ (.slice s m kk) [] q (own_emptyR wq.heap.size W wq.heap.size (Nat.le_refl _) hB) hq (by simp; omega) (by simp [maxLen]; omega) hU.size
    rw [List.nil_append] at h2
    obtain ⟨a1, k1, h5, _⟩ := h2.rd
    exact ⟨v', w', h1, h2, hU.trans h3 (by simp) (fun y hy => .inr (by simp [blk] at hy; omega)), a1, _, k1, h5⟩
  obtain rfl : old = old0 := by rw [← hold0, HK.out, HX.out]
  clear hold0
  have HR2 : Hid (∀ (ty : TypeId) (W : World) (a1 : Option Addr) (n1 k1 : Nat), Own bv wq.heap.size 5 W (.slice a1 n1 k1) old → Upd [] wq W → ∃ v' w', (Builtin.append_ #[28, 28] ty #[.slice a1 n1 k1, .slice pa pn pk]).run Tryz.prog W = .ok v' w' ∧ (Own bv wq.heap.size 5 w' v' (old ++ p) ∧ Upd [] wq w' ∧ ∃ a9 n9 k9, v' = .slice a9 n9 k9)) := by
    intro ty W a1 n1 k1 hO hU
    obtain ⟨v', w', h1, h2, h3, h4⟩ := run_app (P := Tryz.prog) (w := W) (ty := ty) bv_one Tryz.underlying28 infoB8 rfl _ (.slice pa pn pk) old p hO (HP.out.upd0 (HUQ.out.seq hU)) (by omega) (by simp [maxLen]; omega) hU.size
    obtain ⟨a9, k9, h5, _⟩ := h2.rd
    exact ⟨v', w', h1, h2, hU.trans h3 (by simp) (fun y hy => .inr (hO.ge y hy).1), a9, _, k9, h5⟩
  have HTL : Hid (old.length ≤ 1000000000) := by unfold Hid; omega
  have c1 := CR.out
  have c1' : (wq.alloc (Obj.cells #[] 5)).cell? ⟨g, k * 2 + 1, none⟩ = some (.slice oa old.length ok) := ((Upd.refl [] wq).alloc _).cell c1 (by simp)
  have d3 := D3.out
  have d3' : (wq.alloc (Obj.cells #[] 5)).cell? ⟨w.heap.size, 3, none⟩ = some (.slice pa pn pk) := ((Upd.refl [] wq).alloc _).cell d3 (by simp)
  go_wp2_with fail
  go_region_law (first
    | ((refine step_app_of rfl (.tmp 61) (.tmp 63) rfl (.slice a1 n1 k1) (.slice pa pn pk) (by rfl) (by rfl) (HR2.out _ _ a1 n1 k1 ?_ ?_) ?_); (refine Own.upd (S := []) ho8 ?_ (by simp); (repeat (first | exact Upd.refl _ _ | apply Upd.drew | apply Upd.drewN | apply Upd.alloc))); (refine hu8.seq ?_; (repeat (first | exact Upd.refl _ _ | apply Upd.drew | apply Upd.drewN | apply Upd.alloc))); (rintro v9 w9 ⟨ho9, hu9, a9, n9, k9, rfl⟩; have c9 := hu9.cell c1 (by simp); have f9 := FR.out w9 hu9; dsimp only))
    | ((refine step_app_of rfl (.tmp 55) (.tmp 60) rfl (.slice (some ⟨wq.heap.size, 0, none⟩) 0 0) (.slice oa old.length ok) (by rfl) (by rfl) (HR1.out _ _ oa old.length ok old ?_ ?_ (HOLD.out.upd0 ?_) HTL.out) ?_); (repeat (first | exact Upd.refl _ _ | apply Upd.drew | apply Upd.drewN | apply Upd.alloc)); (refine Blk.fresh (w := wq) (C := #[]) (xs := []) rfl rfl ?_; (repeat (first | exact Upd.refl _ _ | apply Upd.drew | apply Upd.drewN | apply Upd.alloc))); (repeat (first | exact Upd.refl _ _ | apply Upd.drew | apply Upd.drewN | apply Upd.alloc)); (rintro v8 w8 ⟨ho8, hu8, a1, n1, k1, rfl⟩; have c8 := hu8.cell c1 (by simp); have d8 := hu8.cell d3 (by simp); dsimp only)))
  all_goals
    have HO9 := Lib.hid ho9
    have HU9 := Lib.hid hu9
    clear ho9 hu9
    go_wp2_with fail
    go_ret
    have hset := set_yes (l := l) (nm := xn) ((⟨a9, n9, k9⟩ : Sl), old ++ p) k HIN.out HK.out HKN.out
    have hst : Upd [g] w9 ((w9).setCell ⟨g, k * 2 + 1, none⟩ (.slice a9 n9 k9)) := (Upd.refl [g] _).setCell _ _ (.inl (by simp))
    have hrow := (HOQ.out.upd HU9.out (by simp)).set_ owCells_len k 1 hkl (by omega) (.slice a9 n9 k9) (xn, ((⟨a9, n9, k9⟩ : Sl), old ++ p)) (by have := HX.out; rw [nth_get l k hkl] at this; rw [this]; rfl)
    rw [← hset] at hrow
    have hgw : w.heap.size ≤ g := by have := HG1.out; omega
    refine RDoes.of H.out rfl hrow (by omega) ((HUQ.out.seq HU9.out).trans hst (by simp) (fun y hy => .inr (by simp at hy; omega))) ?_ ?_ ?_
    · rw [df_set]
    · exact H.out.ris.set_ strOrd _ _
    · intro c hc
      rcases tSet_mem l xn _ c hc with rfl | q
      · refine .inr ⟨(HO9.out.upd hst (fun x hx hy => ?_)).rd, fun x hx => .inr ?_, fun _ x hx hy => ?_⟩
        · simp at hy; subst hy
          have h1 := (HO9.out.ge _ hx).1
          have h2 := HG2.out
          omega
        · have h1 := HO9.out.ge _ hx
          have h2 := HSQ.out
          exact ⟨by omega, by simpa using h1.2⟩
        · simp [blk] at hy; subst hy
          have h1 := (HO9.out.ge _ hx).1
          have h2 := HG2.out
          omega
      · exact .inl q
end
end Go.Proofs.YtmhojaiajhdlcaaGreat
namespace Go.Proofs.YtmhojaiajhdlcaaGreat
open Go.RowKit
set_option linter.unusedSimpArgs false
set_option linter.unusedVariables false
theorem set_set {fs : DF} (hr : Rising strLt fs) (k : ByteArray) (x y : List UInt8) : tSet strLt (tSet strLt fs k x) k y = tSet strLt fs k y := by
  have hle := below_le (lt := strLt) fs k
  have htk : (fs.take (below strLt fs k)).length = below strLt fs k := by rw [List.length_take]; omega
  rw [tSet_in _ k y (in_set hr k x), below_set hr, nth_set_at]
  unfold tSet
  rw [List.set_append_right _ _ (by rw [htk]; exact Nat.le_refl _), htk, Nat.sub_self, List.set_cons_zero]
theorem bytes_upd' {w w' : World} {v : Value} {l : List UInt8} (h : Bytes w v l) {S : List Nat} (hu : Upd S w w') (hs : l ≠ [] → ∀ x ∈ blk v, x ∉ S) : Bytes w' v l := by
  by_cases hne : l = []
  · obtain ⟨a, k, e, h1, h2, h3⟩ := h
    exact ⟨a, k, e, h1, h2, fun q => absurd hne q⟩
  · exact h.upd hu (hs hne)
section
variable {w : World} {R : List Nat} {v : Value} {l : List OW}
/-- The bytes' slice is laid into the row of the new name. -/
theorem ren_fin (H : RL w R v l) {wx : World} {base gx nx cx kk : Nat} {L : List OW} {tn : ByteArray} {oa : Option Addr} {on ok : Nat} {old : List UInt8} (hrow : OwnN 2 owCells base 132 wx (.slice (some ⟨gx, 0, none⟩) nx cx) L) (hb : w.heap.size ≤ base) (hu : Upd [] w wx) (hdat : ∀ c ∈ L, Bytes wx (slv c.2.1) c.2.2 ∧ (∀ x ∈ blk (slv c.2.1), x ∈ R ∨ (w.heap.size ≤ x ∧ x < wx.heap.size)) ∧ (c.2.2 ≠ [] → ∀ x ∈ blk (slv c.2.1), x ≠ gx))
    (hold : Bytes w (.slice oa on ok) old) (hoR : ∀ x ∈ blk (.slice oa on ok), x ∈ R) (hin : isIn strLt L tn = true) (hk : below strLt L tn = kk) (hr : Rising strLt L) :
    RDoes w R (tSet strLt (dfOf L) tn old) (.returned (.slice (some ⟨gx, 0, none⟩) nx cx)) (wx.setCell ⟨gx, kk * 2 + 1, none⟩ (.slice oa on ok)) := by
  have hin' := hin
  unfold isIn at hin'
  obtain ⟨hkl, hkn⟩ := of_decide_eq_true hin'
  have hset := set_yes (l := L) (nm := tn) ((⟨oa, on, ok⟩ : Sl), old) kk hin hk hkn
  rw [hk] at hkl hkn
  have hst : Upd [gx] wx (wx.setCell ⟨gx, kk * 2 + 1, none⟩ (.slice oa on ok)) := (Upd.refl [gx] _).setCell _ _ (.inl (by simp))
  have hrow2 := hrow.set_ owCells_len kk 1 hkl (by omega) (.slice oa on ok) (tn, ((⟨oa, on, ok⟩ : Sl), old)) (by rw [nth_get L kk hkl] at hkn; rw [← hkn]; rfl)
  rw [← hset] at hrow2
  have hgx : base ≤ gx := (hrow.ge gx (by simp [blk])).1
  have hnold : old ≠ [] → ∀ x ∈ blk (.slice oa on ok), x ≠ gx := fun hne x hx he => by have := hold.lt hne x hx; omega
  have hup : Upd [] w (wx.setCell ⟨gx, kk * 2 + 1, none⟩ (.slice oa on ok)) := hu.trans hst (by simp) (fun y hy => .inr (by simp at hy; omega))
  refine RDoes.of H rfl hrow2 hb hup ?_ (hr.set_ strOrd _ _) ?_
  · rw [df_set]
  · intro c hc
    refine .inr ?_
    rcases tSet_mem L tn _ c hc with rfl | q
    · exact ⟨hold.upd0 hup, fun x hx => .inl (hoR x hx), fun hne x hx hy => hnold hne x hx (by simpa [blk] using hy)⟩
    · obtain ⟨q1, q2, q3⟩ := hdat c q
      exact ⟨bytes_upd' q1 hst (fun hne x hx hy => q3 hne x hx (by simpa using hy)), fun x hx => (q2 x hx).imp id (fun q => by simpa using q), fun hne x hx hy => q3 hne x hx (by simpa [blk] using hy)⟩
set_option maxRecDepth 20000 in
set_option maxHeartbeats 4000000 in
theorem rMade_3 (nm tn : ByteArray) (p : List UInt8) (n : Int) (pa : Option Addr) (pn pk : Nat) (h : RL w R v l) (hl : l.length ≤ 10000) (hin : isIn strLt l nm = true) (old0 : List UInt8) (hold0 : (nth l (below strLt l nm)).2.2 = old0) :
    Calls Tryz.prog 80 #[v, wrv ⟨3, nm, tn, p, n⟩ ⟨pa, pn, pk⟩] w (RDoes w R (tSet strLt (tDel strLt (dfOf l) nm) tn old0)) := by
  obtain ⟨ao0, co0, rfl, hlc, hcm, -⟩ := h.row
  have hcap : co0 ≤ 9223372036854775807 := by unfold maxLen at hcm; omega
  have HB0 := Lib.hid (Blk.new w 119 [.int .i64 3, sv nm, sv tn, .slice pa pn pk, .int .i64 n])
  have HU0 := Lib.hid ((Upd.refl [] w).alloc (.cells #[.int .i64 3, sv nm, sv tn, .slice pa pn pk, .int .i64 n] 119))
  have H := Lib.hid h
  clear h hcm
  go_enter Tryz.func80, Tryz.ntmps80
  have hb0 : Blk (w.alloc (.cells #[.int .i64 3, sv nm, sv tn, .slice pa pn pk, .int .i64 n] 119)) w.heap.size 119 [.int .i64 3, sv nm, sv tn, .slice pa pn pk, .int .i64 n] := HB0.out
  have HRUN : Hid (∀ ty (W : World) (G : Nat), G = w.heap.size + 1 → W = (w.alloc (.cells #[.int .i64 3, sv nm, sv tn, .slice pa pn pk, .int .i64 n] 119)).alloc (.cells #[] 132) → ∃ v' w', (Builtin.append_ #[42, 42] ty #[.slice (some ⟨G, 0, none⟩) 0 0, .slice ao0 l.length co0]).run Tryz.prog W = .ok v' w' ∧ (OwnN 2 owCells (w.heap.size + 1) 132 w' v' l ∧ Upd [] (w.alloc (.cells #[.int .i64 3, sv nm, sv tn, .slice pa pn pk, .int .i64 n] 119)) w')) := by
    rintro ty W G rfl rfl
    have hs : (w.alloc (.cells #[.int .i64 3, sv nm, sv tn, .slice pa pn pk, .int .i64 n] 119)).heap.size = w.heap.size + 1 := by simp
    have hbk := Blk.new (w.alloc (.cells #[.int .i64 3, sv nm, sv tn, .slice pa pn pk, .int .i64 n] 119)) 132 []
    rw [hs] at hbk
    have hu := (Upd.refl [] (w.alloc (.cells #[.int .i64 3, sv nm, sv tn, .slice pa pn pk, .int .i64 n] 119))).alloc (.cells #[] 132)
    obtain ⟨v', w', h1, h2, h3, h4⟩ := run_appN (P := Tryz.prog) (ty := ty) (base := w.heap.size + 1) owCells_len (by decide) owCells_one undOW infoOW rfl _ (.slice ao0 l.length co0) [] l (ownN_emptyR 2 owCells (w.heap.size + 1) _ _ (w.heap.size + 1) (Nat.le_refl _) hbk) (H.out.row.upd0 owCells_len (HU0.out.seq hu)) (by simp; omega) (by unfold maxLen; simp; omega) (by simp)
    rw [List.nil_append] at h2
    exact ⟨v', w', h1, h2, hu.trans h3 (by simp) (fun y hy => .inr (by simp [blk] at hy; omega))⟩
  clear hb0
  go_wp2_with (at_builtin; go_must (refine wpList_app_of rfl _ _ rfl (.slice (some ⟨w.heap.size + 1, 0, none⟩) 0 0) (.slice ao0 l.length co0) rfl rfl (HRUN.out _ _ _ rfl rfl) ?_; rintro v1 w1 ⟨ho1, hu1⟩; have HO1 := Lib.hid ho1; have HU1 := Lib.hid hu1; obtain ⟨ao, co, rfl, -⟩ := ho1.rd owCells_len; have hb1 := HB0.out.upd hu1 (by simp); have d0 := hb1.cell 0; have d1 := hb1.cell 1; have d2 := hb1.cell 2; have d3 := hb1.cell 3; have d4 := hb1.cell 4; simp only [List.getElem?_cons_zero, List.getElem?_cons_succ] at d0 d1 d2 d3 d4; have HB1 := Lib.hid hb1; clear ho1 hu1 hb1 HRUN; dsimp only))
  (with_reducible refine (rdAt_any w1 _ l nm (HO1.out.rd owCells_len) H.out.ris (by omega)).mono ?_)
  rintro e wq ⟨rfl, huq⟩
  have D1 := Lib.hid (huq.cell d1 (by simp))
  have D2 := Lib.hid (huq.cell d2 (by simp))
  have D3 := Lib.hid (huq.cell d3 (by simp))
  have D4 := Lib.hid (huq.cell d4 (by simp))
  replace d0 := huq.cell d0 (by simp)
  have HOQ := Lib.hid (HO1.out.upd huq (by simp))
  have HUQ := Lib.hid ((HU0.out.seq HU1.out).seq huq)
  have hin' : isIn strLt l nm = true := hin
  unfold isIn at hin'
  obtain ⟨hkl, hkn⟩ := of_decide_eq_true hin'
  have hai : atI l nm = (below strLt l nm : Int) := by unfold atI; rw [hin]; rfl
  rw [hai]
  have HKN := Lib.hid hkn
  have HDEL : Hid (tDel strLt l nm = l.take (below strLt l nm) ++ l.drop (below strLt l nm + 1)) := by unfold Hid tDel; rw [hin]; rfl
  obtain ⟨k, hk⟩ : ∃ k, below strLt l nm = k := ⟨_, rfl⟩
  have HK := Lib.hid hk
  rw [hk] at hkl ⊢
  obtain ⟨hco, hlco⟩ : co ≤ 9223372036854775807 ∧ l.length ≤ co := by
    obtain ⟨a', k', he, h1, h2, -⟩ := HO1.out.rd owCells_len
    have := (Value.slice.inj he).2.2
    subst this; unfold maxLen at h2; exact ⟨by omega, h1⟩
  have HSQ : Hid (w.heap.size ≤ wq.heap.size) := HUQ.out.size
  have HIN := Lib.hid hin
  have p0 : (0 : Int) ≤ k := by omega
  have p1 : (k : Int) < l.length := by omega
  have p2 : (k : Int) + 1 ≤ l.length := by omega
  have p3 : (0 : Int) ≤ (k : Int) + 1 := by omega
  have hwr : IntKind.i64.wrap ((k : Int) + 1) = (k : Int) + 1 := by rw [IntKind.wrap_i64]; omega
  clear d1 d2 d3 d4 huq HO1 HU1 HB1 HB0 hin hin' hkn hai hk
  obtain ⟨g, rfl, hg1, hg2, Cg, fg, hgt⟩ := HOQ.out.addrR (by omega) rfl
  have hne2 : ¬ g = w.heap.size := by omega
  obtain ⟨⟨xn, ⟨oa, on, ok⟩, old⟩, hx⟩ : ∃ x, nth l k = x := ⟨_, rfl⟩
  have hxm : (xn, ((⟨oa, on, ok⟩ : Sl), old)) ∈ l := by rw [← hx, nth_get l k hkl]; exact List.getElem_mem _
  have hxn : xn = nm := by have := HKN.out; rw [HK.out, hx] at this; exact this
  subst hxn
  have HOLD : Hid (Bytes wq (.slice oa on ok) old) := (H.out.dat _ hxm).upd0 HUQ.out
  have hon : on = old.length := by
    obtain ⟨a', k', he, -⟩ := HOLD.out
    exact (Value.slice.inj he).2.1
  subst hon
  have hok : ok ≤ 9223372036854775807 ∧ old.length ≤ ok := by
    obtain ⟨a', k', he, h1, h2, -⟩ := HOLD.out
    have := (Value.slice.inj he).2.2
    subst this; unfold maxLen at h2; exact ⟨by omega, h1⟩
  obtain ⟨hok, hok2⟩ := hok
  have HX := Lib.hid hx
  have CR : Hid (wq.cell? ⟨g, k * 2 + 1, none⟩ = some (.slice oa old.length ok)) := by
    have := HOQ.out.cellR owCells_len k 1 hkl (by omega)
    rw [hx] at this; exact this
  have FR : Hid (∀ W, Upd [] wq W → W.frozen? ⟨g, k * 2 + 1, none⟩ = false) := fun W hW => (HOQ.out.upd hW (by simp)).frozenR _
  have HGT : Hid (∀ b, (∃ C f, wq.heap[b]? = some (.cells C 5 f)) → b ≠ g) := fun b hb he => by
    obtain ⟨C, f, hb⟩ := hb
    subst he
    exact absurd (ty_eq hb hgt) (by decide)
  have HG1 := Lib.hid hg1
  have HG2 := Lib.hid hg2
  have HXM := Lib.hid hxm
  clear hgt hg1 hx hxm hg2
  obtain rfl : old = old0 := by rw [← hold0, HK.out, HX.out]
  clear hold0
  have HOL0 : Hid (Bytes w (.slice oa old.length ok) old) := H.out.dat _ HXM.out
  have HOR0 : Hid (∀ x ∈ blk (.slice oa old.length ok), x ∈ R) := H.out.dR _ HXM.out
  have c1 := CR.out
  have HR2 := Lib.hid (HOQ.out.rd owCells_len)
  generalize wq = w2 at *
  have hb : k ≤ l.length := by omega
  have HA1 : Hid (∀ (W : World) (G : Nat), w2.heap.size ≤ G → Upd [] w2 W → Blk W G 132 [] → ∃ v' w', (Builtin.append_ #[42, 42] 42 #[.slice (some ⟨G, 0, none⟩) 0 0, .slice (some ⟨g, 0, none⟩) k co]).run Tryz.prog W = .ok v' w' ∧ (OwnN 2 owCells w2.heap.size 132 w' v' (l.take k) ∧ Upd [G] W w' ∧ Upd [] w2 w' ∧ ∃ a1 k1, v' = .slice a1 k k1)) := by
    intro W G hG hU hB
    obtain ⟨v', w', h1, h2, h3, h4⟩ := run_appN (P := Tryz.prog) (ty := 42) (base := w2.heap.size) owCells_len (by decide) owCells_one undOW infoOW rfl _ (.slice (some ⟨g, 0, none⟩) k co) [] (l.take k) (ownN_emptyR 2 owCells _ _ W G hG hB) ((HR2.out.takeR k hb).upd0 owCells_len hU) (by simp; omega) (by unfold maxLen; simp; omega) hU.size
    rw [List.nil_append] at h2
    obtain ⟨a1, k1, h5, _⟩ := h2.rd owCells_len
    exact ⟨v', w', h1, h2, h3, hU.trans h3 (by simp) (fun y hy => .inr (by simp [blk] at hy; omega)), a1, k1, by rw [h5, List.length_take, Nat.min_eq_left hb]⟩
  obtain ⟨D, hD, hcutD⟩ : ∃ D : Option Addr, D = (if co = k + 1 then (some ⟨g, 0, none⟩) else (some ⟨g, 0, none⟩ : Option Addr).map (·.add ((k + 1) * 2))) ∧ ∀ W, (Instr.slice 42 (.slice (some ⟨g, 0, none⟩) l.length co) (some (.int .i64 ((k : Int) + 1))) none none).run Tryz.prog W = .ok (.slice D (l.length - (k + 1)) (co - (k + 1))) W := ⟨_, rfl, fun W => by have h := run_cut (P := Tryz.prog) undOW sizeOW (some ⟨g, 0, none⟩) l.length co (k + 1) (by omega) W; simpa using h⟩
  have HD : Hid (RdN 2 owCells w2 (.slice D (l.length - (k + 1)) (co - (k + 1))) (l.drop (k + 1))) := by unfold Hid; rw [hD]; exact HR2.out.dropR (k + 1) (by omega)
  have HA3 : Hid (∀ (W : World) (a2 : Option Addr) (k2 : Nat), OwnN 2 owCells w2.heap.size 132 W (.slice a2 (k) k2) (l.take k) → Upd [] w2 W → ∃ v' w', (Builtin.append_ #[42, 42] 42 #[.slice a2 (k) k2, (.slice D (l.length - (k + 1)) (co - (k + 1)))]).run Tryz.prog W = .ok v' w' ∧ (OwnN 2 owCells w2.heap.size 132 w' v' (l.take k ++ l.drop (k + 1)) ∧ Upd [] w2 w' ∧ ∃ a3 n3 k3, v' = .slice a3 n3 k3)) := by
    intro W a2 k2 hO hU
    obtain ⟨v', w', h1, h2, h3, h4⟩ := run_appN (P := Tryz.prog) (ty := 42) (base := w2.heap.size) owCells_len (by decide) owCells_one undOW infoOW rfl _ (.slice D (l.length - (k + 1)) (co - (k + 1))) (l.take k) (l.drop (k + 1)) hO (HD.out.upd0 owCells_len hU) (by simp; omega) (by unfold maxLen; simp; omega) hU.size
    obtain ⟨a3, k3, h5, _⟩ := h2.rd owCells_len
    exact ⟨v', w', h1, h2, hU.trans h3 (by simp) (fun y hy => .inr (hO.ge y hy).1), a3, _, k3, h5⟩
  clear hD
  have hcutA : ∀ W, (Instr.slice 42 (.slice (some ⟨g, 0, none⟩) l.length co) none (some (.int .i64 (k : Int))) none).run Tryz.prog W = .ok (.slice (some ⟨g, 0, none⟩) k co) W := fun W => run_cut_h (P := Tryz.prog) undOW sizeOW (some ⟨g, 0, none⟩) l.length co k (by omega) W
  go_wp2_with fail
  go_region_held3 (fun w' => True) (trivial) (first
        | ((refine step_app_of rfl (.tmp 78) (.tmp 82) rfl (.slice a1 k k1) (.slice D (l.length - (k + 1)) (co - (k + 1))) (by rfl) (by rfl) (HA3.out _ a1 k1 ?_ ?_) ?_); (refine OwnN.upd (S := []) ho3 ?_ (by simp); (repeat (first | exact Upd.refl _ _ | apply Upd.drew | apply Upd.drewN | apply Upd.alloc))); (refine hu23.seq ?_; (repeat (first | exact Upd.refl _ _ | apply Upd.drew | apply Upd.drewN | apply Upd.alloc))); (rintro v3 w5 ⟨ho5, hu5, a3, n3, k3, rfl⟩; skip; dsimp only))
        | ((refine step_app_of rfl (.tmp 74) (.tmp 77) rfl (.slice (some ⟨w2.heap.size, 0, none⟩) 0 0) (.slice (some ⟨g, 0, none⟩) k co) (by rfl) (by rfl) (HA1.out _ (w2.heap.size) (by omega) ?_ ?_) ?_); (repeat (first | exact Upd.refl _ _ | apply Upd.drew | apply Upd.drewN | apply Upd.alloc)); (refine Blk.fresh (w := w2) (C := #[]) (xs := []) rfl rfl ?_; (repeat (first | exact Upd.refl _ _ | apply Upd.drew | apply Upd.drewN | apply Upd.alloc))); (rintro v1 w3 ⟨ho3, hu3, hu23, a1, k1, rfl⟩; skip; dsimp only)))
  all_goals
    obtain ⟨LD, hLD⟩ : ∃ LD, tDel strLt l xn = LD := ⟨_, rfl⟩
    have hset := HDEL.out
    rw [HK.out, hLD] at hset
    rw [← hset] at ho5
    have hn3 : n3 = LD.length := by
      obtain ⟨a', k', he, -⟩ := ho5.rd owCells_len
      exact (Value.slice.inj he).2.1
    subst hn3
    have HO5 := Lib.hid ho5
    have HU5 := Lib.hid hu5
    have HLD := Lib.hid hLD
    have HDL : Hid (dfOf LD = tDel strLt (dfOf l) xn) := by unfold Hid; rw [← hLD, df_del]
    have HRD : Hid (Rising strLt LD) := by unfold Hid; rw [← hLD]; exact H.out.ris.del strOrd _
    have HML : Hid (∀ c ∈ LD, c ∈ l) := fun c hc => by rw [← hLD] at hc; exact tDel_mem l xn c hc
    have HLL : Hid (LD.length ≤ 10000) := by unfold Hid; rw [← hLD]; have := tDel_len (lt := strLt) l xn; omega
    have e2 := hu5.cell D2.out (by simp)
    have E2 := Lib.hid e2
    have hk3 : k3 ≤ 9223372036854775807 ∧ LD.length ≤ k3 := by
      obtain ⟨a', k', he, h1, h2, -⟩ := ho5.rd owCells_len
      have := (Value.slice.inj he).2.2
      subst this; unfold maxLen at h2; exact ⟨by omega, h1⟩
    obtain ⟨hk3, hk3'⟩ := hk3
    have HSZ5 : Hid (w.heap.size ≤ w5.heap.size) := ((HUQ.out.seq hu5)).size
    clear ho5 hu5 hset hLD c1 hcutA hcutD
    go_wp2_with fail
    (with_reducible refine (rdAt_any w5 _ LD tn (HO5.out.rd owCells_len) HRD.out (by have := HLL.out; omega)).mono ?_)
    rintro e w6 ⟨rfl, hu6⟩
    have HO6 := Lib.hid (HO5.out.upd hu6 (by simp))
    have HU6 := Lib.hid ((HUQ.out.seq HU5.out).seq hu6)
    replace e2 := hu6.cell e2 (by simp)
    have HDAT : Hid (∀ c ∈ LD, Bytes w6 (slv c.2.1) c.2.2 ∧ (∀ x ∈ blk (slv c.2.1), x ∈ R ∨ (w.heap.size ≤ x ∧ x < w6.heap.size))) := fun c hc => ⟨(H.out.dat c (HML.out c hc)).upd0 HU6.out, fun x hx => .inl (H.out.dR c (HML.out c hc) x hx)⟩
    clear hu6
    cases hti : isIn strLt LD tn with
    | true =>
      have hai : atI LD tn = (below strLt LD tn : Int) := by unfold atI; rw [hti]; rfl
      rw [hai]
      have hti' := hti
      unfold isIn at hti'
      obtain ⟨hkl2, -⟩ := of_decide_eq_true hti'
      obtain ⟨kk, hkk⟩ : ∃ kk, below strLt LD tn = kk := ⟨_, rfl⟩
      have HKK := Lib.hid hkk
      rw [hkk] at hkl2 ⊢
      obtain ⟨g3, rfl, hg3, hg3', -⟩ := HO6.out.addrR (by omega) rfl
      have z0 : ¬ (kk : Int) < 0 := by omega
      have z1 : (0 : Int) ≤ kk := by omega
      have z2 : (kk : Int) < LD.length := by omega
      have s0 : w6.cell? ⟨g3, kk * 2 + 1, none⟩ = some (slv (nth LD kk).2.1) := by
        have := HO6.out.cellR owCells_len kk 1 hkl2 (by omega)
        exact this
      have f0 := HO6.out.frozenR (kk * 2 + 1)
      have HTI := Lib.hid hti
      have HFIN := Lib.hid (ren_fin H.out (tn := tn) (kk := kk) HO6.out (by have := HSQ.out; omega) HU6.out (fun c hc => ⟨(HDAT.out c hc).1, (HDAT.out c hc).2, fun hne x hx he => by have h1 := (H.out.dat c (HML.out c hc)).lt hne x hx; have h2 := HSQ.out; omega⟩) HOL0.out HOR0.out hti hkk HRD.out)
      generalize slv (nth LD kk).2.1 = sv0 at *
      clear hti hti' hai hkk
      go_wp2_with fail
      go_ret
      have := HFIN.out
      rw [HDL.out] at this
      exact this
    | false =>
      have hai : atI LD tn = -1 := by unfold atI; rw [hti]; rfl
      rw [hai]
      have HTI := Lib.hid hti
      have HRL : Hid (RL w6 (R ++ blk (.slice a3 LD.length k3)) (.slice a3 LD.length k3) LD) := ⟨HO6.out.rd owCells_len, fun x hx => by simp [hx], fun c hc => (HDAT.out c hc).1, fun c hc x hx => by simp [H.out.dR c (HML.out c hc) x hx], HRD.out⟩
      have HB3 : Hid (∀ x ∈ blk (.slice a3 LD.length k3), w.heap.size ≤ x ∧ x < w6.heap.size) := fun x hx => by have h1 := HO6.out.ge x hx; have h2 := HSQ.out; exact ⟨by omega, h1.2⟩
      clear hti hai
      go_wp2_with fail
      (with_reducible refine (rMade_1 tn ⟨#[]⟩ [] 0 none 0 0 HRL.out HLL.out HTI.out).mono ?_)
      rintro e w7 ⟨v7, R7, L7, rfl, hrl7, ho7, hd7, hu7, hR7, hR7', hne7⟩
      have hin7 : isIn strLt L7 tn = true := by rw [← in_df, hd7]; exact in_set (mapS_rising' (fun x : Sl × List UInt8 => x.2) HRD.out) tn []
      have hl7 : L7.length ≤ 10001 := by
        have := congrArg List.length hd7
        rw [df_len] at this
        have h2 := tSet_len (lt := strLt) (dfOf LD) tn []
        rw [df_len] at h2
        have := HLL.out
        omega
      obtain ⟨a7, c7, rfl, hk7', hk7, -⟩ := ho7.rd owCells_len
      have hk7b : c7 ≤ 9223372036854775807 := by unfold maxLen at hk7; omega
      have HO7 := Lib.hid ho7
      have HRL7 := Lib.hid hrl7
      have HD7 := Lib.hid hd7
      have HU7 := Lib.hid (HU6.out.seq hu7)
      have HS67 : Hid (w6.heap.size ≤ w7.heap.size) := hu7.size
      have HR7' := Lib.hid hR7'
      have HNE7 := Lib.hid hne7
      have HIN7 := Lib.hid hin7
      have e7 := hu7.cell e2 (by simp)
      have HS6 : Hid (w.heap.size ≤ w6.heap.size) := HU6.out.size
      have HL7 : Hid (L7.length ≤ 100000) := by unfold Hid; omega
      clear hrl7 ho7 hd7 hu7 hR7 hR7' hne7 hin7 e2 hk7
      go_wp2_with fail
      (with_reducible refine (rdAt_any w7 _ L7 tn HRL7.out.row HRL7.out.ris HL7.out).mono ?_)
      rintro e w8 ⟨rfl, hu8⟩
      have hti' := HIN7.out
      unfold isIn at hti'
      obtain ⟨hkl2, -⟩ := of_decide_eq_true hti'
      have hai : atI L7 tn = (below strLt L7 tn : Int) := by unfold atI; rw [HIN7.out]; rfl
      rw [hai]
      obtain ⟨kk, hkk⟩ : ∃ kk, below strLt L7 tn = kk := ⟨_, rfl⟩
      have HKK := Lib.hid hkk
      rw [hkk] at hkl2 ⊢
      have HO8 := Lib.hid (HO7.out.upd hu8 (by simp))
      obtain ⟨g8, rfl, hg8, hg8', -⟩ := HO8.out.addrR (by omega) rfl
      have z1 : (0 : Int) ≤ kk := by omega
      have z2 : (kk : Int) < L7.length := by omega
      have s0 : w8.cell? ⟨g8, kk * 2 + 1, none⟩ = some (slv (nth L7 kk).2.1) := by
        have := HO8.out.cellR owCells_len kk 1 hkl2 (by omega)
        exact this
      have f0 := HO8.out.frozenR (kk * 2 + 1)
      have HFIN := Lib.hid (ren_fin H.out (tn := tn) (kk := kk) HO8.out HS6.out (HU7.out.seq hu8) (fun c hc => ⟨(HRL7.out.dat c hc).upd0 hu8, fun x hx => by
        rcases HR7'.out x (HRL7.out.dR c hc x hx) with q | q
        · rcases List.mem_append.1 q with r | r
          · exact .inl r
          · have h1 := HB3.out x r
            have h2 := HS67.out
            have h3 := hu8.size
            exact .inr ⟨h1.1, by omega⟩
        · have h3 := hu8.size
          exact .inr ⟨by have := HS6.out; omega, by omega⟩, fun hne x hx he => HNE7.out c hc hne x hx (by simp [blk, he])⟩) HOL0.out HOR0.out HIN7.out hkk HRL7.out.ris)
      generalize slv (nth L7 kk).2.1 = sv0 at *
      clear hti' hai hkk hu8
      go_wp2_with fail
      go_ret
      have := HFIN.out
      rw [HD7.out, set_set (mapS_rising' (fun x : Sl × List UInt8 => x.2) HRD.out)] at this
      have : RDoes w R (tSet strLt (dfOf LD) tn old) _ _ := this
      rw [HDL.out] at this
      exact this
end
end Go.Proofs.YtmhojaiajhdlcaaGreat
namespace Go.Proofs.YtmhojaiajhdlcaaGreat
open Go.RowKit
set_option linter.unusedSimpArgs false
set_option linter.unusedVariables false
set_option linter.unusedSectionVars false
theorem isIn_dfOf (l : List OW) (k : ByteArray) : isIn strLt l k = inD (dfOf l) k := (in_df l k).symm
theorem rMade_any {w : World} {R : List Nat} {v : Value} {l : List OW} (x : Wr) (sl : Sl) (h : RL w R v l) (hx : WrOk x (dfOf l)) (hp : Bytes w (slv sl) x.p) (ht : dTotal (dfOf l) ≤ 16777216) :
    Calls Tryz.prog 80 #[v, wrv x sl] w (RDoes w R (wApply x (dfOf l))) := by
  have hlen : l.length ≤ 10000 := by have := hx.len; rw [df_len] at this; omega
  have hkd := hx.kd
  have hhas := hx.has
  have hnew := hx.new
  have hput := hx.put
  have hcut := hx.cut
  have hgt := get_le_total (dfOf l) x.nm
  obtain ⟨kd, nm, tn, p, n⟩ := x
  obtain ⟨pa, pn, pk⟩ := sl
  dsimp only at hkd hhas hnew hput hcut hgt
  rcases (show kd = 1 ∨ kd = 2 ∨ kd = 3 ∨ kd = 4 ∨ kd = 5 by omega) with rfl | rfl | rfl | rfl | rfl
  · rw [wApply_1]
    exact rMade_1 nm tn p n pa pn pk h hlen (by rw [isIn_dfOf]; exact hnew rfl)
  · have hin : isIn strLt l nm = true := by rw [isIn_dfOf]; exact hhas (by decide)
    have hg := get_df l nm hin
    rw [wApply_2, hg]
    have hb := (hput rfl).2
    rw [hg] at hb
    dsimp only at hb ⊢
    exact rMade_2 nm tn p n pa pn pk h hlen hp hin _ rfl (by omega)
  · have hin : isIn strLt l nm = true := by rw [isIn_dfOf]; exact hhas (by decide)
    have hg := get_df l nm hin
    rw [wApply_3, hhas (by decide), if_pos rfl, hg]
    dsimp only
    exact rMade_3 nm tn p n pa pn pk h hlen hin _ rfl
  · have hin : isIn strLt l nm = true := by rw [isIn_dfOf]; exact hhas (by decide)
    have hg := get_df l nm hin
    obtain ⟨h0, hle⟩ := hcut rfl
    rw [hg] at hle
    obtain ⟨m, rfl⟩ := Int.eq_ofNat_of_zero_le h0
    rw [wApply_4, hg, Int.toNat_natCast]
    rw [hg] at hgt
    dsimp only at hle hgt ⊢
    exact rMade_4 nm tn p m pa pn pk h hlen hin _ rfl (by omega) (by omega)
  · rw [wApply_5]
    exact rMade_5 nm tn p n pa pn pk h hlen (by rw [isIn_dfOf]; exact hhas (by decide))
/-- The document's disk at gr. -/
structure RC (w0 w : World) (gr : Nat) (R : List Nat) (nv mv : Sl) (ln lm : List OW) (ov : Value) (ops : List LW) : Prop where
  dk : Blk w gr 45 [slv nv, slv mv, ov]
  grb : w0.heap.size ≤ gr
  grR : gr ∉ R
  now : RL w R (slv nv) ln
  mark : RL w R (slv mv) lm
  opw : OwnN 5 lwCells w0.heap.size 119 w ov ops
  odat : ∀ x ∈ ops, Bytes w (slv x.2) x.1.p
  oR : ∀ x ∈ ops, ∀ y ∈ blk (slv x.2), y ∈ R
  oap : Ap (blk ov) R
  old : Upd [] w0 w
  Rlt : ∀ x ∈ R, w0.heap.size ≤ x ∧ x < w.heap.size
def rfoot (gr : Nat) (R : List Nat) (ov : Value) : List Nat := gr :: (R ++ blk ov)
theorem rfoot_mem (gr : Nat) (R : List Nat) (ov : Value) (x : Nat) : x ∈ rfoot gr R ov ↔ x = gr ∨ x ∈ R ∨ x ∈ blk ov := by
  unfold rfoot
  simp only [List.mem_cons, List.mem_append]
section
variable {w0 w w' : World} {gr : Nat} {R : List Nat} {nv mv : Sl} {ln lm : List OW} {ov : Value} {ops : List LW}
theorem RC.upd (h : RC w0 w gr R nv mv ln lm ov ops) {S : List Nat} (hu : Upd S w w') (hs : ∀ x ∈ rfoot gr R ov, x ∉ S) (hS : ∀ x ∈ S, w0.heap.size ≤ x) : RC w0 w' gr R nv mv ln lm ov ops :=
  have hR : ∀ x ∈ R, x ∉ S := fun x hx => hs x ((rfoot_mem _ _ _ _).2 (.inr (.inl hx)))
  ⟨h.dk.upd hu (hs gr ((rfoot_mem _ _ _ _).2 (.inl rfl))), h.grb, h.grR, h.now.upd hu hR, h.mark.upd hu hR, h.opw.upd hu (fun x hx => hs x ((rfoot_mem _ _ _ _).2 (.inr (.inr hx)))), fun x hx => (h.odat x hx).upd hu (fun y hy => hR y (h.oR x hx y hy)), h.oR, h.oap, h.old.trans hu (by simp) (fun x hx => .inr (hS x hx)), fun x hx => ⟨(h.Rlt x hx).1, by have := (h.Rlt x hx).2; have := hu.size; omega⟩⟩
theorem RC.upd0 (h : RC w0 w gr R nv mv ln lm ov ops) (hu : Upd [] w w') : RC w0 w' gr R nv mv ln lm ov ops := h.upd hu (by simp) (by simp)
theorem RC.ge (h : RC w0 w gr R nv mv ln lm ov ops) : ∀ x ∈ rfoot gr R ov, w0.heap.size ≤ x ∧ x < w.heap.size := by
  intro x hx
  rcases (rfoot_mem _ _ _ _).1 hx with rfl | hx | hx
  · exact ⟨h.grb, h.dk.lt⟩
  · exact h.Rlt x hx
  · exact h.opw.ge x hx
theorem RC.nops (h : RC w0 w gr R nv mv ln lm ov ops) : gr ∉ blk ov := fun hx => by
  obtain ⟨C, f, h1⟩ := h.opw.typ gr hx
  exact absurd (ty_eq h1 h.dk) (by decide)
end
/-- The document's disk, as the laws see it; G: its blocks. -/
structure RD (w0 w : World) (gr : Nat) (G : List Nat) (s : DS) : Prop where
  ex : ∃ R nv mv ln lm ov ops, RC w0 w gr R nv mv ln lm ov ops ∧ s = ⟨dfOf ln, dfOf lm, ops.map (·.1)⟩ ∧ DOk s ∧ G = rfoot gr R ov
def ROut (w0 w : World) (gr : Nat) (G : List Nat) (s' : DS) (w' : World) : Prop := ∃ G', RD w0 w' gr G' s' ∧ Upd G w w' ∧ (∀ x ∈ G', x ∈ G ∨ w.heap.size ≤ x)
section
variable {w0 w w' : World} {gr : Nat} {G : List Nat} {s : DS}
theorem RD.old (h : RD w0 w gr G s) : Upd [] w0 w := by
  obtain ⟨R, nv, mv, ln, lm, ov, ops, hc, -⟩ := h.ex
  exact hc.old
theorem RD.ge (h : RD w0 w gr G s) : ∀ x ∈ G, w0.heap.size ≤ x ∧ x < w.heap.size := by
  obtain ⟨R, nv, mv, ln, lm, ov, ops, hc, -, -, rfl⟩ := h.ex
  exact hc.ge
theorem RD.ok (h : RD w0 w gr G s) : DOk s := by
  obtain ⟨R, nv, mv, ln, lm, ov, ops, hc, -, ho, -⟩ := h.ex
  exact ho
theorem RD.upd (h : RD w0 w gr G s) {S : List Nat} (hu : Upd S w w') (hs : ∀ x ∈ G, x ∉ S) (hS : ∀ x ∈ S, w0.heap.size ≤ x) : RD w0 w' gr G s := by
  obtain ⟨R, nv, mv, ln, lm, ov, ops, hc, e, ho, rfl⟩ := h.ex
  exact ⟨R, nv, mv, ln, lm, ov, ops, hc.upd hu hs hS, e, ho, rfl⟩
theorem RD.upd0 (h : RD w0 w gr G s) (hu : Upd [] w w') : RD w0 w' gr G s := h.upd hu (by simp) (by simp)
theorem RD.out0 (h : RD w0 w gr G s) (hu : Upd [] w w') : ROut w0 w gr G s w' := ⟨G, h.upd0 hu, hu.mono (by simp), fun x hx => .inl hx⟩
theorem ROut.later {w1 : World} (hu : Upd [] w w1) (h : ROut w0 w1 gr G s w') : ROut w0 w gr G s w' := by
  obtain ⟨G', h1, h2, h3⟩ := h
  exact ⟨G', h1, hu.trans h2 (by simp) (fun x hx => .inl hx), fun x hx => (h3 x hx).imp id (fun q => by have := hu.size; omega)⟩
end
end Go.Proofs.YtmhojaiajhdlcaaGreat
namespace Go.Proofs.YtmhojaiajhdlcaaGreat
open Go.RowKit
set_option linter.unusedSimpArgs false
set_option linter.unusedVariables false
theorem infoROp : (Tryz.prog.info? 119).map (fun i => (i.zero, i.size, i.bytes)) = some (some (.agg #[.int .i64 0, .string ⟨#[]⟩, .string ⟨#[]⟩, .slice none 0 0, .int .i64 0]), 5, 72) := by kernel_rfl
theorem undROp : Tryz.prog.underlying 43 = some (.slice 119) := by kernel_rfl
section
variable {w0 w w' : World} {gr : Nat} {R : List Nat} {nv mv : Sl} {ln lm : List OW} {ov : Value} {ops : List LW}
theorem RC.setNow (h : RC w0 w gr R nv mv ln lm ov ops) {R' : List Nat} {nv' : Sl} {l' : List OW} (h2 : RL w' R' (slv nv') l') (hu : Upd [] w w') (hR : ∀ x ∈ R, x ∈ R') (hR' : ∀ x ∈ R', x ∈ R ∨ (w.heap.size ≤ x ∧ x < w'.heap.size)) :
    RC w0 (w'.setCell ⟨gr, 0, none⟩ (slv nv')) gr R' nv' mv l' lm ov ops := by
  have hst : Upd [gr] w' (w'.setCell ⟨gr, 0, none⟩ (slv nv')) := (Upd.refl [gr] _).setCell _ _ (.inl (by simp))
  have hl := h.dk.lt
  have hgR : gr ∉ R' := fun hx => by
    rcases hR' gr hx with q | q
    · exact h.grR q
    · omega
  have hn : ∀ x ∈ R', x ∉ [gr] := fun x hx hy => by simp at hy; subst hy; exact hgR hx
  have hb := (h.dk.upd hu (by simp)).set_ 0 (slv nv')
  have hall : Upd [gr] w (w'.setCell ⟨gr, 0, none⟩ (slv nv')) := hu.trans hst (by simp) (fun x hx => .inl hx)
  have hm := (h.mark.upd0 hu).upd hst (fun x hx hy => hn x (hR x hx) hy)
  have hsz := hu.size
  refine ⟨hb, h.grb, hgR, h2.upd hst hn, ⟨hm.row, fun x hx => hR x (hm.vR x hx), hm.dat, fun c hc x hx => hR x (hm.dR c hc x hx), hm.ris⟩, h.opw.upd hall (fun x hx hy => h.nops (by simp at hy; rw [← hy]; exact hx)), fun x hx => (h.odat x hx).upd hall (fun y hy hy' => h.grR (by simp at hy'; rw [← hy']; exact h.oR x hx y hy)), fun x hx y hy => hR y (h.oR x hx y hy), fun x hx hy => ?_, h.old.trans hall (by simp) (fun x hx => .inr (by simp at hx; subst hx; exact h.grb)), fun x hx => ?_⟩
  · rcases hR' x hy with q | q
    · exact h.oap x hx q
    · have := (h.opw.ge x hx).2; omega
  · rcases hR' x hx with q | q
    · have := h.Rlt x q; exact ⟨this.1, by simp; omega⟩
    · have := h.old.size; exact ⟨by omega, by simpa using q.2⟩
set_option maxRecDepth 20000 in
set_option maxHeartbeats 4000000 in
theorem rDoC_any (x : Wr) (sl : Sl) (h : RC w0 w gr R nv mv ln lm ov ops) (hx : WrOk x (dfOf ln)) (ht : dTotal (dfOf ln) ≤ 16777216) (hp : Bytes w (slv sl) x.p) (hpR : ∀ y ∈ blk (slv sl), y ∈ R) (hl : ops.length ≤ 1000000000) :
    Calls Tryz.prog 71 #[.pointer (some ⟨gr, 0, none⟩), wrv x sl] w fun e w' => e = .returned (.tuple #[]) ∧ ∃ R' nv' ln' ov', RC w0 w' gr R' nv' mv ln' lm ov' (ops ++ [(x, sl)]) ∧ dfOf ln' = wApply x (dfOf ln) ∧ Upd (rfoot gr R ov) w w' ∧ (∀ y ∈ rfoot gr R' ov', y ∈ rfoot gr R ov ∨ w.heap.size ≤ y) := by
  obtain ⟨ao, co, rfl, hlc, hcm, -⟩ := h.opw.rd lwCells_len
  obtain ⟨kd, nm, tn, p, n⟩ := x
  obtain ⟨pa, pn, pk⟩ := sl
  obtain ⟨na, nn, nk⟩ := nv
  have hu1 : Upd [] w (w.alloc (.cells #[.int .i64 kd, sv nm, sv tn, .slice pa pn pk, .int .i64 n] 119)) := (Upd.refl [] w).alloc _
  have H1 := Lib.hid (h.upd0 hu1)
  have HBX := Lib.hid (Blk.new w 119 [.int .i64 kd, sv nm, sv tn, .slice pa pn pk, .int .i64 n])
  have HGE := Lib.hid h.ge
  have HX := Lib.hid hx
  have HT := Lib.hid ht
  have HP : Hid (Bytes (w.alloc (.cells #[.int .i64 kd, sv nm, sv tn, .slice pa pn pk, .int .i64 n] 119)) (.slice pa pn pk) p) := Rd.upd0 hp hu1
  have HPR := Lib.hid hpR
  have HU1 := Lib.hid hu1
  have hgr : gr < w.heap.size := h.dk.lt
  clear h hx hp hu1 ht hpR
  go_enter Tryz.func71, Tryz.ntmps71
  go_wp2_with fail
  have d0 := HBX.out.cell 0
  have d1 := HBX.out.cell 1
  have d2 := HBX.out.cell 2
  have d3 := HBX.out.cell 3
  have d4 := HBX.out.cell 4
  simp only [List.getElem?_cons_zero, List.getElem?_cons_succ] at d0 d1 d2 d3 d4
  have HW1 : Hid (w.heap.size < (w.alloc (.cells #[.int .i64 kd, sv nm, sv tn, .slice pa pn pk, .int .i64 n] 119)).heap.size) := HBX.out.lt
  generalize w.alloc (.cells #[.int .i64 kd, sv nm, sv tn, .slice pa pn pk, .int .i64 n] 119) = w1 at *
  have c0 : w1.cell? ⟨gr, 0, none⟩ = some (.slice na nn nk) := H1.out.dk.cell 0
  have hpp : Bytes w1 (slv ⟨pa, pn, pk⟩) p := HP.out
  have HMD := Lib.hid (fun (W : World) (hW : Upd [] w1 W) => rMade_any ⟨kd, nm, tn, p, n⟩ ⟨pa, pn, pk⟩ (H1.out.now.upd0 hW) HX.out (Rd.upd0 hpp hW) HT.out)
  clear hpp
  go_region_with (first
    | (go_at_call 80; (with_reducible refine (HMD.out _ ?_).mono ?_); (repeat (first | exact Upd.refl _ _ | apply Upd.drew)); (rintro e w2 ⟨v2, R2, l2, rfl, h2, ho2, hd2, hu2, hR2, hR2', hne2⟩; obtain ⟨a2, k2, rfl, -⟩ := ho2.rd owCells_len; have hu3 := (Upd.refl [] w1).drew.seq hu2; have hdk2 := H1.out.dk.upd hu3 (by simp); have c2 : w2.cell? ⟨gr, 0, none⟩ = some (.slice na nn nk) := hdk2.cell 0; have f2 := hdk2.frozen 0; dsimp only)))
  all_goals
    have H3 := Lib.hid (H1.out.setNow (nv' := ⟨a2, l2.length, k2⟩) h2 hu3 hR2 (fun x hx => (hR2' x hx).imp id (fun q => ⟨q.1, q.2⟩)))
    have hb3 : Blk (w2.setCell ⟨gr, 0, none⟩ (.slice a2 l2.length k2)) w.heap.size 119 [.int .i64 kd, sv nm, sv tn, .slice pa pn pk, .int .i64 n] := (HBX.out.upd hu3 (by simp)).upd ((Upd.refl [gr] w2).setCell _ _ (.inl (by simp))) (by simp; omega)
    have HU3 : Hid (Upd [gr] w (w2.setCell ⟨gr, 0, none⟩ (.slice a2 l2.length k2))) := (HU1.out.seq hu3).trans ((Upd.refl [gr] w2).setCell _ _ (.inl (by simp))) (by simp) (fun x hx => .inl hx)
    have HD2 := Lib.hid hd2
    have HR3 : Hid (∀ x ∈ R2, x ∈ R ∨ w.heap.size ≤ x) := fun x hx => (hR2' x hx).imp id (fun q => by have h1 := q.1; have h2 := HU1.out.size; have h3 : w1.drew.heap.size = w1.heap.size := rfl; omega)
    have HRR := Lib.hid hR2
    have HPX : Hid (Bytes (w2.setCell ⟨gr, 0, none⟩ (.slice a2 l2.length k2)) (.slice pa pn pk) p) := (HP.out.upd0 hu3).upd ((Upd.refl [gr] w2).setCell _ _ (.inl (by simp))) (fun y hy hy' => H1.out.grR (by simp at hy'; rw [← hy']; exact HPR.out y hy))
    clear h2 ho2 hd2 hu2 hR2 hR2' hne2 hu3 hdk2 c2 f2 c0 d0 d1 d2 d3 d4 HMD HBX H1
    generalize w2.setCell ⟨gr, 0, none⟩ (.slice a2 l2.length k2) = w3 at *
    have d0 := hb3.cell 0
    have d1 := hb3.cell 1
    have d2 := hb3.cell 2
    have d3 := hb3.cell 3
    have d4 := hb3.cell 4
    simp only [List.getElem?_cons_zero, List.getElem?_cons_succ] at d0 d1 d2 d3 d4
    have c2 : w3.cell? ⟨gr, 2, none⟩ = some (.slice ao ops.length co) := H3.out.dk.cell 2
    have f2 : w3.frozen? ⟨gr, 2, none⟩ = false := H3.out.dk.frozen 2
    have c2' : (w3.alloc (Obj.cells #[.int .i64 kd, sv nm, sv tn, .slice pa pn pk, .int .i64 n] 119)).cell? ⟨gr, 2, none⟩ = some (.slice ao ops.length co) := ((Upd.refl [] w3).alloc _).cell c2 (by simp)
    have hua : Upd [] w3 (w3.drew.alloc (.cells #[.int .i64 kd, sv nm, sv tn, .slice pa pn pk, .int .i64 n] 119)) := (Upd.refl [] w3).drew.alloc _
    have HUA := Lib.hid hua
    have HOW := H3.out.opw.upd hua (by simp)
    have hnewb : Blk (w3.drew.alloc (.cells #[.int .i64 kd, sv nm, sv tn, .slice pa pn pk, .int .i64 n] 119)) w3.heap.size 119 [.int .i64 kd, sv nm, sv tn, .slice pa pn pk, .int .i64 n] := Blk.new w3.drew _ _
    have HRD : RdN 5 lwCells (w3.drew.alloc (.cells #[.int .i64 kd, sv nm, sv tn, .slice pa pn pk, .int .i64 n] 119)) (.slice (some ⟨w3.heap.size, 0, none⟩) 1 1) [(⟨kd, nm, tn, p, n⟩, ⟨pa, pn, pk⟩)] := by
      refine ⟨_, 1, rfl, by simp, by simp [maxLen], fun _ => ⟨w3.heap.size, 0, rfl, fun j hj i hi => ?_⟩⟩
      have hj0 : j = 0 := by simpa using hj
      subst hj0
      rw [Nat.zero_mul, Nat.zero_add, Nat.zero_add, hnewb.cell]; rfl
    have hbs : w0.heap.size ≤ (w3.drew.alloc (.cells #[.int .i64 kd, sv nm, sv tn, .slice pa pn pk, .int .i64 n] 119)).heap.size := (H3.out.old.seq hua).size
    have HRUN := Lib.hid (fun ty => run_appN (P := Tryz.prog) (ty := ty) lwCells_len (by decide) lwCells_one undROp infoROp rfl _ _ ops [(⟨kd, nm, tn, p, n⟩, ⟨pa, pn, pk⟩)] HOW HRD (by simp; omega) (by simp [maxLen]; omega) hbs)
    have HDK := Lib.hid (H3.out.dk.upd hua (by simp))
    have HGL := Lib.hid H3.out.nops
    clear hua HOW hnewb HRD hbs hb3
    go_wp2_with fail
    go_region_law (first | ((with_reducible refine step_app_of rfl (.tmp 17) (.tmp 19) rfl (.slice ao ops.length co) (.slice (some ⟨w3.heap.size, 0, none⟩) 1 1) rfl rfl (HRUN.out _) ?_); (rintro v4 w4 ⟨ho4, hu4, hk4⟩; obtain ⟨⟨a4, n4, k4⟩, rfl⟩ := ownN_sl ho4; have hb4 := HDK.out.upd hu4 HGL.out; have c4 : w4.cell? ⟨gr, 2, none⟩ = some (.slice ao ops.length co) := hb4.cell 2; have f4 := hb4.frozen 2; have HB4 := Lib.hid hb4; have HO4 := Lib.hid ho4; have HU4 := Lib.hid hu4; have HK4 := Lib.hid hk4; clear ho4 hu4 hk4 hb4; dsimp only)))
    all_goals
      go_end0
      have hset : Upd [gr] w4 (w4.setCell ⟨gr, 2, none⟩ (.slice a4 n4 k4)) := (Upd.refl [gr] w4).setCell _ _ (.inl (by simp))
      have hlt := H3.out.dk.lt
      have hgv : gr ∉ blk (.slice a4 n4 k4) := fun hy => by
        rcases HK4.out _ hy with q | q
        · exact HGL.out q
        · have := HUA.out.size; omega
      have hw4 : Upd (blk (Value.slice ao ops.length co)) w3 w4 := HUA.out.trans HU4.out (by simp) (fun y hy => .inl hy)
      have hall : Upd (gr :: blk (Value.slice ao ops.length co)) w3 (w4.setCell ⟨gr, 2, none⟩ (.slice a4 n4 k4)) := hw4.trans hset (fun y hy => by simp [hy]) (fun y hy => .inl (by simp at hy; simp [hy]))
      have hRS : ∀ x ∈ R2, x ∉ gr :: blk (Value.slice ao ops.length co) := fun x hx hy => by
        rcases List.mem_cons.1 hy with rfl | q
        · exact H3.out.grR hx
        · exact H3.out.oap x q hx
      have hsz : w3.heap.size ≤ (w4.setCell ⟨gr, 2, none⟩ (.slice a4 n4 k4)).heap.size := hall.size
      refine ⟨rfl, R2, ⟨a2, l2.length, k2⟩, l2, .slice a4 n4 k4, ⟨HB4.out.set_ 2 _, H3.out.grb, H3.out.grR, H3.out.now.upd hall hRS, H3.out.mark.upd hall hRS, ?_, ?_, ?_, ?_, ?_, ?_⟩, HD2.out, ?_, ?_⟩
      · exact HO4.out.upd hset (fun x hx hy => hgv (by simp at hy; rw [← hy]; exact hx))
      · intro y hy
        rcases List.mem_append.1 hy with q | q
        · exact (H3.out.odat y q).upd hall (fun z hz => hRS z (H3.out.oR y q z hz))
        · simp at q; subst q; exact HPX.out.upd hall (fun z hz => hRS z (HRR.out z (HPR.out z hz)))
      · intro y hy z hz
        rcases List.mem_append.1 hy with q | q
        · exact H3.out.oR y q z hz
        · simp at q; subst q; exact HRR.out z (HPR.out z hz)
      · intro x hx hy
        rcases HK4.out x hx with q | q
        · exact H3.out.oap x q hy
        · have h1 := (H3.out.Rlt x hy).2; have := HUA.out.size; omega
      · refine H3.out.old.trans hall (by simp) (fun x hx => .inr ?_)
        rcases List.mem_cons.1 hx with rfl | q
        · exact H3.out.grb
        · exact (H3.out.opw.ge x q).1
      · exact fun x hx => ⟨(H3.out.Rlt x hx).1, by have := (H3.out.Rlt x hx).2; omega⟩
      · refine HU3.out.trans hall (fun y hy => (rfoot_mem _ _ _ _).2 (.inl (by simpa using hy))) (fun y hy => .inl ?_)
        rcases List.mem_cons.1 hy with rfl | q
        · exact (rfoot_mem _ _ _ _).2 (.inl rfl)
        · exact (rfoot_mem _ _ _ _).2 (.inr (.inr q))
      · intro y hy
        have h1 := HU3.out.size
        rcases (rfoot_mem _ _ _ _).1 hy with rfl | q | q
        · exact .inl ((rfoot_mem _ _ _ _).2 (.inl rfl))
        · exact (HR3.out y q).imp (fun q => (rfoot_mem _ _ _ _).2 (.inr (.inl q))) id
        · exact (HK4.out y q).imp (fun q => (rfoot_mem _ _ _ _).2 (.inr (.inr q))) (fun q => by have := HUA.out.size; omega)
end
end Go.Proofs.YtmhojaiajhdlcaaGreat
namespace Go.Proofs.YtmhojaiajhdlcaaGreat
open Go.RowKit
set_option linter.unusedSimpArgs false
set_option linter.unusedVariables false
theorem neE (s : ByteArray) (h : ¬ s.size < 1) : (s.toList == ([] : List UInt8)) = false := by
  rw [beq_eq_false_iff_ne, strList_eq]
  intro q
  have := congrArg List.length q
  rw [Array.length_toList] at this
  have : s.size = 0 := this
  omega
set_option maxRecDepth 20000 in
set_option maxHeartbeats 1000000 in
theorem rName_any (w : World) (s : ByteArray) :
    Calls Tryz.prog 68 #[sv s] w fun e w' => e = .returned (.bool (nameOk s)) ∧ w = w' := by
  by_cases h1 : s.size < 1
  · have HN : Hid (nameOk s = false) := by unfold Hid nameOk; simp; omega
    obtain rfl : s = ⟨#[]⟩ := str_inj _ _ (by rw [strList_eq, strList_eq]; exact List.eq_nil_of_length_eq_zero (by rw [Array.length_toList]; show s.size = 0; omega))
    go_enter Tryz.func68, Tryz.ntmps68
    go_wp2_with fail
    go_ret
    exact ⟨by rw [HN.out]; rfl, rfl⟩
  · by_cases h2 : s.size ≤ 32
    · have q : (s.toList == ([] : List UInt8)) = false := neE s h1
      have q' : ¬ (32 : Int) < s.size := by omega
      go_enter Tryz.func68, Tryz.ntmps68
      go_wp2_with fail
      go_loopw [3] (fun i wr => ∃ k : Nat, k ≤ s.size ∧ i = .int .i64 k ∧ w = wr ∧ Hid (∀ j (h : j < s.size), j < k → 33 ≤ (s[j]).toNat ∧ (s[j]).toNat ≤ 126)) (fun i _ => s.size - (intOf i).toNat)
      case atStart => exact ⟨0, Nat.zero_le _, rfl, rfl, fun j _ h => absurd h (by omega)⟩
      case round =>
        obtain ⟨k, hk, rfl, rfl, hh⟩ := hrel
        by_cases hlt : k < s.size
        · have q0 : (0 : Int) ≤ k := by omega
          have q1 : (k : Int) < s.size := by omega
          by_cases hb : 33 ≤ (s[k]).toNat ∧ (s[k]).toNat ≤ 126
          · have hb1 : ¬ ((s[k]).toNat : Int) < 33 := by omega
            have hb2 : ¬ (126 : Int) < ((s[k]).toNat : Int) := by omega
            have HH : Hid (∀ j (h : j < s.size), j < k + 1 → 33 ≤ (s[j]).toNat ∧ (s[j]).toNat ≤ 126) := fun j hj hjk => by
              rcases Nat.lt_or_eq_of_le (Nat.le_of_lt_succ hjk) with h | h
              · exact hh.out j hj h
              · subst h; exact hb
            clear hb
            go_wp2_with fail
            go_roundw
            case rel => exact ⟨k + 1, by omega, by go_num, by first | trivial | rfl, HH⟩
            case measure => simp [intOf]; omega
          · have HN : Hid (nameOk s = false) := by
              unfold Hid nameOk
              exact decide_eq_false (fun h => hb (h.2.2 k hlt))
            have hd : ((s[k]).toNat : Int) < 33 ∨ (¬ ((s[k]).toNat : Int) < 33 ∧ (126 : Int) < ((s[k]).toNat : Int)) := by omega
            clear hb
            rcases hd with hb1 | ⟨hb1, hb2⟩
            all_goals
              go_wp2_with fail
              go_ret
              exact ⟨by rw [HN.out]; rfl, rfl⟩
        · obtain rfl : k = s.size := by omega
          have HN : Hid (nameOk s = true) := by
            unfold Hid nameOk
            exact decide_eq_true ⟨by omega, by omega, fun j hj => hh.out j hj hj⟩
          go_wp2_with fail
          go_ret
          exact ⟨by rw [HN.out]; rfl, rfl⟩
    · have HN : Hid (nameOk s = false) := by unfold Hid nameOk; exact decide_eq_false (fun h => h2 h.2.1)
      have q : (s.toList == ([] : List UInt8)) = false := neE s h1
      have q' : (32 : Int) < s.size := by omega
      go_enter Tryz.func68, Tryz.ntmps68
      go_wp2_with fail
      go_ret
      exact ⟨by rw [HN.out]; rfl, rfl⟩
end Go.Proofs.YtmhojaiajhdlcaaGreat
namespace Go.Proofs.YtmhojaiajhdlcaaGreat
open Go.RowKit
set_option linter.unusedSimpArgs false
set_option linter.unusedVariables false
section
variable {w0 w w' : World} {gr : Nat} {G : List Nat} {s : DS}
/-- What a call on the document's disk answers, and the disk behind it. -/
def RAns (w0 w : World) (gr : Nat) (G : List Nat) (r : Int × DS) (e : Ending) (w' : World) : Prop := e = .returned (.int .i64 r.1) ∧ ROut w0 w gr G r.2 w'
theorem rDo_any (x : Wr) (h : RD w0 w gr G s) (hx : WrOk x s.now) (hp : x.p = []) (hl : s.log.length ≤ 1000000000) :
    Calls Tryz.prog 71 #[.pointer (some ⟨gr, 0, none⟩), wrv x ⟨none, 0, 0⟩] w fun e w' => e = .returned (.tuple #[]) ∧ ROut w0 w gr G (dDo x s) w' := by
  obtain ⟨R, nv, mv, ln, lm, ov, ops, hc, rfl, ho, rfl⟩ := h.ex
  refine (rDoC_any x ⟨none, 0, 0⟩ hc hx ho.tot (by rw [hp]; exact Rd.nil _) (by simp [blk]) (by simpa using hl)).mono ?_
  rintro e w' ⟨rfl, R', nv', ln', ov', h1, h3, h4, h5⟩
  exact ⟨rfl, _, ⟨R', nv', mv, ln', lm, ov', _, h1, by unfold dDo; rw [h3]; simp, ho.do_ hx, rfl⟩, h4, h5⟩
/-- The look for a name, as the calls begin. -/
theorem RD.look (h : RD w0 w gr G s) (nm : ByteArray) (hl : s.now.length ≤ 5000) : ∃ (na : Option Addr) (nn nk : Nat) (ln : List OW) (R : List Nat), w.cell? ⟨gr, 0, none⟩ = some (.slice na nn nk) ∧ RL w R (.slice na nn nk) ln ∧ dfOf ln = s.now ∧
    ∀ W, Upd [] w W → Calls Tryz.prog 70 #[.slice na nn nk, sv nm] W fun e w' => e = .returned (.int .i64 (if inD s.now nm then (below strLt ln nm : Int) else -1)) ∧ Upd [] W w' := by
  obtain ⟨R, ⟨na, nn, nk⟩, mv, ln, lm, ov, ops, hc, rfl, ho, rfl⟩ := h.ex
  refine ⟨na, nn, nk, ln, R, hc.dk.cell 0, hc.now, rfl, fun W hW => ?_⟩
  have h1 := rdAt_any W _ ln nm ((hc.now.upd0 hW).row) hc.now.ris (by rw [df_len] at hl; omega)
  unfold atI at h1
  rw [isIn_dfOf] at h1
  exact h1
set_option maxRecDepth 20000 in
set_option maxHeartbeats 1000000 in
theorem rRename_any (nm tn : ByteArray) (h : RD w0 w gr G s) (hn : s.now.length ≤ 5000) (hl : s.log.length ≤ 1000000000) :
    Calls Tryz.prog 114 #[.pointer (some ⟨gr, 0, none⟩), sv nm, sv tn] w (RAns w0 w gr G (dRename s nm tn)) := by
  obtain ⟨na, nn, nk, ln, R, c0, -, -, hget⟩ := h.look nm hn
  have HG := Lib.hid (hget w (Upd.refl _ _))
  have HD := Lib.hid h
  have HL := Lib.hid hl
  have HNL := Lib.hid hn
  clear hget h hl hn
  cases hok : nameOk tn with
  | false =>
    have HR : Hid (dRename s nm tn = (14, s)) := by unfold Hid dRename; rw [hok]; rfl
    have HOK := Lib.hid hok
    clear hok
    go_enter Tryz.func114, Tryz.ntmps114
    go_wp2_with fail
    (with_reducible refine (rName_any w tn).mono ?_)
    rw [HOK.out]
    rintro e w1 ⟨rfl, rfl⟩
    go_wp2_with fail
    go_ret
    exact ⟨by rw [HR.out]; rfl, by rw [HR.out]; exact HD.out.out0 (Upd.refl _ _)⟩
  | true =>
    have HOK := Lib.hid hok
    cases hin : inD s.now nm with
    | false =>
      have HR : Hid (dRename s nm tn = (7, s)) := by unfold Hid dRename; rw [hok, hin]; rfl
      rw [hin, if_neg (by simp)] at HG
      clear hok hin
      go_enter Tryz.func114, Tryz.ntmps114
      go_wp2_with fail
      (with_reducible refine (rName_any w tn).mono ?_)
      rw [HOK.out]
      rintro e w1 ⟨rfl, rfl⟩
      go_wp2_with fail
      (with_reducible refine HG.out.mono ?_)
      rintro e w2 ⟨rfl, hu2⟩
      have HU2 := Lib.hid hu2
      clear hu2
      go_wp2_with fail
      go_ret
      exact ⟨by rw [HR.out]; rfl, by rw [HR.out]; exact HD.out.out0 HU2.out⟩
    | true =>
      have HR : Hid (dRename s nm tn = (0, dDo (wRen nm tn) s)) := by unfold Hid dRename; rw [hok, hin]; rfl
      have HW := Lib.hid (HD.out.ok.ren nm tn hin HNL.out).1
      rw [hin, if_pos rfl] at HG
      have z : ¬ ((below strLt ln nm : Nat) : Int) < 0 := by omega
      clear hok hin
      generalize below strLt ln nm = k at *
      go_enter Tryz.func114, Tryz.ntmps114
      go_wp2_with fail
      (with_reducible refine (rName_any w tn).mono ?_)
      rw [HOK.out]
      rintro e w1 ⟨rfl, rfl⟩
      go_wp2_with fail
      (with_reducible refine HG.out.mono ?_)
      rintro e w2 ⟨rfl, hu2⟩
      have HU2 := Lib.hid hu2
      clear hu2
      go_wp2_with fail
      (with_reducible refine (rDo_any (wRen nm tn) (HD.out.upd0 HU2.out) HW.out rfl HL.out).mono ?_)
      rintro e w3 ⟨rfl, ho⟩
      have HO := Lib.hid ho
      clear ho
      go_wp2_with fail
      go_ret
      exact ⟨by rw [HR.out]; rfl, by rw [HR.out]; exact HO.out.later HU2.out⟩
set_option maxRecDepth 20000 in
set_option maxHeartbeats 1000000 in
theorem rRemove_any (nm : ByteArray) (h : RD w0 w gr G s) (hn : s.now.length ≤ 5000) (hl : s.log.length ≤ 1000000000) :
    Calls Tryz.prog 93 #[.pointer (some ⟨gr, 0, none⟩), sv nm] w (RAns w0 w gr G (dRemove s nm)) := by
  obtain ⟨na, nn, nk, ln, R, c0, -, -, hget⟩ := h.look nm hn
  have HG := Lib.hid (hget w (Upd.refl _ _))
  have HD := Lib.hid h
  have HL := Lib.hid hl
  have HNL := Lib.hid hn
  clear hget h hl hn
  cases hin : inD s.now nm with
  | false =>
    have HR : Hid (dRemove s nm = (7, s)) := by unfold Hid dRemove; rw [hin]; rfl
    rw [hin, if_neg (by simp)] at HG
    clear hin
    go_enter Tryz.func93, Tryz.ntmps93
    go_wp2_with fail
    (with_reducible refine HG.out.mono ?_)
    rintro e w2 ⟨rfl, hu2⟩
    have HU2 := Lib.hid hu2
    clear hu2
    go_wp2_with fail
    go_ret
    exact ⟨by rw [HR.out]; rfl, by rw [HR.out]; exact HD.out.out0 HU2.out⟩
  | true =>
    have HR : Hid (dRemove s nm = (0, dDo (wRem nm) s)) := by unfold Hid dRemove; rw [hin]; rfl
    have HW := Lib.hid (HD.out.ok.rem nm hin HNL.out).1
    rw [hin, if_pos rfl] at HG
    have z : ¬ ((below strLt ln nm : Nat) : Int) < 0 := by omega
    clear hin
    generalize below strLt ln nm = k at *
    go_enter Tryz.func93, Tryz.ntmps93
    go_wp2_with fail
    (with_reducible refine HG.out.mono ?_)
    rintro e w2 ⟨rfl, hu2⟩
    have HU2 := Lib.hid hu2
    clear hu2
    go_wp2_with fail
    (with_reducible refine (rDo_any (wRem nm) (HD.out.upd0 HU2.out) HW.out rfl HL.out).mono ?_)
    rintro e w3 ⟨rfl, ho⟩
    have HO := Lib.hid ho
    clear ho
    go_wp2_with fail
    go_ret
    exact ⟨by rw [HR.out]; rfl, by rw [HR.out]; exact HO.out.later HU2.out⟩
end
end Go.Proofs.YtmhojaiajhdlcaaGreat
namespace Go.Proofs.YtmhojaiajhdlcaaGreat
open Go.RowKit
set_option linter.unusedSimpArgs false
set_option linter.unusedVariables false
section
variable {w0 w w' : World} {gr : Nat} {G : List Nat} {s : DS}
/-- A row that is there: its cells. -/
theorem RL.at_ {w : World} {R : List Nat} {na : Option Addr} {nn nk : Nat} {l : List OW} (h : RL w R (.slice na nn nk) l) (nm : ByteArray) (hin : inD (dfOf l) nm = true) :
    ∃ (lb loff : Nat) (da : Option Addr) (dn dk : Nat), na = some ⟨lb, loff, none⟩ ∧ below strLt l nm < nn ∧ nn ≤ nk ∧ nk ≤ maxLen ∧ w.cell? ⟨lb, loff + below strLt l nm * 2 + 1, none⟩ = some (.slice da dn dk) ∧ Bytes w (.slice da dn dk) (dGet (dfOf l) nm).1 ∧ dn = (dGet (dfOf l) nm).1.length ∧ (∀ x ∈ blk (.slice da dn dk), x ∈ R) := by
  have hin2 : isIn strLt l nm = true := by rw [isIn_dfOf]; exact hin
  have hg := get_df l nm hin2
  have hin3 := hin2
  unfold isIn at hin3
  obtain ⟨hk, -⟩ := of_decide_eq_true hin3
  obtain ⟨a', c', he, h1, h2, hc⟩ := h.row
  obtain ⟨lb, loff, e2, hc⟩ := hc (by intro q; rw [q] at hk; simp at hk)
  have e1 := (Value.slice.inj he).1
  have e3 := (Value.slice.inj he).2.1
  have e4 := (Value.slice.inj he).2.2
  have hm : nth l (below strLt l nm) ∈ l := by rw [nth_get l _ hk]; exact List.getElem_mem _
  have hb := h.dat _ hm
  have hR := h.dR _ hm
  have hcell := hc (below strLt l nm) hk 1 (by omega)
  rw [hg]
  dsimp only
  generalize nth l (below strLt l nm) = x at *
  obtain ⟨xn, ⟨da, dn, dk⟩, d⟩ := x
  refine ⟨lb, loff, da, dn, dk, e1.trans e2, by rw [e3]; exact hk, by rw [e3, e4]; exact h1, by rw [e4]; exact h2, hcell, hb, ?_, hR⟩
  obtain ⟨a2, c2, he2, -⟩ := hb
  exact (Value.slice.inj he2).2.1
set_option maxRecDepth 20000 in
set_option maxHeartbeats 1000000 in
theorem rCut_any (nm : ByteArray) (n : Int) (hi : I64 n) (h : RD w0 w gr G s) (hn : s.now.length ≤ 5000) (hl : s.log.length ≤ 1000000000) :
    Calls Tryz.prog 77 #[.pointer (some ⟨gr, 0, none⟩), sv nm, .int .i64 n] w (RAns w0 w gr G (dCut s nm n)) := by
  obtain ⟨na, nn, nk, ln, R, c0, hrl, hdf, hget⟩ := h.look nm hn
  have HG := Lib.hid (hget w (Upd.refl _ _))
  have HD := Lib.hid h
  have HL := Lib.hid hl
  have HNL := Lib.hid hn
  have HRL := Lib.hid hrl
  have HDF := Lib.hid hdf
  clear hget h hl hn hrl hdf
  cases hin : inD s.now nm with
  | false =>
    have HR : Hid (dCut s nm n = (7, s)) := by unfold Hid dCut; rw [hin]; rfl
    rw [hin, if_neg (by simp)] at HG
    clear hin
    go_enter Tryz.func77, Tryz.ntmps77
    go_wp2_with fail
    (with_reducible refine HG.out.mono ?_)
    rintro e w2 ⟨rfl, hu2⟩
    have HU2 := Lib.hid hu2
    clear hu2
    go_wp2_with fail
    go_ret
    exact ⟨by rw [HR.out]; rfl, by rw [HR.out]; exact HD.out.out0 HU2.out⟩
  | true =>
    obtain ⟨lb, loff, da, dn, dk, rfl, hk, hnk, hnm, hcell, hby, hdn, -⟩ := HRL.out.at_ nm (by rw [HDF.out]; exact hin)
    rw [HDF.out] at hdn
    have HDN := Lib.hid hdn
    rw [hin, if_pos rfl] at HG
    have z : ¬ ((below strLt ln nm : Nat) : Int) < 0 := by omega
    have z0 : (0 : Int) ≤ (below strLt ln nm : Nat) := by omega
    have z1 : ((below strLt ln nm : Nat) : Int) < nn := by omega
    have hnn : nn ≤ 9223372036854775807 := by unfold maxLen at hnm; omega
    have CC := Lib.hid hcell
    have C0 := Lib.hid c0
    clear hby hdn hcell c0 hnm
    generalize below strLt ln nm = k at *
    by_cases hbad : n < 0 ∨ (dn : Int) < n
    · have HR : Hid (dCut s nm n = (1, s)) := by unfold Hid dCut; rw [hin, ← HDN.out, if_pos rfl, if_pos hbad]
      clear hin
      rcases (show n < 0 ∨ (¬ n < 0 ∧ (dn : Int) < n) by omega) with q | ⟨q, q2⟩
      all_goals
        clear hbad
        go_enter Tryz.func77, Tryz.ntmps77
        have c0 := C0.out
        go_wp2_with fail
        (with_reducible refine HG.out.mono ?_)
        rintro e w2 ⟨rfl, hu2⟩
        have HU2 := Lib.hid hu2
        have c1 := hu2.cell C0.out (by simp)
        have c2 := hu2.cell CC.out (by simp)
        clear hu2
        go_wp2_with fail
        go_ret
        exact ⟨by rw [HR.out]; rfl, by rw [HR.out]; exact HD.out.out0 HU2.out⟩
    · have HR : Hid (dCut s nm n = (0, dDo (wCut nm n) s)) := by unfold Hid dCut; rw [hin, ← HDN.out, if_pos rfl, if_neg hbad]
      have HW := Lib.hid (HD.out.ok.cut nm n hin (by omega) (by rw [← HDN.out]; omega) HNL.out).1
      have q : ¬ n < 0 := by omega
      have q2 : ¬ (dn : Int) < n := by omega
      clear hin hbad
      go_enter Tryz.func77, Tryz.ntmps77
      have c0 := C0.out
      go_wp2_with fail
      (with_reducible refine HG.out.mono ?_)
      rintro e w2 ⟨rfl, hu2⟩
      have HU2 := Lib.hid hu2
      have c1 := hu2.cell C0.out (by simp)
      have c2 := hu2.cell CC.out (by simp)
      clear hu2
      go_wp2_with fail
      (with_reducible refine (rDo_any (wCut nm n) (HD.out.upd0 HU2.out) HW.out rfl HL.out).mono ?_)
      rintro e w3 ⟨rfl, ho⟩
      have HO := Lib.hid ho
      clear ho
      go_wp2_with fail
      go_ret
      exact ⟨by rw [HR.out]; rfl, by rw [HR.out]; exact HO.out.later HU2.out⟩
set_option maxRecDepth 20000 in
set_option maxHeartbeats 1000000 in
theorem rdRead_any (nm : ByteArray) (h : RD w0 w gr G s) (hn : s.now.length ≤ 5000) :
    Calls Tryz.prog 29 #[.pointer (some ⟨gr, 0, none⟩), sv nm] w fun e w' => ∃ v, e = .returned (.tuple #[v, .bool (dGet s.now nm).2]) ∧ Bytes w' v (dGet s.now nm).1 ∧ (∀ x ∈ blk v, x ∈ G) ∧ Upd [] w w' := by
  obtain ⟨R, ⟨na, nn, nk⟩, mv, ln, lm, ov, ops, hc, rfl, ho, rfl⟩ := h.ex
  have HC := Lib.hid hc
  have HD := Lib.hid h
  have c0 : w.cell? ⟨gr, 0, none⟩ = some (.slice na nn nk) := hc.dk.cell 0
  have hg := rdAt_any w _ ln nm hc.now.row hc.now.ris (by rw [df_len] at hn; omega)
  unfold atI at hg
  rw [isIn_dfOf] at hg
  have HG := Lib.hid hg
  dsimp only
  cases hin : inD (dfOf ln) nm with
  | false =>
    rw [hin, if_neg (by simp)] at HG
    rw [dGet_no hin]
    clear hc h ho hn hin hg
    go_enter Tryz.func29, Tryz.ntmps29
    go_wp2_with fail
    (with_reducible refine HG.out.mono ?_)
    rintro e w2 ⟨rfl, hu2⟩
    have HU2 := Lib.hid hu2
    clear hu2
    go_wp2_with fail
    go_ret2
    exact ⟨_, rfl, Rd.nil _, fun x hx => by simp [blk] at hx, HU2.out⟩
  | true =>
    have hrl : RL w R (.slice na nn nk) ln := hc.now
    obtain ⟨lb, loff, da, dn, dk, rfl, hk, hnk, hnm, hcell, hby, hdn, hR⟩ := hrl.at_ nm hin
    have h2 : (dGet (dfOf ln) nm).2 = true := by rw [dGet_in]; exact hin
    rw [hin, if_pos rfl] at HG
    have z : ¬ ((below strLt ln nm : Nat) : Int) < 0 := by omega
    have z0 : (0 : Int) ≤ (below strLt ln nm : Nat) := by omega
    have z1 : ((below strLt ln nm : Nat) : Int) < nn := by omega
    have hnn : nn ≤ 9223372036854775807 := by unfold maxLen at hnm; omega
    have CC := Lib.hid hcell
    have C0 := Lib.hid c0
    have HBY := Lib.hid hby
    have HR := Lib.hid hR
    rw [h2]
    clear hc h ho hn hin hg hby hdn hcell hR hnm h2
    generalize below strLt ln nm = k at *
    generalize (dGet (dfOf ln) nm).1 = d at *
    go_enter Tryz.func29, Tryz.ntmps29
    go_wp2_with fail
    (with_reducible refine HG.out.mono ?_)
    rintro e w2 ⟨rfl, hu2⟩
    have HU2 := Lib.hid hu2
    have c1 := hu2.cell C0.out (by simp)
    have c2 := hu2.cell CC.out (by simp)
    clear hu2 c0
    go_wp2_with fail
    go_ret2
    exact ⟨_, rfl, HBY.out.upd0 HU2.out, fun x hx => (rfoot_mem _ _ _ _).2 (.inr (.inl (HR.out x hx))), HU2.out⟩
end
end Go.Proofs.YtmhojaiajhdlcaaGreat
namespace Go.Proofs.YtmhojaiajhdlcaaGreat
open Go.RowKit
set_option linter.unusedSimpArgs false
set_option linter.unusedVariables false
theorem undRStr : Tryz.prog.underlying 148 = some (.slice 9) := by kernel_rfl
theorem infoRStr : (Tryz.prog.info? 9).map (fun i => (i.zero, i.size, i.bytes)) = some (some (.string ⟨#[]⟩), 1, 16) := by kernel_rfl
section
variable {w0 w w' : World} {gr : Nat} {R : List Nat} {nv mv : Sl} {ln lm : List OW} {ov : Value} {ops : List LW}
theorem RC.setMark (h : RC w0 w gr R nv mv ln lm ov ops) :
    RC w0 ((w.setCell ⟨gr, 1, none⟩ (slv nv)).setCell ⟨gr, 2, none⟩ (.slice none 0 0)) gr R nv nv ln ln (.slice none 0 0) [] := by
  have hset : Upd [gr] w ((w.setCell ⟨gr, 1, none⟩ (slv nv)).setCell ⟨gr, 2, none⟩ (.slice none 0 0)) := ((Upd.refl [gr] w).setCell _ _ (.inl (by simp))).setCell _ _ (.inl (by simp))
  have hn : ∀ x ∈ R, x ∉ [gr] := fun x hx hy => by simp at hy; subst hy; exact h.grR hx
  have hr := h.now.upd hset hn
  exact ⟨(h.dk.set_ 1 (slv nv)).set_ 2 (.slice none 0 0), h.grb, h.grR, hr, hr, OwnN.nil _ _ _, by simp, by simp, fun x hx => by simp [blk] at hx, h.old.trans hset (by simp) (fun x hx => .inr (by simp at hx; subst hx; exact h.grb)), fun x hx => by have := h.Rlt x hx; have := hset.size; exact ⟨by omega, by omega⟩⟩
set_option maxRecDepth 20000 in
theorem rSetMarkC_any (h : RC w0 w gr R nv mv ln lm ov ops) :
    Calls Tryz.prog 22 #[.pointer (some ⟨gr, 0, none⟩)] w fun e w' => e = .returned (.tuple #[]) ∧ RC w0 w' gr R nv nv ln ln (.slice none 0 0) [] ∧ Upd [gr] w w' := by
  obtain ⟨ao, co, rfl, -⟩ := h.opw.rd lwCells_len
  obtain ⟨na, nn, nk⟩ := nv
  obtain ⟨ma, mn, mk⟩ := mv
  have c0 : w.cell? ⟨gr, 0, none⟩ = some (.slice na nn nk) := h.dk.cell 0
  have c1 : w.cell? ⟨gr, 1, none⟩ = some (.slice ma mn mk) := h.dk.cell 1
  have c2 : w.cell? ⟨gr, 2, none⟩ = some (.slice ao ops.length co) := h.dk.cell 2
  have f1 := h.dk.frozen 1
  have f2 := h.dk.frozen 2
  have H := Lib.hid h
  clear h
  go_enter Tryz.func22, Tryz.ntmps22
  go_wp2_with fail
  go_end0
  exact ⟨rfl, H.out.setMark, ((Upd.refl [gr] w).setCell _ _ (.inl (by simp))).setCell _ _ (.inl (by simp))⟩
end
section
variable {w0 w w' : World} {gr : Nat} {G : List Nat} {s : DS}
theorem rSetMark_any (h : RD w0 w gr G s) :
    Calls Tryz.prog 22 #[.pointer (some ⟨gr, 0, none⟩)] w fun e w' => e = .returned (.tuple #[]) ∧ ROut w0 w gr G (dMark s) w' := by
  obtain ⟨R, nv, mv, ln, lm, ov, ops, hc, rfl, ho, rfl⟩ := h.ex
  refine (rSetMarkC_any hc).mono ?_
  rintro e w' ⟨rfl, h1, hu⟩
  refine ⟨rfl, _, ⟨R, nv, nv, ln, ln, _, [], h1, rfl, ho.mark, rfl⟩, hu.mono (fun x hx => .inl (by simp at hx; subst hx; exact (rfoot_mem _ _ _ _).2 (.inl rfl))), fun x hx => ?_⟩
  rcases (rfoot_mem _ _ _ _).1 hx with rfl | hx | hx
  · exact .inl ((rfoot_mem _ _ _ _).2 (.inl rfl))
  · exact .inl ((rfoot_mem _ _ _ _).2 (.inr (.inl hx)))
  · simp [blk] at hx
set_option maxRecDepth 20000 in
set_option maxHeartbeats 1000000 in
theorem rTotal_any (h : RD w0 w gr G s) (hn : s.now.length ≤ 100000) :
    Calls Tryz.prog 69 #[.pointer (some ⟨gr, 0, none⟩)] w fun e w' => e = .returned (.int .i64 (dTotal s.now : Int)) ∧ Upd [] w w' := by
  have htot := h.ok.tot
  obtain ⟨R, ⟨na, nn, nk⟩, mv, ln, lm, ov, ops, hc, rfl, ho, rfl⟩ := h.ex
  have c0 : w.cell? ⟨gr, 0, none⟩ = some (.slice na nn nk) := hc.dk.cell 0
  have hrl : RL w R (.slice na nn nk) ln := hc.now
  obtain ⟨a', cap, he, hlc, hcm, hcell⟩ := hrl.row
  obtain ⟨rfl, rfl, rfl⟩ : na = a' ∧ nn = ln.length ∧ nk = cap := by injection he with h1 h2 h3; exact ⟨h1, h2, h3⟩
  have hcap : nk ≤ 9223372036854775807 := by unfold maxLen at hcm; omega
  have HCELL := Lib.hid hcell
  have HDAT := Lib.hid hrl.dat
  have C0 := Lib.hid c0
  have hlen : ln.length ≤ 100000 := by rw [df_len] at hn; exact hn
  dsimp only at htot ⊢
  have HT := Lib.hid htot
  clear hc h ho hn htot hcell hcm c0 hrl he
  go_enter Tryz.func69, Tryz.ntmps69
  go_wp2_with fail
  go_loopw [3, 4] (fun v i wr => ∃ k : Nat, k ≤ ln.length ∧ i = .int .i64 k ∧ v = .int .i64 (dTotal ((dfOf ln).take k) : Int) ∧ Hid (Upd [] w wr)) (fun _ i _ => ln.length - (intOf i).toNat)
  case atStart => exact ⟨0, Nat.zero_le _, rfl, rfl, Upd.refl _ _⟩
  case round =>
    obtain ⟨k, hk, rfl, rfl, hu⟩ := hrel
    have c0 := hu.out.cell C0.out (by simp)
    by_cases hlt : k < ln.length
    · have hst : dTotal ((dfOf ln).take (k + 1)) = dTotal ((dfOf ln).take k) + (nth ln k).2.2.length := by
        rw [total_take (dfOf ln) k (by rw [df_len]; exact hlt), tMap_nth id (fun x : Sl × List UInt8 => x.2) ln k hlt]
      have hle := total_le (dfOf ln) (k + 1)
      have hle2 := HT.out
      obtain ⟨b, off, rfl, hcl⟩ := HCELL.out (by intro h; simp [h] at hlt)
      have hm : nth ln k ∈ ln := by rw [nth_get ln _ hlt]; exact List.getElem_mem _
      have hb := HDAT.out _ hm
      have d1 : wr.cell? ⟨b, off + k * 2 + 1, none⟩ = some (slv (nth ln k).2.1) := hu.out.cell (hcl _ hlt 1 (by omega)) (by simp)
      have HST := Lib.hid hst
      rw [hst] at hle
      clear hst hcl hm
      generalize nth ln k = c at *
      obtain ⟨key, ⟨a, n, cp⟩, bs⟩ := c
      dsimp only at hb hle d1
      obtain ⟨a2, c2, he2, -⟩ := hb
      have hnb : n = bs.length := (Value.slice.inj he2).2.1
      subst hnb
      clear he2
      generalize dTotal ((dfOf ln).take k) = T at *
      have hT : T + bs.length ≤ 16777216 := by omega
      have q0 : (0 : Int) ≤ k := by omega
      have q1 : (k : Int) < ln.length := by omega
      clear hle hle2
      go_wp2_with fail
      go_roundw
      case rel => exact ⟨k + 1, by omega, by go_num, by rw [HST.out]; go_num, hu⟩
      case measure => simp [intOf]; omega
    · obtain rfl : k = ln.length := by omega
      have he : (dfOf ln).take ln.length = dfOf ln := List.take_of_length_le (by rw [df_len]; exact Nat.le_refl _)
      obtain ⟨T, hT⟩ : ∃ T, dTotal (dfOf ln) = T := ⟨_, rfl⟩
      have HTT := Lib.hid hT
      rw [he, hT]
      clear hT
      go_wp2_with fail
      go_ret
      exact ⟨by rw [HTT.out]; rfl, hu.out⟩
set_option maxRecDepth 20000 in
set_option maxHeartbeats 1000000 in
theorem rNames_any (h : RD w0 w gr G s) (hn : s.now.length ≤ 100000) :
    Calls Tryz.prog 90 #[.pointer (some ⟨gr, 0, none⟩)] w fun e w' => ∃ v, e = .returned v ∧ Own sv w.heap.size 9 w' v (s.now.map (·.1)) ∧ Upd [] w w' := by
  obtain ⟨R, ⟨na, nn, nk⟩, mv, ln, lm, ov, ops, hc, rfl, ho, rfl⟩ := h.ex
  have c0 : w.cell? ⟨gr, 0, none⟩ = some (.slice na nn nk) := hc.dk.cell 0
  have hrl : RL w R (.slice na nn nk) ln := hc.now
  obtain ⟨a', cap, he, hlc, hcm, hcell⟩ := hrl.row
  obtain ⟨rfl, rfl, rfl⟩ : na = a' ∧ nn = ln.length ∧ nk = cap := by injection he with h1 h2 h3; exact ⟨h1, h2, h3⟩
  have hcap : nk ≤ 9223372036854775807 := by unfold maxLen at hcm; omega
  have HCELL := Lib.hid hcell
  have C0 := Lib.hid c0
  have hlen : ln.length ≤ 100000 := by rw [df_len] at hn; exact hn
  dsimp only
  have hke : (dfOf ln).map (·.1) = ln.map (·.1) := by simp [tMap]
  rw [hke]
  clear hc h ho hn hcell hcm c0 hrl he hke
  go_enter Tryz.func90, Tryz.ntmps90
  go_wp2_with fail
  go_loopw [3, 4] (fun v i wr => ∃ k : Nat, k ≤ ln.length ∧ i = .int .i64 k ∧ Hid (Own sv w.heap.size 9 wr v ((ln.take k).map (·.1))) ∧ Hid (Upd [] w wr)) (fun _ i _ => ln.length - (intOf i).toNat)
  case atStart => exact ⟨0, Nat.zero_le _, rfl, World.ownsRow_nil _ _ _ _, Upd.refl _ _⟩
  case round =>
    obtain ⟨k, hk, rfl, ho, hu⟩ := hrel
    have c0 := hu.out.cell C0.out (by simp)
    by_cases hlt : k < ln.length
    · have HT : Hid ((ln.take (k + 1)).map (·.1) = (ln.take k).map (·.1) ++ [(nth ln k).1]) := by unfold Hid; rw [List.take_succ_eq_append_getElem hlt, nth_get ln k hlt, List.map_append]; rfl
      have hlen2 : ((ln.take k).map (·.1)).length = k := by rw [List.length_map, List.length_take]; omega
      obtain ⟨bl, off, rfl, hcl⟩ := HCELL.out (by intro h; simp [h] at hlt)
      obtain ⟨ao2, co2, rfl, -⟩ := ho.out.rd
      rw [hlen2] at ho ⊢
      have HLEN := Lib.hid hlen2
      have d0 : wr.cell? ⟨bl, off + k * 2, none⟩ = some (sv (nth ln k).1) := hu.out.cell (hcl _ hlt 0 (by omega)) (by simp)
      have HKS : Hid (∃ ks, ks = (ln.take k).map (·.1)) := ⟨_, rfl⟩
      generalize hks : (ln.take k).map (·.1) = ks at *
      generalize (nth ln k).1 = x at *
      clear hlen2 hcl hks HKS
      have q0 : (0 : Int) ≤ k := by omega
      have q1 : (k : Int) < ln.length := by omega
      have HB : Hid ((ks.length + [x].length) * 16 ≤ 140737488355328) := by unfold Hid; rw [HLEN.out]; simp; omega
      have HL : Hid (ks.length + [x].length ≤ maxLen) := by unfold Hid maxLen; rw [HLEN.out]; simp; omega
      have hsz := hu.out.size
      go_wp2_with (at_builtin; go_must (refine wpList_app_of rfl _ _ rfl (.slice ao2 k co2) (.slice (some ⟨wr.heap.size, 0, none⟩) 1 1) rfl rfl (run_app (c := sv) (fun _ => rfl) undRStr infoRStr rfl _ _ ks [x] (ho.out.upd ((Upd.refl [] _).alloc _) (by simp)) (Rd.lit [x] (by simp) rfl rfl (by decide) (by decide)) HB.out HL.out (by simp <;> omega)) ?_; rintro v1 w3 ⟨ho3, hu3, hk3⟩; have HO3 := Lib.hid ho3; have HU3 : Hid (Upd [] w w3) := ((hu.out.alloc _).trans hu3 (by simp) (fun y hy => .inr (ho.out.ge y hy).1)); clear ho3 hu3 hk3))
      go_roundw
      case rel => exact ⟨k + 1, by omega, by go_num, by rw [HT.out]; exact HO3, HU3⟩
      case measure => simp [intOf]; omega
    · obtain rfl : k = ln.length := by omega
      go_wp2_with fail
      go_ret
      exact ⟨_, rfl, by have := ho.out; rwa [List.take_length] at this, hu.out⟩
end
end Go.Proofs.YtmhojaiajhdlcaaGreat
namespace Go.Proofs.YtmhojaiajhdlcaaGreat
open Go.RowKit
set_option linter.unusedSimpArgs false
set_option linter.unusedVariables false
section
variable {w0 w w' wr : World} {gr : Nat} {R : List Nat} {nv mv : Sl} {ln lm : List OW} {ov : Value} {ops : List LW}
/-- While the raw writes are done again on the document's list. -/
structure RB (w0 w wr : World) (gr : Nat) (R : List Nat) (nv mv : Sl) (ln lm : List OW) (ov : Value) (ops : List LW) (k : Nat) (R' : List Nat) (v : Value) (lk : List OW) : Prop where
  rc : RC w0 wr gr R nv mv ln lm ov ops
  cur : RL wr R' v lk
  sub : ∀ x ∈ R, x ∈ R'
  new : ∀ x ∈ R', x ∈ R ∨ (w.heap.size ≤ x ∧ x < wr.heap.size)
  eq : dfOf lk = wAll (dfOf lm) ((ops.map (·.1)).take k)
  upd : Upd [] w wr
theorem RB.step {k : Nat} {R' : List Nat} {v : Value} {lk : List OW} {e : Ending} (h : RB w0 w wr gr R nv mv ln lm ov ops k R' v lk) (hk : k < ops.length) (hd : RDoes wr R' (wApply (nth ops k).1 (dfOf lk)) e w') :
    ∃ a n c R'' l'', e = .returned (.slice a n c) ∧ RB w0 w w' gr R nv mv ln lm ov ops (k + 1) R'' (.slice a n c) l'' := by
  obtain ⟨v2, R2, l2, rfl, h2, ho2, h4, h5, h6, h7, -⟩ := hd
  obtain ⟨a2, c2, rfl, -⟩ := ho2.rd owCells_len
  have h1 := h.upd.size
  have h3 := h5.size
  refine ⟨a2, _, c2, R2, l2, rfl, h.rc.upd0 h5, h2, fun x hx => h6 x (h.sub x hx), fun x hx => ?_, ?_, h.upd.seq h5⟩
  · rcases h7 x hx with q | q
    · exact (h.new x q).imp id (fun q => ⟨q.1, by omega⟩)
    · exact .inr ⟨by omega, q.2⟩
  · rw [h4, h.eq, wAll_take _ _ k (by simpa using hk)]
    congr 1
    rw [nth_get ops k hk, nth_get (ops.map (·.1)) k (by simpa using hk)]; simp
theorem RB.wok {k : Nat} {R' : List Nat} {v : Value} {lk : List OW} (h : RB w0 w wr gr R nv mv ln lm ov ops k R' v lk) (ho : LogOk (dfOf lm) (ops.map (·.1))) (hk : k < ops.length) : WrOk (nth ops k).1 (dfOf lk) := by
  have h1 := ho.at_ k (by simpa using hk)
  rw [← h.eq, nth_get (ops.map (·.1)) k (by simpa using hk)] at h1
  rw [nth_get ops k hk]
  simpa using h1
theorem RB.finish {k : Nat} {R' : List Nat} {nv' : Sl} {lk : List OW} (h : RB w0 w wr gr R nv mv ln lm ov ops k R' (slv nv') lk) (ho : DOk ⟨dfOf ln, dfOf lm, ops.map (·.1)⟩) (n : Int) (hm : min n.toNat ops.length = k)
    (h1 : RC w0 w' gr R' nv' nv' lk lk (.slice none 0 0) []) (hu : Upd [gr] wr w') : ROut w0 w gr (rfoot gr R ov) (dBack ⟨dfOf ln, dfOf lm, ops.map (·.1)⟩ n) w' := by
  have he : dBackF ⟨dfOf ln, dfOf lm, ops.map (·.1)⟩ n = dfOf lk := by
    unfold dBackF
    rw [h.eq, ← hm]
    dsimp only
    congr 1
    rw [List.take_eq_take_iff]
    simp
  refine ⟨_, ⟨R', nv', nv', lk, lk, _, [], h1, by unfold dBack; rw [he]; rfl, ho.back n, rfl⟩, h.upd.trans hu (by simp) (fun x hx => .inl (by simp at hx; subst hx; exact (rfoot_mem _ _ _ _).2 (.inl rfl))), fun x hx => ?_⟩
  rcases (rfoot_mem _ _ _ _).1 hx with rfl | hx | hx
  · exact .inl ((rfoot_mem _ _ _ _).2 (.inl rfl))
  · exact (h.new x hx).imp (fun q => (rfoot_mem _ _ _ _).2 (.inr (.inl q))) (fun q => q.1)
  · simp [blk] at hx
end
section
variable {w0 w w' : World} {gr : Nat} {G : List Nat} {s : DS}
theorem LogOk.tot_at {fs : DF} {l : List Wr} (h : LogOk fs l) (ht : dTotal fs ≤ 16777216) : dTotal (wAll fs l) ≤ 16777216 := by
  induction l generalizing fs with
  | nil => exact ht
  | cons x l ih => exact ih h.2 h.1.tot
set_option maxRecDepth 20000 in
set_option maxHeartbeats 4000000 in
theorem rBack_any (n : Int) (hn : I64 n) (h : RD w0 w gr G s) (hl : s.log.length ≤ 1000000000) :
    Calls Tryz.prog 36 #[.pointer (some ⟨gr, 0, none⟩), .int .i64 n] w fun e w' => e = .returned (.tuple #[]) ∧ ROut w0 w gr G (dBack s n) w' := by
  obtain ⟨R, ⟨na, nn, nk⟩, ⟨ma, mn, mk⟩, ln, lm, ov, ops, hc, rfl, ho, rfl⟩ := h.ex
  obtain ⟨ao, co, rfl, hlc, hcm, -⟩ := hc.opw.rd lwCells_len
  have hmx : co ≤ 9223372036854775807 := by unfold maxLen at hcm; omega
  have c1 : w.cell? ⟨gr, 1, none⟩ = some (.slice ma mn mk) := hc.dk.cell 1
  have HB0 : Hid (RB w0 w w gr R ⟨na, nn, nk⟩ ⟨ma, mn, mk⟩ ln lm (.slice ao ops.length co) ops 0 R (.slice ma mn mk) lm) :=
    ⟨hc, hc.mark, fun x hx => hx, fun x hx => .inl hx, rfl, Upd.refl _ _⟩
  have HLOK := Lib.hid ho.log
  have HC0 := Lib.hid hc
  have HDK := Lib.hid ho
  have HTM : Hid (dTotal (dfOf lm) ≤ 16777216) := ho.totm
  have HN := Lib.hid hn
  obtain ⟨m, hm⟩ : ∃ m, min n.toNat ops.length = m := ⟨_, rfl⟩
  have HM := Lib.hid hm
  have hmo : m ≤ ops.length := by omega
  have HLN : Hid (ops.length ≤ 1000000000) := by simpa [Hid] using hl
  clear h hc ho hl hm
  go_enter Tryz.func36, Tryz.ntmps36
  go_wp2_with fail
  go_loopw [4, 5] (fun v i wr => ∃ (k : Nat) (R' : List Nat) (va : Option Addr) (vn vk : Nat) (lk : List OW), k ≤ m ∧ i = .int .i64 k ∧ v = .slice va vn vk ∧ Hid (RB w0 w wr gr R ⟨na, nn, nk⟩ ⟨ma, mn, mk⟩ ln lm (.slice ao ops.length co) ops k R' (.slice va vn vk) lk)) (fun _ i _ => m - (intOf i).toNat)
  case atStart => exact ⟨0, R, ma, mn, mk, lm, Nat.zero_le _, rfl, rfl, HB0⟩
  case round =>
    obtain ⟨k, R', va, vn, vk, lk, hk, rfl, rfl, hb⟩ := hrel
    clear HB0 c1
    have c2 : wr.cell? ⟨gr, 2, none⟩ = some (.slice ao ops.length co) := hb.out.rc.dk.cell 2
    by_cases hlt : k < m
    · have hkl : k < ops.length := by omega
      obtain ⟨la, lc, he, -, -, hcell⟩ := hb.out.rc.opw.rd lwCells_len
      have e1 : ao = la := (Value.slice.inj he).1
      obtain ⟨lb, loff, e2, hcell⟩ := hcell (by intro h; simp [h] at hkl)
      obtain rfl : ao = some ⟨lb, loff, none⟩ := e1.trans e2
      have d0 : wr.cell? ⟨lb, loff + k * 5, none⟩ = some (.int .i64 (nth ops k).1.kd) := hcell k hkl 0 (by omega)
      have d1 : wr.cell? ⟨lb, loff + k * 5 + 1, none⟩ = some (sv (nth ops k).1.nm) := hcell k hkl 1 (by omega)
      have d2 : wr.cell? ⟨lb, loff + k * 5 + 2, none⟩ = some (sv (nth ops k).1.tn) := hcell k hkl 2 (by omega)
      have d3 : wr.cell? ⟨lb, loff + k * 5 + 3, none⟩ = some (slv (nth ops k).2) := hcell k hkl 3 (by omega)
      have d4 : wr.cell? ⟨lb, loff + k * 5 + 4, none⟩ = some (.int .i64 (nth ops k).1.n) := hcell k hkl 4 (by omega)
      have HW := Lib.hid (hb.out.wok HLOK.out hkl)
      have hmem : nth ops k ∈ ops := by rw [nth_get _ _ hkl]; exact List.getElem_mem _
      have HP := Lib.hid (hb.out.rc.odat _ hmem)
      have HTT : Hid (dTotal (dfOf lk) ≤ 16777216) := by unfold Hid; rw [hb.out.eq]; exact (HLOK.out.take k).tot_at HTM.out
      have HST := Lib.hid (fun e w' hd => hb.out.step (e := e) (w' := w') hkl hd)
      clear he hcell e1 e2 hmem
      generalize nth ops k = x at *
      obtain ⟨⟨kd, nm, tn, p, nn⟩, ⟨pa, pn, pk⟩⟩ := x
      simp only [slv, sv] at d0 d1 d2 d3 d4
      have q1 : (0 : Int) ≤ k := by omega
      have q2 : (k : Int) < n := by have := HM.out; omega
      have q3 : (k : Int) < ops.length := by omega
      go_wp2_with fail
      (with_reducible refine (rMade_any ⟨kd, nm, tn, p, nn⟩ ⟨pa, pn, pk⟩ hb.out.cur HW.out HP.out HTT.out).mono ?_)
      intro e w4 hd
      obtain ⟨a4, n4, c4, R4, l4, rfl, h4⟩ := HST.out e w4 hd
      have HB4 := Lib.hid h4
      clear h4 hd HST
      go_wp2_with fail
      go_roundw
      case rel => exact ⟨k + 1, R4, a4, n4, c4, l4, by omega, by go_num, rfl, HB4⟩
      case measure => simp [intOf]; omega
    · obtain rfl : m = k := by omega
      have f0 := hb.out.rc.dk.frozen 0
      have c0 : wr.cell? ⟨gr, 0, none⟩ = some (.slice na nn nk) := hb.out.rc.dk.cell 0
      have HRC : Hid (RC w0 (wr.setCell ⟨gr, 0, none⟩ (.slice va vn vk)) gr R' ⟨va, vn, vk⟩ ⟨ma, mn, mk⟩ lk lm (.slice ao ops.length co) ops) :=
        HC0.out.setNow (nv' := ⟨va, vn, vk⟩) hb.out.cur hb.out.upd hb.out.sub hb.out.new
      rcases (show n ≤ (m : Int) ∨ ((m : Int) < n ∧ (ops.length : Int) ≤ m) by have := HM.out; omega) with q | ⟨q, q2⟩
      all_goals
        go_wp2_with fail
        (with_reducible refine (rSetMarkC_any HRC.out).mono ?_)
        rintro e w5 ⟨rfl, h5, hu5⟩
        have hset : Upd [gr] wr (wr.setCell ⟨gr, 0, none⟩ (.slice va vn vk)) := (Upd.refl [gr] wr).setCell _ _ (.inl (by simp))
        have HF := Lib.hid (hb.out.finish (nv' := ⟨va, vn, vk⟩) HDK.out n HM.out h5 (hset.trans hu5 (fun x hx => hx) (fun x hx => .inl hx)))
        clear h5 hu5 hset hb
        go_wp2_with fail
        go_end0
        exact ⟨rfl, HF.out⟩
end
end Go.Proofs.YtmhojaiajhdlcaaGreat
namespace Go.Proofs.YtmhojaiajhdlcaaGreat
open Go.RowKit
set_option linter.unusedSimpArgs false
set_option linter.unusedVariables false
section
variable {w0 w w' : World} {gr : Nat} {R : List Nat} {nv mv : Sl} {ln lm : List OW} {ov : Value} {ops : List LW}
theorem RL.more {w : World} {R R' : List Nat} {v : Value} {l : List OW} (h : RL w R v l) (hs : ∀ x ∈ R, x ∈ R') : RL w R' v l :=
  ⟨h.row, fun x hx => hs x (h.vR x hx), h.dat, fun c hc x hx => hs x (h.dR c hc x hx), h.ris⟩
theorem RC.bytes (h : RC w0 w gr R nv mv ln lm ov ops) {v : Value} {l : List UInt8} (ho : Own bv w.heap.size 5 w' v l) (hu : Upd [] w w') : RC w0 w' gr (R ++ blk v) nv mv ln lm ov ops := by
  have h0 := h.upd0 hu
  have hlt := h.dk.lt
  have hs : ∀ x ∈ R, x ∈ R ++ blk v := fun x hx => List.mem_append.2 (.inl hx)
  refine ⟨h0.dk, h0.grb, fun hx => ?_, h0.now.more hs, h0.mark.more hs, h0.opw, h0.odat, fun x hx y hy => hs y (h0.oR x hx y hy), fun x hx hy => ?_, h0.old, fun x hx => ?_⟩
  · rcases List.mem_append.1 hx with q | q
    · exact h.grR q
    · have := (ho.ge gr q).1; omega
  · rcases List.mem_append.1 hy with q | q
    · exact h.oap x hx q
    · have := (ho.ge x q).1; have := (h.opw.ge x hx).2; omega
  · rcases List.mem_append.1 hx with q | q
    · exact h0.Rlt x q
    · have h1 := ho.ge x q; have h2 := h.old.size; exact ⟨by omega, h1.2⟩
end
section
variable {w0 w w' : World} {gr : Nat} {G : List Nat} {s : DS}
theorem rPut_any (nm : ByteArray) (c : List UInt8) (sl : Sl) (h : RD w0 w gr G s) (ho : Own bv w.heap.size 5 w' (slv sl) c) (hu : Upd [] w w') (hx : WrOk (wPut nm c) s.now) (hl : s.log.length ≤ 1000000000) :
    Calls Tryz.prog 71 #[.pointer (some ⟨gr, 0, none⟩), wrv (wPut nm c) sl] w' fun e w2 => e = .returned (.tuple #[]) ∧ ROut w0 w gr G (dDo (wPut nm c) s) w2 := by
  obtain ⟨R, nv, mv, ln, lm, ov, ops, hc, rfl, hok, rfl⟩ := h.ex
  have hc2 := hc.bytes ho hu
  refine (rDoC_any (wPut nm c) sl hc2 hx hok.tot ho.rd (fun y hy => List.mem_append.2 (.inr hy)) (by simpa using hl)).mono ?_
  rintro e w2 ⟨rfl, R', nv', ln', ov', h1, h3, h4, h5⟩
  have hf : ∀ x ∈ rfoot gr (R ++ blk (slv sl)) ov, x ∈ rfoot gr R ov ∨ w.heap.size ≤ x := fun x hx => by
    rcases (rfoot_mem _ _ _ _).1 hx with rfl | q | q
    · exact .inl ((rfoot_mem _ _ _ _).2 (.inl rfl))
    · rcases List.mem_append.1 q with q | q
      · exact .inl ((rfoot_mem _ _ _ _).2 (.inr (.inl q)))
      · exact .inr (ho.ge x q).1
    · exact .inl ((rfoot_mem _ _ _ _).2 (.inr (.inr q)))
  refine ⟨rfl, _, ⟨R', nv', mv, ln', lm, ov', _, h1, by unfold dDo; rw [h3]; simp, hok.do_ hx, rfl⟩, hu.trans h4 (by simp) hf, fun x hx => ?_⟩
  rcases h5 x hx with q | q
  · exact hf x q
  · exact .inr (by have := hu.size; omega)
end
end Go.Proofs.YtmhojaiajhdlcaaGreat
