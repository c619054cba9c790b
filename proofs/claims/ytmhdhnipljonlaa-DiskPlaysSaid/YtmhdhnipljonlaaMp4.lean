/- Texts of the proof, joined: The document's disk: a file has another name. Chapter 22: a disk in memory. The document's disk in memory; one raw write. The document's disk: one raw write, kept. The document's own look at a name. The document's disk: Rename, Remove, SetMark. The document's disk: Cut, SetMark, Read. The document's disk: SetMark, Total, Names. Chapter 22: one raw write. Chapter 22: a disk made, and read. Chapter 22: the bytes of all files together; a copy of the files; Mark. -/
import Derived.Test.YtmhdhnipljonlaaMp3
import Derived.Deep.RegionLaw
import Derived.Deep.RegionWith
import Derived.Test.YtmhdhnipljonlaaRows
import Derived.Test.YtmhdhnipljonlaaMp1
import Derived.StillTailTactics
namespace Go.Proofs.Ytmhdhnipljonlaa
open Go.RowKit
set_option linter.unusedSimpArgs false
set_option linter.unusedVariables false
theorem set_set {fs : DF} (hr : Rising strLt fs) (k : ByteArray) (x y : List UInt8) : tSet strLt (tSet strLt fs k x) k y = tSet strLt fs k y := by
  have hle := below_le (lt := strLt) fs k
  have htk : (fs.take (below strLt fs k)).length = below strLt fs k := by rw [List.length_take]; omega
  rw [tSet_in _ k y (in_set hr k x), below_set hr, nth_set_at]
  unfold tSet
  rw [List.set_append_right _ _ (by rw [htk]; exact Nat.le_refl _), htk, Nat.sub_self, List.set_cons_zero]
theorem bytes_upd' {w w' : World} {v : Value} {l : List UInt8} (h : Bytes w v l) {S : List Nat} (hu : Upd S w w') (hs : l ≠ [] → ∀ x ∈ blk v, x ∉ S) : Bytes w' v l := by
  by_cases hne : l = []
  · obtain ⟨a, k, e, h1, h2, h3⟩ := h
    exact ⟨a, k, e, h1, h2, fun q => absurd hne q⟩
  · exact h.upd hu (hs hne)
section
variable {w : World} {R : List Nat} {v : Value} {l : List OW}
/-- The bytes' slice is laid into the row of the new name. -/
theorem ren_fin (H : RL w R v l) {wx : World} {base gx nx cx kk : Nat} {L : List OW} {tn : ByteArray} {oa : Option Addr} {on ok : Nat} {old : List UInt8} (hrow : OwnN 2 owCells base 150 wx (.slice (some ⟨gx, 0, none⟩) nx cx) L) (hb : w.heap.size ≤ base) (hu : Upd [] w wx) (hdat : ∀ c ∈ L, Bytes wx (slv c.2.1) c.2.2 ∧ (∀ x ∈ blk (slv c.2.1), x ∈ R ∨ (w.heap.size ≤ x ∧ x < wx.heap.size)) ∧ (c.2.2 ≠ [] → ∀ x ∈ blk (slv c.2.1), x ≠ gx))
    (hold : Bytes w (.slice oa on ok) old) (hoR : ∀ x ∈ blk (.slice oa on ok), x ∈ R) (hin : isIn strLt L tn = true) (hk : below strLt L tn = kk) (hr : Rising strLt L) :
    RDoes w R (tSet strLt (dfOf L) tn old) (.returned (.slice (some ⟨gx, 0, none⟩) nx cx)) (wx.setCell ⟨gx, kk * 2 + 1, none⟩ (.slice oa on ok)) := by
  have hin' := hin
  unfold isIn at hin'
  obtain ⟨hkl, hkn⟩ := of_decide_eq_true hin'
  have hset := set_yes (l := L) (nm := tn) ((⟨oa, on, ok⟩ : Sl), old) kk hin hk hkn
  rw [hk] at hkl hkn
  have hst : Upd [gx] wx (wx.setCell ⟨gx, kk * 2 + 1, none⟩ (.slice oa on ok)) := (Upd.refl [gx] _).setCell _ _ (.inl (by simp))
  have hrow2 := hrow.set_ owCells_len kk 1 hkl (by omega) (.slice oa on ok) (tn, ((⟨oa, on, ok⟩ : Sl), old)) (by rw [nth_get L kk hkl] at hkn; rw [← hkn]; rfl)
  rw [← hset] at hrow2
  have hgx : base ≤ gx := (hrow.ge gx (by simp [blk])).1
  have hnold : old ≠ [] → ∀ x ∈ blk (.slice oa on ok), x ≠ gx := fun hne x hx he => by have := hold.lt hne x hx; omega
  have hup : Upd [] w (wx.setCell ⟨gx, kk * 2 + 1, none⟩ (.slice oa on ok)) := hu.trans hst (by simp) (fun y hy => .inr (by simp at hy; omega))
  refine RDoes.of H rfl hrow2 hb hup ?_ (hr.set_ strOrd _ _) ?_
  · rw [df_set]
  · intro c hc
    refine .inr ?_
    rcases tSet_mem L tn _ c hc with rfl | q
    · exact ⟨hold.upd0 hup, fun x hx => .inl (hoR x hx), fun hne x hx hy => hnold hne x hx (by simpa [blk] using hy)⟩
    · obtain ⟨q1, q2, q3⟩ := hdat c q
      exact ⟨bytes_upd' q1 hst (fun hne x hx hy => q3 hne x hx (by simpa using hy)), fun x hx => (q2 x hx).imp id (fun q => by simpa using q), fun hne x hx hy => q3 hne x hx (by simpa [blk] using hy)⟩
set_option maxRecDepth 20000 in
set_option maxHeartbeats 4000000 in
theorem rMade_3 (nm tn : ByteArray) (p : List UInt8) (n : Int) (pa : Option Addr) (pn pk : Nat) (h : RL w R v l) (hl : l.length ≤ 10000) (hin : isIn strLt l nm = true) (old0 : List UInt8) (hold0 : (nth l (below strLt l nm)).2.2 = old0) :
    Calls Try.prog 93 #[v, wrv ⟨3, nm, tn, p, n⟩ ⟨pa, pn, pk⟩] w (RDoes w R (tSet strLt (tDel strLt (dfOf l) nm) tn old0)) := by
  obtain ⟨ao0, co0, rfl, hlc, hcm, -⟩ := h.row
  have hcap : co0 ≤ 9223372036854775807 := by unfold maxLen at hcm; omega
  have HB0 := Lib.hid (Blk.new w 148 [.int .i64 3, sv nm, sv tn, .slice pa pn pk, .int .i64 n])
  have HU0 := Lib.hid ((Upd.refl [] w).alloc (.cells #[.int .i64 3, sv nm, sv tn, .slice pa pn pk, .int .i64 n] 148))
  have H := Lib.hid h
  clear h hcm
  go_enter Try.func93, Try.ntmps93
  have hb0 : Blk (w.alloc (.cells #[.int .i64 3, sv nm, sv tn, .slice pa pn pk, .int .i64 n] 148)) w.heap.size 148 [.int .i64 3, sv nm, sv tn, .slice pa pn pk, .int .i64 n] := HB0.out
  have HRUN : Hid (∀ ty (W : World) (G : Nat), G = w.heap.size + 1 → W = (w.alloc (.cells #[.int .i64 3, sv nm, sv tn, .slice pa pn pk, .int .i64 n] 148)).alloc (.cells #[] 150) → ∃ v' w', (Builtin.append_ #[60, 60] ty #[.slice (some ⟨G, 0, none⟩) 0 0, .slice ao0 l.length co0]).run Try.prog W = .ok v' w' ∧ (OwnN 2 owCells (w.heap.size + 1) 150 w' v' l ∧ Upd [] (w.alloc (.cells #[.int .i64 3, sv nm, sv tn, .slice pa pn pk, .int .i64 n] 148)) w')) := by
    rintro ty W G rfl rfl
    have hs : (w.alloc (.cells #[.int .i64 3, sv nm, sv tn, .slice pa pn pk, .int .i64 n] 148)).heap.size = w.heap.size + 1 := by simp
    have hbk := Blk.new (w.alloc (.cells #[.int .i64 3, sv nm, sv tn, .slice pa pn pk, .int .i64 n] 148)) 150 []
    rw [hs] at hbk
    have hu := (Upd.refl [] (w.alloc (.cells #[.int .i64 3, sv nm, sv tn, .slice pa pn pk, .int .i64 n] 148))).alloc (.cells #[] 150)
    obtain ⟨v', w', h1, h2, h3, h4⟩ := run_appN (P := Try.prog) (ty := ty) (base := w.heap.size + 1) owCells_len (by decide) owCells_one undOW infoOW rfl _ (.slice ao0 l.length co0) [] l (ownN_emptyR 2 owCells (w.heap.size + 1) _ _ (w.heap.size + 1) (Nat.le_refl _) hbk) (H.out.row.upd0 owCells_len (HU0.out.seq hu)) (by simp; omega) (by unfold maxLen; simp; omega) (by simp)
    rw [List.nil_append] at h2
    exact ⟨v', w', h1, h2, hu.trans h3 (by simp) (fun y hy => .inr (by simp [blk] at hy; omega))⟩
  clear hb0
  go_wp2_with (at_builtin; go_must (refine wpList_app_of rfl _ _ rfl (.slice (some ⟨w.heap.size + 1, 0, none⟩) 0 0) (.slice ao0 l.length co0) rfl rfl (HRUN.out _ _ _ rfl rfl) ?_; rintro v1 w1 ⟨ho1, hu1⟩; have HO1 := Lib.hid ho1; have HU1 := Lib.hid hu1; obtain ⟨ao, co, rfl, -⟩ := ho1.rd owCells_len; have hb1 := HB0.out.upd hu1 (by simp); have d0 := hb1.cell 0; have d1 := hb1.cell 1; have d2 := hb1.cell 2; have d3 := hb1.cell 3; have d4 := hb1.cell 4; simp only [List.getElem?_cons_zero, List.getElem?_cons_succ] at d0 d1 d2 d3 d4; have HB1 := Lib.hid hb1; clear ho1 hu1 hb1 HRUN; dsimp only))
  (with_reducible refine (rdAt_any w1 _ l nm (HO1.out.rd owCells_len) H.out.ris (by omega)).mono ?_)
  rintro e wq ⟨rfl, huq⟩
  have D1 := Lib.hid (huq.cell d1 (by simp))
  have D2 := Lib.hid (huq.cell d2 (by simp))
  have D3 := Lib.hid (huq.cell d3 (by simp))
  have D4 := Lib.hid (huq.cell d4 (by simp))
  replace d0 := huq.cell d0 (by simp)
  have HOQ := Lib.hid (HO1.out.upd huq (by simp))
  have HUQ := Lib.hid ((HU0.out.seq HU1.out).seq huq)
  have hin' : isIn strLt l nm = true := hin
  unfold isIn at hin'
  obtain ⟨hkl, hkn⟩ := of_decide_eq_true hin'
  have hai : atI l nm = (below strLt l nm : Int) := by unfold atI; rw [hin]; rfl
  rw [hai]
  have HKN := Lib.hid hkn
  have HDEL : Hid (tDel strLt l nm = l.take (below strLt l nm) ++ l.drop (below strLt l nm + 1)) := by unfold Hid tDel; rw [hin]; rfl
  obtain ⟨k, hk⟩ : ∃ k, below strLt l nm = k := ⟨_, rfl⟩
  have HK := Lib.hid hk
  rw [hk] at hkl ⊢
  obtain ⟨hco, hlco⟩ : co ≤ 9223372036854775807 ∧ l.length ≤ co := by
    obtain ⟨a', k', he, h1, h2, -⟩ := HO1.out.rd owCells_len
    have := (Value.slice.inj he).2.2
    subst this; unfold maxLen at h2; exact ⟨by omega, h1⟩
  have HSQ : Hid (w.heap.size ≤ wq.heap.size) := HUQ.out.size
  have HIN := Lib.hid hin
  have p0 : (0 : Int) ≤ k := by omega
  have p1 : (k : Int) < l.length := by omega
  have p2 : (k : Int) + 1 ≤ l.length := by omega
  have p3 : (0 : Int) ≤ (k : Int) + 1 := by omega
  have hwr : IntKind.i64.wrap ((k : Int) + 1) = (k : Int) + 1 := by rw [IntKind.wrap_i64]; omega
  clear d1 d2 d3 d4 huq HO1 HU1 HB1 HB0 hin hin' hkn hai hk
  obtain ⟨g, rfl, hg1, hg2, Cg, fg, hgt⟩ := HOQ.out.addrR (by omega) rfl
  have hne2 : ¬ g = w.heap.size := by omega
  obtain ⟨⟨xn, ⟨oa, on, ok⟩, old⟩, hx⟩ : ∃ x, nth l k = x := ⟨_, rfl⟩
  have hxm : (xn, ((⟨oa, on, ok⟩ : Sl), old)) ∈ l := by rw [← hx, nth_get l k hkl]; exact List.getElem_mem _
  have hxn : xn = nm := by have := HKN.out; rw [HK.out, hx] at this; exact this
  subst hxn
  have HOLD : Hid (Bytes wq (.slice oa on ok) old) := (H.out.dat _ hxm).upd0 HUQ.out
  have hon : on = old.length := by
    obtain ⟨a', k', he, -⟩ := HOLD.out
    exact (Value.slice.inj he).2.1
  subst hon
  have hok : ok ≤ 9223372036854775807 ∧ old.length ≤ ok := by
    obtain ⟨a', k', he, h1, h2, -⟩ := HOLD.out
    have := (Value.slice.inj he).2.2
    subst this; unfold maxLen at h2; exact ⟨by omega, h1⟩
  obtain ⟨hok, hok2⟩ := hok
  have HX := Lib.hid hx
  have CR : Hid (wq.cell? ⟨g, k * 2 + 1, none⟩ = some (.slice oa old.length ok)) := by
    have := HOQ.out.cellR owCells_len k 1 hkl (by omega)
    rw [hx] at this; exact this
  have FR : Hid (∀ W, Upd [] wq W → W.frozen? ⟨g, k * 2 + 1, none⟩ = false) := fun W hW => (HOQ.out.upd hW (by simp)).frozenR _
  have HGT : Hid (∀ b, (∃ C f, wq.heap[b]? = some (.cells C 5 f)) → b ≠ g) := fun b hb he => by
    obtain ⟨C, f, hb⟩ := hb
    subst he
    exact absurd (ty_eq hb hgt) (by decide)
  have HG1 := Lib.hid hg1
  have HG2 := Lib.hid hg2
  have HXM := Lib.hid hxm
  clear hgt hg1 hx hxm hg2
  obtain rfl : old = old0 := by rw [← hold0, HK.out, HX.out]
  clear hold0
  have HOL0 : Hid (Bytes w (.slice oa old.length ok) old) := H.out.dat _ HXM.out
  have HOR0 : Hid (∀ x ∈ blk (.slice oa old.length ok), x ∈ R) := H.out.dR _ HXM.out
  have c1 := CR.out
  have HR2 := Lib.hid (HOQ.out.rd owCells_len)
  generalize wq = w2 at *
  have hb : k ≤ l.length := by omega
  have HA1 : Hid (∀ (W : World) (G : Nat), w2.heap.size ≤ G → Upd [] w2 W → Blk W G 150 [] → ∃ v' w', (Builtin.append_ #[60, 60] 60 #[.slice (some ⟨G, 0, none⟩) 0 0, .slice (some ⟨g, 0, none⟩) k co]).run Try.prog W = .ok v' w' ∧ (OwnN 2 owCells w2.heap.size 150 w' v' (l.take k) ∧ Upd [G] W w' ∧ Upd [] w2 w' ∧ ∃ a1 k1, v' = .slice a1 k k1)) := by
    intro W G hG hU hB
    obtain ⟨v', w', h1, h2, h3, h4⟩ := run_appN (P := Try.prog) (ty := 60) (base := w2.heap.size) owCells_len (by decide) owCells_one undOW infoOW rfl _ (.slice (some ⟨g, 0, none⟩) k co) [] (l.take k) (ownN_emptyR 2 owCells _ _ W G hG hB) ((HR2.out.takeR k hb).upd0 owCells_len hU) (by simp; omega) (by unfold maxLen; simp; omega) hU.size
    rw [List.nil_append] at h2
    obtain ⟨a1, k1, h5, _⟩ := h2.rd owCells_len
    exact ⟨v', w', h1, h2, h3, hU.trans h3 (by simp) (fun y hy => .inr (by simp [blk] at hy; omega)), a1, k1, by rw [h5, List.length_take, Nat.min_eq_left hb]⟩
  obtain ⟨D, hD, hcutD⟩ : ∃ D : Option Addr, D = (if co = k + 1 then (some ⟨g, 0, none⟩) else (some ⟨g, 0, none⟩ : Option Addr).map (·.add ((k + 1) * 2))) ∧ ∀ W, (Instr.slice 60 (.slice (some ⟨g, 0, none⟩) l.length co) (some (.int .i64 ((k : Int) + 1))) none none).run Try.prog W = .ok (.slice D (l.length - (k + 1)) (co - (k + 1))) W := ⟨_, rfl, fun W => by have h := run_cut (P := Try.prog) undOW sizeOW (some ⟨g, 0, none⟩) l.length co (k + 1) (by omega) W; simpa using h⟩
  have HD : Hid (RdN 2 owCells w2 (.slice D (l.length - (k + 1)) (co - (k + 1))) (l.drop (k + 1))) := by unfold Hid; rw [hD]; exact HR2.out.dropR (k + 1) (by omega)
  have HA3 : Hid (∀ (W : World) (a2 : Option Addr) (k2 : Nat), OwnN 2 owCells w2.heap.size 150 W (.slice a2 (k) k2) (l.take k) → Upd [] w2 W → ∃ v' w', (Builtin.append_ #[60, 60] 60 #[.slice a2 (k) k2, (.slice D (l.length - (k + 1)) (co - (k + 1)))]).run Try.prog W = .ok v' w' ∧ (OwnN 2 owCells w2.heap.size 150 w' v' (l.take k ++ l.drop (k + 1)) ∧ Upd [] w2 w' ∧ ∃ a3 n3 k3, v' = .slice a3 n3 k3)) := by
    intro W a2 k2 hO hU
    obtain ⟨v', w', h1, h2, h3, h4⟩ := run_appN (P := Try.prog) (ty := 60) (base := w2.heap.size) owCells_len (by decide) owCells_one undOW infoOW rfl _ (.slice D (l.length - (k + 1)) (co - (k + 1))) (l.take k) (l.drop (k + 1)) hO (HD.out.upd0 owCells_len hU) (by simp; omega) (by unfold maxLen; simp; omega) hU.size
    obtain ⟨a3, k3, h5, _⟩ := h2.rd owCells_len
    exact ⟨v', w', h1, h2, hU.trans h3 (by simp) (fun y hy => .inr (hO.ge y hy).1), a3, _, k3, h5⟩
  clear hD
  have hcutA : ∀ W, (Instr.slice 60 (.slice (some ⟨g, 0, none⟩) l.length co) none (some (.int .i64 (k : Int))) none).run Try.prog W = .ok (.slice (some ⟨g, 0, none⟩) k co) W := fun W => run_cut_h (P := Try.prog) undOW sizeOW (some ⟨g, 0, none⟩) l.length co k (by omega) W
  go_wp2_with fail
  go_region_held3 (fun w' => True) (trivial) (first
        | ((refine step_app_of rfl (.tmp 78) (.tmp 82) rfl (.slice a1 k k1) (.slice D (l.length - (k + 1)) (co - (k + 1))) (by rfl) (by rfl) (HA3.out _ a1 k1 ?_ ?_) ?_); (refine OwnN.upd (S := []) ho3 ?_ (by simp); (repeat (first | exact Upd.refl _ _ | apply Upd.drew | apply Upd.drewN | apply Upd.alloc))); (refine hu23.seq ?_; (repeat (first | exact Upd.refl _ _ | apply Upd.drew | apply Upd.drewN | apply Upd.alloc))); (rintro v3 w5 ⟨ho5, hu5, a3, n3, k3, rfl⟩; skip; dsimp only))
        | ((refine step_app_of rfl (.tmp 74) (.tmp 77) rfl (.slice (some ⟨w2.heap.size, 0, none⟩) 0 0) (.slice (some ⟨g, 0, none⟩) k co) (by rfl) (by rfl) (HA1.out _ (w2.heap.size) (by omega) ?_ ?_) ?_); (repeat (first | exact Upd.refl _ _ | apply Upd.drew | apply Upd.drewN | apply Upd.alloc)); (refine Blk.fresh (w := w2) (C := #[]) (xs := []) rfl rfl ?_; (repeat (first | exact Upd.refl _ _ | apply Upd.drew | apply Upd.drewN | apply Upd.alloc))); (rintro v1 w3 ⟨ho3, hu3, hu23, a1, k1, rfl⟩; skip; dsimp only)))
  all_goals
    obtain ⟨LD, hLD⟩ : ∃ LD, tDel strLt l xn = LD := ⟨_, rfl⟩
    have hset := HDEL.out
    rw [HK.out, hLD] at hset
    rw [← hset] at ho5
    have hn3 : n3 = LD.length := by
      obtain ⟨a', k', he, -⟩ := ho5.rd owCells_len
      exact (Value.slice.inj he).2.1
    subst hn3
    have HO5 := Lib.hid ho5
    have HU5 := Lib.hid hu5
    have HLD := Lib.hid hLD
    have HDL : Hid (dfOf LD = tDel strLt (dfOf l) xn) := by unfold Hid; rw [← hLD, df_del]
    have HRD : Hid (Rising strLt LD) := by unfold Hid; rw [← hLD]; exact H.out.ris.del strOrd _
    have HML : Hid (∀ c ∈ LD, c ∈ l) := fun c hc => by rw [← hLD] at hc; exact tDel_mem l xn c hc
    have HLL : Hid (LD.length ≤ 10000) := by unfold Hid; rw [← hLD]; have := tDel_len (lt := strLt) l xn; omega
    have e2 := hu5.cell D2.out (by simp)
    have E2 := Lib.hid e2
    have hk3 : k3 ≤ 9223372036854775807 ∧ LD.length ≤ k3 := by
      obtain ⟨a', k', he, h1, h2, -⟩ := ho5.rd owCells_len
      have := (Value.slice.inj he).2.2
      subst this; unfold maxLen at h2; exact ⟨by omega, h1⟩
    obtain ⟨hk3, hk3'⟩ := hk3
    have HSZ5 : Hid (w.heap.size ≤ w5.heap.size) := ((HUQ.out.seq hu5)).size
    clear ho5 hu5 hset hLD c1 hcutA hcutD
    go_wp2_with fail
    (with_reducible refine (rdAt_any w5 _ LD tn (HO5.out.rd owCells_len) HRD.out (by have := HLL.out; omega)).mono ?_)
    rintro e w6 ⟨rfl, hu6⟩
    have HO6 := Lib.hid (HO5.out.upd hu6 (by simp))
    have HU6 := Lib.hid ((HUQ.out.seq HU5.out).seq hu6)
    replace e2 := hu6.cell e2 (by simp)
    have HDAT : Hid (∀ c ∈ LD, Bytes w6 (slv c.2.1) c.2.2 ∧ (∀ x ∈ blk (slv c.2.1), x ∈ R ∨ (w.heap.size ≤ x ∧ x < w6.heap.size))) := fun c hc => ⟨(H.out.dat c (HML.out c hc)).upd0 HU6.out, fun x hx => .inl (H.out.dR c (HML.out c hc) x hx)⟩
    clear hu6
    cases hti : isIn strLt LD tn with
    | true =>
      have hai : atI LD tn = (below strLt LD tn : Int) := by unfold atI; rw [hti]; rfl
      rw [hai]
      have hti' := hti
      unfold isIn at hti'
      obtain ⟨hkl2, -⟩ := of_decide_eq_true hti'
      obtain ⟨kk, hkk⟩ : ∃ kk, below strLt LD tn = kk := ⟨_, rfl⟩
      have HKK := Lib.hid hkk
      rw [hkk] at hkl2 ⊢
      obtain ⟨g3, rfl, hg3, hg3', -⟩ := HO6.out.addrR (by omega) rfl
      have z0 : ¬ (kk : Int) < 0 := by omega
      have z1 : (0 : Int) ≤ kk := by omega
      have z2 : (kk : Int) < LD.length := by omega
      have s0 : w6.cell? ⟨g3, kk * 2 + 1, none⟩ = some (slv (nth LD kk).2.1) := by
        have := HO6.out.cellR owCells_len kk 1 hkl2 (by omega)
        exact this
      have f0 := HO6.out.frozenR (kk * 2 + 1)
      have HTI := Lib.hid hti
      have HFIN := Lib.hid (ren_fin H.out (tn := tn) (kk := kk) HO6.out (by have := HSQ.out; omega) HU6.out (fun c hc => ⟨(HDAT.out c hc).1, (HDAT.out c hc).2, fun hne x hx he => by have h1 := (H.out.dat c (HML.out c hc)).lt hne x hx; have h2 := HSQ.out; omega⟩) HOL0.out HOR0.out hti hkk HRD.out)
      generalize slv (nth LD kk).2.1 = sv0 at *
      clear hti hti' hai hkk
      go_wp2_with fail
      go_ret
      have := HFIN.out
      rw [HDL.out] at this
      exact this
    | false =>
      have hai : atI LD tn = -1 := by unfold atI; rw [hti]; rfl
      rw [hai]
      have HTI := Lib.hid hti
      have HRL : Hid (RL w6 (R ++ blk (.slice a3 LD.length k3)) (.slice a3 LD.length k3) LD) := ⟨HO6.out.rd owCells_len, fun x hx => by simp [hx], fun c hc => (HDAT.out c hc).1, fun c hc x hx => by simp [H.out.dR c (HML.out c hc) x hx], HRD.out⟩
      have HB3 : Hid (∀ x ∈ blk (.slice a3 LD.length k3), w.heap.size ≤ x ∧ x < w6.heap.size) := fun x hx => by have h1 := HO6.out.ge x hx; have h2 := HSQ.out; exact ⟨by omega, h1.2⟩
      clear hti hai
      go_wp2_with fail
      (with_reducible refine (rMade_1 tn ⟨#[]⟩ [] 0 none 0 0 HRL.out HLL.out HTI.out).mono ?_)
      rintro e w7 ⟨v7, R7, L7, rfl, hrl7, ho7, hd7, hu7, hR7, hR7', hne7⟩
      have hin7 : isIn strLt L7 tn = true := by rw [← in_df, hd7]; exact in_set (mapS_rising' (fun x : Sl × List UInt8 => x.2) HRD.out) tn []
      have hl7 : L7.length ≤ 10001 := by
        have := congrArg List.length hd7
        rw [df_len] at this
        have h2 := tSet_len (lt := strLt) (dfOf LD) tn []
        rw [df_len] at h2
        have := HLL.out
        omega
      obtain ⟨a7, c7, rfl, hk7', hk7, -⟩ := ho7.rd owCells_len
      have hk7b : c7 ≤ 9223372036854775807 := by unfold maxLen at hk7; omega
      have HO7 := Lib.hid ho7
      have HRL7 := Lib.hid hrl7
      have HD7 := Lib.hid hd7
      have HU7 := Lib.hid (HU6.out.seq hu7)
      have HS67 : Hid (w6.heap.size ≤ w7.heap.size) := hu7.size
      have HR7' := Lib.hid hR7'
      have HNE7 := Lib.hid hne7
      have HIN7 := Lib.hid hin7
      have e7 := hu7.cell e2 (by simp)
      have HS6 : Hid (w.heap.size ≤ w6.heap.size) := HU6.out.size
      have HL7 : Hid (L7.length ≤ 100000) := by unfold Hid; omega
      clear hrl7 ho7 hd7 hu7 hR7 hR7' hne7 hin7 e2 hk7
      go_wp2_with fail
      (with_reducible refine (rdAt_any w7 _ L7 tn HRL7.out.row HRL7.out.ris HL7.out).mono ?_)
      rintro e w8 ⟨rfl, hu8⟩
      have hti' := HIN7.out
      unfold isIn at hti'
      obtain ⟨hkl2, -⟩ := of_decide_eq_true hti'
      have hai : atI L7 tn = (below strLt L7 tn : Int) := by unfold atI; rw [HIN7.out]; rfl
      rw [hai]
      obtain ⟨kk, hkk⟩ : ∃ kk, below strLt L7 tn = kk := ⟨_, rfl⟩
      have HKK := Lib.hid hkk
      rw [hkk] at hkl2 ⊢
      have HO8 := Lib.hid (HO7.out.upd hu8 (by simp))
      obtain ⟨g8, rfl, hg8, hg8', -⟩ := HO8.out.addrR (by omega) rfl
      have z1 : (0 : Int) ≤ kk := by omega
      have z2 : (kk : Int) < L7.length := by omega
      have s0 : w8.cell? ⟨g8, kk * 2 + 1, none⟩ = some (slv (nth L7 kk).2.1) := by
        have := HO8.out.cellR owCells_len kk 1 hkl2 (by omega)
        exact this
      have f0 := HO8.out.frozenR (kk * 2 + 1)
      have HFIN := Lib.hid (ren_fin H.out (tn := tn) (kk := kk) HO8.out HS6.out (HU7.out.seq hu8) (fun c hc => ⟨(HRL7.out.dat c hc).upd0 hu8, fun x hx => by
        rcases HR7'.out x (HRL7.out.dR c hc x hx) with q | q
        · rcases List.mem_append.1 q with r | r
          · exact .inl r
          · have h1 := HB3.out x r
            have h2 := HS67.out
            have h3 := hu8.size
            exact .inr ⟨h1.1, by omega⟩
        · have h3 := hu8.size
          exact .inr ⟨by have := HS6.out; omega, by omega⟩, fun hne x hx he => HNE7.out c hc hne x hx (by simp [blk, he])⟩) HOL0.out HOR0.out HIN7.out hkk HRL7.out.ris)
      generalize slv (nth L7 kk).2.1 = sv0 at *
      clear hti' hai hkk hu8
      go_wp2_with fail
      go_ret
      have := HFIN.out
      rw [HD7.out, set_set (mapS_rising' (fun x : Sl × List UInt8 => x.2) HRD.out)] at this
      have : RDoes w R (tSet strLt (dfOf LD) tn old) _ _ := this
      rw [HDL.out] at this
      exact this
end
end Go.Proofs.Ytmhdhnipljonlaa
namespace Go.Proofs.Ytmhdhnipljonlaa
open Go.RowKit
set_option linter.unusedSimpArgs false
set_option linter.unusedVariables false
set_option linter.unusedSectionVars false
abbrev LW := Wr × Sl
abbrev lwCells (x : LW) : List Value := [.int .i64 x.1.kd, sv x.1.nm, sv x.1.tn, slv x.2, .int .i64 x.1.n]
theorem lwCells_len : ∀ x, (lwCells x).length = 5 := fun _ => rfl
theorem lwCells_one : ∀ x, ∀ u ∈ lwCells x, u.oneCell' = true := by intro x u hu; simp [lwCells] at hu; rcases hu with rfl | rfl | rfl | rfl | rfl <;> rfl
theorem infoLW : (Try.prog.info? 114).map (fun i => (i.zero, i.size, i.bytes)) = some (some (.agg #[.int .i64 0, .string ⟨#[]⟩, .string ⟨#[]⟩, .slice none 0 0, .int .i64 0]), 5, 72) := by kernel_rfl
theorem undLW : Try.prog.underlying 109 = some (.slice 114) := by kernel_rfl
theorem ownN_sl {base : Nat} {e : TypeId} {w : World} {v : Value} {l : List LW} (h : OwnN 5 lwCells base e w v l) : ∃ s : Sl, v = .slice s.a s.n s.k := by
  obtain ⟨a, k, h, _⟩ := h.rd lwCells_len
  exact ⟨⟨a, _, k⟩, h⟩
/-- A disk at gd. -/
structure DC (w0 w : World) (gd gn gm : Nat) (Fn Fm B : List Nat) (K : KB) (cn cm : CF) (lv : Value) (lg : List LW) : Prop where
  dk : Blk w gd 111 [.pointer (some ⟨gn, 0, none⟩), .pointer (some ⟨gm, 0, none⟩), lv]
  gdb : w0.heap.size ≤ gd
  now : TD w0 w gn Fn B K cn
  mark : TD w0 w gm Fm B K cm
  full : Full cm
  apt : Ap Fn Fm
  bks : Bks w0.heap.size w B K
  log : OwnN 5 lwCells w0.heap.size 114 w lv lg
  lsh : ∀ x ∈ lg, Sh B K x.2 x.1.p
def dfoot (gd : Nat) (Fn Fm B : List Nat) (lv : Value) : List Nat := gd :: (Fn ++ Fm ++ B ++ blk lv)
theorem dfoot_mem (gd : Nat) (Fn Fm B : List Nat) (lv : Value) (x : Nat) : x ∈ dfoot gd Fn Fm B lv ↔ x = gd ∨ x ∈ Fn ∨ x ∈ Fm ∨ x ∈ B ∨ x ∈ blk lv := by
  unfold dfoot
  simp only [List.mem_cons, List.mem_append]
  constructor
  · rintro (h | ((h | h) | h) | h)
    · exact .inl h
    · exact .inr (.inl h)
    · exact .inr (.inr (.inl h))
    · exact .inr (.inr (.inr (.inl h)))
    · exact .inr (.inr (.inr (.inr h)))
  · rintro (h | h | h | h | h)
    · exact .inl h
    · exact .inr (.inl (.inl (.inl h)))
    · exact .inr (.inl (.inl (.inr h)))
    · exact .inr (.inl (.inr h))
    · exact .inr (.inr h)
section
variable {w0 w w' : World} {gd gn gm : Nat} {Fn Fm B : List Nat} {K : KB} {cn cm : CF} {lv : Value} {lg : List LW}
theorem DC.old (h : DC w0 w gd gn gm Fn Fm B K cn cm lv lg) : Upd [] w0 w := h.now.tab.old
theorem DC.upd (h : DC w0 w gd gn gm Fn Fm B K cn cm lv lg) {S : List Nat} (hu : Upd S w w') (hs : ∀ x ∈ dfoot gd Fn Fm B lv, x ∉ S) (hS : ∀ x ∈ S, w0.heap.size ≤ x) : DC w0 w' gd gn gm Fn Fm B K cn cm lv lg :=
  ⟨h.dk.upd hu (hs gd ((dfoot_mem _ _ _ _ _ _).2 (.inl rfl))), h.gdb, h.now.upd hu (fun x hx => hs x ((dfoot_mem _ _ _ _ _ _).2 (.inr (.inl hx)))) hS, h.mark.upd hu (fun x hx => hs x ((dfoot_mem _ _ _ _ _ _).2 (.inr (.inr (.inl hx))))) hS, h.full, h.apt,
    h.bks.upd hu (fun x hx => hs x ((dfoot_mem _ _ _ _ _ _).2 (.inr (.inr (.inr (.inl hx)))))), h.log.upd hu (fun x hx => hs x ((dfoot_mem _ _ _ _ _ _).2 (.inr (.inr (.inr (.inr hx)))))), h.lsh⟩
theorem DC.upd0 (h : DC w0 w gd gn gm Fn Fm B K cn cm lv lg) (hu : Upd [] w w') : DC w0 w' gd gn gm Fn Fm B K cn cm lv lg := h.upd hu (by simp) (by simp)
theorem DC.ge (h : DC w0 w gd gn gm Fn Fm B K cn cm lv lg) : ∀ x ∈ dfoot gd Fn Fm B lv, w0.heap.size ≤ x ∧ x < w.heap.size := by
  intro x hx
  rcases (dfoot_mem _ _ _ _ _ _).1 hx with rfl | hx | hx | hx | hx
  · exact ⟨h.gdb, h.dk.lt⟩
  · exact h.now.tab.ge x hx
  · exact h.mark.tab.ge x hx
  · exact h.bks.ge x hx
  · exact h.log.ge x hx
theorem dk_F {l : List (ByteArray × Sl)} {g : Nat} {F : List Nat} {xs : List Value} (h : Blk w gd 111 xs) (k : TXSL w0 w g F l) : gd ∉ F := fun hx => by
  obtain ⟨C, f, e, h1, h2⟩ := sl_ty k gd hx
  have := ty_eq h1 h
  rcases h2 with h2 | h2 <;> (rw [h2] at this; exact absurd this (by decide))
theorem dk_B {base : Nat} {xs : List Value} (h : Blk w gd 111 xs) (k : Bks base w B K) : gd ∉ B := fun hx => by
  obtain ⟨C, f, h1⟩ := k.typ gd hx
  exact absurd (ty_eq h1 h) (by decide)
theorem dk_L {base : Nat} {xs : List Value} {v : Value} {l : List LW} (h : Blk w gd 111 xs) (k : OwnN 5 lwCells base 114 w v l) : gd ∉ blk v := fun hx => by
  obtain ⟨C, f, h1⟩ := k.typ gd hx
  exact absurd (ty_eq h1 h) (by decide)
theorem log_F {base : Nat} {v : Value} {lg : List LW} {l : List (ByteArray × Sl)} {g : Nat} {F : List Nat} (h : OwnN 5 lwCells base 114 w v lg) (k : TXSL w0 w g F l) : Ap (blk v) F := fun x hx hF => by
  obtain ⟨C', f', h1'⟩ := h.typ x hx
  obtain ⟨C, f, e, h1, h2⟩ := sl_ty k x hF
  have := ty_eq h1 h1'
  rcases h2 with h2 | h2 <;> (rw [h2] at this; exact absurd this (by decide))
theorem log_B {base base' : Nat} {v : Value} {lg : List LW} (h : OwnN 5 lwCells base 114 w v lg) (k : Bks base' w B K) : Ap (blk v) B := fun x hx hF => by
  obtain ⟨C', f', h1'⟩ := h.typ x hx
  obtain ⟨C, f, h1⟩ := k.typ x hF
  exact absurd (ty_eq h1 h1') (by decide)
/-- Behind a call that writes through the table of the files that are there. -/
theorem DC.step (h : DC w0 w gd gn gm Fn Fm B K cn cm lv lg) {Fn' B' : List Nat} {K' : KB} {cn' : CF} (h1 : TD w0 w' gn Fn' B' K' cn') (h2 : Bks w0.heap.size w' B' K') (h3 : Ext B K B' K') (hu : Upd (Fn ++ B) w w') (hf : ∀ x ∈ Fn', x ∈ Fn ∨ w.heap.size ≤ x) : DC w0 w' gd gn gm Fn' Fm B' K' cn' cm lv lg :=
  have hge : ∀ x ∈ Fn ++ B, w0.heap.size ≤ x := fun x hx => by
    rcases List.mem_append.1 hx with q | q
    · exact (h.now.tab.ge x q).1
    · exact (h.bks.ge x q).1
  ⟨h.dk.upd hu (fun hx => by
      rcases List.mem_append.1 hx with q | q
      · exact dk_F h.dk h.now.tab q
      · exact dk_B h.dk h.bks q), h.gdb, h1, (h.mark.upd hu (fun x hx hx' => by
      rcases List.mem_append.1 hx' with q | q
      · exact h.apt x q hx
      · exact sl_bks h.mark.tab h.bks x hx q) hge).ext h.full h3, h.full, h.apt.next hf (fun x hx => (h.mark.tab.ge x hx).2), h2, h.log.upd hu (fun x hx hx' => by
      rcases List.mem_append.1 hx' with q | q
      · exact log_F h.log h.now.tab x hx q
      · exact log_B h.log h.bks x hx q), fun x hx => (h.lsh x hx).ext h3⟩
end
/-- A disk, as the laws see it; G: its blocks. -/
structure DD (w0 w : World) (gd : Nat) (G : List Nat) (s : DS) : Prop where
  ex : ∃ gn gm Fn Fm B K cn cm lv lg, DC w0 w gd gn gm Fn Fm B K cn cm lv lg ∧ s = ⟨dfOf cn, dfOf cm, lg.map (·.1)⟩ ∧ DOk s ∧ G = dfoot gd Fn Fm B lv
def DOut (w0 w : World) (gd : Nat) (G : List Nat) (s' : DS) (w' : World) : Prop := ∃ G', DD w0 w' gd G' s' ∧ Upd G w w' ∧ (∀ x ∈ G', x ∈ G ∨ w.heap.size ≤ x)
section
variable {w0 w w' : World} {gd : Nat} {G : List Nat} {s : DS}
theorem DD.old (h : DD w0 w gd G s) : Upd [] w0 w := by
  obtain ⟨gn, gm, Fn, Fm, B, K, cn, cm, lv, lg, hc, -⟩ := h.ex
  exact hc.old
theorem DD.ge (h : DD w0 w gd G s) : ∀ x ∈ G, w0.heap.size ≤ x ∧ x < w.heap.size := by
  obtain ⟨gn, gm, Fn, Fm, B, K, cn, cm, lv, lg, hc, -, -, rfl⟩ := h.ex
  exact hc.ge
theorem DD.ok (h : DD w0 w gd G s) : DOk s := by
  obtain ⟨gn, gm, Fn, Fm, B, K, cn, cm, lv, lg, hc, -, ho, -⟩ := h.ex
  exact ho
theorem DD.upd (h : DD w0 w gd G s) {S : List Nat} (hu : Upd S w w') (hs : ∀ x ∈ G, x ∉ S) (hS : ∀ x ∈ S, w0.heap.size ≤ x) : DD w0 w' gd G s := by
  obtain ⟨gn, gm, Fn, Fm, B, K, cn, cm, lv, lg, hc, e, ho, rfl⟩ := h.ex
  exact ⟨gn, gm, Fn, Fm, B, K, cn, cm, lv, lg, hc.upd hu hs hS, e, ho, rfl⟩
theorem DD.upd0 (h : DD w0 w gd G s) (hu : Upd [] w w') : DD w0 w' gd G s := h.upd hu (by simp) (by simp)
theorem DD.out0 (h : DD w0 w gd G s) (hu : Upd [] w w') : DOut w0 w gd G s w' := ⟨G, h.upd0 hu, hu.mono (by simp), fun x hx => .inl hx⟩
theorem DD.g_in (h : DD w0 w gd G s) : gd ∈ G := by
  obtain ⟨gn, gm, Fn, Fm, B, K, cn, cm, lv, lg, hc, e, ho, rfl⟩ := h.ex
  exact (dfoot_mem _ _ _ _ _ _).2 (.inl rfl)
end
end Go.Proofs.Ytmhdhnipljonlaa
namespace Go.Proofs.Ytmhdhnipljonlaa
open Go.RowKit
set_option linter.unusedSimpArgs false
set_option linter.unusedVariables false
set_option linter.unusedSectionVars false
theorem isIn_dfOf (l : List OW) (k : ByteArray) : isIn strLt l k = inD (dfOf l) k := (in_df l k).symm
theorem rMade_any {w : World} {R : List Nat} {v : Value} {l : List OW} (x : Wr) (sl : Sl) (h : RL w R v l) (hx : WrOk x (dfOf l)) (hp : Bytes w (slv sl) x.p) (ht : dTotal (dfOf l) ≤ 16777216) :
    Calls Try.prog 93 #[v, wrv x sl] w (RDoes w R (wApply x (dfOf l))) := by
  have hlen : l.length ≤ 10000 := by have := hx.len; rw [df_len] at this; omega
  have hkd := hx.kd
  have hhas := hx.has
  have hnew := hx.new
  have hput := hx.put
  have hcut := hx.cut
  have hgt := get_le_total (dfOf l) x.nm
  obtain ⟨kd, nm, tn, p, n⟩ := x
  obtain ⟨pa, pn, pk⟩ := sl
  dsimp only at hkd hhas hnew hput hcut hgt
  rcases (show kd = 1 ∨ kd = 2 ∨ kd = 3 ∨ kd = 4 ∨ kd = 5 by omega) with rfl | rfl | rfl | rfl | rfl
  · rw [wApply_1]
    exact rMade_1 nm tn p n pa pn pk h hlen (by rw [isIn_dfOf]; exact hnew rfl)
  · have hin : isIn strLt l nm = true := by rw [isIn_dfOf]; exact hhas (by decide)
    have hg := get_df l nm hin
    rw [wApply_2, hg]
    have hb := (hput rfl).2
    rw [hg] at hb
    dsimp only at hb ⊢
    exact rMade_2 nm tn p n pa pn pk h hlen hp hin _ rfl (by omega)
  · have hin : isIn strLt l nm = true := by rw [isIn_dfOf]; exact hhas (by decide)
    have hg := get_df l nm hin
    rw [wApply_3, hhas (by decide), if_pos rfl, hg]
    dsimp only
    exact rMade_3 nm tn p n pa pn pk h hlen hin _ rfl
  · have hin : isIn strLt l nm = true := by rw [isIn_dfOf]; exact hhas (by decide)
    have hg := get_df l nm hin
    obtain ⟨h0, hle⟩ := hcut rfl
    rw [hg] at hle
    obtain ⟨m, rfl⟩ := Int.eq_ofNat_of_zero_le h0
    rw [wApply_4, hg, Int.toNat_natCast]
    rw [hg] at hgt
    dsimp only at hle hgt ⊢
    exact rMade_4 nm tn p m pa pn pk h hlen hin _ rfl (by omega) (by omega)
  · rw [wApply_5]
    exact rMade_5 nm tn p n pa pn pk h hlen (by rw [isIn_dfOf]; exact hhas (by decide))
/-- The document's disk at gr. -/
structure RC (w0 w : World) (gr : Nat) (R : List Nat) (nv mv : Sl) (ln lm : List OW) (ov : Value) (ops : List LW) : Prop where
  dk : Blk w gr 63 [slv nv, slv mv, ov]
  grb : w0.heap.size ≤ gr
  grR : gr ∉ R
  now : RL w R (slv nv) ln
  mark : RL w R (slv mv) lm
  opw : OwnN 5 lwCells w0.heap.size 148 w ov ops
  odat : ∀ x ∈ ops, Bytes w (slv x.2) x.1.p
  oR : ∀ x ∈ ops, ∀ y ∈ blk (slv x.2), y ∈ R
  oap : Ap (blk ov) R
  old : Upd [] w0 w
  Rlt : ∀ x ∈ R, w0.heap.size ≤ x ∧ x < w.heap.size
def rfoot (gr : Nat) (R : List Nat) (ov : Value) : List Nat := gr :: (R ++ blk ov)
theorem rfoot_mem (gr : Nat) (R : List Nat) (ov : Value) (x : Nat) : x ∈ rfoot gr R ov ↔ x = gr ∨ x ∈ R ∨ x ∈ blk ov := by
  unfold rfoot
  simp only [List.mem_cons, List.mem_append]
section
variable {w0 w w' : World} {gr : Nat} {R : List Nat} {nv mv : Sl} {ln lm : List OW} {ov : Value} {ops : List LW}
theorem RC.upd (h : RC w0 w gr R nv mv ln lm ov ops) {S : List Nat} (hu : Upd S w w') (hs : ∀ x ∈ rfoot gr R ov, x ∉ S) (hS : ∀ x ∈ S, w0.heap.size ≤ x) : RC w0 w' gr R nv mv ln lm ov ops :=
  have hR : ∀ x ∈ R, x ∉ S := fun x hx => hs x ((rfoot_mem _ _ _ _).2 (.inr (.inl hx)))
  ⟨h.dk.upd hu (hs gr ((rfoot_mem _ _ _ _).2 (.inl rfl))), h.grb, h.grR, h.now.upd hu hR, h.mark.upd hu hR, h.opw.upd hu (fun x hx => hs x ((rfoot_mem _ _ _ _).2 (.inr (.inr hx)))), fun x hx => (h.odat x hx).upd hu (fun y hy => hR y (h.oR x hx y hy)), h.oR, h.oap, h.old.trans hu (by simp) (fun x hx => .inr (hS x hx)), fun x hx => ⟨(h.Rlt x hx).1, by have := (h.Rlt x hx).2; have := hu.size; omega⟩⟩
theorem RC.upd0 (h : RC w0 w gr R nv mv ln lm ov ops) (hu : Upd [] w w') : RC w0 w' gr R nv mv ln lm ov ops := h.upd hu (by simp) (by simp)
theorem RC.ge (h : RC w0 w gr R nv mv ln lm ov ops) : ∀ x ∈ rfoot gr R ov, w0.heap.size ≤ x ∧ x < w.heap.size := by
  intro x hx
  rcases (rfoot_mem _ _ _ _).1 hx with rfl | hx | hx
  · exact ⟨h.grb, h.dk.lt⟩
  · exact h.Rlt x hx
  · exact h.opw.ge x hx
theorem RC.nops (h : RC w0 w gr R nv mv ln lm ov ops) : gr ∉ blk ov := fun hx => by
  obtain ⟨C, f, h1⟩ := h.opw.typ gr hx
  exact absurd (ty_eq h1 h.dk) (by decide)
end
/-- The document's disk, as the laws see it; G: its blocks. -/
structure RD (w0 w : World) (gr : Nat) (G : List Nat) (s : DS) : Prop where
  ex : ∃ R nv mv ln lm ov ops, RC w0 w gr R nv mv ln lm ov ops ∧ s = ⟨dfOf ln, dfOf lm, ops.map (·.1)⟩ ∧ DOk s ∧ G = rfoot gr R ov
def ROut (w0 w : World) (gr : Nat) (G : List Nat) (s' : DS) (w' : World) : Prop := ∃ G', RD w0 w' gr G' s' ∧ Upd G w w' ∧ (∀ x ∈ G', x ∈ G ∨ w.heap.size ≤ x)
section
variable {w0 w w' : World} {gr : Nat} {G : List Nat} {s : DS}
theorem RD.old (h : RD w0 w gr G s) : Upd [] w0 w := by
  obtain ⟨R, nv, mv, ln, lm, ov, ops, hc, -⟩ := h.ex
  exact hc.old
theorem RD.ge (h : RD w0 w gr G s) : ∀ x ∈ G, w0.heap.size ≤ x ∧ x < w.heap.size := by
  obtain ⟨R, nv, mv, ln, lm, ov, ops, hc, -, -, rfl⟩ := h.ex
  exact hc.ge
theorem RD.ok (h : RD w0 w gr G s) : DOk s := by
  obtain ⟨R, nv, mv, ln, lm, ov, ops, hc, -, ho, -⟩ := h.ex
  exact ho
theorem RD.upd (h : RD w0 w gr G s) {S : List Nat} (hu : Upd S w w') (hs : ∀ x ∈ G, x ∉ S) (hS : ∀ x ∈ S, w0.heap.size ≤ x) : RD w0 w' gr G s := by
  obtain ⟨R, nv, mv, ln, lm, ov, ops, hc, e, ho, rfl⟩ := h.ex
  exact ⟨R, nv, mv, ln, lm, ov, ops, hc.upd hu hs hS, e, ho, rfl⟩
theorem RD.upd0 (h : RD w0 w gr G s) (hu : Upd [] w w') : RD w0 w' gr G s := h.upd hu (by simp) (by simp)
theorem RD.out0 (h : RD w0 w gr G s) (hu : Upd [] w w') : ROut w0 w gr G s w' := ⟨G, h.upd0 hu, hu.mono (by simp), fun x hx => .inl hx⟩
theorem ROut.later {w1 : World} (hu : Upd [] w w1) (h : ROut w0 w1 gr G s w') : ROut w0 w gr G s w' := by
  obtain ⟨G', h1, h2, h3⟩ := h
  exact ⟨G', h1, hu.trans h2 (by simp) (fun x hx => .inl hx), fun x hx => (h3 x hx).imp id (fun q => by have := hu.size; omega)⟩
end
end Go.Proofs.Ytmhdhnipljonlaa
namespace Go.Proofs.Ytmhdhnipljonlaa
open Go.RowKit
set_option linter.unusedSimpArgs false
set_option linter.unusedVariables false
theorem infoROp : (Try.prog.info? 148).map (fun i => (i.zero, i.size, i.bytes)) = some (some (.agg #[.int .i64 0, .string ⟨#[]⟩, .string ⟨#[]⟩, .slice none 0 0, .int .i64 0]), 5, 72) := by kernel_rfl
theorem undROp : Try.prog.underlying 61 = some (.slice 148) := by kernel_rfl
section
variable {w0 w w' : World} {gr : Nat} {R : List Nat} {nv mv : Sl} {ln lm : List OW} {ov : Value} {ops : List LW}
theorem RC.setNow (h : RC w0 w gr R nv mv ln lm ov ops) {R' : List Nat} {nv' : Sl} {l' : List OW} (h2 : RL w' R' (slv nv') l') (hu : Upd [] w w') (hR : ∀ x ∈ R, x ∈ R') (hR' : ∀ x ∈ R', x ∈ R ∨ (w.heap.size ≤ x ∧ x < w'.heap.size)) :
    RC w0 (w'.setCell ⟨gr, 0, none⟩ (slv nv')) gr R' nv' mv l' lm ov ops := by
  have hst : Upd [gr] w' (w'.setCell ⟨gr, 0, none⟩ (slv nv')) := (Upd.refl [gr] _).setCell _ _ (.inl (by simp))
  have hl := h.dk.lt
  have hgR : gr ∉ R' := fun hx => by
    rcases hR' gr hx with q | q
    · exact h.grR q
    · omega
  have hn : ∀ x ∈ R', x ∉ [gr] := fun x hx hy => by simp at hy; subst hy; exact hgR hx
  have hb := (h.dk.upd hu (by simp)).set_ 0 (slv nv')
  have hall : Upd [gr] w (w'.setCell ⟨gr, 0, none⟩ (slv nv')) := hu.trans hst (by simp) (fun x hx => .inl hx)
  have hm := (h.mark.upd0 hu).upd hst (fun x hx hy => hn x (hR x hx) hy)
  have hsz := hu.size
  refine ⟨hb, h.grb, hgR, h2.upd hst hn, ⟨hm.row, fun x hx => hR x (hm.vR x hx), hm.dat, fun c hc x hx => hR x (hm.dR c hc x hx), hm.ris⟩, h.opw.upd hall (fun x hx hy => h.nops (by simp at hy; rw [← hy]; exact hx)), fun x hx => (h.odat x hx).upd hall (fun y hy hy' => h.grR (by simp at hy'; rw [← hy']; exact h.oR x hx y hy)), fun x hx y hy => hR y (h.oR x hx y hy), fun x hx hy => ?_, h.old.trans hall (by simp) (fun x hx => .inr (by simp at hx; subst hx; exact h.grb)), fun x hx => ?_⟩
  · rcases hR' x hy with q | q
    · exact h.oap x hx q
    · have := (h.opw.ge x hx).2; omega
  · rcases hR' x hx with q | q
    · have := h.Rlt x q; exact ⟨this.1, by simp; omega⟩
    · have := h.old.size; exact ⟨by omega, by simpa using q.2⟩
set_option maxRecDepth 20000 in
set_option maxHeartbeats 4000000 in
theorem rDoC_any (x : Wr) (sl : Sl) (h : RC w0 w gr R nv mv ln lm ov ops) (hx : WrOk x (dfOf ln)) (ht : dTotal (dfOf ln) ≤ 16777216) (hp : Bytes w (slv sl) x.p) (hpR : ∀ y ∈ blk (slv sl), y ∈ R) (hl : ops.length ≤ 1000000000) :
    Calls Try.prog 92 #[.pointer (some ⟨gr, 0, none⟩), wrv x sl] w fun e w' => e = .returned (.tuple #[]) ∧ ∃ R' nv' ln' ov', RC w0 w' gr R' nv' mv ln' lm ov' (ops ++ [(x, sl)]) ∧ dfOf ln' = wApply x (dfOf ln) ∧ Upd (rfoot gr R ov) w w' ∧ (∀ y ∈ rfoot gr R' ov', y ∈ rfoot gr R ov ∨ w.heap.size ≤ y) := by
  obtain ⟨ao, co, rfl, hlc, hcm, -⟩ := h.opw.rd lwCells_len
  obtain ⟨kd, nm, tn, p, n⟩ := x
  obtain ⟨pa, pn, pk⟩ := sl
  obtain ⟨na, nn, nk⟩ := nv
  have hu1 : Upd [] w (w.alloc (.cells #[.int .i64 kd, sv nm, sv tn, .slice pa pn pk, .int .i64 n] 148)) := (Upd.refl [] w).alloc _
  have H1 := Lib.hid (h.upd0 hu1)
  have HBX := Lib.hid (Blk.new w 148 [.int .i64 kd, sv nm, sv tn, .slice pa pn pk, .int .i64 n])
  have HGE := Lib.hid h.ge
  have HX := Lib.hid hx
  have HT := Lib.hid ht
  have HP : Hid (Bytes (w.alloc (.cells #[.int .i64 kd, sv nm, sv tn, .slice pa pn pk, .int .i64 n] 148)) (.slice pa pn pk) p) := Rd.upd0 hp hu1
  have HPR := Lib.hid hpR
  have HU1 := Lib.hid hu1
  have hgr : gr < w.heap.size := h.dk.lt
  clear h hx hp hu1 ht hpR
  go_enter Try.func92, Try.ntmps92
  go_wp2_with fail
  have d0 := HBX.out.cell 0
  have d1 := HBX.out.cell 1
  have d2 := HBX.out.cell 2
  have d3 := HBX.out.cell 3
  have d4 := HBX.out.cell 4
  simp only [List.getElem?_cons_zero, List.getElem?_cons_succ] at d0 d1 d2 d3 d4
  have HW1 : Hid (w.heap.size < (w.alloc (.cells #[.int .i64 kd, sv nm, sv tn, .slice pa pn pk, .int .i64 n] 148)).heap.size) := HBX.out.lt
  generalize w.alloc (.cells #[.int .i64 kd, sv nm, sv tn, .slice pa pn pk, .int .i64 n] 148) = w1 at *
  have c0 : w1.cell? ⟨gr, 0, none⟩ = some (.slice na nn nk) := H1.out.dk.cell 0
  have hpp : Bytes w1 (slv ⟨pa, pn, pk⟩) p := HP.out
  have HMD := Lib.hid (fun (W : World) (hW : Upd [] w1 W) => rMade_any ⟨kd, nm, tn, p, n⟩ ⟨pa, pn, pk⟩ (H1.out.now.upd0 hW) HX.out (Rd.upd0 hpp hW) HT.out)
  clear hpp
  go_region_with (first
    | (go_at_call 93; (with_reducible refine (HMD.out _ ?_).mono ?_); (repeat (first | exact Upd.refl _ _ | apply Upd.drew)); (rintro e w2 ⟨v2, R2, l2, rfl, h2, ho2, hd2, hu2, hR2, hR2', hne2⟩; obtain ⟨a2, k2, rfl, -⟩ := ho2.rd owCells_len; have hu3 := (Upd.refl [] w1).drew.seq hu2; have hdk2 := H1.out.dk.upd hu3 (by simp); have c2 : w2.cell? ⟨gr, 0, none⟩ = some (.slice na nn nk) := hdk2.cell 0; have f2 := hdk2.frozen 0; dsimp only)))
  all_goals
    have H3 := Lib.hid (H1.out.setNow (nv' := ⟨a2, l2.length, k2⟩) h2 hu3 hR2 (fun x hx => (hR2' x hx).imp id (fun q => ⟨q.1, q.2⟩)))
    have hb3 : Blk (w2.setCell ⟨gr, 0, none⟩ (.slice a2 l2.length k2)) w.heap.size 148 [.int .i64 kd, sv nm, sv tn, .slice pa pn pk, .int .i64 n] := (HBX.out.upd hu3 (by simp)).upd ((Upd.refl [gr] w2).setCell _ _ (.inl (by simp))) (by simp; omega)
    have HU3 : Hid (Upd [gr] w (w2.setCell ⟨gr, 0, none⟩ (.slice a2 l2.length k2))) := (HU1.out.seq hu3).trans ((Upd.refl [gr] w2).setCell _ _ (.inl (by simp))) (by simp) (fun x hx => .inl hx)
    have HD2 := Lib.hid hd2
    have HR3 : Hid (∀ x ∈ R2, x ∈ R ∨ w.heap.size ≤ x) := fun x hx => (hR2' x hx).imp id (fun q => by have h1 := q.1; have h2 := HU1.out.size; have h3 : w1.drew.heap.size = w1.heap.size := rfl; omega)
    have HRR := Lib.hid hR2
    have HPX : Hid (Bytes (w2.setCell ⟨gr, 0, none⟩ (.slice a2 l2.length k2)) (.slice pa pn pk) p) := (HP.out.upd0 hu3).upd ((Upd.refl [gr] w2).setCell _ _ (.inl (by simp))) (fun y hy hy' => H1.out.grR (by simp at hy'; rw [← hy']; exact HPR.out y hy))
    clear h2 ho2 hd2 hu2 hR2 hR2' hne2 hu3 hdk2 c2 f2 c0 d0 d1 d2 d3 d4 HMD HBX H1
    generalize w2.setCell ⟨gr, 0, none⟩ (.slice a2 l2.length k2) = w3 at *
    have d0 := hb3.cell 0
    have d1 := hb3.cell 1
    have d2 := hb3.cell 2
    have d3 := hb3.cell 3
    have d4 := hb3.cell 4
    simp only [List.getElem?_cons_zero, List.getElem?_cons_succ] at d0 d1 d2 d3 d4
    have c2 : w3.cell? ⟨gr, 2, none⟩ = some (.slice ao ops.length co) := H3.out.dk.cell 2
    have f2 : w3.frozen? ⟨gr, 2, none⟩ = false := H3.out.dk.frozen 2
    have c2' : (w3.alloc (Obj.cells #[.int .i64 kd, sv nm, sv tn, .slice pa pn pk, .int .i64 n] 148)).cell? ⟨gr, 2, none⟩ = some (.slice ao ops.length co) := ((Upd.refl [] w3).alloc _).cell c2 (by simp)
    have hua : Upd [] w3 (w3.drew.alloc (.cells #[.int .i64 kd, sv nm, sv tn, .slice pa pn pk, .int .i64 n] 148)) := (Upd.refl [] w3).drew.alloc _
    have HUA := Lib.hid hua
    have HOW := H3.out.opw.upd hua (by simp)
    have hnewb : Blk (w3.drew.alloc (.cells #[.int .i64 kd, sv nm, sv tn, .slice pa pn pk, .int .i64 n] 148)) w3.heap.size 148 [.int .i64 kd, sv nm, sv tn, .slice pa pn pk, .int .i64 n] := Blk.new w3.drew _ _
    have HRD : RdN 5 lwCells (w3.drew.alloc (.cells #[.int .i64 kd, sv nm, sv tn, .slice pa pn pk, .int .i64 n] 148)) (.slice (some ⟨w3.heap.size, 0, none⟩) 1 1) [(⟨kd, nm, tn, p, n⟩, ⟨pa, pn, pk⟩)] := by
      refine ⟨_, 1, rfl, by simp, by simp [maxLen], fun _ => ⟨w3.heap.size, 0, rfl, fun j hj i hi => ?_⟩⟩
      have hj0 : j = 0 := by simpa using hj
      subst hj0
      rw [Nat.zero_mul, Nat.zero_add, Nat.zero_add, hnewb.cell]; rfl
    have hbs : w0.heap.size ≤ (w3.drew.alloc (.cells #[.int .i64 kd, sv nm, sv tn, .slice pa pn pk, .int .i64 n] 148)).heap.size := (H3.out.old.seq hua).size
    have HRUN := Lib.hid (fun ty => run_appN (P := Try.prog) (ty := ty) lwCells_len (by decide) lwCells_one undROp infoROp rfl _ _ ops [(⟨kd, nm, tn, p, n⟩, ⟨pa, pn, pk⟩)] HOW HRD (by simp; omega) (by simp [maxLen]; omega) hbs)
    have HDK := Lib.hid (H3.out.dk.upd hua (by simp))
    have HGL := Lib.hid H3.out.nops
    clear hua HOW hnewb HRD hbs hb3
    go_wp2_with fail
    go_region_law (first | ((with_reducible refine step_app_of rfl (.tmp 17) (.tmp 19) rfl (.slice ao ops.length co) (.slice (some ⟨w3.heap.size, 0, none⟩) 1 1) rfl rfl (HRUN.out _) ?_); (rintro v4 w4 ⟨ho4, hu4, hk4⟩; obtain ⟨⟨a4, n4, k4⟩, rfl⟩ := ownN_sl ho4; have hb4 := HDK.out.upd hu4 HGL.out; have c4 : w4.cell? ⟨gr, 2, none⟩ = some (.slice ao ops.length co) := hb4.cell 2; have f4 := hb4.frozen 2; have HB4 := Lib.hid hb4; have HO4 := Lib.hid ho4; have HU4 := Lib.hid hu4; have HK4 := Lib.hid hk4; clear ho4 hu4 hk4 hb4; dsimp only)))
    all_goals
      go_end0
      have hset : Upd [gr] w4 (w4.setCell ⟨gr, 2, none⟩ (.slice a4 n4 k4)) := (Upd.refl [gr] w4).setCell _ _ (.inl (by simp))
      have hlt := H3.out.dk.lt
      have hgv : gr ∉ blk (.slice a4 n4 k4) := fun hy => by
        rcases HK4.out _ hy with q | q
        · exact HGL.out q
        · have := HUA.out.size; omega
      have hw4 : Upd (blk (Value.slice ao ops.length co)) w3 w4 := HUA.out.trans HU4.out (by simp) (fun y hy => .inl hy)
      have hall : Upd (gr :: blk (Value.slice ao ops.length co)) w3 (w4.setCell ⟨gr, 2, none⟩ (.slice a4 n4 k4)) := hw4.trans hset (fun y hy => by simp [hy]) (fun y hy => .inl (by simp at hy; simp [hy]))
      have hRS : ∀ x ∈ R2, x ∉ gr :: blk (Value.slice ao ops.length co) := fun x hx hy => by
        rcases List.mem_cons.1 hy with rfl | q
        · exact H3.out.grR hx
        · exact H3.out.oap x q hx
      have hsz : w3.heap.size ≤ (w4.setCell ⟨gr, 2, none⟩ (.slice a4 n4 k4)).heap.size := hall.size
      refine ⟨rfl, R2, ⟨a2, l2.length, k2⟩, l2, .slice a4 n4 k4, ⟨HB4.out.set_ 2 _, H3.out.grb, H3.out.grR, H3.out.now.upd hall hRS, H3.out.mark.upd hall hRS, ?_, ?_, ?_, ?_, ?_, ?_⟩, HD2.out, ?_, ?_⟩
      · exact HO4.out.upd hset (fun x hx hy => hgv (by simp at hy; rw [← hy]; exact hx))
      · intro y hy
        rcases List.mem_append.1 hy with q | q
        · exact (H3.out.odat y q).upd hall (fun z hz => hRS z (H3.out.oR y q z hz))
        · simp at q; subst q; exact HPX.out.upd hall (fun z hz => hRS z (HRR.out z (HPR.out z hz)))
      · intro y hy z hz
        rcases List.mem_append.1 hy with q | q
        · exact H3.out.oR y q z hz
        · simp at q; subst q; exact HRR.out z (HPR.out z hz)
      · intro x hx hy
        rcases HK4.out x hx with q | q
        · exact H3.out.oap x q hy
        · have h1 := (H3.out.Rlt x hy).2; have := HUA.out.size; omega
      · refine H3.out.old.trans hall (by simp) (fun x hx => .inr ?_)
        rcases List.mem_cons.1 hx with rfl | q
        · exact H3.out.grb
        · exact (H3.out.opw.ge x q).1
      · exact fun x hx => ⟨(H3.out.Rlt x hx).1, by have := (H3.out.Rlt x hx).2; omega⟩
      · refine HU3.out.trans hall (fun y hy => (rfoot_mem _ _ _ _).2 (.inl (by simpa using hy))) (fun y hy => .inl ?_)
        rcases List.mem_cons.1 hy with rfl | q
        · exact (rfoot_mem _ _ _ _).2 (.inl rfl)
        · exact (rfoot_mem _ _ _ _).2 (.inr (.inr q))
      · intro y hy
        have h1 := HU3.out.size
        rcases (rfoot_mem _ _ _ _).1 hy with rfl | q | q
        · exact .inl ((rfoot_mem _ _ _ _).2 (.inl rfl))
        · exact (HR3.out y q).imp (fun q => (rfoot_mem _ _ _ _).2 (.inr (.inl q))) id
        · exact (HK4.out y q).imp (fun q => (rfoot_mem _ _ _ _).2 (.inr (.inr q))) (fun q => by have := HUA.out.size; omega)
end
end Go.Proofs.Ytmhdhnipljonlaa
namespace Go.Proofs.Ytmhdhnipljonlaa
open Go.RowKit
set_option linter.unusedSimpArgs false
set_option linter.unusedVariables false
theorem neE (s : ByteArray) (h : ¬ s.size < 1) : (s.toList == ([] : List UInt8)) = false := by
  rw [beq_eq_false_iff_ne, strList_eq]
  intro q
  have := congrArg List.length q
  rw [Array.length_toList] at this
  have : s.size = 0 := this
  omega
set_option maxRecDepth 20000 in
set_option maxHeartbeats 1000000 in
theorem rName_any (w : World) (s : ByteArray) :
    Calls Try.prog 90 #[sv s] w fun e w' => e = .returned (.bool (nameOk s)) ∧ w = w' := by
  by_cases h1 : s.size < 1
  · have HN : Hid (nameOk s = false) := by unfold Hid nameOk; simp; omega
    obtain rfl : s = ⟨#[]⟩ := str_inj _ _ (by rw [strList_eq, strList_eq]; exact List.eq_nil_of_length_eq_zero (by rw [Array.length_toList]; show s.size = 0; omega))
    go_enter Try.func90, Try.ntmps90
    go_wp2_with fail
    go_ret
    exact ⟨by rw [HN.out]; rfl, rfl⟩
  · by_cases h2 : s.size ≤ 32
    · have q : (s.toList == ([] : List UInt8)) = false := neE s h1
      have q' : ¬ (32 : Int) < s.size := by omega
      go_enter Try.func90, Try.ntmps90
      go_wp2_with fail
      go_loopw [3] (fun i wr => ∃ k : Nat, k ≤ s.size ∧ i = .int .i64 k ∧ w = wr ∧ Hid (∀ j (h : j < s.size), j < k → 33 ≤ (s[j]).toNat ∧ (s[j]).toNat ≤ 126)) (fun i _ => s.size - (intOf i).toNat)
      case atStart => exact ⟨0, Nat.zero_le _, rfl, rfl, fun j _ h => absurd h (by omega)⟩
      case round =>
        obtain ⟨k, hk, rfl, rfl, hh⟩ := hrel
        by_cases hlt : k < s.size
        · have q0 : (0 : Int) ≤ k := by omega
          have q1 : (k : Int) < s.size := by omega
          by_cases hb : 33 ≤ (s[k]).toNat ∧ (s[k]).toNat ≤ 126
          · have hb1 : ¬ ((s[k]).toNat : Int) < 33 := by omega
            have hb2 : ¬ (126 : Int) < ((s[k]).toNat : Int) := by omega
            have HH : Hid (∀ j (h : j < s.size), j < k + 1 → 33 ≤ (s[j]).toNat ∧ (s[j]).toNat ≤ 126) := fun j hj hjk => by
              rcases Nat.lt_or_eq_of_le (Nat.le_of_lt_succ hjk) with h | h
              · exact hh.out j hj h
              · subst h; exact hb
            clear hb
            go_wp2_with fail
            go_roundw
            case rel => exact ⟨k + 1, by omega, by go_num, by first | trivial | rfl, HH⟩
            case measure => simp [intOf]; omega
          · have HN : Hid (nameOk s = false) := by
              unfold Hid nameOk
              exact decide_eq_false (fun h => hb (h.2.2 k hlt))
            have hd : ((s[k]).toNat : Int) < 33 ∨ (¬ ((s[k]).toNat : Int) < 33 ∧ (126 : Int) < ((s[k]).toNat : Int)) := by omega
            clear hb
            rcases hd with hb1 | ⟨hb1, hb2⟩
            all_goals
              go_wp2_with fail
              go_ret
              exact ⟨by rw [HN.out]; rfl, rfl⟩
        · obtain rfl : k = s.size := by omega
          have HN : Hid (nameOk s = true) := by
            unfold Hid nameOk
            exact decide_eq_true ⟨by omega, by omega, fun j hj => hh.out j hj hj⟩
          go_wp2_with fail
          go_ret
          exact ⟨by rw [HN.out]; rfl, rfl⟩
    · have HN : Hid (nameOk s = false) := by unfold Hid nameOk; exact decide_eq_false (fun h => h2 h.2.1)
      have q : (s.toList == ([] : List UInt8)) = false := neE s h1
      have q' : (32 : Int) < s.size := by omega
      go_enter Try.func90, Try.ntmps90
      go_wp2_with fail
      go_ret
      exact ⟨by rw [HN.out]; rfl, rfl⟩
end Go.Proofs.Ytmhdhnipljonlaa
namespace Go.Proofs.Ytmhdhnipljonlaa
open Go.RowKit
set_option linter.unusedSimpArgs false
set_option linter.unusedVariables false
section
variable {w0 w w' : World} {gr : Nat} {G : List Nat} {s : DS}
/-- What a call on the document's disk answers, and the disk behind it. -/
def RAns (w0 w : World) (gr : Nat) (G : List Nat) (r : Int × DS) (e : Ending) (w' : World) : Prop := e = .returned (.int .i64 r.1) ∧ ROut w0 w gr G r.2 w'
theorem rDo_any (x : Wr) (h : RD w0 w gr G s) (hx : WrOk x s.now) (hp : x.p = []) (hl : s.log.length ≤ 1000000000) :
    Calls Try.prog 92 #[.pointer (some ⟨gr, 0, none⟩), wrv x ⟨none, 0, 0⟩] w fun e w' => e = .returned (.tuple #[]) ∧ ROut w0 w gr G (dDo x s) w' := by
  obtain ⟨R, nv, mv, ln, lm, ov, ops, hc, rfl, ho, rfl⟩ := h.ex
  refine (rDoC_any x ⟨none, 0, 0⟩ hc hx ho.tot (by rw [hp]; exact Rd.nil _) (by simp [blk]) (by simpa using hl)).mono ?_
  rintro e w' ⟨rfl, R', nv', ln', ov', h1, h3, h4, h5⟩
  exact ⟨rfl, _, ⟨R', nv', mv, ln', lm, ov', _, h1, by unfold dDo; rw [h3]; simp, ho.do_ hx, rfl⟩, h4, h5⟩
/-- The look for a name, as the calls begin. -/
theorem RD.look (h : RD w0 w gr G s) (nm : ByteArray) (hl : s.now.length ≤ 5000) : ∃ (na : Option Addr) (nn nk : Nat) (ln : List OW) (R : List Nat), w.cell? ⟨gr, 0, none⟩ = some (.slice na nn nk) ∧ RL w R (.slice na nn nk) ln ∧ dfOf ln = s.now ∧
    ∀ W, Upd [] w W → Calls Try.prog 91 #[.slice na nn nk, sv nm] W fun e w' => e = .returned (.int .i64 (if inD s.now nm then (below strLt ln nm : Int) else -1)) ∧ Upd [] W w' := by
  obtain ⟨R, ⟨na, nn, nk⟩, mv, ln, lm, ov, ops, hc, rfl, ho, rfl⟩ := h.ex
  refine ⟨na, nn, nk, ln, R, hc.dk.cell 0, hc.now, rfl, fun W hW => ?_⟩
  have h1 := rdAt_any W _ ln nm ((hc.now.upd0 hW).row) hc.now.ris (by rw [df_len] at hl; omega)
  unfold atI at h1
  rw [isIn_dfOf] at h1
  exact h1
set_option maxRecDepth 20000 in
set_option maxHeartbeats 1000000 in
theorem rRename_any (nm tn : ByteArray) (h : RD w0 w gr G s) (hn : s.now.length ≤ 5000) (hl : s.log.length ≤ 1000000000) :
    Calls Try.prog 66 #[.pointer (some ⟨gr, 0, none⟩), sv nm, sv tn] w (RAns w0 w gr G (dRename s nm tn)) := by
  obtain ⟨na, nn, nk, ln, R, c0, -, -, hget⟩ := h.look nm hn
  have HG := Lib.hid (hget w (Upd.refl _ _))
  have HD := Lib.hid h
  have HL := Lib.hid hl
  have HNL := Lib.hid hn
  clear hget h hl hn
  cases hok : nameOk tn with
  | false =>
    have HR : Hid (dRename s nm tn = (14, s)) := by unfold Hid dRename; rw [hok]; rfl
    have HOK := Lib.hid hok
    clear hok
    go_enter Try.func66, Try.ntmps66
    go_wp2_with fail
    (with_reducible refine (rName_any w tn).mono ?_)
    rw [HOK.out]
    rintro e w1 ⟨rfl, rfl⟩
    go_wp2_with fail
    go_ret
    exact ⟨by rw [HR.out]; rfl, by rw [HR.out]; exact HD.out.out0 (Upd.refl _ _)⟩
  | true =>
    have HOK := Lib.hid hok
    cases hin : inD s.now nm with
    | false =>
      have HR : Hid (dRename s nm tn = (7, s)) := by unfold Hid dRename; rw [hok, hin]; rfl
      rw [hin, if_neg (by simp)] at HG
      clear hok hin
      go_enter Try.func66, Try.ntmps66
      go_wp2_with fail
      (with_reducible refine (rName_any w tn).mono ?_)
      rw [HOK.out]
      rintro e w1 ⟨rfl, rfl⟩
      go_wp2_with fail
      (with_reducible refine HG.out.mono ?_)
      rintro e w2 ⟨rfl, hu2⟩
      have HU2 := Lib.hid hu2
      clear hu2
      go_wp2_with fail
      go_ret
      exact ⟨by rw [HR.out]; rfl, by rw [HR.out]; exact HD.out.out0 HU2.out⟩
    | true =>
      have HR : Hid (dRename s nm tn = (0, dDo (wRen nm tn) s)) := by unfold Hid dRename; rw [hok, hin]; rfl
      have HW := Lib.hid (HD.out.ok.ren nm tn hin HNL.out).1
      rw [hin, if_pos rfl] at HG
      have z : ¬ ((below strLt ln nm : Nat) : Int) < 0 := by omega
      clear hok hin
      generalize below strLt ln nm = k at *
      go_enter Try.func66, Try.ntmps66
      go_wp2_with fail
      (with_reducible refine (rName_any w tn).mono ?_)
      rw [HOK.out]
      rintro e w1 ⟨rfl, rfl⟩
      go_wp2_with fail
      (with_reducible refine HG.out.mono ?_)
      rintro e w2 ⟨rfl, hu2⟩
      have HU2 := Lib.hid hu2
      clear hu2
      go_wp2_with fail
      (with_reducible refine (rDo_any (wRen nm tn) (HD.out.upd0 HU2.out) HW.out rfl HL.out).mono ?_)
      rintro e w3 ⟨rfl, ho⟩
      have HO := Lib.hid ho
      clear ho
      go_wp2_with fail
      go_ret
      exact ⟨by rw [HR.out]; rfl, by rw [HR.out]; exact HO.out.later HU2.out⟩
set_option maxRecDepth 20000 in
set_option maxHeartbeats 1000000 in
theorem rRemove_any (nm : ByteArray) (h : RD w0 w gr G s) (hn : s.now.length ≤ 5000) (hl : s.log.length ≤ 1000000000) :
    Calls Try.prog 68 #[.pointer (some ⟨gr, 0, none⟩), sv nm] w (RAns w0 w gr G (dRemove s nm)) := by
  obtain ⟨na, nn, nk, ln, R, c0, -, -, hget⟩ := h.look nm hn
  have HG := Lib.hid (hget w (Upd.refl _ _))
  have HD := Lib.hid h
  have HL := Lib.hid hl
  have HNL := Lib.hid hn
  clear hget h hl hn
  cases hin : inD s.now nm with
  | false =>
    have HR : Hid (dRemove s nm = (7, s)) := by unfold Hid dRemove; rw [hin]; rfl
    rw [hin, if_neg (by simp)] at HG
    clear hin
    go_enter Try.func68, Try.ntmps68
    go_wp2_with fail
    (with_reducible refine HG.out.mono ?_)
    rintro e w2 ⟨rfl, hu2⟩
    have HU2 := Lib.hid hu2
    clear hu2
    go_wp2_with fail
    go_ret
    exact ⟨by rw [HR.out]; rfl, by rw [HR.out]; exact HD.out.out0 HU2.out⟩
  | true =>
    have HR : Hid (dRemove s nm = (0, dDo (wRem nm) s)) := by unfold Hid dRemove; rw [hin]; rfl
    have HW := Lib.hid (HD.out.ok.rem nm hin HNL.out).1
    rw [hin, if_pos rfl] at HG
    have z : ¬ ((below strLt ln nm : Nat) : Int) < 0 := by omega
    clear hin
    generalize below strLt ln nm = k at *
    go_enter Try.func68, Try.ntmps68
    go_wp2_with fail
    (with_reducible refine HG.out.mono ?_)
    rintro e w2 ⟨rfl, hu2⟩
    have HU2 := Lib.hid hu2
    clear hu2
    go_wp2_with fail
    (with_reducible refine (rDo_any (wRem nm) (HD.out.upd0 HU2.out) HW.out rfl HL.out).mono ?_)
    rintro e w3 ⟨rfl, ho⟩
    have HO := Lib.hid ho
    clear ho
    go_wp2_with fail
    go_ret
    exact ⟨by rw [HR.out]; rfl, by rw [HR.out]; exact HO.out.later HU2.out⟩
end
end Go.Proofs.Ytmhdhnipljonlaa
namespace Go.Proofs.Ytmhdhnipljonlaa
open Go.RowKit
set_option linter.unusedSimpArgs false
set_option linter.unusedVariables false
section
variable {w0 w w' : World} {gr : Nat} {G : List Nat} {s : DS}
/-- A row that is there: its cells. -/
theorem RL.at_ {w : World} {R : List Nat} {na : Option Addr} {nn nk : Nat} {l : List OW} (h : RL w R (.slice na nn nk) l) (nm : ByteArray) (hin : inD (dfOf l) nm = true) :
    ∃ (lb loff : Nat) (da : Option Addr) (dn dk : Nat), na = some ⟨lb, loff, none⟩ ∧ below strLt l nm < nn ∧ nn ≤ nk ∧ nk ≤ maxLen ∧ w.cell? ⟨lb, loff + below strLt l nm * 2 + 1, none⟩ = some (.slice da dn dk) ∧ Bytes w (.slice da dn dk) (dGet (dfOf l) nm).1 ∧ dn = (dGet (dfOf l) nm).1.length ∧ (∀ x ∈ blk (.slice da dn dk), x ∈ R) := by
  have hin2 : isIn strLt l nm = true := by rw [isIn_dfOf]; exact hin
  have hg := get_df l nm hin2
  have hin3 := hin2
  unfold isIn at hin3
  obtain ⟨hk, -⟩ := of_decide_eq_true hin3
  obtain ⟨a', c', he, h1, h2, hc⟩ := h.row
  obtain ⟨lb, loff, e2, hc⟩ := hc (by intro q; rw [q] at hk; simp at hk)
  have e1 := (Value.slice.inj he).1
  have e3 := (Value.slice.inj he).2.1
  have e4 := (Value.slice.inj he).2.2
  have hm : nth l (below strLt l nm) ∈ l := by rw [nth_get l _ hk]; exact List.getElem_mem _
  have hb := h.dat _ hm
  have hR := h.dR _ hm
  have hcell := hc (below strLt l nm) hk 1 (by omega)
  rw [hg]
  dsimp only
  generalize nth l (below strLt l nm) = x at *
  obtain ⟨xn, ⟨da, dn, dk⟩, d⟩ := x
  refine ⟨lb, loff, da, dn, dk, e1.trans e2, by rw [e3]; exact hk, by rw [e3, e4]; exact h1, by rw [e4]; exact h2, hcell, hb, ?_, hR⟩
  obtain ⟨a2, c2, he2, -⟩ := hb
  exact (Value.slice.inj he2).2.1
set_option maxRecDepth 20000 in
set_option maxHeartbeats 1000000 in
theorem rCut_any (nm : ByteArray) (n : Int) (hi : I64 n) (h : RD w0 w gr G s) (hn : s.now.length ≤ 5000) (hl : s.log.length ≤ 1000000000) :
    Calls Try.prog 67 #[.pointer (some ⟨gr, 0, none⟩), sv nm, .int .i64 n] w (RAns w0 w gr G (dCut s nm n)) := by
  obtain ⟨na, nn, nk, ln, R, c0, hrl, hdf, hget⟩ := h.look nm hn
  have HG := Lib.hid (hget w (Upd.refl _ _))
  have HD := Lib.hid h
  have HL := Lib.hid hl
  have HNL := Lib.hid hn
  have HRL := Lib.hid hrl
  have HDF := Lib.hid hdf
  clear hget h hl hn hrl hdf
  cases hin : inD s.now nm with
  | false =>
    have HR : Hid (dCut s nm n = (7, s)) := by unfold Hid dCut; rw [hin]; rfl
    rw [hin, if_neg (by simp)] at HG
    clear hin
    go_enter Try.func67, Try.ntmps67
    go_wp2_with fail
    (with_reducible refine HG.out.mono ?_)
    rintro e w2 ⟨rfl, hu2⟩
    have HU2 := Lib.hid hu2
    clear hu2
    go_wp2_with fail
    go_ret
    exact ⟨by rw [HR.out]; rfl, by rw [HR.out]; exact HD.out.out0 HU2.out⟩
  | true =>
    obtain ⟨lb, loff, da, dn, dk, rfl, hk, hnk, hnm, hcell, hby, hdn, -⟩ := HRL.out.at_ nm (by rw [HDF.out]; exact hin)
    rw [HDF.out] at hdn
    have HDN := Lib.hid hdn
    rw [hin, if_pos rfl] at HG
    have z : ¬ ((below strLt ln nm : Nat) : Int) < 0 := by omega
    have z0 : (0 : Int) ≤ (below strLt ln nm : Nat) := by omega
    have z1 : ((below strLt ln nm : Nat) : Int) < nn := by omega
    have hnn : nn ≤ 9223372036854775807 := by unfold maxLen at hnm; omega
    have CC := Lib.hid hcell
    have C0 := Lib.hid c0
    clear hby hdn hcell c0 hnm
    generalize below strLt ln nm = k at *
    by_cases hbad : n < 0 ∨ (dn : Int) < n
    · have HR : Hid (dCut s nm n = (1, s)) := by unfold Hid dCut; rw [hin, ← HDN.out, if_pos rfl, if_pos hbad]
      clear hin
      rcases (show n < 0 ∨ (¬ n < 0 ∧ (dn : Int) < n) by omega) with q | ⟨q, q2⟩
      all_goals
        clear hbad
        go_enter Try.func67, Try.ntmps67
        have c0 := C0.out
        go_wp2_with fail
        (with_reducible refine HG.out.mono ?_)
        rintro e w2 ⟨rfl, hu2⟩
        have HU2 := Lib.hid hu2
        have c1 := hu2.cell C0.out (by simp)
        have c2 := hu2.cell CC.out (by simp)
        clear hu2
        go_wp2_with fail
        go_ret
        exact ⟨by rw [HR.out]; rfl, by rw [HR.out]; exact HD.out.out0 HU2.out⟩
    · have HR : Hid (dCut s nm n = (0, dDo (wCut nm n) s)) := by unfold Hid dCut; rw [hin, ← HDN.out, if_pos rfl, if_neg hbad]
      have HW := Lib.hid (HD.out.ok.cut nm n hin (by omega) (by rw [← HDN.out]; omega) HNL.out).1
      have q : ¬ n < 0 := by omega
      have q2 : ¬ (dn : Int) < n := by omega
      clear hin hbad
      go_enter Try.func67, Try.ntmps67
      have c0 := C0.out
      go_wp2_with fail
      (with_reducible refine HG.out.mono ?_)
      rintro e w2 ⟨rfl, hu2⟩
      have HU2 := Lib.hid hu2
      have c1 := hu2.cell C0.out (by simp)
      have c2 := hu2.cell CC.out (by simp)
      clear hu2
      go_wp2_with fail
      (with_reducible refine (rDo_any (wCut nm n) (HD.out.upd0 HU2.out) HW.out rfl HL.out).mono ?_)
      rintro e w3 ⟨rfl, ho⟩
      have HO := Lib.hid ho
      clear ho
      go_wp2_with fail
      go_ret
      exact ⟨by rw [HR.out]; rfl, by rw [HR.out]; exact HO.out.later HU2.out⟩
set_option maxRecDepth 20000 in
set_option maxHeartbeats 1000000 in
theorem rdRead_any (nm : ByteArray) (h : RD w0 w gr G s) (hn : s.now.length ≤ 5000) :
    Calls Try.prog 73 #[.pointer (some ⟨gr, 0, none⟩), sv nm] w fun e w' => ∃ v, e = .returned (.tuple #[v, .bool (dGet s.now nm).2]) ∧ Bytes w' v (dGet s.now nm).1 ∧ (∀ x ∈ blk v, x ∈ G) ∧ Upd [] w w' := by
  obtain ⟨R, ⟨na, nn, nk⟩, mv, ln, lm, ov, ops, hc, rfl, ho, rfl⟩ := h.ex
  have HC := Lib.hid hc
  have HD := Lib.hid h
  have c0 : w.cell? ⟨gr, 0, none⟩ = some (.slice na nn nk) := hc.dk.cell 0
  have hg := rdAt_any w _ ln nm hc.now.row hc.now.ris (by rw [df_len] at hn; omega)
  unfold atI at hg
  rw [isIn_dfOf] at hg
  have HG := Lib.hid hg
  dsimp only
  cases hin : inD (dfOf ln) nm with
  | false =>
    rw [hin, if_neg (by simp)] at HG
    rw [dGet_no hin]
    clear hc h ho hn hin hg
    go_enter Try.func73, Try.ntmps73
    go_wp2_with fail
    (with_reducible refine HG.out.mono ?_)
    rintro e w2 ⟨rfl, hu2⟩
    have HU2 := Lib.hid hu2
    clear hu2
    go_wp2_with fail
    go_ret2
    exact ⟨_, rfl, Rd.nil _, fun x hx => by simp [blk] at hx, HU2.out⟩
  | true =>
    have hrl : RL w R (.slice na nn nk) ln := hc.now
    obtain ⟨lb, loff, da, dn, dk, rfl, hk, hnk, hnm, hcell, hby, hdn, hR⟩ := hrl.at_ nm hin
    have h2 : (dGet (dfOf ln) nm).2 = true := by rw [dGet_in]; exact hin
    rw [hin, if_pos rfl] at HG
    have z : ¬ ((below strLt ln nm : Nat) : Int) < 0 := by omega
    have z0 : (0 : Int) ≤ (below strLt ln nm : Nat) := by omega
    have z1 : ((below strLt ln nm : Nat) : Int) < nn := by omega
    have hnn : nn ≤ 9223372036854775807 := by unfold maxLen at hnm; omega
    have CC := Lib.hid hcell
    have C0 := Lib.hid c0
    have HBY := Lib.hid hby
    have HR := Lib.hid hR
    rw [h2]
    clear hc h ho hn hin hg hby hdn hcell hR hnm h2
    generalize below strLt ln nm = k at *
    generalize (dGet (dfOf ln) nm).1 = d at *
    go_enter Try.func73, Try.ntmps73
    go_wp2_with fail
    (with_reducible refine HG.out.mono ?_)
    rintro e w2 ⟨rfl, hu2⟩
    have HU2 := Lib.hid hu2
    have c1 := hu2.cell C0.out (by simp)
    have c2 := hu2.cell CC.out (by simp)
    clear hu2 c0
    go_wp2_with fail
    go_ret2
    exact ⟨_, rfl, HBY.out.upd0 HU2.out, fun x hx => (rfoot_mem _ _ _ _).2 (.inr (.inl (HR.out x hx))), HU2.out⟩
end
end Go.Proofs.Ytmhdhnipljonlaa
namespace Go.Proofs.Ytmhdhnipljonlaa
open Go.RowKit
set_option linter.unusedSimpArgs false
set_option linter.unusedVariables false
theorem undRStr : Try.prog.underlying 56 = some (.slice 9) := by kernel_rfl
theorem infoRStr : (Try.prog.info? 9).map (fun i => (i.zero, i.size, i.bytes)) = some (some (.string ⟨#[]⟩), 1, 16) := by kernel_rfl
section
variable {w0 w w' : World} {gr : Nat} {R : List Nat} {nv mv : Sl} {ln lm : List OW} {ov : Value} {ops : List LW}
theorem RC.setMark (h : RC w0 w gr R nv mv ln lm ov ops) :
    RC w0 ((w.setCell ⟨gr, 1, none⟩ (slv nv)).setCell ⟨gr, 2, none⟩ (.slice none 0 0)) gr R nv nv ln ln (.slice none 0 0) [] := by
  have hset : Upd [gr] w ((w.setCell ⟨gr, 1, none⟩ (slv nv)).setCell ⟨gr, 2, none⟩ (.slice none 0 0)) := ((Upd.refl [gr] w).setCell _ _ (.inl (by simp))).setCell _ _ (.inl (by simp))
  have hn : ∀ x ∈ R, x ∉ [gr] := fun x hx hy => by simp at hy; subst hy; exact h.grR hx
  have hr := h.now.upd hset hn
  exact ⟨(h.dk.set_ 1 (slv nv)).set_ 2 (.slice none 0 0), h.grb, h.grR, hr, hr, OwnN.nil _ _ _, by simp, by simp, fun x hx => by simp [blk] at hx, h.old.trans hset (by simp) (fun x hx => .inr (by simp at hx; subst hx; exact h.grb)), fun x hx => by have := h.Rlt x hx; have := hset.size; exact ⟨by omega, by omega⟩⟩
set_option maxRecDepth 20000 in
theorem rSetMarkC_any (h : RC w0 w gr R nv mv ln lm ov ops) :
    Calls Try.prog 69 #[.pointer (some ⟨gr, 0, none⟩)] w fun e w' => e = .returned (.tuple #[]) ∧ RC w0 w' gr R nv nv ln ln (.slice none 0 0) [] ∧ Upd [gr] w w' := by
  obtain ⟨ao, co, rfl, -⟩ := h.opw.rd lwCells_len
  obtain ⟨na, nn, nk⟩ := nv
  obtain ⟨ma, mn, mk⟩ := mv
  have c0 : w.cell? ⟨gr, 0, none⟩ = some (.slice na nn nk) := h.dk.cell 0
  have c1 : w.cell? ⟨gr, 1, none⟩ = some (.slice ma mn mk) := h.dk.cell 1
  have c2 : w.cell? ⟨gr, 2, none⟩ = some (.slice ao ops.length co) := h.dk.cell 2
  have f1 := h.dk.frozen 1
  have f2 := h.dk.frozen 2
  have H := Lib.hid h
  clear h
  go_enter Try.func69, Try.ntmps69
  go_wp2_with fail
  go_end0
  exact ⟨rfl, H.out.setMark, ((Upd.refl [gr] w).setCell _ _ (.inl (by simp))).setCell _ _ (.inl (by simp))⟩
end
section
variable {w0 w w' : World} {gr : Nat} {G : List Nat} {s : DS}
theorem rSetMark_any (h : RD w0 w gr G s) :
    Calls Try.prog 69 #[.pointer (some ⟨gr, 0, none⟩)] w fun e w' => e = .returned (.tuple #[]) ∧ ROut w0 w gr G (dMark s) w' := by
  obtain ⟨R, nv, mv, ln, lm, ov, ops, hc, rfl, ho, rfl⟩ := h.ex
  refine (rSetMarkC_any hc).mono ?_
  rintro e w' ⟨rfl, h1, hu⟩
  refine ⟨rfl, _, ⟨R, nv, nv, ln, ln, _, [], h1, rfl, ho.mark, rfl⟩, hu.mono (fun x hx => .inl (by simp at hx; subst hx; exact (rfoot_mem _ _ _ _).2 (.inl rfl))), fun x hx => ?_⟩
  rcases (rfoot_mem _ _ _ _).1 hx with rfl | hx | hx
  · exact .inl ((rfoot_mem _ _ _ _).2 (.inl rfl))
  · exact .inl ((rfoot_mem _ _ _ _).2 (.inr (.inl hx)))
  · simp [blk] at hx
set_option maxRecDepth 20000 in
set_option maxHeartbeats 1000000 in
theorem rTotal_any (h : RD w0 w gr G s) (hn : s.now.length ≤ 100000) :
    Calls Try.prog 72 #[.pointer (some ⟨gr, 0, none⟩)] w fun e w' => e = .returned (.int .i64 (dTotal s.now : Int)) ∧ Upd [] w w' := by
  have htot := h.ok.tot
  obtain ⟨R, ⟨na, nn, nk⟩, mv, ln, lm, ov, ops, hc, rfl, ho, rfl⟩ := h.ex
  have c0 : w.cell? ⟨gr, 0, none⟩ = some (.slice na nn nk) := hc.dk.cell 0
  have hrl : RL w R (.slice na nn nk) ln := hc.now
  obtain ⟨a', cap, he, hlc, hcm, hcell⟩ := hrl.row
  obtain ⟨rfl, rfl, rfl⟩ : na = a' ∧ nn = ln.length ∧ nk = cap := by injection he with h1 h2 h3; exact ⟨h1, h2, h3⟩
  have hcap : nk ≤ 9223372036854775807 := by unfold maxLen at hcm; omega
  have HCELL := Lib.hid hcell
  have HDAT := Lib.hid hrl.dat
  have C0 := Lib.hid c0
  have hlen : ln.length ≤ 100000 := by rw [df_len] at hn; exact hn
  dsimp only at htot ⊢
  have HT := Lib.hid htot
  clear hc h ho hn htot hcell hcm c0 hrl he
  go_enter Try.func72, Try.ntmps72
  go_wp2_with fail
  go_loopw [3, 4] (fun v i wr => ∃ k : Nat, k ≤ ln.length ∧ i = .int .i64 k ∧ v = .int .i64 (dTotal ((dfOf ln).take k) : Int) ∧ Hid (Upd [] w wr)) (fun _ i _ => ln.length - (intOf i).toNat)
  case atStart => exact ⟨0, Nat.zero_le _, rfl, rfl, Upd.refl _ _⟩
  case round =>
    obtain ⟨k, hk, rfl, rfl, hu⟩ := hrel
    have c0 := hu.out.cell C0.out (by simp)
    by_cases hlt : k < ln.length
    · have hst : dTotal ((dfOf ln).take (k + 1)) = dTotal ((dfOf ln).take k) + (nth ln k).2.2.length := by
        rw [total_take (dfOf ln) k (by rw [df_len]; exact hlt), tMap_nth id (fun x : Sl × List UInt8 => x.2) ln k hlt]
      have hle := total_le (dfOf ln) (k + 1)
      have hle2 := HT.out
      obtain ⟨b, off, rfl, hcl⟩ := HCELL.out (by intro h; simp [h] at hlt)
      have hm : nth ln k ∈ ln := by rw [nth_get ln _ hlt]; exact List.getElem_mem _
      have hb := HDAT.out _ hm
      have d1 : wr.cell? ⟨b, off + k * 2 + 1, none⟩ = some (slv (nth ln k).2.1) := hu.out.cell (hcl _ hlt 1 (by omega)) (by simp)
      have HST := Lib.hid hst
      rw [hst] at hle
      clear hst hcl hm
      generalize nth ln k = c at *
      obtain ⟨key, ⟨a, n, cp⟩, bs⟩ := c
      dsimp only at hb hle d1
      obtain ⟨a2, c2, he2, -⟩ := hb
      have hnb : n = bs.length := (Value.slice.inj he2).2.1
      subst hnb
      clear he2
      generalize dTotal ((dfOf ln).take k) = T at *
      have hT : T + bs.length ≤ 16777216 := by omega
      have q0 : (0 : Int) ≤ k := by omega
      have q1 : (k : Int) < ln.length := by omega
      clear hle hle2
      go_wp2_with fail
      go_roundw
      case rel => exact ⟨k + 1, by omega, by go_num, by rw [HST.out]; go_num, hu⟩
      case measure => simp [intOf]; omega
    · obtain rfl : k = ln.length := by omega
      have he : (dfOf ln).take ln.length = dfOf ln := List.take_of_length_le (by rw [df_len]; exact Nat.le_refl _)
      obtain ⟨T, hT⟩ : ∃ T, dTotal (dfOf ln) = T := ⟨_, rfl⟩
      have HTT := Lib.hid hT
      rw [he, hT]
      clear hT
      go_wp2_with fail
      go_ret
      exact ⟨by rw [HTT.out]; rfl, hu.out⟩
set_option maxRecDepth 20000 in
set_option maxHeartbeats 1000000 in
theorem rNames_any (h : RD w0 w gr G s) (hn : s.now.length ≤ 100000) :
    Calls Try.prog 71 #[.pointer (some ⟨gr, 0, none⟩)] w fun e w' => ∃ v, e = .returned v ∧ Own sv w.heap.size 9 w' v (s.now.map (·.1)) ∧ Upd [] w w' := by
  obtain ⟨R, ⟨na, nn, nk⟩, mv, ln, lm, ov, ops, hc, rfl, ho, rfl⟩ := h.ex
  have c0 : w.cell? ⟨gr, 0, none⟩ = some (.slice na nn nk) := hc.dk.cell 0
  have hrl : RL w R (.slice na nn nk) ln := hc.now
  obtain ⟨a', cap, he, hlc, hcm, hcell⟩ := hrl.row
  obtain ⟨rfl, rfl, rfl⟩ : na = a' ∧ nn = ln.length ∧ nk = cap := by injection he with h1 h2 h3; exact ⟨h1, h2, h3⟩
  have hcap : nk ≤ 9223372036854775807 := by unfold maxLen at hcm; omega
  have HCELL := Lib.hid hcell
  have C0 := Lib.hid c0
  have hlen : ln.length ≤ 100000 := by rw [df_len] at hn; exact hn
  dsimp only
  have hke : (dfOf ln).map (·.1) = ln.map (·.1) := by simp [tMap]
  rw [hke]
  clear hc h ho hn hcell hcm c0 hrl he hke
  go_enter Try.func71, Try.ntmps71
  go_wp2_with fail
  go_loopw [3, 4] (fun v i wr => ∃ k : Nat, k ≤ ln.length ∧ i = .int .i64 k ∧ Hid (Own sv w.heap.size 9 wr v ((ln.take k).map (·.1))) ∧ Hid (Upd [] w wr)) (fun _ i _ => ln.length - (intOf i).toNat)
  case atStart => exact ⟨0, Nat.zero_le _, rfl, World.ownsRow_nil _ _ _ _, Upd.refl _ _⟩
  case round =>
    obtain ⟨k, hk, rfl, ho, hu⟩ := hrel
    have c0 := hu.out.cell C0.out (by simp)
    by_cases hlt : k < ln.length
    · have HT : Hid ((ln.take (k + 1)).map (·.1) = (ln.take k).map (·.1) ++ [(nth ln k).1]) := by unfold Hid; rw [List.take_succ_eq_append_getElem hlt, nth_get ln k hlt, List.map_append]; rfl
      have hlen2 : ((ln.take k).map (·.1)).length = k := by rw [List.length_map, List.length_take]; omega
      obtain ⟨bl, off, rfl, hcl⟩ := HCELL.out (by intro h; simp [h] at hlt)
      obtain ⟨ao2, co2, rfl, -⟩ := ho.out.rd
      rw [hlen2] at ho ⊢
      have HLEN := Lib.hid hlen2
      have d0 : wr.cell? ⟨bl, off + k * 2, none⟩ = some (sv (nth ln k).1) := hu.out.cell (hcl _ hlt 0 (by omega)) (by simp)
      have HKS : Hid (∃ ks, ks = (ln.take k).map (·.1)) := ⟨_, rfl⟩
      generalize hks : (ln.take k).map (·.1) = ks at *
      generalize (nth ln k).1 = x at *
      clear hlen2 hcl hks HKS
      have q0 : (0 : Int) ≤ k := by omega
      have q1 : (k : Int) < ln.length := by omega
      have HB : Hid ((ks.length + [x].length) * 16 ≤ 140737488355328) := by unfold Hid; rw [HLEN.out]; simp; omega
      have HL : Hid (ks.length + [x].length ≤ maxLen) := by unfold Hid maxLen; rw [HLEN.out]; simp; omega
      have hsz := hu.out.size
      go_wp2_with (at_builtin; go_must (refine wpList_app_of rfl _ _ rfl (.slice ao2 k co2) (.slice (some ⟨wr.heap.size, 0, none⟩) 1 1) rfl rfl (run_app (c := sv) (fun _ => rfl) undRStr infoRStr rfl _ _ ks [x] (ho.out.upd ((Upd.refl [] _).alloc _) (by simp)) (Rd.lit [x] (by simp) rfl rfl (by decide) (by decide)) HB.out HL.out (by simp <;> omega)) ?_; rintro v1 w3 ⟨ho3, hu3, hk3⟩; have HO3 := Lib.hid ho3; have HU3 : Hid (Upd [] w w3) := ((hu.out.alloc _).trans hu3 (by simp) (fun y hy => .inr (ho.out.ge y hy).1)); clear ho3 hu3 hk3))
      go_roundw
      case rel => exact ⟨k + 1, by omega, by go_num, by rw [HT.out]; exact HO3, HU3⟩
      case measure => simp [intOf]; omega
    · obtain rfl : k = ln.length := by omega
      go_wp2_with fail
      go_ret
      exact ⟨_, rfl, by have := ho.out; rwa [List.take_length] at this, hu.out⟩
end
end Go.Proofs.Ytmhdhnipljonlaa
namespace Go.Proofs.Ytmhdhnipljonlaa
open Go.RowKit
set_option linter.unusedSimpArgs false
set_option linter.unusedVariables false
section
variable {w0 w w' : World} {gd gn gm : Nat} {Fn Fm B : List Nat} {K : KB} {cn cm : CF} {lv : Value} {lg : List LW}
set_option maxRecDepth 20000 in
set_option maxHeartbeats 4000000 in
theorem do_any (x : Wr) (sl : Sl) (h : DC w0 w gd gn gm Fn Fm B K cn cm lv lg) (hx : WrOk x (dfOf cn)) (hp : Sh B K sl x.p) (hl : lg.length ≤ 1000000000) :
    Calls Try.prog 61 #[.pointer (some ⟨gd, 0, none⟩), wrv x sl] w fun e w' => e = .returned (.tuple #[]) ∧ ∃ Fn' B' K' cn' lv', DC w0 w' gd gn gm Fn' Fm B' K' cn' cm lv' (lg ++ [(x, sl)]) ∧ Ext B K B' K' ∧ dfOf cn' = wApply x (dfOf cn) ∧ Upd (dfoot gd Fn Fm B lv) w w' ∧ (∀ y ∈ dfoot gd Fn' Fm B' lv', y ∈ dfoot gd Fn Fm B lv ∨ w.heap.size ≤ y) := by
  obtain ⟨ao, co, rfl, hlc, hcm, -⟩ := h.log.rd lwCells_len
  obtain ⟨kd, nm, tn, p, n⟩ := x
  obtain ⟨pa, pn, pk⟩ := sl
  have hu1 : Upd [] w (w.alloc (.cells #[.int .i64 kd, sv nm, sv tn, .slice pa pn pk, .int .i64 n] 114)) := (Upd.refl [] w).alloc _
  have H1 := Lib.hid (h.upd0 hu1)
  have HBX := Lib.hid (Blk.new w 114 [.int .i64 kd, sv nm, sv tn, .slice pa pn pk, .int .i64 n])
  have HGE := Lib.hid h.ge
  have HX := Lib.hid hx
  have HP := Lib.hid hp
  have HU1 := Lib.hid hu1
  have c0 : (w.alloc (.cells #[.int .i64 kd, sv nm, sv tn, .slice pa pn pk, .int .i64 n] 114)).cell? ⟨gd, 0, none⟩ = some (.pointer (some ⟨gn, 0, none⟩)) := hu1.cell (h.dk.cell 0) (by simp)
  have hgd : gd < w.heap.size := h.dk.lt
  clear h hx hp hu1
  go_enter Try.func61, Try.ntmps61
  go_wp2_with fail
  have d0 := HBX.out.cell 0
  have d1 := HBX.out.cell 1
  have d2 := HBX.out.cell 2
  have d3 := HBX.out.cell 3
  have d4 := HBX.out.cell 4
  simp only [List.getElem?_cons_zero, List.getElem?_cons_succ] at d0 d1 d2 d3 d4
  have hw1 := HU1.out.size
  have HW1 : Hid (w.heap.size < (w.alloc (.cells #[.int .i64 kd, sv nm, sv tn, .slice pa pn pk, .int .i64 n] 114)).heap.size) := HBX.out.lt
  generalize w.alloc (.cells #[.int .i64 kd, sv nm, sv tn, .slice pa pn pk, .int .i64 n] 114) = w1 at *
  go_still_tail 5, (by kernel_rfl)
  change wpList _ _ _ _ _ w1.drew
  go_wp2_with fail
  (with_reducible refine (apply_any ⟨kd, nm, tn, p, n⟩ ⟨pa, pn, pk⟩ HX.out (H1.out.now.upd0 (Upd.refl [] w1).drew) (H1.out.bks.upd (Upd.refl [] w1).drew (by simp)) HP.out).mono ?_)
  rintro e w2 ⟨rfl, F2, B2, K2, cs2, h2, hb2, he2, hfs2, hu2, hf2, hn2⟩
  have hfb : ∀ y ∈ Fn ++ B, y ∈ dfoot gd Fn Fm B (Value.slice ao lg.length co) := fun y hy => (dfoot_mem _ _ _ _ _ _).2 (by rcases List.mem_append.1 hy with q | q; exact .inr (.inl q); exact .inr (.inr (.inr (.inl q))))
  have hbx : w.heap.size ∉ Fn ++ B := fun hy => by have := (HGE.out _ (hfb _ hy)).2; omega
  have H2 := Lib.hid ((H1.out.upd0 (Upd.refl [] w1).drew).step h2 hb2 he2 hu2 hf2)
  have hB2 : Blk w2 w.heap.size 114 [.int .i64 kd, sv nm, sv tn, .slice pa pn pk, .int .i64 n] := Blk.upd (w := w1.drew) HBX.out hu2 hbx
  have HU2 : Hid (Upd (dfoot gd Fn Fm B (Value.slice ao lg.length co)) w w2) := HU1.out.drew.trans hu2 (by simp) (fun y hy => .inl (hfb y hy))
  have d0 := hB2.cell 0
  have d1 := hB2.cell 1
  have d2 := hB2.cell 2
  have d3 := hB2.cell 3
  have d4 := hB2.cell 4
  simp only [List.getElem?_cons_zero, List.getElem?_cons_succ] at d0 d1 d2 d3 d4
  have c2 : w2.cell? ⟨gd, 2, none⟩ = some (.slice ao lg.length co) := H2.out.dk.cell 2
  have f2 : w2.frozen? ⟨gd, 2, none⟩ = false := H2.out.dk.frozen 2
  have HE2 := Lib.hid he2
  have HFS2 := Lib.hid hfs2
  have HF2 := Lib.hid hf2
  have HN2 := Lib.hid hn2
  have hs2 := hu2.size
  have HW2 : Hid (w.heap.size < w2.heap.size) := hB2.lt
  clear h2 hb2 he2 hfs2 hu2 hf2 hn2 hfb hbx hB2 c0 H1 HBX HU1 hw1 hs2
  have hua : Upd [] w2 (w2.drew.alloc (.cells #[.int .i64 kd, sv nm, sv tn, .slice pa pn pk, .int .i64 n] 114)) := (Upd.refl [] w2).drew.alloc _
  have HUA := Lib.hid hua
  have HOW := H2.out.log.upd hua (by simp)
  have hnewb : Blk (w2.drew.alloc (.cells #[.int .i64 kd, sv nm, sv tn, .slice pa pn pk, .int .i64 n] 114)) w2.heap.size 114 [.int .i64 kd, sv nm, sv tn, .slice pa pn pk, .int .i64 n] := Blk.new w2.drew _ _
  have HRD : RdN 5 lwCells (w2.drew.alloc (.cells #[.int .i64 kd, sv nm, sv tn, .slice pa pn pk, .int .i64 n] 114)) (.slice (some ⟨w2.heap.size, 0, none⟩) 1 1) [(⟨kd, nm, tn, p, n⟩, ⟨pa, pn, pk⟩)] := by
    refine ⟨_, 1, rfl, by simp, by simp [maxLen], fun _ => ⟨w2.heap.size, 0, rfl, fun j hj i hi => ?_⟩⟩
    have hj0 : j = 0 := by simpa using hj
    subst hj0
    rw [Nat.zero_mul, Nat.zero_add, Nat.zero_add, hnewb.cell]; rfl
  have hbs : w0.heap.size ≤ (w2.drew.alloc (.cells #[.int .i64 kd, sv nm, sv tn, .slice pa pn pk, .int .i64 n] 114)).heap.size := (H2.out.old.seq hua).size
  have HRUN := Lib.hid (fun ty => run_appN (P := Try.prog) (ty := ty) lwCells_len (by decide) lwCells_one undLW infoLW rfl _ _ lg [(⟨kd, nm, tn, p, n⟩, ⟨pa, pn, pk⟩)] HOW HRD (by simp; omega) (by simp [maxLen]; omega) hbs)
  have HDK := Lib.hid (H2.out.dk.upd hua (by simp))
  have HGL := Lib.hid (dk_L H2.out.dk H2.out.log)
  clear hua HOW hnewb HRD hbs
  go_wp2_with fail
  have c2' : (w2.alloc (Obj.cells #[.int .i64 kd, sv nm, sv tn, .slice pa pn pk, .int .i64 n] 114)).cell? ⟨gd, 2, none⟩ = some (.slice ao lg.length co) := ((Upd.refl [] w2).alloc _).cell c2 (by simp)
  go_region_law (first | ((with_reducible refine step_app_of rfl (.tmp 14) (.tmp 16) rfl (.slice ao lg.length co) (.slice (some ⟨w2.heap.size, 0, none⟩) 1 1) rfl rfl (HRUN.out _) ?_); (rintro v3 w3 ⟨ho3, hu3, hk3⟩; obtain ⟨⟨a3, n3, k3⟩, rfl⟩ := ownN_sl ho3; have hb3 := HDK.out.upd hu3 HGL.out; have c3 : w3.cell? ⟨gd, 2, none⟩ = some (.slice ao lg.length co) := hb3.cell 2; have f3 := hb3.frozen 2; have HB3 := Lib.hid hb3; have HO3 := Lib.hid ho3; have HU3 := Lib.hid hu3; have HK3 := Lib.hid hk3; clear ho3 hu3 hk3 hb3; dsimp only)))
  all_goals
    go_end0
    have hset : Upd [gd] w3 (w3.setCell ⟨gd, 2, none⟩ (.slice a3 n3 k3)) := (Upd.refl [gd] w3).setCell _ _ (.inl (by simp))
    have hgv : gd ∉ blk (.slice a3 n3 k3) := fun hy => by
      rcases HK3.out _ hy with q | q
      · exact HGL.out q
      · have := H2.out.dk.lt; have := HUA.out.size; omega
    have hw3 : Upd (blk (Value.slice ao lg.length co)) w2 w3 := HUA.out.trans HU3.out (by simp) (fun y hy => .inl hy)
    have hlog : ∀ y ∈ blk (Value.slice ao lg.length co), y ∈ dfoot gd Fn Fm B (Value.slice ao lg.length co) := fun y hy => (dfoot_mem _ _ _ _ _ _).2 (.inr (.inr (.inr (.inr hy))))
    have hall : Upd (gd :: blk (Value.slice ao lg.length co)) w2 (w3.setCell ⟨gd, 2, none⟩ (.slice a3 n3 k3)) := hw3.trans hset (fun y hy => by simp [hy]) (fun y hy => .inl (by simp at hy; simp [hy]))
    have hgeb : ∀ x ∈ gd :: blk (Value.slice ao lg.length co), w0.heap.size ≤ x := fun x hx => by
      rcases List.mem_cons.1 hx with rfl | q
      · exact H2.out.gdb
      · exact (H2.out.log.ge x q).1
    refine ⟨rfl, F2, B2, K2, cs2, (.slice a3 n3 k3), ⟨HB3.out.set_ 2 (.slice a3 n3 k3), H2.out.gdb, ?_, ?_, H2.out.full, H2.out.apt, ?_, ?_, ?_⟩, HE2.out, HFS2.out, ?_, ?_⟩
    · refine H2.out.now.upd hall (fun x hx hy => ?_) hgeb
      rcases List.mem_cons.1 hy with rfl | q
      · exact dk_F H2.out.dk H2.out.now.tab hx
      · exact log_F H2.out.log H2.out.now.tab x q hx
    · refine H2.out.mark.upd hall (fun x hx hy => ?_) hgeb
      rcases List.mem_cons.1 hy with rfl | q
      · exact dk_F H2.out.dk H2.out.mark.tab hx
      · exact log_F H2.out.log H2.out.mark.tab x q hx
    · refine H2.out.bks.upd hall (fun x hx hy => ?_)
      rcases List.mem_cons.1 hy with rfl | q
      · exact dk_B H2.out.dk H2.out.bks hx
      · exact log_B H2.out.log H2.out.bks x q hx
    · exact HO3.out.upd hset (fun x hx hy => hgv (by simp at hy; rw [← hy]; exact hx))
    · intro y hy
      rcases List.mem_append.1 hy with q | q
      · exact H2.out.lsh y q
      · simp at q; subst q; exact HP.out.ext HE2.out
    · refine HU2.out.trans hall (fun y hy => hy) (fun y hy => .inl ?_)
      rcases List.mem_cons.1 hy with rfl | q
      · exact (dfoot_mem _ _ _ _ _ _).2 (.inl rfl)
      · exact hlog y q
    · intro y hy
      have hwl := HW2.out
      have hw1 : w1.drew.heap.size = w1.heap.size := rfl
      have h12 := HW1.out
      rcases (dfoot_mem _ _ _ _ _ _).1 hy with rfl | q | q | q | q
      · exact .inl ((dfoot_mem _ _ _ _ _ _).2 (.inl rfl))
      · exact (HF2.out y q).imp (fun q => (dfoot_mem _ _ _ _ _ _).2 (.inr (.inl q))) (fun q => by omega)
      · exact .inl ((dfoot_mem _ _ _ _ _ _).2 (.inr (.inr (.inl q))))
      · exact (HN2.out y q).imp (fun q => (dfoot_mem _ _ _ _ _ _).2 (.inr (.inr (.inr (.inl q))))) (fun q => by omega)
      · exact (HK3.out y q).imp (fun q => hlog y q) (fun q => by have := HUA.out.size; omega)
end
end Go.Proofs.Ytmhdhnipljonlaa
namespace Go.Proofs.Ytmhdhnipljonlaa
open Go.RowKit
set_option linter.unusedSimpArgs false
set_option linter.unusedVariables false
section
variable {w0 w w' : World} {gd : Nat} {G : List Nat} {s : DS}
set_option maxRecDepth 20000 in
set_option maxHeartbeats 1000000 in
theorem dNew_any (w0 w : World) (hu : Upd [] w0 w) :
    Calls Try.prog 28 #[] w fun e w' => ∃ gd G, e = .returned (.pointer (some ⟨gd, 0, none⟩)) ∧ DD w0 w' gd G ⟨[], [], []⟩ ∧ Upd [] w w' ∧ (∀ x ∈ G, w.heap.size ≤ x) := by
  have HU := Lib.hid hu
  clear hu
  go_enter Try.func28, Try.ntmps28
  go_wp2_with fail
  (with_reducible refine (txSL_New w0 w HU.out).mono ?_)
  rintro e w1 ⟨g1, F1, rfl, h1, hu1, hf1⟩
  have H1 := Lib.hid h1
  have HU1 := Lib.hid (HU.out.seq hu1)
  have HW1 := Lib.hid hu1
  have HF1 := Lib.hid hf1
  clear h1 hu1 hf1
  go_wp2_with fail
  (with_reducible refine (txSL_New w0 w1 HU1.out).mono ?_)
  rintro e w2 ⟨g2, F2, rfl, h2, hu2, hf2⟩
  have H2 := Lib.hid h2
  have HU2 := Lib.hid hu2
  have HF2 := Lib.hid hf2
  clear h2 hu2 hf2
  go_wp2_with fail
  go_ret
  have hua : Upd [] w2 (w2.alloc (.cells #[.pointer (some ⟨g1, 0, none⟩), .pointer (some ⟨g2, 0, none⟩), .slice none 0 0] 111)) := (Upd.refl [] w2).alloc _
  have hs1 := HW1.out.size
  have hs2 := HU2.out.size
  refine ⟨_, _, rfl, ⟨g1, g2, F1, F2, [], fun _ => ([], 0), [], [], .slice none 0 0, [], ⟨Blk.new w2 _ [.pointer (some ⟨g1, 0, none⟩), .pointer (some ⟨g2, 0, none⟩), .slice none 0 0], ?_, ⟨(H1.out.upd0 HU2.out).upd0 hua, by simp, by simp, by simp⟩, ⟨H2.out.upd0 hua, by simp, by simp, by simp⟩, fun c hc => by simp at hc, ?_, ⟨by simp⟩, OwnN.nil _ _ _, by simp⟩, rfl, DOk.zero, rfl⟩, (HW1.out.seq HU2.out).seq hua, fun x hx => ?_⟩
  · exact (HU1.out.seq HU2.out).size
  · exact Ap.symm (Ap.new (n := w1.heap.size) HF2.out (fun x hx => (H1.out.ge x hx).2))
  · rcases (dfoot_mem _ _ _ _ _ _).1 hx with rfl | hx | hx | hx | hx
    · omega
    · exact HF1.out x hx
    · have := HF2.out x hx; omega
    · simp at hx
    · simp [blk] at hx
set_option maxRecDepth 20000 in
theorem dCount_any (h : DD w0 w gd G s) :
    Calls Try.prog 30 #[.pointer (some ⟨gd, 0, none⟩)] w fun e w' => e = .returned (.int .i64 (s.log.length : Int)) ∧ w = w' := by
  obtain ⟨gn, gm, Fn, Fm, B, K, cn, cm, lv, lg, hc, rfl, ho, rfl⟩ := h.ex
  obtain ⟨ao, co, rfl, -⟩ := hc.log.rd lwCells_len
  have c2 : w.cell? ⟨gd, 2, none⟩ = some (.slice ao lg.length co) := hc.dk.cell 2
  clear hc h ho
  go_enter Try.func30, Try.ntmps30
  go_wp2
  go_ret
  exact ⟨by simp, rfl⟩
set_option maxRecDepth 20000 in
theorem dNames_any (h : DD w0 w gd G s) (hl : s.now.length ≤ 100000) :
    Calls Try.prog 35 #[.pointer (some ⟨gd, 0, none⟩)] w fun e w' => ∃ v, e = .returned v ∧ Own sv w.heap.size 9 w' v (s.now.map (·.1)) ∧ Upd [] w w' := by
  obtain ⟨gn, gm, Fn, Fm, B, K, cn, cm, lv, lg, hc, rfl, ho, rfl⟩ := h.ex
  have c0 : w.cell? ⟨gd, 0, none⟩ = some (.pointer (some ⟨gn, 0, none⟩)) := hc.dk.cell 0
  have HC := Lib.hid hc
  have hl2 : (rowsF cn).length ≤ 100000 := by rw [rowsF_len]; rwa [df_len] at hl
  have hk : (rowsF cn).map (·.1) = (dfOf cn).map (·.1) := by simp [tMap]
  dsimp only
  generalize (dfOf cn).map (·.1) = ks at *
  have HL := Lib.hid hl2
  have HK := Lib.hid hk
  clear hc h ho hl hl2 hk
  go_enter Try.func35, Try.ntmps35
  go_wp2_with fail
  (with_reducible refine (txSL_Keys _ HC.out.now.tab HL.out HK.out).mono ?_)
  rintro e w1 ⟨v, rfl, ho1, hu1⟩
  obtain ⟨a1, k1, rfl, -⟩ := ho1.rd
  have HO1 := Lib.hid ho1
  have HU1 := Lib.hid hu1
  clear ho1 hu1
  go_wp2_with fail
  go_ret
  exact ⟨_, rfl, HO1.out, HU1.out⟩
set_option maxRecDepth 20000 in
set_option maxHeartbeats 1000000 in
theorem dkRead_any (nm : ByteArray) (h : DD w0 w gd G s) (hl : s.now.length ≤ 100000) :
    Calls Try.prog 33 #[.pointer (some ⟨gd, 0, none⟩), sv nm] w fun e w' => ∃ v, e = .returned (.tuple #[v, .bool (dGet s.now nm).2]) ∧ Own bv w.heap.size 5 w' v (dGet s.now nm).1 ∧ Upd [] w w' := by
  have hlen := get_le_total s.now nm
  have htot := h.ok.tot
  obtain ⟨gn, gm, Fn, Fm, B, K, cn, cm, lv, lg, hc, rfl, ho, rfl⟩ := h.ex
  have c0 : w.cell? ⟨gd, 0, none⟩ = some (.pointer (some ⟨gn, 0, none⟩)) := hc.dk.cell 0
  have hl2 : (rowsF cn).length ≤ 100000 := by rw [rowsF_len]; rwa [df_len] at hl
  have HL := Lib.hid hl2
  obtain ⟨⟨oa, on, ok⟩, old, b, hget, hdg, hin, hsh, hgr, hoth⟩ := hc.now.found nm
  dsimp only at hlen htot
  rw [hdg] at hlen ⊢
  dsimp only at hlen ⊢
  have HG := Lib.hid hget
  have HT := Lib.hid hc.now
  have HR := Lib.hid (hsh.rd hc.bks)
  have hon := hsh.n
  dsimp only at hon
  subst hon
  have hlb : old.length ≤ 16777216 := by omega
  clear hc h ho hl hl2 hget hdg hin hsh hgr hoth hlen htot
  go_enter Try.func33, Try.ntmps33
  go_wp2_with fail
  (with_reducible refine (txSL_Get nm ⟨oa, old.length, ok⟩ b HT.out.tab HL.out trivial HG.out).mono ?_)
  rintro e w1 ⟨rfl, hu1⟩
  have HU1 := Lib.hid hu1
  have HRUN := Lib.hid (fun ty => run_app (P := Try.prog) (w := w1) (ty := ty) bv_one Try.underlying27 infoB8 rfl (.slice none 0 0) (.slice oa old.length ok) [] old (World.ownsRow_nil w1 w.heap.size _ 1) (HR.out.upd0 hu1) (by simp; omega) (by simp [maxLen]; omega) hu1.size)
  clear hu1
  go_wp2_with (at_builtin; go_must (refine wpList_app_of rfl _ _ rfl (.slice none 0 0) (.slice oa old.length ok) rfl rfl (HRUN.out _) ?_; rintro v2 w2 ⟨ho2, hu2, hk2⟩; have HO2 := Lib.hid ho2; have HU2 := Lib.hid hu2; obtain ⟨a2, k2, rfl, -⟩ := ho2.rd; clear ho2 hu2 hk2 HRUN; dsimp only))
  go_ret2
  exact ⟨_, rfl, HO2.out, HU1.out.seq (HU2.out.mono (by simp [blk]))⟩
end
end Go.Proofs.Ytmhdhnipljonlaa
namespace Go.Proofs.Ytmhdhnipljonlaa
open Go.RowKit
set_option linter.unusedSimpArgs false
set_option linter.unusedVariables false
theorem snoc_set {ν : Type} [Inhabited ν] {l : List (ByteArray × ν)} (h : Rising strLt l) (k : Nat) (hk : k < l.length) : tSet strLt (l.take k) (nth l k).1 (nth l k).2 = l.take (k + 1) := by
  have hlt : (l.take k).length = k := by rw [List.length_take]; omega
  have hb : below strLt (l.take k) (nth l k).1 = k := below_eq _ _ _ (by rw [hlt]; exact Nat.le_refl _) (fun j hj => by rw [nth_take _ _ _ hj]; exact h j k hj hk) (fun q => absurd q (by rw [hlt]; omega))
  have hi : isIn strLt (l.take k) (nth l k).1 = false := by unfold isIn; rw [hb, hlt]; simp
  unfold tSet
  rw [hi, hb, if_neg (by simp), Nat.add_zero, take_succ_nth l k hk, List.take_of_length_le (by omega), List.drop_of_length_le (by omega)]
section
variable {w0 w w' : World} {gd : Nat} {G : List Nat} {s : DS}
set_option maxRecDepth 20000 in
set_option maxHeartbeats 2000000 in
theorem dTotal_any (h : DD w0 w gd G s) (hl : s.now.length ≤ 100000) :
    Calls Try.prog 41 #[.pointer (some ⟨gd, 0, none⟩)] w fun e w' => e = .returned (.int .i64 (dTotal s.now : Int)) ∧ Upd [] w w' := by
  have htot := h.ok.tot
  obtain ⟨gn, gm, Fn, Fm, B, K, cn, cm, lv, lg, hc, rfl, ho, rfl⟩ := h.ex
  have c0 : w.cell? ⟨gd, 0, none⟩ = some (.pointer (some ⟨gn, 0, none⟩)) := hc.dk.cell 0
  have HC := Lib.hid hc
  have hl2 : (rowsF cn).length ≤ 100000 := by rw [rowsF_len]; rwa [df_len] at hl
  have HL := Lib.hid hl2
  have hlc : cn.length ≤ 100000 := by rwa [df_len] at hl
  dsimp only at htot ⊢
  have HT := Lib.hid htot
  have C0 := Lib.hid c0
  clear hc h ho hl hl2 htot
  go_enter Try.func41, Try.ntmps41
  go_wp2_with fail
  (with_reducible refine (txSL_Len (cn.length : Int) HC.out.now.tab (by rw [rowsF_len])).mono ?_)
  rintro e w1 ⟨rfl, rfl⟩
  go_wp2_with fail
  go_loopw [3, 13] (fun v i wr => ∃ k : Nat, k ≤ cn.length ∧ i = .int .i64 k ∧ v = .int .i64 (dTotal ((dfOf cn).take k) : Int) ∧ Hid (Upd [] w wr)) (fun _ i _ => cn.length - (intOf i).toNat)
  case atStart => exact ⟨0, Nat.zero_le _, rfl, rfl, Upd.refl _ _⟩
  case round =>
    obtain ⟨k, hk, rfl, rfl, hu⟩ := hrel
    clear c0
    have c0 := hu.out.cell C0.out (by simp)
    by_cases hlt : k < cn.length
    · have hat : tAt (⟨#[]⟩ : ByteArray) (⟨none, 0, 0⟩ : Sl) (rowsF cn) (k : Int) = ((nth cn k).1, (nth cn k).2.1, true) := by
        rw [tAt_at _ _ (rowsF cn) k (by rw [rowsF_len]; exact hlt), tMap_nth id (fun x : Sl × List UInt8 => x.1) cn k hlt]; rfl
      have hst : dTotal ((dfOf cn).take (k + 1)) = dTotal ((dfOf cn).take k) + (nth cn k).2.2.length := by
        rw [total_take (dfOf cn) k (by rw [df_len]; exact hlt), tMap_nth id (fun x : Sl × List UInt8 => x.2) cn k hlt]
      have hle := total_le (dfOf cn) (k + 1)
      have hle2 := HT.out
      have hsh := (HC.out.now.sh _ (nth_mem k hlt)).n
      have HAT := Lib.hid hat
      have HST := Lib.hid hst
      rw [hst] at hle
      clear hat hst
      generalize nth cn k = c at *
      obtain ⟨key, ⟨a, n, cp⟩, bs⟩ := c
      dsimp only at hsh hle
      subst hsh
      generalize dTotal ((dfOf cn).take k) = T at *
      have hT : T + bs.length ≤ 16777216 := by omega
      have HI : Hid (I64 (k : Int)) := ⟨by omega, by omega⟩
      clear hle hle2
      go_wp2_with fail
      (with_reducible refine (txSL_At (k : Int) key ⟨a, bs.length, cp⟩ true HI.out (HC.out.now.tab.upd0 hu.out) HL.out HAT.out).mono ?_)
      rintro e w2 ⟨rfl, hu2⟩
      have HU2 := Lib.hid (hu.out.seq hu2)
      clear hu2 hu
      go_wp2_with fail
      go_roundw
      case rel => exact ⟨k + 1, by omega, by go_num, by rw [HST.out]; go_num, HU2⟩
      case measure => simp [intOf]; omega
    · obtain rfl : k = cn.length := by omega
      have he : (dfOf cn).take cn.length = dfOf cn := List.take_of_length_le (by rw [df_len]; exact Nat.le_refl _)
      obtain ⟨T, hT⟩ : ∃ T, dTotal (dfOf cn) = T := ⟨_, rfl⟩
      have HTT := Lib.hid hT
      rw [he, hT]
      clear hT
      go_wp2_with fail
      go_ret
      exact ⟨by rw [HTT.out]; rfl, hu.out⟩
end
section
variable {w0 w w' : World} {g : Nat} {F B : List Nat} {K : KB} {cs : CF}
set_option maxRecDepth 20000 in
set_option maxHeartbeats 2000000 in
theorem copied_any (ht : TD w0 w g F B K cs) (hB : Bks w0.heap.size w B K) (hlen : cs.length ≤ 100000) :
    Calls Try.prog 64 #[.pointer (some ⟨g, 0, none⟩)] w fun e w' => ∃ g' F' cs', e = .returned (.pointer (some ⟨g', 0, none⟩)) ∧ TD w0 w' g' F' B K cs' ∧ Full cs' ∧ dfOf cs' = dfOf cs ∧ Upd [] w w' ∧ (∀ x ∈ F', w.heap.size ≤ x) := by
  have HT := Lib.hid ht
  have HB := Lib.hid hB
  have HR := Lib.hid ht.risD
  have hrl : (rowsF cs).length ≤ 100000 := by rw [rowsF_len]; exact hlen
  have HRL := Lib.hid hrl
  clear ht hB hrl
  go_enter Try.func64, Try.ntmps64
  go_wp2_with fail
  (with_reducible refine (txSL_New w0 w HT.out.tab.old).mono ?_)
  rintro e w1 ⟨g1, F1, rfl, h1, hu1, hf1⟩
  have H1 : Hid (TD w0 w1 g1 F1 B K []) := ⟨h1, by simp, by simp, by simp⟩
  have HU1 := Lib.hid hu1
  have HF1 := Lib.hid hf1
  clear h1 hu1 hf1
  go_wp2_with fail
  (with_reducible refine (txSL_Len (cs.length : Int) (HT.out.tab.upd0 HU1.out) (by rw [rowsF_len])).mono ?_)
  rintro e w2 ⟨rfl, rfl⟩
  go_wp2_with fail
  go_loopw [11] (fun i wr => ∃ (k : Nat) (Fo : List Nat) (co : CF), k ≤ cs.length ∧ i = .int .i64 k ∧ Hid (TD w0 wr g1 Fo B K co) ∧ Hid (Full co) ∧ Hid (dfOf co = (dfOf cs).take k) ∧ Hid (Upd [] w wr) ∧ Hid (∀ x ∈ Fo, w.heap.size ≤ x)) (fun i _ => cs.length - (intOf i).toNat)
  case atStart => exact ⟨0, F1, [], Nat.zero_le _, rfl, H1, fun c hc => by simp at hc, rfl, HU1, HF1⟩
  case round =>
    obtain ⟨k, Fo, co, hk, rfl, ho, hfu, hdf, hu, hfr⟩ := hrel
    clear H1 HU1 HF1
    by_cases hlt : k < cs.length
    · have hat : tAt (⟨#[]⟩ : ByteArray) (⟨none, 0, 0⟩ : Sl) (rowsF cs) (k : Int) = ((nth cs k).1, (nth cs k).2.1, true) := by
        rw [tAt_at _ _ (rowsF cs) k (by rw [rowsF_len]; exact hlt), tMap_nth id (fun x : Sl × List UInt8 => x.1) cs k hlt]; rfl
      have hst : tSet strLt ((dfOf cs).take k) (nth cs k).1 (nth cs k).2.2 = (dfOf cs).take (k + 1) := by
        rw [← snoc_set HR.out k (by rw [df_len]; exact hlt), tMap_nth id (fun x : Sl × List UInt8 => x.2) cs k hlt]; rfl
      have hsh := HT.out.sh _ (nth_mem k hlt)
      have hol : co.length = k := by
        have := congrArg List.length hdf.out
        rw [df_len, List.length_take, df_len] at this; omega
      have HAT := Lib.hid hat
      have HST := Lib.hid hst
      clear hat hst
      generalize nth cs k = c at *
      obtain ⟨key, ⟨a, n, cp⟩, bs⟩ := c
      have hn := hsh.n
      have hcp := hsh.k
      dsimp only at hn hcp
      subst hn
      have HSC := Lib.hid (hsh.cut bs.length (Nat.le_refl _))
      have HI : Hid (I64 (k : Int)) := ⟨by omega, by omega⟩
      have HOL : Hid (co.length ≤ 100000) := by unfold Hid; omega
      have hcut := fun W => run_cut_hm (P := Try.prog) (size := 1) Try.underlying27 (by kernel_rfl) a bs.length cp bs.length hcp W
      clear hsh hol
      go_wp2_with fail
      (with_reducible refine (txSL_At (k : Int) key ⟨a, bs.length, cp⟩ true HI.out (HT.out.tab.upd0 hu.out) HRL.out HAT.out).mono ?_)
      rintro e w2 ⟨rfl, hu2⟩
      have HU2 := Lib.hid hu2
      clear hu2
      go_wp2_with fail
      (with_reducible refine (td_set key ⟨a, bs.length, bs.length⟩ (bs.take bs.length) (ho.out.tab.upd0 HU2.out) (HB.out.upd (hu.out.seq HU2.out) (by simp)) HOL.out (fun d hd hne => ⟨ho.out.sh d hd, ho.out.gr d hd, ap_full (Nat.le_refl _)⟩) ho.out.ap HSC.out (Gr.full (Nat.le_refl _))).mono ?_)
      rintro e w3 ⟨⟨r, rfl⟩, F3, h3, hb3, hu3, hf3⟩
      have hw := hu.out.size
      have hw2 := HU2.out.size
      have H3 := Lib.hid h3
      have HU3 : Hid (Upd [] w w3) := (hu.out.seq HU2.out).trans hu3 (by simp) (fun x hx => .inr (hfr.out x hx))
      have HF3 : Hid (∀ x ∈ F3, w.heap.size ≤ x) := fun x hx => by
        rcases hf3 x hx with q | q
        · exact hfr.out x q
        · omega
      have HD3 : Hid (dfOf (tSet strLt co key (⟨a, bs.length, bs.length⟩, bs.take bs.length)) = (dfOf cs).take (k + 1)) := by unfold Hid; rw [df_set, hdf.out, List.take_length]; exact HST.out
      have HFU3 : Hid (Full (tSet strLt co key (⟨a, bs.length, bs.length⟩, bs.take bs.length))) := fun c hc => by
        rcases tSet_memS ho.out.ris key _ c hc with rfl | ⟨q, -⟩
        · exact Nat.le_refl _
        · exact hfu.out c q
      clear h3 hb3 hu3 hf3 hw hw2 hcut
      go_wp2_with fail
      go_roundw
      case rel => exact ⟨k + 1, F3, _, by omega, by go_num, H3, HFU3, HD3, HU3, HF3⟩
      case measure => simp [intOf]; omega
    · obtain rfl : k = cs.length := by omega
      have he : (dfOf cs).take cs.length = dfOf cs := List.take_of_length_le (by rw [df_len]; exact Nat.le_refl _)
      rw [he] at hdf
      go_wp2_with fail
      go_ret
      exact ⟨g1, Fo, co, rfl, ho.out, hfu.out, hdf.out, hu.out, hfr.out⟩
end
end Go.Proofs.Ytmhdhnipljonlaa
