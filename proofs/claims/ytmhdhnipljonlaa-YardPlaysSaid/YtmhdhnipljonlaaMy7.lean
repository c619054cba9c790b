/- Texts of the proof, joined: The document's disk: a raw write, a file comes. The document's disk: bytes come behind a file's, a file is cut. The document's disk: bytes come behind a file's. Rows by rising keys: what is in them behind a change. The document's yard in memory; where a name stands; what was taken. Chapter 21 as plain law: the document's yard over the same rows. The document's yard: a row is dropped. -/
import Derived.Test.YtmhdhnipljonlaaMy6
import Derived.Test.YtmhdhnipljonlaaMy3
import Derived.Deep.RegionHeld3
import Derived.Deep.RegionLaw
import Derived.Test.YtmhdhnipljonlaaMy5
import Derived.Test.YtmhdhnipljonlaaMy4
import Derived.StillTailTactics
namespace Go.Proofs.Ytmhdhnipljonlaa
open Go.RowKit
set_option linter.unusedSimpArgs false
set_option linter.unusedVariables false
theorem ownN_emptyR {α : Type} (sz : Nat) (c : α → List Value) (base : Nat) (e : TypeId) (W : World) (G : Nat) (h : base ≤ G) (hW : Blk W G e []) : OwnN sz c base e W (.slice (some ⟨G, 0, none⟩) 0 0) [] :=
  ⟨by simp, .inr ⟨G, 0, #[], rfl, h, hW, Nat.le_refl _, Nat.zero_le _, by simp, by simp⟩⟩
theorem RdN.takeR {α : Type} [Inhabited α] {sz : Nat} {c : α → List Value} {w : World} {a : Option Addr} {n cap : Nat} {l : List α} (h : RdN sz c w (.slice a n cap) l) (k : Nat) (hk : k ≤ l.length) : RdN sz c w (.slice a k cap) (l.take k) := by
  obtain ⟨a', cap', he, h1, h2, h3⟩ := h
  injection he with e1 e2 e3; subst e1; subst e3
  refine ⟨a, cap, by rw [List.length_take, Nat.min_eq_left hk], by rw [List.length_take]; omega, h2, fun hne => ?_⟩
  obtain ⟨b, off, rfl, hc⟩ := h3 (fun q => hne (by rw [q]; simp))
  exact ⟨b, off, rfl, fun j hj i hi => by rw [List.length_take] at hj; rw [nth_take _ _ _ (by omega)]; exact hc j (by omega) i hi⟩
theorem RdN.dropR {α : Type} [Inhabited α] {sz : Nat} {c : α → List Value} {w : World} {a : Option Addr} {n cap : Nat} {l : List α} (h : RdN sz c w (.slice a n cap) l) (k : Nat) (hk : k ≤ l.length) :
    RdN sz c w (.slice (if cap = k then a else a.map (·.add (k * sz))) (n - k) (cap - k)) (l.drop k) := by
  obtain ⟨a', cap', he, h1, h2, h3⟩ := h
  injection he with e1 e2 e3; subst e1; subst e2; subst e3
  refine ⟨_, _, by rw [List.length_drop], by rw [List.length_drop]; omega, by omega, fun hne => ?_⟩
  have hlt : k < l.length := by
    rcases Nat.lt_or_ge k l.length with q | q
    · exact q
    · exact absurd (List.drop_eq_nil_of_le q) hne
  obtain ⟨b, off, rfl, hc⟩ := h3 (fun q => by rw [q] at hlt; simp at hlt)
  rw [if_neg (by omega)]
  refine ⟨b, off + k * sz, by simp [add_none], fun j hj i hi => ?_⟩
  rw [List.length_drop] at hj
  have := hc (k + j) (by omega) i hi
  rw [nth_drop]
  rw [show off + k * sz + (j * sz + i) = off + ((k + j) * sz + i) by rw [Nat.add_mul]; omega]
  exact this
theorem OwnN.base_leR {α : Type} {sz : Nat} {c : α → List Value} {base base' : Nat} {e : TypeId} {w : World} {v : Value} {l : List α} (h : OwnN sz c base e w v l) (hb : base' ≤ base) : OwnN sz c base' e w v l := by
  obtain ⟨h1, h2⟩ := h
  refine ⟨h1, ?_⟩
  rcases h2 with h2 | ⟨g, cap, cur, rfl, hb', hg, r⟩
  · exact .inl h2
  · exact .inr ⟨g, cap, cur, rfl, by omega, hg, r⟩
/-- A list of files in blocks that nobody writes. -/
structure RL (w : World) (R : List Nat) (v : Value) (l : List OW) : Prop where
  row : RdN 2 owCells w v l
  vR : ∀ x ∈ blk v, x ∈ R
  dat : ∀ c ∈ l, Bytes w (slv c.2.1) c.2.2
  dR : ∀ c ∈ l, ∀ x ∈ blk (slv c.2.1), x ∈ R
  ris : Rising strLt l
theorem RL.upd {w w' : World} {R : List Nat} {v : Value} {l : List OW} (h : RL w R v l) {S : List Nat} (hu : Upd S w w') (hs : ∀ x ∈ R, x ∉ S) : RL w' R v l :=
  ⟨h.row.upd owCells_len hu (fun x hx => hs x (h.vR x hx)), h.vR, fun c hc => (h.dat c hc).upd hu (fun x hx => hs x (h.dR c hc x hx)), h.dR, h.ris⟩
theorem RL.upd0 {w w' : World} {R : List Nat} {v : Value} {l : List OW} (h : RL w R v l) (hu : Upd [] w w') : RL w' R v l := h.upd hu (by simp)
/-- What a raw write gives. -/
def RDoes (w : World) (R : List Nat) (fs' : DF) (e : Ending) (w' : World) : Prop := ∃ v' R' l', e = .returned v' ∧ RL w' R' v' l' ∧ OwnN 2 owCells w.heap.size 150 w' v' l' ∧ dfOf l' = fs' ∧ Upd [] w w' ∧ (∀ x ∈ R, x ∈ R') ∧ (∀ x ∈ R', x ∈ R ∨ (w.heap.size ≤ x ∧ x < w'.heap.size)) ∧ (∀ c ∈ l', c.2.2 ≠ [] → ∀ x ∈ blk (slv c.2.1), x ∉ blk v')
theorem RDoes.later {w w1 w' : World} {R : List Nat} {fs' : DF} {e : Ending} (hu : Upd [] w w1) (h : RDoes w1 R fs' e w') : RDoes w R fs' e w' := by
  obtain ⟨v', R', l', h1, h2, ho, h3, h4, h5, h6, h7⟩ := h
  exact ⟨v', R', l', h1, h2, ho.base_leR hu.size, h3, hu.seq h4, h5, fun x hx => (h6 x hx).imp id (fun q => ⟨by have := hu.size; omega, q.2⟩), h7⟩
/-- Rows in a new block, over the same bytes or new ones. -/
theorem RDoes.of {w w' : World} {R : List Nat} {v : Value} {l : List OW} (h : RL w R v l) {base : Nat} {v' : Value} {l' : List OW} {fs' : DF} {e : Ending} (he : e = .returned v') (ho : OwnN 2 owCells base 150 w' v' l') (hb : w.heap.size ≤ base) (hu : Upd [] w w') (hfs : dfOf l' = fs') (hr : Rising strLt l')
    (hd : ∀ c ∈ l', c ∈ l ∨ (Bytes w' (slv c.2.1) c.2.2 ∧ (∀ x ∈ blk (slv c.2.1), x ∈ R ∨ (w.heap.size ≤ x ∧ x < w'.heap.size)) ∧ (c.2.2 ≠ [] → ∀ x ∈ blk (slv c.2.1), x ∉ blk v'))) : RDoes w R fs' e w' := by
  refine ⟨v', R ++ (blk v' ++ l'.flatMap fun c => (blk (slv c.2.1))), l', he, ⟨ho.rd owCells_len, fun x hx => by simp [hx], fun c hc => ?_, fun c hc x hx => ?_, hr⟩, ho.base_leR hb, hfs, hu, fun x hx => by simp [hx], fun x hx => ?_, fun c hc hne x hx hy => ?_⟩
  · rcases hd c hc with q | q
    · exact (h.dat c q).upd0 hu
    · exact q.1
  · exact List.mem_append.2 (.inr (List.mem_append.2 (.inr (List.mem_flatMap.2 ⟨c, hc, hx⟩))))
  · rcases List.mem_append.1 hx with q | q
    · exact .inl q
    · rcases List.mem_append.1 q with q | q
      · exact .inr ⟨by have := (ho.ge x q).1; omega, (ho.ge x q).2⟩
      · obtain ⟨c, hc, hx'⟩ := List.mem_flatMap.1 q
        rcases hd c hc with r | r
        · exact .inl (h.dR c r x hx')
        · exact r.2.1 x hx'
  · rcases hd c hc with r | r
    · have h1 := (h.dat c r).lt hne x hx
      have h2 := (ho.ge x hy).1
      omega
    · exact r.2.2 hne x hx hy
theorem set_no {l : List OW} {nm : ByteArray} (y : Sl × List UInt8) (h : isIn strLt l nm = false) : tSet strLt l nm y = l.take (below strLt l nm) ++ [(nm, y)] ++ l.drop (below strLt l nm) := by unfold tSet; rw [h]; simp
section
variable {w : World} {R : List Nat} {v : Value} {l : List OW}
set_option maxRecDepth 20000 in
set_option maxHeartbeats 4000000 in
theorem rMade_1 (nm tn : ByteArray) (p : List UInt8) (n : Int) (pa : Option Addr) (pn pk : Nat) (h : RL w R v l) (hl : l.length ≤ 10000) (hin : isIn strLt l nm = false) :
    Calls Try.prog 93 #[v, wrv ⟨1, nm, tn, p, n⟩ ⟨pa, pn, pk⟩] w (RDoes w R (tSet strLt (dfOf l) nm [])) := by
  obtain ⟨ao0, co0, rfl, hlc, hcm, -⟩ := h.row
  have hcap : co0 ≤ 9223372036854775807 := by unfold maxLen at hcm; omega
  have HB0 := Lib.hid (Blk.new w 148 [.int .i64 1, sv nm, sv tn, .slice pa pn pk, .int .i64 n])
  have HU0 := Lib.hid ((Upd.refl [] w).alloc (.cells #[.int .i64 1, sv nm, sv tn, .slice pa pn pk, .int .i64 n] 148))
  have H := Lib.hid h
  clear h hcm
  go_enter Try.func93, Try.ntmps93
  have hb0 : Blk (w.alloc (.cells #[.int .i64 1, sv nm, sv tn, .slice pa pn pk, .int .i64 n] 148)) w.heap.size 148 [.int .i64 1, sv nm, sv tn, .slice pa pn pk, .int .i64 n] := HB0.out
  have HRUN : Hid (∀ ty (W : World) (G : Nat), G = w.heap.size + 1 → W = (w.alloc (.cells #[.int .i64 1, sv nm, sv tn, .slice pa pn pk, .int .i64 n] 148)).alloc (.cells #[] 150) → ∃ v' w', (Builtin.append_ #[60, 60] ty #[.slice (some ⟨G, 0, none⟩) 0 0, .slice ao0 l.length co0]).run Try.prog W = .ok v' w' ∧ (OwnN 2 owCells (w.heap.size + 1) 150 w' v' l ∧ Upd [] (w.alloc (.cells #[.int .i64 1, sv nm, sv tn, .slice pa pn pk, .int .i64 n] 148)) w')) := by
    rintro ty W G rfl rfl
    have hs : (w.alloc (.cells #[.int .i64 1, sv nm, sv tn, .slice pa pn pk, .int .i64 n] 148)).heap.size = w.heap.size + 1 := by simp
    have hbk := Blk.new (w.alloc (.cells #[.int .i64 1, sv nm, sv tn, .slice pa pn pk, .int .i64 n] 148)) 150 []
    rw [hs] at hbk
    have hu := (Upd.refl [] (w.alloc (.cells #[.int .i64 1, sv nm, sv tn, .slice pa pn pk, .int .i64 n] 148))).alloc (.cells #[] 150)
    obtain ⟨v', w', h1, h2, h3, h4⟩ := run_appN (P := Try.prog) (ty := ty) (base := w.heap.size + 1) owCells_len (by decide) owCells_one undOW infoOW rfl _ (.slice ao0 l.length co0) [] l (ownN_emptyR 2 owCells (w.heap.size + 1) _ _ (w.heap.size + 1) (Nat.le_refl _) hbk) (H.out.row.upd0 owCells_len (HU0.out.seq hu)) (by simp; omega) (by unfold maxLen; simp; omega) (by simp)
    rw [List.nil_append] at h2
    exact ⟨v', w', h1, h2, hu.trans h3 (by simp) (fun y hy => .inr (by simp [blk] at hy; omega))⟩
  clear hb0
  go_wp2_with (at_builtin; go_must (refine wpList_app_of rfl _ _ rfl (.slice (some ⟨w.heap.size + 1, 0, none⟩) 0 0) (.slice ao0 l.length co0) rfl rfl (HRUN.out _ _ _ rfl rfl) ?_; rintro v1 w1 ⟨ho1, hu1⟩; have HO1 := Lib.hid ho1; have HU1 := Lib.hid hu1; obtain ⟨ao, co, rfl, -⟩ := ho1.rd owCells_len; have hb1 := HB0.out.upd hu1 (by simp); have d0 := hb1.cell 0; have d1 := hb1.cell 1; have d2 := hb1.cell 2; have d3 := hb1.cell 3; have d4 := hb1.cell 4; simp only [List.getElem?_cons_zero, List.getElem?_cons_succ] at d0 d1 d2 d3 d4; have HB1 := Lib.hid hb1; clear ho1 hu1 hb1 HRUN; dsimp only))
  (with_reducible refine (rdAt_any w1 _ l nm (HO1.out.rd owCells_len) H.out.ris (by omega)).mono ?_)
  rintro e wq ⟨rfl, huq⟩
  have D1 := Lib.hid (huq.cell d1 (by simp))
  replace d0 := huq.cell d0 (by simp)
  have HOQ := Lib.hid (HO1.out.upd huq (by simp))
  have HUQ := Lib.hid ((HU0.out.seq HU1.out).seq huq)
  generalize atI l nm = ai at *
  obtain ⟨hco, hlco⟩ : co ≤ 9223372036854775807 ∧ l.length ≤ co := by
    obtain ⟨a', k', he, h1, h2, -⟩ := HO1.out.rd owCells_len
    have := (Value.slice.inj he).2.2
    subst this; unfold maxLen at h2; exact ⟨by omega, h1⟩
  have HSQ : Hid (w.heap.size ≤ wq.heap.size) := HUQ.out.size
  have HIN := Lib.hid hin
  clear d1 d2 d3 d4 huq HO1 HU1 HB1 HB0 hin
  go_wp2_with fail
  go_loopw [7] (fun i wr => ∃ k : Nat, k ≤ l.length ∧ i = .int .i64 k ∧ Hid (Upd [] wq wr) ∧ Hid (∀ j, j < k → strLt (nth l j).1 nm = true)) (fun i _ => l.length - (intOf i).toNat)
  case atStart => exact ⟨0, Nat.zero_le _, rfl, Upd.refl _ _, fun j h => absurd h (by omega)⟩
  case round =>
    obtain ⟨k, hk, rfl, hu, hlo⟩ := hrel
    clear d0
    have e1 := hu.out.cell D1.out (by simp)
    by_cases hlt : k < l.length
    · obtain ⟨a', co', he, -, -, hcell⟩ := (HOQ.out.rd owCells_len)
      obtain ⟨lb, loff, e2, hcell⟩ := hcell (by intro h; simp [h] at hlt)
      obtain rfl : ao = some ⟨lb, loff, none⟩ := ((Value.slice.inj he).1).trans e2
      have e3 : wr.cell? ⟨lb, loff + k * 2, none⟩ = some (.string (nth l k).1) := hu.out.cell (hcell k hlt 0 (by omega)) (by simp)
      have q0 : (0 : Int) ≤ k := by omega
      have q1 : (k : Int) < l.length := by omega
      clear he e2 hcell
      cases hcmp : strLt (nth l k).1 nm with
      | true =>
        have HLO : Hid (∀ j, j < k + 1 → strLt (nth l j).1 nm = true) := fun j hj => by
          rcases Nat.lt_or_eq_of_le (Nat.le_of_lt_succ hj) with q | q
          · exact hlo.out j q
          · subst q; exact hcmp
        generalize (nth l k).1 = m at *
        have hc1 := hcmp
        clear hcmp hlo
        go_wp2_with fail
        go_quiet (fail)
        have HU3 := Lib.hid (hu.out.drewN nq)
        generalize wr.drewN nq = w2 at *
        clear hu e1 e3
        go_wp2_with fail
        go_roundw
        case rel => exact ⟨k + 1, by omega, by go_num, HU3, HLO⟩
        case measure => simp [intOf]; omega
      | false =>
        have HAT : Hid (below strLt l nm = k) := below_eq l nm k hk hlo.out (fun _ => hcmp)
        generalize (nth l k).1 = m at *
        have hc1 := hcmp
        clear hcmp hlo
        go_wp2_with fail
        go_quiet (fail)
        have HU3 := Lib.hid (hu.out.drewN nq)
        replace e1 := HU3.out.cell D1.out (by simp)
        generalize wr.drewN nq = w2 at *
        clear hu
        have hb : k ≤ l.length := by omega
        have HR2 := Lib.hid ((HOQ.out.upd HU3.out (by simp)).rd owCells_len)
        have HA1 : Hid (∀ (W : World) (G : Nat), w2.heap.size ≤ G → Upd [] w2 W → Blk W G 150 [] → ∃ v' w', (Builtin.append_ #[60, 60] 60 #[.slice (some ⟨G, 0, none⟩) 0 0, .slice (some ⟨lb, loff, none⟩) k co]).run Try.prog W = .ok v' w' ∧ (OwnN 2 owCells w2.heap.size 150 w' v' (l.take k) ∧ Upd [G] W w' ∧ Upd [] w2 w' ∧ ∃ a1 k1, v' = .slice a1 k k1)) := by
          intro W G hG hU hB
          obtain ⟨v', w', h1, h2, h3, h4⟩ := run_appN (P := Try.prog) (ty := 60) (base := w2.heap.size) owCells_len (by decide) owCells_one undOW infoOW rfl _ (.slice (some ⟨lb, loff, none⟩) k co) [] (l.take k) (ownN_emptyR 2 owCells _ _ W G hG hB) ((HR2.out.takeR k hb).upd0 owCells_len hU) (by simp; omega) (by unfold maxLen; simp; omega) hU.size
          rw [List.nil_append] at h2
          obtain ⟨a1, k1, h5, _⟩ := h2.rd owCells_len
          exact ⟨v', w', h1, h2, h3, hU.trans h3 (by simp) (fun y hy => .inr (by simp [blk] at hy; omega)), a1, k1, by rw [h5, List.length_take, Nat.min_eq_left hb]⟩
        have HA2 : Hid (∀ (W : World) (a1 : Option Addr) (k1 GR : Nat), OwnN 2 owCells w2.heap.size 150 W (.slice a1 k k1) (l.take k) → Upd [] w2 W → (∀ j u, ([.string nm, .slice none 0 0] : List Value)[j]? = some u → W.cell? ⟨GR, j, none⟩ = some u) → ∃ v' w', (Builtin.append_ #[60, 60] 60 #[.slice a1 k k1, .slice (some ⟨GR, 0, none⟩) 1 1]).run Try.prog W = .ok v' w' ∧ (OwnN 2 owCells w2.heap.size 150 w' v' (l.take k ++ [(nm, (⟨none, 0, 0⟩, []))]) ∧ Upd [] w2 w' ∧ ∃ a2 k2, v' = .slice a2 (k + 1) k2)) := by
          intro W a1 k1 GR hO hU hc
          have hr : RdN 2 owCells W (.slice (some ⟨GR, 0, none⟩) 1 1) [(nm, ((⟨none, 0, 0⟩ : Sl), ([] : List UInt8)))] := ⟨_, 1, rfl, by simp, by simp [maxLen], fun _ => ⟨GR, 0, rfl, fun j hj i hi => by
            simp at hj; subst hj
            have hi2 : i = 0 ∨ i = 1 := by omega
            rcases hi2 with rfl | rfl
            · simpa [nth_cons_zero] using hc 0 _ rfl
            · simpa [nth_cons_zero] using hc 1 _ rfl⟩⟩
          obtain ⟨v', w', h1, h2, h3, h4⟩ := run_appN (P := Try.prog) (ty := 60) (base := w2.heap.size) owCells_len (by decide) owCells_one undOW infoOW rfl _ _ (l.take k) [(nm, ((⟨none, 0, 0⟩ : Sl), ([] : List UInt8)))] hO hr (by simp; omega) (by unfold maxLen; simp; omega) hU.size
          obtain ⟨a2, k2, h5, _⟩ := h2.rd owCells_len
          exact ⟨v', w', h1, h2, hU.trans h3 (by simp) (fun y hy => .inr (hO.ge y hy).1), a2, k2, by rw [h5, List.length_append, List.length_take, Nat.min_eq_left hb]; rfl⟩
        obtain ⟨D, hD, hcutD⟩ : ∃ D : Option Addr, D = (if co = k then (some ⟨lb, loff, none⟩) else ((some ⟨lb, loff, none⟩) : Option Addr).map (·.add (k * 2))) ∧ ∀ W, (Instr.slice 60 (.slice (some ⟨lb, loff, none⟩) l.length co) (some (.int .i64 ((k : Nat) : Int))) none none).run Try.prog W = .ok (.slice D (l.length - k) (co - k)) W := ⟨_, rfl, fun W => run_cut (P := Try.prog) undOW sizeOW (some ⟨lb, loff, none⟩) l.length co k hb W⟩
        have HD : Hid (RdN 2 owCells w2 (.slice D (l.length - k) (co - k)) (l.drop k)) := by unfold Hid; rw [hD]; exact HR2.out.dropR k hb
        have HA3 : Hid (∀ (W : World) (a2 : Option Addr) (k2 : Nat), OwnN 2 owCells w2.heap.size 150 W (.slice a2 (k + 1) k2) (l.take k ++ [(nm, ((⟨none, 0, 0⟩ : Sl), ([] : List UInt8)))]) → Upd [] w2 W → ∃ v' w', (Builtin.append_ #[60, 60] 60 #[.slice a2 (k + 1) k2, (.slice D (l.length - k) (co - k))]).run Try.prog W = .ok v' w' ∧ (OwnN 2 owCells w2.heap.size 150 w' v' (l.take k ++ [(nm, ((⟨none, 0, 0⟩ : Sl), ([] : List UInt8)))] ++ l.drop k) ∧ Upd [] w2 w' ∧ ∃ a3 n3 k3, v' = .slice a3 n3 k3)) := by
          intro W a2 k2 hO hU
          obtain ⟨v', w', h1, h2, h3, h4⟩ := run_appN (P := Try.prog) (ty := 60) (base := w2.heap.size) owCells_len (by decide) owCells_one undOW infoOW rfl _ (.slice D (l.length - k) (co - k)) (l.take k ++ [(nm, ((⟨none, 0, 0⟩ : Sl), ([] : List UInt8)))]) (l.drop k) hO (HD.out.upd0 owCells_len hU) (by simp; omega) (by unfold maxLen; simp; omega) hU.size
          obtain ⟨a3, k3, h5, _⟩ := h2.rd owCells_len
          exact ⟨v', w', h1, h2, hU.trans h3 (by simp) (fun y hy => .inr (hO.ge y hy).1), a3, _, k3, h5⟩
        clear hD
        have hcutA : ∀ W, (Instr.slice 60 (.slice (some ⟨lb, loff, none⟩) l.length co) none (some (.int .i64 ((k : Nat) : Int))) none).run Try.prog W = .ok (.slice (some ⟨lb, loff, none⟩) k co) W := fun W => run_cut_h (P := Try.prog) undOW sizeOW (some ⟨lb, loff, none⟩) l.length co k (by omega) W
        go_wp2_with fail
        go_region_held3 (fun w' => w'.cell? ⟨w.heap.size, 1, none⟩ = some (sv nm)) (first | go_keep | exact hkeep3 | exact hkeep2 | exact hkeep)
          (first
                | ((refine step_app_of rfl (.tmp 46) (.tmp 49) rfl (.slice a2 (k + 1) k2) (.slice D (l.length - k) (co - k)) (by rfl) (by rfl) (HA3.out _ a2 k2 ?_ ?_) ?_); (refine OwnN.upd (S := []) ho4 ?_ (by simp); (repeat (first | exact Upd.refl _ _ | apply Upd.drew | apply Upd.drewN | apply Upd.alloc))); (refine hu4.seq ?_; (repeat (first | exact Upd.refl _ _ | apply Upd.drew | apply Upd.drewN | apply Upd.alloc))); (rintro v3 w5 ⟨ho5, hu5, a3, n3, k3, rfl⟩; have hkeep3 := hu5.cell e1 (by simp); dsimp only))
                | ((refine step_app_of rfl (.tmp 41) (.tmp 45) rfl (.slice a1 k k1) (.slice (some ⟨w3.heap.size, 0, none⟩) 1 1) (by rfl) (by rfl) (HA2.out _ a1 k1 (w3.heap.size) ?_ ?_ ?_) ?_); (refine OwnN.upd (S := []) ho3 ?_ (by simp); (repeat (first | exact Upd.refl _ _ | apply Upd.drew | apply Upd.drewN | apply Upd.alloc))); (refine hu23.seq ?_; (repeat (first | exact Upd.refl _ _ | apply Upd.drew | apply Upd.drewN | apply Upd.alloc))); exact fun j u h => ((Upd.refl [] _).drew).cell (cells_new (W := w3) rfl rfl j u h) (by simp); (rintro v2 w4 ⟨ho4, hu4, a2, k2, rfl⟩; have hkeep2 := hu4.cell e1 (by simp); dsimp only))
                | ((refine step_app_of rfl (.tmp 41) (.tmp 45) rfl (.slice a1 k k1) (.slice (some ⟨w2.heap.size + 1, 0, none⟩) 1 1) (by rfl) (by rfl) (HA2.out _ a1 k1 (w2.heap.size + 1) ?_ ?_ ?_) ?_); (refine OwnN.upd (S := []) ho3 ?_ (by simp); (repeat (first | exact Upd.refl _ _ | apply Upd.drew | apply Upd.drewN | apply Upd.alloc))); (refine hu23.seq ?_; (repeat (first | exact Upd.refl _ _ | apply Upd.drew | apply Upd.drewN | apply Upd.alloc))); exact fun j u h => ((Upd.refl [] _).drew).cell (hcr j u h) (by simp); (rintro v2 w4 ⟨ho4, hu4, a2, k2, rfl⟩; have hkeep2 := hu4.cell e1 (by simp); dsimp only))
                | ((refine step_app_of rfl (.tmp 41) (.tmp 45) rfl (.slice a1 k k1) (.slice (some ⟨w2.heap.size, 0, none⟩) 1 1) (by rfl) (by rfl) (HA2.out _ a1 k1 (w2.heap.size) ?_ ?_ ?_) ?_); (refine OwnN.upd (S := []) ho3 ?_ (by simp); (repeat (first | exact Upd.refl _ _ | apply Upd.drew | apply Upd.drewN | apply Upd.alloc))); (refine hu23.seq ?_; (repeat (first | exact Upd.refl _ _ | apply Upd.drew | apply Upd.drewN | apply Upd.alloc))); exact fun j u h => ((Upd.refl [] _).drew).cell (hcr j u h) (by simp); (rintro v2 w4 ⟨ho4, hu4, a2, k2, rfl⟩; have hkeep2 := hu4.cell e1 (by simp); dsimp only))
                | ((refine step_app_of rfl (.tmp 37) (.tmp 40) rfl (.slice (some ⟨w2.heap.size, 0, none⟩) 0 0) (.slice (some ⟨lb, loff, none⟩) k co) (by rfl) (by rfl) (HA1.out _ (w2.heap.size) (by omega) ?_ ?_) ?_); (repeat (first | exact Upd.refl _ _ | apply Upd.drew | apply Upd.drewN | apply Upd.alloc)); (refine Blk.fresh (w := w2) (C := #[]) (xs := []) rfl rfl ?_; (repeat (first | exact Upd.refl _ _ | apply Upd.drew | apply Upd.drewN | apply Upd.alloc))); (rintro v1 w3 ⟨ho3, hu3, hu23, a1, k1, rfl⟩; have hkeep := hu23.cell e1 (by simp); have hcr : ∀ j u, ([.string nm, .slice none 0 0] : List Value)[j]? = some u → w3.cell? ⟨w2.heap.size + 1, j, none⟩ = some u := fun j u h => hu3.cell (((Upd.refl [] _).drew).cell (cells_new (W := w2.alloc (Obj.cells #[] 150)) (by simp) rfl j u h) (by simp)) (by simp); dsimp only))
                | ((refine step_app_of rfl (.tmp 37) (.tmp 40) rfl (.slice (some ⟨w2.heap.size, 0, none⟩) 0 0) (.slice (some ⟨lb, loff, none⟩) k co) (by rfl) (by rfl) (HA1.out _ (w2.heap.size) (by omega) ?_ ?_) ?_); (repeat (first | exact Upd.refl _ _ | apply Upd.drew | apply Upd.drewN | apply Upd.alloc)); (refine Blk.fresh (w := w2) (C := #[]) (xs := []) rfl rfl ?_; (repeat (first | exact Upd.refl _ _ | apply Upd.drew | apply Upd.drewN | apply Upd.alloc))); (rintro v1 w3 ⟨ho3, hu3, hu23, a1, k1, rfl⟩; have hkeep := hu23.cell e1 (by simp); dsimp only))
                | ((refine step_app_of rfl (.tmp 37) (.tmp 40) rfl (.slice (some ⟨w2.heap.size + 1, 0, none⟩) 0 0) (.slice (some ⟨lb, loff, none⟩) k co) (by rfl) (by rfl) (HA1.out _ (w2.heap.size + 1) (by omega) ?_ ?_) ?_); (repeat (first | exact Upd.refl _ _ | apply Upd.drew | apply Upd.drewN | apply Upd.alloc)); (refine Blk.fresh (w := w2.alloc (Obj.cells #[.string nm, .slice none 0 0] 150)) (C := #[]) (xs := []) (by simp) rfl ?_; (repeat (first | exact Upd.refl _ _ | apply Upd.drew | apply Upd.drewN | apply Upd.alloc))); (rintro v1 w3 ⟨ho3, hu3, hu23, a1, k1, rfl⟩; have hkeep := hu23.cell e1 (by simp); have hcr : ∀ j u, ([.string nm, .slice none 0 0] : List Value)[j]? = some u → w3.cell? ⟨w2.heap.size, j, none⟩ = some u := fun j u h => hu3.cell ((((Upd.refl [] _).alloc _).drew).cell (cells_new (W := w2) rfl rfl j u h) (by simp)) (by simp); dsimp only)))
        all_goals
          have HO5 := Lib.hid ho5
          have HU5 := Lib.hid hu5
          clear ho5 hu5
          go_wp2_with fail
          go_ret
          have hset := set_no ((⟨none, 0, 0⟩ : Sl), ([] : List UInt8)) HIN.out
          rw [HAT.out] at hset
          refine RDoes.of H.out rfl HO5.out (by have := HU3.out.size; have := HSQ.out; omega) ((HUQ.out.seq HU3.out).seq HU5.out) ?_ ?_ ?_
          · rw [← hset, df_set]
          · rw [← hset]; exact H.out.ris.set_ strOrd _ _
          · intro c hc
            rw [← hset] at hc
            rcases tSet_mem l nm _ c hc with rfl | q
            · exact .inr ⟨Rd.nil _, fun x hx => by simp [blk] at hx, fun h => absurd rfl h⟩
            · exact .inl q
    · have HAT : Hid (below strLt l nm = k) := below_eq l nm k hk hlo.out (fun h => absurd h hlt)
      have hd : decide (k < l.length) = false := decide_eq_false hlt
      have hd2 : ¬ (k : Int) < l.length := by omega
      clear hlo hlt
      go_wp2_with fail
      go_quiet (fail)
      have HU3 := Lib.hid (hu.out.drewN nq)
      replace e1 := HU3.out.cell D1.out (by simp)
      generalize wr.drewN nq = w2 at *
      clear hu
      have hb : k ≤ l.length := by omega
      have HR2 := Lib.hid ((HOQ.out.upd HU3.out (by simp)).rd owCells_len)
      have HA1 : Hid (∀ (W : World) (G : Nat), w2.heap.size ≤ G → Upd [] w2 W → Blk W G 150 [] → ∃ v' w', (Builtin.append_ #[60, 60] 60 #[.slice (some ⟨G, 0, none⟩) 0 0, .slice ao k co]).run Try.prog W = .ok v' w' ∧ (OwnN 2 owCells w2.heap.size 150 w' v' (l.take k) ∧ Upd [G] W w' ∧ Upd [] w2 w' ∧ ∃ a1 k1, v' = .slice a1 k k1)) := by
        intro W G hG hU hB
        obtain ⟨v', w', h1, h2, h3, h4⟩ := run_appN (P := Try.prog) (ty := 60) (base := w2.heap.size) owCells_len (by decide) owCells_one undOW infoOW rfl _ (.slice ao k co) [] (l.take k) (ownN_emptyR 2 owCells _ _ W G hG hB) ((HR2.out.takeR k hb).upd0 owCells_len hU) (by simp; omega) (by unfold maxLen; simp; omega) hU.size
        rw [List.nil_append] at h2
        obtain ⟨a1, k1, h5, _⟩ := h2.rd owCells_len
        exact ⟨v', w', h1, h2, h3, hU.trans h3 (by simp) (fun y hy => .inr (by simp [blk] at hy; omega)), a1, k1, by rw [h5, List.length_take, Nat.min_eq_left hb]⟩
      have HA2 : Hid (∀ (W : World) (a1 : Option Addr) (k1 GR : Nat), OwnN 2 owCells w2.heap.size 150 W (.slice a1 k k1) (l.take k) → Upd [] w2 W → (∀ j u, ([.string nm, .slice none 0 0] : List Value)[j]? = some u → W.cell? ⟨GR, j, none⟩ = some u) → ∃ v' w', (Builtin.append_ #[60, 60] 60 #[.slice a1 k k1, .slice (some ⟨GR, 0, none⟩) 1 1]).run Try.prog W = .ok v' w' ∧ (OwnN 2 owCells w2.heap.size 150 w' v' (l.take k ++ [(nm, (⟨none, 0, 0⟩, []))]) ∧ Upd [] w2 w' ∧ ∃ a2 k2, v' = .slice a2 (k + 1) k2)) := by
        intro W a1 k1 GR hO hU hc
        have hr : RdN 2 owCells W (.slice (some ⟨GR, 0, none⟩) 1 1) [(nm, ((⟨none, 0, 0⟩ : Sl), ([] : List UInt8)))] := ⟨_, 1, rfl, by simp, by simp [maxLen], fun _ => ⟨GR, 0, rfl, fun j hj i hi => by
          simp at hj; subst hj
          have hi2 : i = 0 ∨ i = 1 := by omega
          rcases hi2 with rfl | rfl
          · simpa [nth_cons_zero] using hc 0 _ rfl
          · simpa [nth_cons_zero] using hc 1 _ rfl⟩⟩
        obtain ⟨v', w', h1, h2, h3, h4⟩ := run_appN (P := Try.prog) (ty := 60) (base := w2.heap.size) owCells_len (by decide) owCells_one undOW infoOW rfl _ _ (l.take k) [(nm, ((⟨none, 0, 0⟩ : Sl), ([] : List UInt8)))] hO hr (by simp; omega) (by unfold maxLen; simp; omega) hU.size
        obtain ⟨a2, k2, h5, _⟩ := h2.rd owCells_len
        exact ⟨v', w', h1, h2, hU.trans h3 (by simp) (fun y hy => .inr (hO.ge y hy).1), a2, k2, by rw [h5, List.length_append, List.length_take, Nat.min_eq_left hb]; rfl⟩
      obtain ⟨D, hD, hcutD⟩ : ∃ D : Option Addr, D = (if co = k then ao else (ao : Option Addr).map (·.add (k * 2))) ∧ ∀ W, (Instr.slice 60 (.slice ao l.length co) (some (.int .i64 ((k : Nat) : Int))) none none).run Try.prog W = .ok (.slice D (l.length - k) (co - k)) W := ⟨_, rfl, fun W => run_cut (P := Try.prog) undOW sizeOW ao l.length co k hb W⟩
      have HD : Hid (RdN 2 owCells w2 (.slice D (l.length - k) (co - k)) (l.drop k)) := by unfold Hid; rw [hD]; exact HR2.out.dropR k hb
      have HA3 : Hid (∀ (W : World) (a2 : Option Addr) (k2 : Nat), OwnN 2 owCells w2.heap.size 150 W (.slice a2 (k + 1) k2) (l.take k ++ [(nm, ((⟨none, 0, 0⟩ : Sl), ([] : List UInt8)))]) → Upd [] w2 W → ∃ v' w', (Builtin.append_ #[60, 60] 60 #[.slice a2 (k + 1) k2, (.slice D (l.length - k) (co - k))]).run Try.prog W = .ok v' w' ∧ (OwnN 2 owCells w2.heap.size 150 w' v' (l.take k ++ [(nm, ((⟨none, 0, 0⟩ : Sl), ([] : List UInt8)))] ++ l.drop k) ∧ Upd [] w2 w' ∧ ∃ a3 n3 k3, v' = .slice a3 n3 k3)) := by
        intro W a2 k2 hO hU
        obtain ⟨v', w', h1, h2, h3, h4⟩ := run_appN (P := Try.prog) (ty := 60) (base := w2.heap.size) owCells_len (by decide) owCells_one undOW infoOW rfl _ (.slice D (l.length - k) (co - k)) (l.take k ++ [(nm, ((⟨none, 0, 0⟩ : Sl), ([] : List UInt8)))]) (l.drop k) hO (HD.out.upd0 owCells_len hU) (by simp; omega) (by unfold maxLen; simp; omega) hU.size
        obtain ⟨a3, k3, h5, _⟩ := h2.rd owCells_len
        exact ⟨v', w', h1, h2, hU.trans h3 (by simp) (fun y hy => .inr (hO.ge y hy).1), a3, _, k3, h5⟩
      clear hD
      have hcutA : ∀ W, (Instr.slice 60 (.slice ao l.length co) none (some (.int .i64 ((k : Nat) : Int))) none).run Try.prog W = .ok (.slice ao k co) W := fun W => run_cut_h (P := Try.prog) undOW sizeOW ao l.length co k (by omega) W
      go_wp2_with fail
      go_region_held3 (fun w' => w'.cell? ⟨w.heap.size, 1, none⟩ = some (sv nm)) (first | go_keep | exact hkeep3 | exact hkeep2 | exact hkeep)
        (first
              | ((refine step_app_of rfl (.tmp 46) (.tmp 49) rfl (.slice a2 (k + 1) k2) (.slice D (l.length - k) (co - k)) (by rfl) (by rfl) (HA3.out _ a2 k2 ?_ ?_) ?_); (refine OwnN.upd (S := []) ho4 ?_ (by simp); (repeat (first | exact Upd.refl _ _ | apply Upd.drew | apply Upd.drewN | apply Upd.alloc))); (refine hu4.seq ?_; (repeat (first | exact Upd.refl _ _ | apply Upd.drew | apply Upd.drewN | apply Upd.alloc))); (rintro v3 w5 ⟨ho5, hu5, a3, n3, k3, rfl⟩; have hkeep3 := hu5.cell e1 (by simp); dsimp only))
              | ((refine step_app_of rfl (.tmp 41) (.tmp 45) rfl (.slice a1 k k1) (.slice (some ⟨w3.heap.size, 0, none⟩) 1 1) (by rfl) (by rfl) (HA2.out _ a1 k1 (w3.heap.size) ?_ ?_ ?_) ?_); (refine OwnN.upd (S := []) ho3 ?_ (by simp); (repeat (first | exact Upd.refl _ _ | apply Upd.drew | apply Upd.drewN | apply Upd.alloc))); (refine hu23.seq ?_; (repeat (first | exact Upd.refl _ _ | apply Upd.drew | apply Upd.drewN | apply Upd.alloc))); exact fun j u h => ((Upd.refl [] _).drew).cell (cells_new (W := w3) rfl rfl j u h) (by simp); (rintro v2 w4 ⟨ho4, hu4, a2, k2, rfl⟩; have hkeep2 := hu4.cell e1 (by simp); dsimp only))
              | ((refine step_app_of rfl (.tmp 41) (.tmp 45) rfl (.slice a1 k k1) (.slice (some ⟨w2.heap.size + 1, 0, none⟩) 1 1) (by rfl) (by rfl) (HA2.out _ a1 k1 (w2.heap.size + 1) ?_ ?_ ?_) ?_); (refine OwnN.upd (S := []) ho3 ?_ (by simp); (repeat (first | exact Upd.refl _ _ | apply Upd.drew | apply Upd.drewN | apply Upd.alloc))); (refine hu23.seq ?_; (repeat (first | exact Upd.refl _ _ | apply Upd.drew | apply Upd.drewN | apply Upd.alloc))); exact fun j u h => ((Upd.refl [] _).drew).cell (hcr j u h) (by simp); (rintro v2 w4 ⟨ho4, hu4, a2, k2, rfl⟩; have hkeep2 := hu4.cell e1 (by simp); dsimp only))
              | ((refine step_app_of rfl (.tmp 41) (.tmp 45) rfl (.slice a1 k k1) (.slice (some ⟨w2.heap.size, 0, none⟩) 1 1) (by rfl) (by rfl) (HA2.out _ a1 k1 (w2.heap.size) ?_ ?_ ?_) ?_); (refine OwnN.upd (S := []) ho3 ?_ (by simp); (repeat (first | exact Upd.refl _ _ | apply Upd.drew | apply Upd.drewN | apply Upd.alloc))); (refine hu23.seq ?_; (repeat (first | exact Upd.refl _ _ | apply Upd.drew | apply Upd.drewN | apply Upd.alloc))); exact fun j u h => ((Upd.refl [] _).drew).cell (hcr j u h) (by simp); (rintro v2 w4 ⟨ho4, hu4, a2, k2, rfl⟩; have hkeep2 := hu4.cell e1 (by simp); dsimp only))
              | ((refine step_app_of rfl (.tmp 37) (.tmp 40) rfl (.slice (some ⟨w2.heap.size, 0, none⟩) 0 0) (.slice ao k co) (by rfl) (by rfl) (HA1.out _ (w2.heap.size) (by omega) ?_ ?_) ?_); (repeat (first | exact Upd.refl _ _ | apply Upd.drew | apply Upd.drewN | apply Upd.alloc)); (refine Blk.fresh (w := w2) (C := #[]) (xs := []) rfl rfl ?_; (repeat (first | exact Upd.refl _ _ | apply Upd.drew | apply Upd.drewN | apply Upd.alloc))); (rintro v1 w3 ⟨ho3, hu3, hu23, a1, k1, rfl⟩; have hkeep := hu23.cell e1 (by simp); have hcr : ∀ j u, ([.string nm, .slice none 0 0] : List Value)[j]? = some u → w3.cell? ⟨w2.heap.size + 1, j, none⟩ = some u := fun j u h => hu3.cell (((Upd.refl [] _).drew).cell (cells_new (W := w2.alloc (Obj.cells #[] 150)) (by simp) rfl j u h) (by simp)) (by simp); dsimp only))
              | ((refine step_app_of rfl (.tmp 37) (.tmp 40) rfl (.slice (some ⟨w2.heap.size, 0, none⟩) 0 0) (.slice ao k co) (by rfl) (by rfl) (HA1.out _ (w2.heap.size) (by omega) ?_ ?_) ?_); (repeat (first | exact Upd.refl _ _ | apply Upd.drew | apply Upd.drewN | apply Upd.alloc)); (refine Blk.fresh (w := w2) (C := #[]) (xs := []) rfl rfl ?_; (repeat (first | exact Upd.refl _ _ | apply Upd.drew | apply Upd.drewN | apply Upd.alloc))); (rintro v1 w3 ⟨ho3, hu3, hu23, a1, k1, rfl⟩; have hkeep := hu23.cell e1 (by simp); dsimp only))
              | ((refine step_app_of rfl (.tmp 37) (.tmp 40) rfl (.slice (some ⟨w2.heap.size + 1, 0, none⟩) 0 0) (.slice ao k co) (by rfl) (by rfl) (HA1.out _ (w2.heap.size + 1) (by omega) ?_ ?_) ?_); (repeat (first | exact Upd.refl _ _ | apply Upd.drew | apply Upd.drewN | apply Upd.alloc)); (refine Blk.fresh (w := w2.alloc (Obj.cells #[.string nm, .slice none 0 0] 150)) (C := #[]) (xs := []) (by simp) rfl ?_; (repeat (first | exact Upd.refl _ _ | apply Upd.drew | apply Upd.drewN | apply Upd.alloc))); (rintro v1 w3 ⟨ho3, hu3, hu23, a1, k1, rfl⟩; have hkeep := hu23.cell e1 (by simp); have hcr : ∀ j u, ([.string nm, .slice none 0 0] : List Value)[j]? = some u → w3.cell? ⟨w2.heap.size, j, none⟩ = some u := fun j u h => hu3.cell ((((Upd.refl [] _).alloc _).drew).cell (cells_new (W := w2) rfl rfl j u h) (by simp)) (by simp); dsimp only)))
      all_goals
        have HO5 := Lib.hid ho5
        have HU5 := Lib.hid hu5
        clear ho5 hu5
        go_wp2_with fail
        go_ret
        have hset := set_no ((⟨none, 0, 0⟩ : Sl), ([] : List UInt8)) HIN.out
        rw [HAT.out] at hset
        refine RDoes.of H.out rfl HO5.out (by have := HU3.out.size; have := HSQ.out; omega) ((HUQ.out.seq HU3.out).seq HU5.out) ?_ ?_ ?_
        · rw [← hset, df_set]
        · rw [← hset]; exact H.out.ris.set_ strOrd _ _
        · intro c hc
          rw [← hset] at hc
          rcases tSet_mem l nm _ c hc with rfl | q
          · exact .inr ⟨Rd.nil _, fun x hx => by simp [blk] at hx, fun h => absurd rfl h⟩
          · exact .inl q
set_option maxRecDepth 20000 in
set_option maxHeartbeats 4000000 in
theorem rMade_5 (nm tn : ByteArray) (p : List UInt8) (n : Int) (pa : Option Addr) (pn pk : Nat) (h : RL w R v l) (hl : l.length ≤ 10000) (hin : isIn strLt l nm = true) :
    Calls Try.prog 93 #[v, wrv ⟨5, nm, tn, p, n⟩ ⟨pa, pn, pk⟩] w (RDoes w R (tDel strLt (dfOf l) nm)) := by
  obtain ⟨ao0, co0, rfl, hlc, hcm, -⟩ := h.row
  have hcap : co0 ≤ 9223372036854775807 := by unfold maxLen at hcm; omega
  have HB0 := Lib.hid (Blk.new w 148 [.int .i64 5, sv nm, sv tn, .slice pa pn pk, .int .i64 n])
  have HU0 := Lib.hid ((Upd.refl [] w).alloc (.cells #[.int .i64 5, sv nm, sv tn, .slice pa pn pk, .int .i64 n] 148))
  have H := Lib.hid h
  clear h hcm
  go_enter Try.func93, Try.ntmps93
  have hb0 : Blk (w.alloc (.cells #[.int .i64 5, sv nm, sv tn, .slice pa pn pk, .int .i64 n] 148)) w.heap.size 148 [.int .i64 5, sv nm, sv tn, .slice pa pn pk, .int .i64 n] := HB0.out
  have HRUN : Hid (∀ ty (W : World) (G : Nat), G = w.heap.size + 1 → W = (w.alloc (.cells #[.int .i64 5, sv nm, sv tn, .slice pa pn pk, .int .i64 n] 148)).alloc (.cells #[] 150) → ∃ v' w', (Builtin.append_ #[60, 60] ty #[.slice (some ⟨G, 0, none⟩) 0 0, .slice ao0 l.length co0]).run Try.prog W = .ok v' w' ∧ (OwnN 2 owCells (w.heap.size + 1) 150 w' v' l ∧ Upd [] (w.alloc (.cells #[.int .i64 5, sv nm, sv tn, .slice pa pn pk, .int .i64 n] 148)) w')) := by
    rintro ty W G rfl rfl
    have hs : (w.alloc (.cells #[.int .i64 5, sv nm, sv tn, .slice pa pn pk, .int .i64 n] 148)).heap.size = w.heap.size + 1 := by simp
    have hbk := Blk.new (w.alloc (.cells #[.int .i64 5, sv nm, sv tn, .slice pa pn pk, .int .i64 n] 148)) 150 []
    rw [hs] at hbk
    have hu := (Upd.refl [] (w.alloc (.cells #[.int .i64 5, sv nm, sv tn, .slice pa pn pk, .int .i64 n] 148))).alloc (.cells #[] 150)
    obtain ⟨v', w', h1, h2, h3, h4⟩ := run_appN (P := Try.prog) (ty := ty) (base := w.heap.size + 1) owCells_len (by decide) owCells_one undOW infoOW rfl _ (.slice ao0 l.length co0) [] l (ownN_emptyR 2 owCells (w.heap.size + 1) _ _ (w.heap.size + 1) (Nat.le_refl _) hbk) (H.out.row.upd0 owCells_len (HU0.out.seq hu)) (by simp; omega) (by unfold maxLen; simp; omega) (by simp)
    rw [List.nil_append] at h2
    exact ⟨v', w', h1, h2, hu.trans h3 (by simp) (fun y hy => .inr (by simp [blk] at hy; omega))⟩
  clear hb0
  go_wp2_with (at_builtin; go_must (refine wpList_app_of rfl _ _ rfl (.slice (some ⟨w.heap.size + 1, 0, none⟩) 0 0) (.slice ao0 l.length co0) rfl rfl (HRUN.out _ _ _ rfl rfl) ?_; rintro v1 w1 ⟨ho1, hu1⟩; have HO1 := Lib.hid ho1; have HU1 := Lib.hid hu1; obtain ⟨ao, co, rfl, -⟩ := ho1.rd owCells_len; have hb1 := HB0.out.upd hu1 (by simp); have d0 := hb1.cell 0; have d1 := hb1.cell 1; have d2 := hb1.cell 2; have d3 := hb1.cell 3; have d4 := hb1.cell 4; simp only [List.getElem?_cons_zero, List.getElem?_cons_succ] at d0 d1 d2 d3 d4; have HB1 := Lib.hid hb1; clear ho1 hu1 hb1 HRUN; dsimp only))
  (with_reducible refine (rdAt_any w1 _ l nm (HO1.out.rd owCells_len) H.out.ris (by omega)).mono ?_)
  rintro e wq ⟨rfl, huq⟩
  have D1 := Lib.hid (huq.cell d1 (by simp))
  have D2 := Lib.hid (huq.cell d2 (by simp))
  have D3 := Lib.hid (huq.cell d3 (by simp))
  have D4 := Lib.hid (huq.cell d4 (by simp))
  replace d0 := huq.cell d0 (by simp)
  have HOQ := Lib.hid (HO1.out.upd huq (by simp))
  have HUQ := Lib.hid ((HU0.out.seq HU1.out).seq huq)
  have hin' : isIn strLt l nm = true := hin
  unfold isIn at hin'
  obtain ⟨hkl, hkn⟩ := of_decide_eq_true hin'
  have hai : atI l nm = (below strLt l nm : Int) := by unfold atI; rw [hin]; rfl
  rw [hai]
  have HKN := Lib.hid hkn
  have HDEL : Hid (tDel strLt l nm = l.take (below strLt l nm) ++ l.drop (below strLt l nm + 1)) := by unfold Hid tDel; rw [hin]; rfl
  obtain ⟨k, hk⟩ : ∃ k, below strLt l nm = k := ⟨_, rfl⟩
  have HK := Lib.hid hk
  rw [hk] at hkl ⊢
  obtain ⟨hco, hlco⟩ : co ≤ 9223372036854775807 ∧ l.length ≤ co := by
    obtain ⟨a', k', he, h1, h2, -⟩ := HO1.out.rd owCells_len
    have := (Value.slice.inj he).2.2
    subst this; unfold maxLen at h2; exact ⟨by omega, h1⟩
  have HSQ : Hid (w.heap.size ≤ wq.heap.size) := HUQ.out.size
  have HIN := Lib.hid hin
  have p0 : (0 : Int) ≤ k := by omega
  have p1 : (k : Int) < l.length := by omega
  have p2 : (k : Int) + 1 ≤ l.length := by omega
  have p3 : (0 : Int) ≤ (k : Int) + 1 := by omega
  have hwr : IntKind.i64.wrap ((k : Int) + 1) = (k : Int) + 1 := by rw [IntKind.wrap_i64]; omega
  clear d1 d2 d3 d4 huq HO1 HU1 HB1 HB0 hin hin' hkn hai hk
  have HR2 := Lib.hid (HOQ.out.rd owCells_len)
  generalize wq = w2 at *
  have hb : k ≤ l.length := by omega
  have HA1 : Hid (∀ (W : World) (G : Nat), w2.heap.size ≤ G → Upd [] w2 W → Blk W G 150 [] → ∃ v' w', (Builtin.append_ #[60, 60] 60 #[.slice (some ⟨G, 0, none⟩) 0 0, .slice ao k co]).run Try.prog W = .ok v' w' ∧ (OwnN 2 owCells w2.heap.size 150 w' v' (l.take k) ∧ Upd [G] W w' ∧ Upd [] w2 w' ∧ ∃ a1 k1, v' = .slice a1 k k1)) := by
    intro W G hG hU hB
    obtain ⟨v', w', h1, h2, h3, h4⟩ := run_appN (P := Try.prog) (ty := 60) (base := w2.heap.size) owCells_len (by decide) owCells_one undOW infoOW rfl _ (.slice ao k co) [] (l.take k) (ownN_emptyR 2 owCells _ _ W G hG hB) ((HR2.out.takeR k hb).upd0 owCells_len hU) (by simp; omega) (by unfold maxLen; simp; omega) hU.size
    rw [List.nil_append] at h2
    obtain ⟨a1, k1, h5, _⟩ := h2.rd owCells_len
    exact ⟨v', w', h1, h2, h3, hU.trans h3 (by simp) (fun y hy => .inr (by simp [blk] at hy; omega)), a1, k1, by rw [h5, List.length_take, Nat.min_eq_left hb]⟩
  obtain ⟨D, hD, hcutD⟩ : ∃ D : Option Addr, D = (if co = k + 1 then ao else ao.map (·.add ((k + 1) * 2))) ∧ ∀ W, (Instr.slice 60 (.slice ao l.length co) (some (.int .i64 ((k : Int) + 1))) none none).run Try.prog W = .ok (.slice D (l.length - (k + 1)) (co - (k + 1))) W := ⟨_, rfl, fun W => by have h := run_cut (P := Try.prog) undOW sizeOW ao l.length co (k + 1) (by omega) W; simpa using h⟩
  have HD : Hid (RdN 2 owCells w2 (.slice D (l.length - (k + 1)) (co - (k + 1))) (l.drop (k + 1))) := by unfold Hid; rw [hD]; exact HR2.out.dropR (k + 1) (by omega)
  have HA3 : Hid (∀ (W : World) (a2 : Option Addr) (k2 : Nat), OwnN 2 owCells w2.heap.size 150 W (.slice a2 (k) k2) (l.take k) → Upd [] w2 W → ∃ v' w', (Builtin.append_ #[60, 60] 60 #[.slice a2 (k) k2, (.slice D (l.length - (k + 1)) (co - (k + 1)))]).run Try.prog W = .ok v' w' ∧ (OwnN 2 owCells w2.heap.size 150 w' v' (l.take k ++ l.drop (k + 1)) ∧ Upd [] w2 w' ∧ ∃ a3 n3 k3, v' = .slice a3 n3 k3)) := by
    intro W a2 k2 hO hU
    obtain ⟨v', w', h1, h2, h3, h4⟩ := run_appN (P := Try.prog) (ty := 60) (base := w2.heap.size) owCells_len (by decide) owCells_one undOW infoOW rfl _ (.slice D (l.length - (k + 1)) (co - (k + 1))) (l.take k) (l.drop (k + 1)) hO (HD.out.upd0 owCells_len hU) (by simp; omega) (by unfold maxLen; simp; omega) hU.size
    obtain ⟨a3, k3, h5, _⟩ := h2.rd owCells_len
    exact ⟨v', w', h1, h2, hU.trans h3 (by simp) (fun y hy => .inr (hO.ge y hy).1), a3, _, k3, h5⟩
  clear hD
  have hcutA : ∀ W, (Instr.slice 60 (.slice ao l.length co) none (some (.int .i64 (k : Int))) none).run Try.prog W = .ok (.slice ao k co) W := fun W => run_cut_h (P := Try.prog) undOW sizeOW ao l.length co k (by omega) W
  go_wp2_with fail
  go_region_held3 (fun w' => True) (trivial) (first
        | ((refine step_app_of rfl (.tmp 126) (.tmp 130) rfl (.slice a1 k k1) (.slice D (l.length - (k + 1)) (co - (k + 1))) (by rfl) (by rfl) (HA3.out _ a1 k1 ?_ ?_) ?_); (refine OwnN.upd (S := []) ho3 ?_ (by simp); (repeat (first | exact Upd.refl _ _ | apply Upd.drew | apply Upd.drewN | apply Upd.alloc))); (refine hu23.seq ?_; (repeat (first | exact Upd.refl _ _ | apply Upd.drew | apply Upd.drewN | apply Upd.alloc))); (rintro v3 w5 ⟨ho5, hu5, a3, n3, k3, rfl⟩; skip; dsimp only))
        | ((refine step_app_of rfl (.tmp 122) (.tmp 125) rfl (.slice (some ⟨w2.heap.size, 0, none⟩) 0 0) (.slice ao k co) (by rfl) (by rfl) (HA1.out _ (w2.heap.size) (by omega) ?_ ?_) ?_); (repeat (first | exact Upd.refl _ _ | apply Upd.drew | apply Upd.drewN | apply Upd.alloc)); (refine Blk.fresh (w := w2) (C := #[]) (xs := []) rfl rfl ?_; (repeat (first | exact Upd.refl _ _ | apply Upd.drew | apply Upd.drewN | apply Upd.alloc))); (rintro v1 w3 ⟨ho3, hu3, hu23, a1, k1, rfl⟩; skip; dsimp only)))
  have HO5 := Lib.hid ho5
  have HU5 := Lib.hid hu5
  clear ho5 hu5
  go_wp2_with fail
  go_ret
  have hset := HDEL.out
  rw [HK.out] at hset
  refine RDoes.of H.out rfl HO5.out HSQ.out (HUQ.out.seq HU5.out) ?_ ?_ ?_
  · rw [← hset, df_del]
  · rw [← hset]; exact H.out.ris.del strOrd _
  · intro c hc
    rw [← hset] at hc
    exact .inl (tDel_mem l nm c hc)
end
end Go.Proofs.Ytmhdhnipljonlaa
namespace Go.Proofs.Ytmhdhnipljonlaa
open Go.RowKit
set_option linter.unusedSimpArgs false
set_option linter.unusedVariables false
theorem OwnN.frozenR {α : Type} {sz : Nat} {c : α → List Value} {base : Nat} {e : TypeId} {w : World} {g n cap : Nat} {l : List α} (h : OwnN sz c base e w (.slice (some ⟨g, 0, none⟩) n cap) l) (k : Nat) : w.frozen? ⟨g, k, none⟩ = false := by
  obtain ⟨h1, h2⟩ := h
  rcases h2 with ⟨he, _⟩ | ⟨g', cap', cur, he, hb, hg, hc, hm, hs, ht⟩
  · simp at he
  · injection he with e1 e2 e3
    injection e1 with e1; injection e1 with e1
    subst e1
    exact frozen_of_row w g k cur e hg
theorem OwnN.cellR {α : Type} [Inhabited α] {sz : Nat} {c : α → List Value} {base : Nat} {e : TypeId} {w : World} {g n cap : Nat} {l : List α} (hsz : ∀ x, (c x).length = sz) (h : OwnN sz c base e w (.slice (some ⟨g, 0, none⟩) n cap) l) (j i : Nat) (hj : j < l.length) (hi : i < sz) : w.cell? ⟨g, j * sz + i, none⟩ = (c (nth l j))[i]? := by
  obtain ⟨a', cap', he, _, _, h3⟩ := h.rd hsz
  obtain ⟨b, off, hb, hc⟩ := h3 (fun q => by rw [q] at hj; simp at hj)
  have e1 : some (⟨g, 0, none⟩ : Addr) = a' := (Value.slice.inj he).1
  have e2 := Option.some.inj (e1.trans hb)
  injection e2 with e2 e3
  subst e2; subst e3
  have := hc j hj i hi
  rwa [Nat.zero_add] at this
theorem OwnN.addrR {α : Type} {sz : Nat} {c : α → List Value} {base : Nat} {e : TypeId} {w : World} {ao : Option Addr} {n cap : Nat} {l : List α} (h : OwnN sz c base e w (.slice ao n cap) l) (hne : 0 < l.length) (hn : n = l.length) : ∃ g, ao = some ⟨g, 0, none⟩ ∧ base ≤ g ∧ g < w.heap.size ∧ ∃ C f, w.heap[g]? = some (.cells C e f) := by
  rcases h.2 with ⟨he, h0⟩ | ⟨g, cap', cur, he, hb, hg, hc, hm, hs, ht⟩
  · omega
  · exact ⟨g, (Value.slice.inj he).1, hb, (Array.getElem?_eq_some_iff.1 hg).1, _, _, hg⟩
theorem own_emptyR (base : Nat) (W : World) (G : Nat) (h : base ≤ G) (hW : Blk W G 5 []) : Own bv base 5 W (.slice (some ⟨G, 0, none⟩) 0 0) [] :=
  ⟨by simp, .inr ⟨G, 0, #[], rfl, h, hW, Nat.le_refl _, Nat.zero_le _, by simp, by simp⟩⟩
theorem set_yes {l : List OW} {nm : ByteArray} (y : Sl × List UInt8) (k : Nat) (h : isIn strLt l nm = true) (hk : below strLt l nm = k) (hn : (nth l (below strLt l nm)).1 = nm) : tSet strLt l nm y = l.set k (nm, y) := by rw [tSet_in l nm y h, hn, hk]
section
variable {w : World} {R : List Nat} {v : Value} {l : List OW}
set_option maxRecDepth 20000 in
set_option maxHeartbeats 4000000 in
theorem rMade_4 (nm tn : ByteArray) (p : List UInt8) (m : Nat) (pa : Option Addr) (pn pk : Nat) (h : RL w R v l) (hl : l.length ≤ 10000) (hin : isIn strLt l nm = true) (old0 : List UInt8) (hold0 : (nth l (below strLt l nm)).2.2 = old0) (hm : m ≤ old0.length) (hsz : old0.length ≤ 100000000) :
    Calls Try.prog 93 #[v, wrv ⟨4, nm, tn, p, (m : Int)⟩ ⟨pa, pn, pk⟩] w (RDoes w R (tSet strLt (dfOf l) nm (old0.take m))) := by
  obtain ⟨ao0, co0, rfl, hlc, hcm, -⟩ := h.row
  have hcap : co0 ≤ 9223372036854775807 := by unfold maxLen at hcm; omega
  have HB0 := Lib.hid (Blk.new w 148 [.int .i64 4, sv nm, sv tn, .slice pa pn pk, .int .i64 (m : Int)])
  have HU0 := Lib.hid ((Upd.refl [] w).alloc (.cells #[.int .i64 4, sv nm, sv tn, .slice pa pn pk, .int .i64 (m : Int)] 148))
  have H := Lib.hid h
  clear h hcm
  go_enter Try.func93, Try.ntmps93
  have hb0 : Blk (w.alloc (.cells #[.int .i64 4, sv nm, sv tn, .slice pa pn pk, .int .i64 (m : Int)] 148)) w.heap.size 148 [.int .i64 4, sv nm, sv tn, .slice pa pn pk, .int .i64 (m : Int)] := HB0.out
  have HRUN : Hid (∀ ty (W : World) (G : Nat), G = w.heap.size + 1 → W = (w.alloc (.cells #[.int .i64 4, sv nm, sv tn, .slice pa pn pk, .int .i64 (m : Int)] 148)).alloc (.cells #[] 150) → ∃ v' w', (Builtin.append_ #[60, 60] ty #[.slice (some ⟨G, 0, none⟩) 0 0, .slice ao0 l.length co0]).run Try.prog W = .ok v' w' ∧ (OwnN 2 owCells (w.heap.size + 1) 150 w' v' l ∧ Upd [] (w.alloc (.cells #[.int .i64 4, sv nm, sv tn, .slice pa pn pk, .int .i64 (m : Int)] 148)) w')) := by
    rintro ty W G rfl rfl
    have hs : (w.alloc (.cells #[.int .i64 4, sv nm, sv tn, .slice pa pn pk, .int .i64 (m : Int)] 148)).heap.size = w.heap.size + 1 := by simp
    have hbk := Blk.new (w.alloc (.cells #[.int .i64 4, sv nm, sv tn, .slice pa pn pk, .int .i64 (m : Int)] 148)) 150 []
    rw [hs] at hbk
    have hu := (Upd.refl [] (w.alloc (.cells #[.int .i64 4, sv nm, sv tn, .slice pa pn pk, .int .i64 (m : Int)] 148))).alloc (.cells #[] 150)
    obtain ⟨v', w', h1, h2, h3, h4⟩ := run_appN (P := Try.prog) (ty := ty) (base := w.heap.size + 1) owCells_len (by decide) owCells_one undOW infoOW rfl _ (.slice ao0 l.length co0) [] l (ownN_emptyR 2 owCells (w.heap.size + 1) _ _ (w.heap.size + 1) (Nat.le_refl _) hbk) (H.out.row.upd0 owCells_len (HU0.out.seq hu)) (by simp; omega) (by unfold maxLen; simp; omega) (by simp)
    rw [List.nil_append] at h2
    exact ⟨v', w', h1, h2, hu.trans h3 (by simp) (fun y hy => .inr (by simp [blk] at hy; omega))⟩
  clear hb0
  go_wp2_with (at_builtin; go_must (refine wpList_app_of rfl _ _ rfl (.slice (some ⟨w.heap.size + 1, 0, none⟩) 0 0) (.slice ao0 l.length co0) rfl rfl (HRUN.out _ _ _ rfl rfl) ?_; rintro v1 w1 ⟨ho1, hu1⟩; have HO1 := Lib.hid ho1; have HU1 := Lib.hid hu1; obtain ⟨ao, co, rfl, -⟩ := ho1.rd owCells_len; have hb1 := HB0.out.upd hu1 (by simp); have d0 := hb1.cell 0; have d1 := hb1.cell 1; have d2 := hb1.cell 2; have d3 := hb1.cell 3; have d4 := hb1.cell 4; simp only [List.getElem?_cons_zero, List.getElem?_cons_succ] at d0 d1 d2 d3 d4; have HB1 := Lib.hid hb1; clear ho1 hu1 hb1 HRUN; dsimp only))
  (with_reducible refine (rdAt_any w1 _ l nm (HO1.out.rd owCells_len) H.out.ris (by omega)).mono ?_)
  rintro e wq ⟨rfl, huq⟩
  have D1 := Lib.hid (huq.cell d1 (by simp))
  have D2 := Lib.hid (huq.cell d2 (by simp))
  have D3 := Lib.hid (huq.cell d3 (by simp))
  have D4 := Lib.hid (huq.cell d4 (by simp))
  replace d0 := huq.cell d0 (by simp)
  have HOQ := Lib.hid (HO1.out.upd huq (by simp))
  have HUQ := Lib.hid ((HU0.out.seq HU1.out).seq huq)
  have hin' : isIn strLt l nm = true := hin
  unfold isIn at hin'
  obtain ⟨hkl, hkn⟩ := of_decide_eq_true hin'
  have hai : atI l nm = (below strLt l nm : Int) := by unfold atI; rw [hin]; rfl
  rw [hai]
  have HKN := Lib.hid hkn
  have HDEL : Hid (tDel strLt l nm = l.take (below strLt l nm) ++ l.drop (below strLt l nm + 1)) := by unfold Hid tDel; rw [hin]; rfl
  obtain ⟨k, hk⟩ : ∃ k, below strLt l nm = k := ⟨_, rfl⟩
  have HK := Lib.hid hk
  rw [hk] at hkl ⊢
  obtain ⟨hco, hlco⟩ : co ≤ 9223372036854775807 ∧ l.length ≤ co := by
    obtain ⟨a', k', he, h1, h2, -⟩ := HO1.out.rd owCells_len
    have := (Value.slice.inj he).2.2
    subst this; unfold maxLen at h2; exact ⟨by omega, h1⟩
  have HSQ : Hid (w.heap.size ≤ wq.heap.size) := HUQ.out.size
  have HIN := Lib.hid hin
  have p0 : (0 : Int) ≤ k := by omega
  have p1 : (k : Int) < l.length := by omega
  have p2 : (k : Int) + 1 ≤ l.length := by omega
  have p3 : (0 : Int) ≤ (k : Int) + 1 := by omega
  have hwr : IntKind.i64.wrap ((k : Int) + 1) = (k : Int) + 1 := by rw [IntKind.wrap_i64]; omega
  clear d1 d2 d3 d4 huq HO1 HU1 HB1 HB0 hin hin' hkn hai hk
  obtain ⟨g, rfl, hg1, hg2, Cg, fg, hgt⟩ := HOQ.out.addrR (by omega) rfl
  have hne2 : ¬ g = w.heap.size := by omega
  obtain ⟨⟨xn, ⟨oa, on, ok⟩, old⟩, hx⟩ : ∃ x, nth l k = x := ⟨_, rfl⟩
  have hxm : (xn, ((⟨oa, on, ok⟩ : Sl), old)) ∈ l := by rw [← hx, nth_get l k hkl]; exact List.getElem_mem _
  have hxn : xn = nm := by have := HKN.out; rw [HK.out, hx] at this; exact this
  subst hxn
  have HOLD : Hid (Bytes wq (.slice oa on ok) old) := (H.out.dat _ hxm).upd0 HUQ.out
  have hon : on = old.length := by
    obtain ⟨a', k', he, -⟩ := HOLD.out
    exact (Value.slice.inj he).2.1
  subst hon
  have hok : ok ≤ 9223372036854775807 ∧ old.length ≤ ok := by
    obtain ⟨a', k', he, h1, h2, -⟩ := HOLD.out
    have := (Value.slice.inj he).2.2
    subst this; unfold maxLen at h2; exact ⟨by omega, h1⟩
  obtain ⟨hok, hok2⟩ := hok
  have HX := Lib.hid hx
  have CR : Hid (wq.cell? ⟨g, k * 2 + 1, none⟩ = some (.slice oa old.length ok)) := by
    have := HOQ.out.cellR owCells_len k 1 hkl (by omega)
    rw [hx] at this; exact this
  have FR : Hid (∀ W, Upd [] wq W → W.frozen? ⟨g, k * 2 + 1, none⟩ = false) := fun W hW => (HOQ.out.upd hW (by simp)).frozenR _
  have HGT : Hid (∀ b, (∃ C f, wq.heap[b]? = some (.cells C 5 f)) → b ≠ g) := fun b hb he => by
    obtain ⟨C, f, hb⟩ := hb
    subst he
    exact absurd (ty_eq hb hgt) (by decide)
  have HG1 := Lib.hid hg1
  have HG2 := Lib.hid hg2
  have HXM := Lib.hid hxm
  clear hgt hg1 hx hxm hg2
  have HR1 : Hid (∀ (ty : TypeId) (W : World) (s : Option Addr) (m kk : Nat) (q : List UInt8), Upd [] wq W → Blk W wq.heap.size 5 [] → Bytes W (.slice s m kk) q → q.length ≤ 1000000000 → ∃ v' w', (Builtin.append_ #[27, 27] ty #[.slice (some ⟨wq.heap.size, 0, none⟩) 0 0, .slice s m kk]).run Try.prog W = .ok v' w' ∧ (Own bv wq.heap.size 5 w' v' q ∧ Upd [] wq w' ∧ ∃ a1 n1 k1, v' = .slice a1 n1 k1)) := by
    intro ty W s m kk q hU hB hq hql
    obtain ⟨v', w', h1, h2, h3, h4⟩ := run_app (P := Try.prog) (w := W) (ty := ty) bv_one Try.underlying27 infoB8 rfl _ (.slice s m kk) [] q (own_emptyR wq.heap.size W wq.heap.size (Nat.le_refl _) hB) hq (by simp; omega) (by simp [maxLen]; omega) hU.size
    rw [List.nil_append] at h2
    obtain ⟨a1, k1, h5, _⟩ := h2.rd
    exact ⟨v', w', h1, h2, hU.trans h3 (by simp) (fun y hy => .inr (by simp [blk] at hy; omega)), a1, _, k1, h5⟩
  obtain rfl : old = old0 := by rw [← hold0, HK.out, HX.out]
  clear hold0
  have hcutA : ∀ W, (Instr.slice 27 (.slice oa old.length ok) none (some (.int .i64 (m : Int))) none).run Try.prog W = .ok (.slice oa m ok) W := fun W => run_cut_h (P := Try.prog) (size := 1) Try.underlying27 (by kernel_rfl) oa old.length ok m (by omega) W
  have HCT : Hid (∀ W, Upd [] wq W → Bytes W (.slice oa m ok) (old.take m)) := fun W hW => (HOLD.out.upd0 hW).take m hm
  have HTL : Hid ((old.take m).length ≤ 1000000000) := by unfold Hid; rw [List.length_take]; omega
  have c1 := CR.out
  have c1' : (wq.alloc (Obj.cells #[] 5)).cell? ⟨g, k * 2 + 1, none⟩ = some (.slice oa old.length ok) := ((Upd.refl [] wq).alloc _).cell c1 (by simp)
  have d4 := D4.out
  have d4' : (wq.alloc (Obj.cells #[] 5)).cell? ⟨w.heap.size, 4, none⟩ = some (.int .i64 (m : Int)) := ((Upd.refl [] wq).alloc _).cell d4 (by simp)
  have m0 : (0 : Int) ≤ m := by omega
  have m1 : (m : Int) ≤ ok := by omega
  go_wp2_with fail
  go_region_law (first
    | ((refine step_app_of rfl (.tmp 108) (.tmp 116) rfl (.slice (some ⟨wq.heap.size, 0, none⟩) 0 0) (.slice oa m ok) (by rfl) (by rfl) (HR1.out _ _ oa m ok (old.take m) ?_ ?_ (HCT.out _ ?_) HTL.out) ?_); (repeat (first | exact Upd.refl _ _ | apply Upd.drew | apply Upd.drewN | apply Upd.alloc)); (refine Blk.fresh (w := wq) (C := #[]) (xs := []) rfl rfl ?_; (repeat (first | exact Upd.refl _ _ | apply Upd.drew | apply Upd.drewN | apply Upd.alloc))); (repeat (first | exact Upd.refl _ _ | apply Upd.drew | apply Upd.drewN | apply Upd.alloc)); (rintro v9 w9 ⟨ho9, hu9, a9, n9, k9, rfl⟩; have c9 := hu9.cell c1 (by simp); have f9 := FR.out w9 hu9; dsimp only)))
  all_goals
    have HO9 := Lib.hid ho9
    have HU9 := Lib.hid hu9
    clear ho9 hu9
    go_wp2_with fail
    go_ret
    have hset := set_yes (l := l) (nm := xn) ((⟨a9, n9, k9⟩ : Sl), old.take m) k HIN.out HK.out HKN.out
    have hst : Upd [g] w9 ((w9).setCell ⟨g, k * 2 + 1, none⟩ (.slice a9 n9 k9)) := (Upd.refl [g] _).setCell _ _ (.inl (by simp))
    have hrow := (HOQ.out.upd HU9.out (by simp)).set_ owCells_len k 1 hkl (by omega) (.slice a9 n9 k9) (xn, ((⟨a9, n9, k9⟩ : Sl), old.take m)) (by have := HX.out; rw [nth_get l k hkl] at this; rw [this]; rfl)
    rw [← hset] at hrow
    have hgw : w.heap.size ≤ g := by have := HG1.out; omega
    refine RDoes.of H.out rfl hrow (by omega) ((HUQ.out.seq HU9.out).trans hst (by simp) (fun y hy => .inr (by simp at hy; omega))) ?_ ?_ ?_
    · rw [df_set]
    · exact H.out.ris.set_ strOrd _ _
    · intro c hc
      rcases tSet_mem l xn _ c hc with rfl | q
      · refine .inr ⟨(HO9.out.upd hst (fun x hx hy => ?_)).rd, fun x hx => .inr ?_, fun _ x hx hy => ?_⟩
        · simp at hy; subst hy
          have h1 := (HO9.out.ge _ hx).1
          have h2 := HG2.out
          omega
        · have h1 := HO9.out.ge _ hx
          have h2 := HSQ.out
          exact ⟨by omega, by simpa using h1.2⟩
        · simp [blk] at hy; subst hy
          have h1 := (HO9.out.ge _ hx).1
          have h2 := HG2.out
          omega
      · exact .inl q
end
end Go.Proofs.Ytmhdhnipljonlaa
namespace Go.Proofs.Ytmhdhnipljonlaa
open Go.RowKit
set_option linter.unusedSimpArgs false
set_option linter.unusedVariables false
section
variable {w : World} {R : List Nat} {v : Value} {l : List OW}
set_option maxRecDepth 20000 in
set_option maxHeartbeats 4000000 in
theorem rMade_2 (nm tn : ByteArray) (p : List UInt8) (n : Int) (pa : Option Addr) (pn pk : Nat) (h : RL w R v l) (hl : l.length ≤ 10000) (hp : Bytes w (.slice pa pn pk) p) (hin : isIn strLt l nm = true) (old0 : List UInt8) (hold0 : (nth l (below strLt l nm)).2.2 = old0) (hsz : old0.length + p.length ≤ 100000000) :
    Calls Try.prog 93 #[v, wrv ⟨2, nm, tn, p, n⟩ ⟨pa, pn, pk⟩] w (RDoes w R (tSet strLt (dfOf l) nm (old0 ++ p))) := by
  have HP := Lib.hid hp
  clear hp
  obtain ⟨ao0, co0, rfl, hlc, hcm, -⟩ := h.row
  have hcap : co0 ≤ 9223372036854775807 := by unfold maxLen at hcm; omega
  have HB0 := Lib.hid (Blk.new w 148 [.int .i64 2, sv nm, sv tn, .slice pa pn pk, .int .i64 n])
  have HU0 := Lib.hid ((Upd.refl [] w).alloc (.cells #[.int .i64 2, sv nm, sv tn, .slice pa pn pk, .int .i64 n] 148))
  have H := Lib.hid h
  clear h hcm
  go_enter Try.func93, Try.ntmps93
  have hb0 : Blk (w.alloc (.cells #[.int .i64 2, sv nm, sv tn, .slice pa pn pk, .int .i64 n] 148)) w.heap.size 148 [.int .i64 2, sv nm, sv tn, .slice pa pn pk, .int .i64 n] := HB0.out
  have HRUN : Hid (∀ ty (W : World) (G : Nat), G = w.heap.size + 1 → W = (w.alloc (.cells #[.int .i64 2, sv nm, sv tn, .slice pa pn pk, .int .i64 n] 148)).alloc (.cells #[] 150) → ∃ v' w', (Builtin.append_ #[60, 60] ty #[.slice (some ⟨G, 0, none⟩) 0 0, .slice ao0 l.length co0]).run Try.prog W = .ok v' w' ∧ (OwnN 2 owCells (w.heap.size + 1) 150 w' v' l ∧ Upd [] (w.alloc (.cells #[.int .i64 2, sv nm, sv tn, .slice pa pn pk, .int .i64 n] 148)) w')) := by
    rintro ty W G rfl rfl
    have hs : (w.alloc (.cells #[.int .i64 2, sv nm, sv tn, .slice pa pn pk, .int .i64 n] 148)).heap.size = w.heap.size + 1 := by simp
    have hbk := Blk.new (w.alloc (.cells #[.int .i64 2, sv nm, sv tn, .slice pa pn pk, .int .i64 n] 148)) 150 []
    rw [hs] at hbk
    have hu := (Upd.refl [] (w.alloc (.cells #[.int .i64 2, sv nm, sv tn, .slice pa pn pk, .int .i64 n] 148))).alloc (.cells #[] 150)
    obtain ⟨v', w', h1, h2, h3, h4⟩ := run_appN (P := Try.prog) (ty := ty) (base := w.heap.size + 1) owCells_len (by decide) owCells_one undOW infoOW rfl _ (.slice ao0 l.length co0) [] l (ownN_emptyR 2 owCells (w.heap.size + 1) _ _ (w.heap.size + 1) (Nat.le_refl _) hbk) (H.out.row.upd0 owCells_len (HU0.out.seq hu)) (by simp; omega) (by unfold maxLen; simp; omega) (by simp)
    rw [List.nil_append] at h2
    exact ⟨v', w', h1, h2, hu.trans h3 (by simp) (fun y hy => .inr (by simp [blk] at hy; omega))⟩
  clear hb0
  go_wp2_with (at_builtin; go_must (refine wpList_app_of rfl _ _ rfl (.slice (some ⟨w.heap.size + 1, 0, none⟩) 0 0) (.slice ao0 l.length co0) rfl rfl (HRUN.out _ _ _ rfl rfl) ?_; rintro v1 w1 ⟨ho1, hu1⟩; have HO1 := Lib.hid ho1; have HU1 := Lib.hid hu1; obtain ⟨ao, co, rfl, -⟩ := ho1.rd owCells_len; have hb1 := HB0.out.upd hu1 (by simp); have d0 := hb1.cell 0; have d1 := hb1.cell 1; have d2 := hb1.cell 2; have d3 := hb1.cell 3; have d4 := hb1.cell 4; simp only [List.getElem?_cons_zero, List.getElem?_cons_succ] at d0 d1 d2 d3 d4; have HB1 := Lib.hid hb1; clear ho1 hu1 hb1 HRUN; dsimp only))
  (with_reducible refine (rdAt_any w1 _ l nm (HO1.out.rd owCells_len) H.out.ris (by omega)).mono ?_)
  rintro e wq ⟨rfl, huq⟩
  have D1 := Lib.hid (huq.cell d1 (by simp))
  have D2 := Lib.hid (huq.cell d2 (by simp))
  have D3 := Lib.hid (huq.cell d3 (by simp))
  have D4 := Lib.hid (huq.cell d4 (by simp))
  replace d0 := huq.cell d0 (by simp)
  have HOQ := Lib.hid (HO1.out.upd huq (by simp))
  have HUQ := Lib.hid ((HU0.out.seq HU1.out).seq huq)
  have hin' : isIn strLt l nm = true := hin
  unfold isIn at hin'
  obtain ⟨hkl, hkn⟩ := of_decide_eq_true hin'
  have hai : atI l nm = (below strLt l nm : Int) := by unfold atI; rw [hin]; rfl
  rw [hai]
  have HKN := Lib.hid hkn
  have HDEL : Hid (tDel strLt l nm = l.take (below strLt l nm) ++ l.drop (below strLt l nm + 1)) := by unfold Hid tDel; rw [hin]; rfl
  obtain ⟨k, hk⟩ : ∃ k, below strLt l nm = k := ⟨_, rfl⟩
  have HK := Lib.hid hk
  rw [hk] at hkl ⊢
  obtain ⟨hco, hlco⟩ : co ≤ 9223372036854775807 ∧ l.length ≤ co := by
    obtain ⟨a', k', he, h1, h2, -⟩ := HO1.out.rd owCells_len
    have := (Value.slice.inj he).2.2
    subst this; unfold maxLen at h2; exact ⟨by omega, h1⟩
  have HSQ : Hid (w.heap.size ≤ wq.heap.size) := HUQ.out.size
  have HIN := Lib.hid hin
  have p0 : (0 : Int) ≤ k := by omega
  have p1 : (k : Int) < l.length := by omega
  have p2 : (k : Int) + 1 ≤ l.length := by omega
  have p3 : (0 : Int) ≤ (k : Int) + 1 := by omega
  have hwr : IntKind.i64.wrap ((k : Int) + 1) = (k : Int) + 1 := by rw [IntKind.wrap_i64]; omega
  clear d1 d2 d3 d4 huq HO1 HU1 HB1 HB0 hin hin' hkn hai hk
  obtain ⟨g, rfl, hg1, hg2, Cg, fg, hgt⟩ := HOQ.out.addrR (by omega) rfl
  have hne2 : ¬ g = w.heap.size := by omega
  obtain ⟨⟨xn, ⟨oa, on, ok⟩, old⟩, hx⟩ : ∃ x, nth l k = x := ⟨_, rfl⟩
  have hxm : (xn, ((⟨oa, on, ok⟩ : Sl), old)) ∈ l := by rw [← hx, nth_get l k hkl]; exact List.getElem_mem _
  have hxn : xn = nm := by have := HKN.out; rw [HK.out, hx] at this; exact this
  subst hxn
  have HOLD : Hid (Bytes wq (.slice oa on ok) old) := (H.out.dat _ hxm).upd0 HUQ.out
  have hon : on = old.length := by
    obtain ⟨a', k', he, -⟩ := HOLD.out
    exact (Value.slice.inj he).2.1
  subst hon
  have hok : ok ≤ 9223372036854775807 ∧ old.length ≤ ok := by
    obtain ⟨a', k', he, h1, h2, -⟩ := HOLD.out
    have := (Value.slice.inj he).2.2
    subst this; unfold maxLen at h2; exact ⟨by omega, h1⟩
  obtain ⟨hok, hok2⟩ := hok
  have HX := Lib.hid hx
  have CR : Hid (wq.cell? ⟨g, k * 2 + 1, none⟩ = some (.slice oa old.length ok)) := by
    have := HOQ.out.cellR owCells_len k 1 hkl (by omega)
    rw [hx] at this; exact this
  have FR : Hid (∀ W, Upd [] wq W → W.frozen? ⟨g, k * 2 + 1, none⟩ = false) := fun W hW => (HOQ.out.upd hW (by simp)).frozenR _
  have HGT : Hid (∀ b, (∃ C f, wq.heap[b]? = some (.cells C 5 f)) → b ≠ g) := fun b hb he => by
    obtain ⟨C, f, hb⟩ := hb
    subst he
    exact absurd (ty_eq hb hgt) (by decide)
  have HG1 := Lib.hid hg1
  have HG2 := Lib.hid hg2
  have HXM := Lib.hid hxm
  clear hgt hg1 hx hxm hg2
  have HR1 : Hid (∀ (ty : TypeId) (W : World) (s : Option Addr) (m kk : Nat) (q : List UInt8), Upd [] wq W → Blk W wq.heap.size 5 [] → Bytes W (.slice s m kk) q → q.length ≤ 1000000000 → ∃ v' w', (Builtin.append_ #[27, 27] ty #[.slice (some ⟨wq.heap.size, 0, none⟩) 0 0, .slice s m kk]).run Try.prog W = .ok v' w' ∧ (Own bv wq.heap.size 5 w' v' q ∧ Upd [] wq w' ∧ ∃ a1 n1 k1, v' = .slice a1 n1 k1)) := by
    intro ty W s m kk q hU hB hq hql
    obtain ⟨v', w', h1, h2, h3, h4⟩ := run_app (P := Try.prog) (w := W) (ty := ty) bv_one Try.underlying27 infoB8 rfl _ (.slice s m kk) [] q (own_emptyR wq.heap.size W wq.heap.size (Nat.le_refl _) hB) hq (by simp; omega) (by simp [maxLen]; omega) hU.size
    rw [List.nil_append] at h2
    obtain ⟨a1, k1, h5, _⟩ := h2.rd
    exact ⟨v', w', h1, h2, hU.trans h3 (by simp) (fun y hy => .inr (by simp [blk] at hy; omega)), a1, _, k1, h5⟩
  obtain rfl : old = old0 := by rw [← hold0, HK.out, HX.out]
  clear hold0
  have HR2 : Hid (∀ (ty : TypeId) (W : World) (a1 : Option Addr) (n1 k1 : Nat), Own bv wq.heap.size 5 W (.slice a1 n1 k1) old → Upd [] wq W → ∃ v' w', (Builtin.append_ #[27, 27] ty #[.slice a1 n1 k1, .slice pa pn pk]).run Try.prog W = .ok v' w' ∧ (Own bv wq.heap.size 5 w' v' (old ++ p) ∧ Upd [] wq w' ∧ ∃ a9 n9 k9, v' = .slice a9 n9 k9)) := by
    intro ty W a1 n1 k1 hO hU
    obtain ⟨v', w', h1, h2, h3, h4⟩ := run_app (P := Try.prog) (w := W) (ty := ty) bv_one Try.underlying27 infoB8 rfl _ (.slice pa pn pk) old p hO (HP.out.upd0 (HUQ.out.seq hU)) (by omega) (by simp [maxLen]; omega) hU.size
    obtain ⟨a9, k9, h5, _⟩ := h2.rd
    exact ⟨v', w', h1, h2, hU.trans h3 (by simp) (fun y hy => .inr (hO.ge y hy).1), a9, _, k9, h5⟩
  have HTL : Hid (old.length ≤ 1000000000) := by unfold Hid; omega
  have c1 := CR.out
  have c1' : (wq.alloc (Obj.cells #[] 5)).cell? ⟨g, k * 2 + 1, none⟩ = some (.slice oa old.length ok) := ((Upd.refl [] wq).alloc _).cell c1 (by simp)
  have d3 := D3.out
  have d3' : (wq.alloc (Obj.cells #[] 5)).cell? ⟨w.heap.size, 3, none⟩ = some (.slice pa pn pk) := ((Upd.refl [] wq).alloc _).cell d3 (by simp)
  go_wp2_with fail
  go_region_law (first
    | ((refine step_app_of rfl (.tmp 61) (.tmp 63) rfl (.slice a1 n1 k1) (.slice pa pn pk) (by rfl) (by rfl) (HR2.out _ _ a1 n1 k1 ?_ ?_) ?_); (refine Own.upd (S := []) ho8 ?_ (by simp); (repeat (first | exact Upd.refl _ _ | apply Upd.drew | apply Upd.drewN | apply Upd.alloc))); (refine hu8.seq ?_; (repeat (first | exact Upd.refl _ _ | apply Upd.drew | apply Upd.drewN | apply Upd.alloc))); (rintro v9 w9 ⟨ho9, hu9, a9, n9, k9, rfl⟩; have c9 := hu9.cell c1 (by simp); have f9 := FR.out w9 hu9; dsimp only))
    | ((refine step_app_of rfl (.tmp 55) (.tmp 60) rfl (.slice (some ⟨wq.heap.size, 0, none⟩) 0 0) (.slice oa old.length ok) (by rfl) (by rfl) (HR1.out _ _ oa old.length ok old ?_ ?_ (HOLD.out.upd0 ?_) HTL.out) ?_); (repeat (first | exact Upd.refl _ _ | apply Upd.drew | apply Upd.drewN | apply Upd.alloc)); (refine Blk.fresh (w := wq) (C := #[]) (xs := []) rfl rfl ?_; (repeat (first | exact Upd.refl _ _ | apply Upd.drew | apply Upd.drewN | apply Upd.alloc))); (repeat (first | exact Upd.refl _ _ | apply Upd.drew | apply Upd.drewN | apply Upd.alloc)); (rintro v8 w8 ⟨ho8, hu8, a1, n1, k1, rfl⟩; have c8 := hu8.cell c1 (by simp); have d8 := hu8.cell d3 (by simp); dsimp only)))
  all_goals
    have HO9 := Lib.hid ho9
    have HU9 := Lib.hid hu9
    clear ho9 hu9
    go_wp2_with fail
    go_ret
    have hset := set_yes (l := l) (nm := xn) ((⟨a9, n9, k9⟩ : Sl), old ++ p) k HIN.out HK.out HKN.out
    have hst : Upd [g] w9 ((w9).setCell ⟨g, k * 2 + 1, none⟩ (.slice a9 n9 k9)) := (Upd.refl [g] _).setCell _ _ (.inl (by simp))
    have hrow := (HOQ.out.upd HU9.out (by simp)).set_ owCells_len k 1 hkl (by omega) (.slice a9 n9 k9) (xn, ((⟨a9, n9, k9⟩ : Sl), old ++ p)) (by have := HX.out; rw [nth_get l k hkl] at this; rw [this]; rfl)
    rw [← hset] at hrow
    have hgw : w.heap.size ≤ g := by have := HG1.out; omega
    refine RDoes.of H.out rfl hrow (by omega) ((HUQ.out.seq HU9.out).trans hst (by simp) (fun y hy => .inr (by simp at hy; omega))) ?_ ?_ ?_
    · rw [df_set]
    · exact H.out.ris.set_ strOrd _ _
    · intro c hc
      rcases tSet_mem l xn _ c hc with rfl | q
      · refine .inr ⟨(HO9.out.upd hst (fun x hx hy => ?_)).rd, fun x hx => .inr ?_, fun _ x hx hy => ?_⟩
        · simp at hy; subst hy
          have h1 := (HO9.out.ge _ hx).1
          have h2 := HG2.out
          omega
        · have h1 := HO9.out.ge _ hx
          have h2 := HSQ.out
          exact ⟨by omega, by simpa using h1.2⟩
        · simp [blk] at hy; subst hy
          have h1 := (HO9.out.ge _ hx).1
          have h2 := HG2.out
          omega
      · exact .inl q
end
end Go.Proofs.Ytmhdhnipljonlaa
namespace Go.Proofs.Ytmhdhnipljonlaa
open Go.RowKit
set_option linter.unusedSimpArgs false
set_option linter.unusedVariables false
set_option linter.unusedSectionVars false
section
variable {κ ν : Type} [Inhabited κ] [Inhabited ν] [DecidableEq κ] {lt : κ → κ → Bool}
theorem mem_nth {l : List (κ × ν)} {p : κ × ν} (h : p ∈ l) : ∃ i, i < l.length ∧ nth l i = p := by
  obtain ⟨i, hi, rfl⟩ := List.mem_iff_getElem.1 h
  exact ⟨i, hi, nth_get _ _ hi⟩
theorem get_mem (ho : KOrd lt) (z : ν) {l : List (κ × ν)} (hr : Rising lt l) (k : κ) (v : ν) : tGet lt z l k = (v, true) ↔ (k, v) ∈ l := by
  constructor
  · intro h
    unfold tGet at h
    split at h
    · rename_i hi
      unfold isIn at hi
      obtain ⟨h1, h2⟩ := of_decide_eq_true hi
      injection h with h3 _
      have : nth l (below lt l k) = (k, v) := Prod.ext h2 h3
      rw [← this]; exact nth_mem _ h1
    · injection h with _ h; exact absurd h (by simp)
  · intro h
    obtain ⟨i, hi, he⟩ := mem_nth h
    have := tGet_at ho z hr i hi
    rw [he] at this
    exact this
theorem get_no (ho : KOrd lt) (z : ν) {l : List (κ × ν)} (hr : Rising lt l) (k : κ) (h : ∀ v, (k, v) ∉ l) : tGet lt z l k = (z, false) := by
  unfold tGet
  cases hi : isIn lt l k with
  | false => rfl
  | true =>
    have h2 : tGet lt z l k = ((nth l (below lt l k)).2, true) := by unfold tGet; rw [hi]; rfl
    exact absurd ((get_mem ho z hr k _).1 h2) (h _)
theorem mem_set (ho : KOrd lt) {l : List (κ × ν)} (hr : Rising lt l) (k : κ) (v : ν) (p : κ × ν) : p ∈ tSet lt l k v ↔ p = (k, v) ∨ (p ∈ l ∧ p.1 ≠ k) := by
  have hle := below_le (lt := lt) l k
  unfold tSet
  constructor
  · intro h
    rcases List.mem_append.1 h with h | h
    · refine .inr ⟨List.mem_of_mem_take h, fun e => ?_⟩
      obtain ⟨i, hi, he⟩ := mem_nth h
      rw [List.length_take] at hi
      rw [nth_take _ _ _ (by omega)] at he
      have := below_lt l k i (by omega) (lt := lt)
      rw [he, e, ho.irr] at this
      exact absurd this (by simp)
    · rcases List.mem_cons.1 h with h | h
      · exact .inl h
      · refine .inr ⟨List.mem_of_mem_drop h, fun e => ?_⟩
        obtain ⟨i, hi, he⟩ := mem_nth h
        rw [List.length_drop] at hi
        rw [nth_drop] at he
        have := above ho hr k (below lt l k + (if isIn lt l k then 1 else 0) + i) (by omega) (by omega)
        rw [he, e, ho.irr] at this
        exact absurd this (by simp)
  · rintro (rfl | ⟨h, hne⟩)
    · simp
    · obtain ⟨i, hi, rfl⟩ := mem_nth h
      rcases Nat.lt_or_ge i (below lt l k) with q | q
      · refine List.mem_append.2 (.inl ?_)
        rw [← nth_take l (below lt l k) i q]
        exact nth_mem _ (by rw [List.length_take]; omega)
      · refine List.mem_append.2 (.inr (List.mem_cons_of_mem _ ?_))
        have hs : below lt l k + (if isIn lt l k then 1 else 0) ≤ i := by
          cases hin : isIn lt l k with
          | false => simp; exact q
          | true =>
            unfold isIn at hin
            obtain ⟨h1, h2⟩ := of_decide_eq_true hin
            have : below lt l k ≠ i := fun e => hne (by rw [← e]; exact h2)
            simp; omega
        obtain ⟨d, rfl⟩ := Nat.exists_eq_add_of_le hs
        rw [← nth_drop]
        exact nth_mem _ (by rw [List.length_drop]; omega)
theorem mem_del (ho : KOrd lt) {l : List (κ × ν)} (hr : Rising lt l) (k : κ) (p : κ × ν) : p ∈ tDel lt l k ↔ p ∈ l ∧ p.1 ≠ k := by
  cases hin : isIn lt l k with
  | false =>
    have he : tDel lt l k = l := by unfold tDel; rw [hin]; rfl
    rw [he]
    refine ⟨fun h => ⟨h, fun e => ?_⟩, fun h => h.1⟩
    obtain ⟨i, hi, rfl⟩ := mem_nth h
    have := isIn_at ho hr i hi
    rw [e, hin] at this
    exact absurd this (by simp)
  | true =>
    have he : tDel lt l k = l.take (below lt l k) ++ l.drop (below lt l k + 1) := by unfold tDel; rw [hin]; rfl
    have h2 := mem_set ho hr k (default : ν) p
    have hset : tSet lt l k (default : ν) = l.take (below lt l k) ++ (k, default) :: l.drop (below lt l k + 1) := by unfold tSet; rw [hin]; rfl
    rw [hset] at h2
    rw [he]
    constructor
    · intro h
      have h3 : p ∈ l.take (below lt l k) ++ (k, default) :: l.drop (below lt l k + 1) := by
        rcases List.mem_append.1 h with q | q
        · exact List.mem_append.2 (.inl q)
        · exact List.mem_append.2 (.inr (List.mem_cons_of_mem _ q))
      refine ⟨?_, fun e => ?_⟩
      · rcases List.mem_append.1 h with q | q
        · exact List.mem_of_mem_take q
        · exact List.mem_of_mem_drop q
      · rcases List.mem_append.1 h with q | q
        · obtain ⟨i, hi, hq⟩ := mem_nth q
          rw [List.length_take] at hi
          rw [nth_take _ _ _ (by omega)] at hq
          have := below_lt l k i (by omega) (lt := lt)
          rw [hq, e, ho.irr] at this
          exact absurd this (by simp)
        · obtain ⟨i, hi, hq⟩ := mem_nth q
          rw [List.length_drop] at hi
          rw [nth_drop] at hq
          have := above ho hr k (below lt l k + 1 + i) (by rw [hin]; simp) (by omega)
          rw [hq, e, ho.irr] at this
          exact absurd this (by simp)
    · rintro ⟨h, hne⟩
      have h3 := h2.2 (.inr ⟨h, hne⟩)
      rcases List.mem_append.1 h3 with q | q
      · exact List.mem_append.2 (.inl q)
      · rcases List.mem_cons.1 q with rfl | q
        · exact absurd rfl hne
        · exact List.mem_append.2 (.inr q)
theorem get_cases (z : ν) (l : List (κ × ν)) (k : κ) : (∃ v, tGet lt z l k = (v, true)) ∨ tGet lt z l k = (z, false) := by
  unfold tGet
  cases isIn lt l k with
  | true => exact .inl ⟨_, rfl⟩
  | false => exact .inr rfl
theorem get_same (ho : KOrd lt) (z : ν) {l m : List (κ × ν)} (hl : Rising lt l) (hm : Rising lt m) (k : κ) (h : ∀ v, (k, v) ∈ l ↔ (k, v) ∈ m) : tGet lt z l k = tGet lt z m k := by
  rcases get_cases (lt := lt) z l k with ⟨v, hv⟩ | hn
  · rw [hv, (get_mem ho z hm k v).2 ((h v).1 ((get_mem ho z hl k v).1 hv))]
  · rw [hn, get_no ho z hm k]
    intro v hv
    rw [(get_mem ho z hl k v).2 ((h v).2 hv)] at hn
    injection hn with _ hn; exact absurd hn (by simp)
theorem get_set_eq (ho : KOrd lt) (z : ν) {l : List (κ × ν)} (hl : Rising lt l) (k : κ) (v : ν) : tGet lt z (tSet lt l k v) k = (v, true) :=
  (get_mem ho z (hl.set_ ho k v) k v).2 ((mem_set ho hl k v _).2 (.inl rfl))
theorem get_set_ne (ho : KOrd lt) (z : ν) {l : List (κ × ν)} (hl : Rising lt l) (k k' : κ) (v : ν) (hne : k' ≠ k) : tGet lt z (tSet lt l k v) k' = tGet lt z l k' :=
  get_same ho z (hl.set_ ho k v) hl k' fun u => by
    rw [mem_set ho hl]
    constructor
    · rintro (h | h)
      · injection h with h1 _; exact absurd h1 hne
      · exact h.1
    · exact fun h => .inr ⟨h, hne⟩
theorem get_del_eq (ho : KOrd lt) (z : ν) {l : List (κ × ν)} (hl : Rising lt l) (k : κ) : tGet lt z (tDel lt l k) k = (z, false) :=
  get_no ho z (hl.del ho k) k fun v h => ((mem_del ho hl k _).1 h).2 rfl
theorem get_del_ne (ho : KOrd lt) (z : ν) {l : List (κ × ν)} (hl : Rising lt l) (k k' : κ) (hne : k' ≠ k) : tGet lt z (tDel lt l k) k' = tGet lt z l k' :=
  get_same ho z (hl.del ho k) hl k' fun u => by
    rw [mem_del ho hl]
    exact ⟨fun h => h.1, fun h => ⟨h, hne⟩⟩
theorem Rising.head (ho : KOrd lt) {p : κ × ν} {l : List (κ × ν)} (h : Rising lt (p :: l)) : ∀ q ∈ l, lt p.1 q.1 = true := fun q hq => by
  obtain ⟨i, hi, rfl⟩ := mem_nth hq
  have := h 0 (i + 1) (by omega) (by simp; omega)
  rwa [nth_cons_zero, nth_cons_succ] at this
theorem Rising.tail {p : κ × ν} {l : List (κ × ν)} (h : Rising lt (p :: l)) : Rising lt l := fun i j hij hj => by
  have := h (i + 1) (j + 1) (by omega) (by simp; omega)
  rwa [nth_cons_succ, nth_cons_succ] at this
theorem rise_ext (ho : KOrd lt) : ∀ {l m : List (κ × ν)}, Rising lt l → Rising lt m → (∀ p, p ∈ l ↔ p ∈ m) → l = m
  | [], [], _, _, _ => rfl
  | [], q :: m, _, _, h => absurd ((h q).2 (by simp)) (by simp)
  | p :: l, [], _, _, h => absurd ((h p).1 (by simp)) (by simp)
  | p :: l, q :: m, hl, hm, h => by
    have hpq : p = q := by
      rcases List.mem_cons.1 ((h p).1 (by simp)) with e | e
      · exact e
      · rcases List.mem_cons.1 ((h q).2 (by simp)) with e2 | e2
        · exact e2.symm
        · have h1 := hm.head ho p e
          have h2 := hl.head ho q e2
          have := ho.trans _ _ _ h1 h2
          rw [ho.irr] at this
          exact absurd this (by simp)
    subst hpq
    congr 1
    refine rise_ext ho hl.tail hm.tail fun r => ⟨fun hr => ?_, fun hr => ?_⟩
    · rcases List.mem_cons.1 ((h r).1 (List.mem_cons_of_mem _ hr)) with e | e
      · subst e
        have := hl.head ho r hr
        rw [ho.irr] at this
        exact absurd this (by simp)
      · exact e
    · rcases List.mem_cons.1 ((h r).2 (List.mem_cons_of_mem _ hr)) with e | e
      · subst e
        have := hm.head ho r hr
        rw [ho.irr] at this
        exact absurd this (by simp)
      · exact e
end
end Go.Proofs.Ytmhdhnipljonlaa
namespace Go.Proofs.Ytmhdhnipljonlaa
open Go.RowKit
set_option linter.unusedSimpArgs false
set_option linter.unusedVariables false
abbrev YW := Int × ((ByteArray × Sl) × List UInt8)
abbrev ywCells (c : YW) : List Value := [iv c.1, sv c.2.1.1, slv c.2.1.2]
theorem ywCells_len : ∀ x, (ywCells x).length = 3 := fun _ => rfl
theorem ywCells_one : ∀ x, ∀ u ∈ ywCells x, u.oneCell' = true := by intro x u hu; simp [ywCells] at hu; rcases hu with rfl | rfl | rfl <;> rfl
theorem infoYW : (Try.prog.info? 124).map (fun i => (i.zero, i.size, i.bytes)) = some (some (.agg #[.int .i64 0, .string ⟨#[]⟩, .slice none 0 0]), 3, 48) := by kernel_rfl
theorem undYW : Try.prog.underlying 77 = some (.slice 124) := by kernel_rfl
theorem sizeYW : (Try.prog.info? 124).map (·.size) = some 3 := by kernel_rfl
/-- Where a name stands, or -1. -/
def fIx (fl : FL) (s : ByteArray) : Int := if hasN fl s then (findN fl s : Int) else -1
theorem findN_eq (fl : FL) (s : ByteArray) (k : Nat) (hk : k < fl.length) (he : (nth fl k).2.1 = s) (hlo : ∀ j, j < k → (nth fl j).2.1 ≠ s) : findN fl s = k := by
  rcases Nat.lt_trichotomy (findN fl s) k with q | q | q
  · exact absurd (findN_at fl s (by omega)) (hlo _ q)
  · exact q
  · exact absurd he (findN_lt fl s k q)
theorem fIx_yes {fl : FL} {s : ByteArray} (k : Nat) (hk : k < fl.length) (he : (nth fl k).2.1 = s) (hlo : ∀ j, j < k → (nth fl j).2.1 ≠ s) : fIx fl s = (k : Int) := by
  have h := findN_eq fl s k hk he hlo
  unfold fIx hasN
  rw [h, if_pos (decide_eq_true hk)]
theorem fIx_no {fl : FL} {s : ByteArray} (hlo : ∀ j, j < fl.length → (nth fl j).2.1 ≠ s) : fIx fl s = -1 := by
  unfold fIx hasN
  rw [if_neg]
  intro h
  have h := of_decide_eq_true h
  exact hlo _ h (findN_at fl s h)
/-- The document's yard at gy. -/
structure RYC (w0 w : World) (gy : Nat) (lv tv : Value) (cs : CL) (T : List Int) : Prop where
  top : Blk w gy 79 [lv, tv]
  gyb : w0.heap.size ≤ gy
  row : OwnN 3 ywCells w0.heap.size 124 w lv cs
  tak : Own iv w0.heap.size 3 w tv T
  own : ∀ c ∈ cs, Own bv w0.heap.size 5 w (slv c.2.1.2) c.2.2
  old : Upd [] w0 w
  ris : Rising ltY cs
def ryFoot (gy : Nat) (lv tv : Value) (cs : CL) : List Nat := gy :: (blk lv ++ blk tv ++ cs.flatMap fun c => blk (slv c.2.1.2))
theorem ryFoot_mem (gy : Nat) (lv tv : Value) (cs : CL) (x : Nat) : x ∈ ryFoot gy lv tv cs ↔ x = gy ∨ x ∈ blk lv ∨ x ∈ blk tv ∨ ∃ c ∈ cs, x ∈ blk (slv c.2.1.2) := by
  unfold ryFoot
  simp only [List.mem_cons, List.mem_append, List.mem_flatMap]
  constructor
  · rintro (h | (h | h) | h)
    · exact .inl h
    · exact .inr (.inl h)
    · exact .inr (.inr (.inl h))
    · exact .inr (.inr (.inr h))
  · rintro (h | h | h | h)
    · exact .inl h
    · exact .inr (.inl (.inl h))
    · exact .inr (.inl (.inr h))
    · exact .inr (.inr h)
section
variable {w0 w w' : World} {gy : Nat} {lv tv : Value} {cs : CL} {T : List Int}
theorem RYC.ge (h : RYC w0 w gy lv tv cs T) : ∀ x ∈ ryFoot gy lv tv cs, w0.heap.size ≤ x ∧ x < w.heap.size := by
  intro x hx
  rcases (ryFoot_mem gy lv tv cs x).1 hx with rfl | hx | hx | ⟨c, hc, hx⟩
  · exact ⟨h.gyb, h.top.lt⟩
  · exact h.row.ge x hx
  · exact h.tak.ge x hx
  · exact (h.own c hc).ge x hx
theorem RYC.upd (h : RYC w0 w gy lv tv cs T) {S : List Nat} (hu : Upd S w w') (hs : ∀ x ∈ ryFoot gy lv tv cs, x ∉ S) (hS : ∀ x ∈ S, w0.heap.size ≤ x) : RYC w0 w' gy lv tv cs T :=
  ⟨h.top.upd hu (hs gy ((ryFoot_mem _ _ _ _ _).2 (.inl rfl))), h.gyb, h.row.upd hu (fun x hx => hs x ((ryFoot_mem _ _ _ _ _).2 (.inr (.inl hx)))), h.tak.upd hu (fun x hx => hs x ((ryFoot_mem _ _ _ _ _).2 (.inr (.inr (.inl hx))))), fun c hc => (h.own c hc).upd hu (fun x hx => hs x ((ryFoot_mem _ _ _ _ _).2 (.inr (.inr (.inr ⟨c, hc, hx⟩))))), h.old.trans hu (by simp) (fun x hx => .inr (hS x hx)), h.ris⟩
theorem RYC.upd0 (h : RYC w0 w gy lv tv cs T) (hu : Upd [] w w') : RYC w0 w' gy lv tv cs T := h.upd hu (by simp) (by simp)
theorem RYC.c0 (h : RYC w0 w gy lv tv cs T) : w.cell? ⟨gy, 0, none⟩ = some lv := h.top.cell 0
theorem RYC.c1 (h : RYC w0 w gy lv tv cs T) : w.cell? ⟨gy, 1, none⟩ = some tv := h.top.cell 1
theorem RYC.lsl (h : RYC w0 w gy lv tv cs T) : ∃ a k, lv = .slice a cs.length k ∧ cs.length ≤ k ∧ k ≤ 9223372036854775807 := by
  obtain ⟨a, k, h1, h2, h3, -⟩ := h.row.rd ywCells_len
  exact ⟨a, k, h1, h2, by unfold maxLen at h3; omega⟩
theorem RYC.tsl (h : RYC w0 w gy lv tv cs T) : ∃ a k, tv = .slice a T.length k ∧ T.length ≤ k ∧ k ≤ 9223372036854775807 := by
  obtain ⟨a, k, h1, h2, h3, -⟩ := h.tak.rd
  exact ⟨a, k, h1, h2, by unfold maxLen at h3; omega⟩
set_option maxRecDepth 20000 in
set_option maxHeartbeats 1000000 in
theorem ryFind_any (s : ByteArray) (h : RYC w0 w gy lv tv cs T) (hl : cs.length ≤ 1000) :
    Calls Try.prog 94 #[.pointer (some ⟨gy, 0, none⟩), sv s] w fun e w' => e = .returned (.int .i64 (fIx (filesOf cs) s)) ∧ Upd [] w w' := by
  obtain ⟨a, cap, rfl, hlc, hcap⟩ := h.lsl
  obtain ⟨a', cap', he, -, -, hcell⟩ := h.row.rd ywCells_len
  obtain ⟨rfl, -, rfl⟩ := Value.slice.inj he
  have HC := Lib.hid hcell
  have H := Lib.hid h
  clear hcell h he
  go_enter Try.func94, Try.ntmps94
  go_wp2_with fail
  go_loopw [5] (fun i wr => ∃ k : Nat, k ≤ cs.length ∧ i = .int .i64 k ∧ Hid (Upd [] w wr) ∧ Hid (∀ j, j < k → (nth cs j).2.1.1 ≠ s)) (fun i _ => cs.length - (intOf i).toNat)
  case atStart => exact ⟨0, Nat.zero_le _, rfl, Upd.refl _ _, fun j h => absurd h (by omega)⟩
  case round =>
    obtain ⟨k, hk, rfl, hu, hne⟩ := hrel
    have y0 := (H.out.upd0 hu.out).c0
    by_cases hlt : k < cs.length
    · obtain ⟨b, off, rfl, hc⟩ := HC.out (by intro h; simp [h] at hlt)
      have c1 : wr.cell? ⟨b, off + k * 3 + 1, none⟩ = some (.string (nth cs k).2.1.1) := hu.out.cell (hc k hlt 1 (by omega)) (by simp)
      have HK : Hid ((nth cs k).2.1.1 = s → fIx (filesOf cs) s = (k : Int)) := fun he => fIx_yes k (by rw [files_len]; exact hlt) (by rw [nth_files cs k hlt]; exact he) (fun j hj => by rw [nth_files cs j (by omega)]; exact hne.out j hj)
      have HNE : Hid ((nth cs k).2.1.1 ≠ s → ∀ j, j < k + 1 → (nth cs j).2.1.1 ≠ s) := fun he j hj => by
        rcases Nat.lt_or_eq_of_le (Nat.le_of_lt_succ hj) with q | q
        · exact hne.out j q
        · subst q; exact he
      clear hc hne
      generalize (nth cs k).2.1.1 = m at *
      have q0 : (0 : Int) ≤ k := by omega
      have q1 : (k : Int) < cs.length := by omega
      by_cases he : m = s
      · have HI := Lib.hid (HK.out he)
        have t1 : (m.toList == s.toList) = true := by rw [he]; simp
        clear he HK HNE
        go_wp2_with fail
        go_ret
        exact ⟨by rw [HI.out]; rfl, hu.out⟩
      · have HI := Lib.hid (HNE.out he)
        have t1 := str_neR he
        clear he HK HNE
        go_wp2_with fail
        go_roundw
        case rel => exact ⟨k + 1, by omega, by go_num, hu, HI⟩
        case measure => simp [intOf]; omega
    · obtain rfl : k = cs.length := by omega
      have HI : Hid (fIx (filesOf cs) s = -1) := fIx_no (fun j hj => by
        rw [files_len] at hj
        rw [nth_files cs j hj]
        exact hne.out j hj)
      clear hne
      go_wp2_with fail
      go_ret
      exact ⟨by rw [HI.out]; rfl, hu.out⟩
/-- What was taken of an ino. -/
def tkAt (T : List Int) (i : Int) : Int := if i < 0 ∨ (T.length : Int) ≤ i then 0 else nth T i.toNat
set_option maxRecDepth 20000 in
set_option maxHeartbeats 1000000 in
theorem ryTaken_any (i : Int) (hi : I64 i) (h : RYC w0 w gy lv tv cs T) (hl : T.length ≤ 1000) :
    Calls Try.prog 45 #[.pointer (some ⟨gy, 0, none⟩), .int .i64 i] w fun e w' => e = .returned (.int .i64 (tkAt T i)) ∧ Upd [] w w' := by
  obtain ⟨a, cap, rfl, hlc, hcap⟩ := h.tsl
  have c1 := h.c1
  by_cases h0 : i < 0
  · have HT : Hid (tkAt T i = 0) := by unfold Hid tkAt; rw [if_pos (.inl h0)]
    clear h
    go_enter Try.func45, Try.ntmps45
    go_wp2_with fail
    go_ret
    exact ⟨by rw [HT.out]; rfl, Upd.refl _ _⟩
  · by_cases h1 : (T.length : Int) ≤ i
    · have HT : Hid (tkAt T i = 0) := by unfold Hid tkAt; rw [if_pos (.inr h1)]
      clear h
      go_enter Try.func45, Try.ntmps45
      go_wp2_with fail
      go_ret
      exact ⟨by rw [HT.out]; rfl, Upd.refl _ _⟩
    · obtain ⟨m, rfl⟩ := Int.eq_ofNat_of_zero_le (show 0 ≤ i by omega)
      have hm : m < T.length := by omega
      have HT : Hid (tkAt T (m : Int) = nth T m) := by unfold Hid tkAt; rw [if_neg (by omega)]; rfl
      obtain ⟨b, off, rfl, hc⟩ := h.tak.rd.at_ m hm
      generalize nth T m = x at *
      have q1 : ¬ (T.length : Int) ≤ (m : Int) := by omega
      have q2 : (m : Int) < T.length := by omega
      clear h
      go_enter Try.func45, Try.ntmps45
      go_wp2_with fail
      go_ret
      exact ⟨by rw [HT.out]; rfl, Upd.refl _ _⟩
end
end Go.Proofs.Ytmhdhnipljonlaa
namespace Go.Proofs.Ytmhdhnipljonlaa
open Go.RowKit
set_option linter.unusedSimpArgs false
set_option linter.unusedVariables false
section
variable {ν : Type} [Inhabited ν]
theorem ltY_def (a b : Int) : ltY a b = decide (a < b) := rfl
theorem setY {l : List (Int × ν)} (hr : Rising ltY l) (k : Nat) (hk : k < l.length) (y : ν) : tSet ltY l (nth l k).1 y = l.set k ((nth l k).1, y) := by
  rw [tSet_in l _ y (isIn_at intOrd hr k hk), below_at intOrd hr k hk]
theorem delY {l : List (Int × ν)} (hr : Rising ltY l) (k : Nat) (hk : k < l.length) : tDel ltY l (nth l k).1 = l.take k ++ l.drop (k + 1) := by
  unfold tDel
  rw [isIn_at intOrd hr k hk, below_at intOrd hr k hk, if_pos rfl]
theorem newY {l : List (Int × ν)} (hr : Rising ltY l) (h1 : ∀ p ∈ l, 1 ≤ p.1) (at_ : Nat) (hle : at_ ≤ l.length) (hlo : ∀ j, j < at_ → (nth l j).1 = (j : Int) + 1) (hno : at_ < l.length → (nth l at_).1 ≠ (at_ : Int) + 1) :
    freeIno l = (at_ : Int) + 1 ∧ isIn ltY l ((at_ : Int) + 1) = false ∧ ∀ v : ν, tSet ltY l ((at_ : Int) + 1) v = l.take at_ ++ [((at_ : Int) + 1, v)] ++ l.drop at_ := by
  have hge : at_ < l.length → (at_ : Int) + 1 ≤ (nth l at_).1 := fun h => by
    rcases Nat.eq_zero_or_pos at_ with rfl | q
    · have := h1 _ (nth_mem 0 h); omega
    · have e1 := of_decide_eq_true (hr (at_ - 1) at_ (by omega) h)
      have e2 := hlo (at_ - 1) (by omega)
      rw [e2] at e1; omega
  have hb : below ltY l ((at_ : Int) + 1) = at_ := below_eq l _ at_ hle (fun j hj => decide_eq_true (by rw [hlo j hj]; omega)) (fun h => decide_eq_false (by have := hge h; omega))
  have hin : isIn ltY l ((at_ : Int) + 1) = false := by
    unfold isIn
    rw [hb]
    exact decide_eq_false (fun h => hno h.1 h.2)
  refine ⟨freeIno_eq hr at_ (fun j hj => ?_) hin, hin, fun v => ?_⟩
  · rw [← hlo j hj]; exact isIn_at intOrd hr j (by omega)
  · unfold tSet
    rw [hin, hb]; simp
end
/-- What was taken, as a list of numbers and as a table. -/
structure TR (T : List Int) (tk : List (Int × Int)) : Prop where
  ris : Rising ltY tk
  get : ∀ k, (tGet ltY 0 tk k).1 = tkAt T k
theorem TR.nil : TR [] [] := ⟨Rising.nil, fun k => by
  unfold tkAt tGet isIn
  rw [if_neg (by simp), if_pos (by simp; omega)]⟩
theorem tkAt_app (T : List Int) (k : Int) : tkAt (T ++ [0]) k = tkAt T k := by
  unfold tkAt
  rw [List.length_append]
  by_cases h0 : k < 0
  · rw [if_pos (.inl h0), if_pos (.inl h0)]
  · obtain ⟨m, rfl⟩ := Int.eq_ofNat_of_zero_le (show 0 ≤ k by omega)
    rcases Nat.lt_trichotomy m T.length with q | q | q
    · rw [if_neg (by simp; omega), if_neg (by omega), Int.toNat_natCast, nth_append_left _ _ _ q]
    · subst q
      rw [if_neg (by simp; omega), if_pos (.inr (Int.le_refl _)), Int.toNat_natCast, nth_append_right _ _ _ (Nat.le_refl _), Nat.sub_self]; rfl
    · rw [if_pos (.inr (by simp; omega)), if_pos (.inr (by omega))]
theorem TR.app {T : List Int} {tk : List (Int × Int)} (h : TR T tk) : TR (T ++ [0]) tk := ⟨h.ris, fun k => by rw [tkAt_app]; exact h.get k⟩
theorem nth_setY {α : Type} [Inhabited α] (l : List α) (i m : Nat) (x : α) (hi : i < l.length) : nth (l.set i x) m = if m = i then x else nth l m := by
  unfold nth
  rw [List.getD_eq_getElem?_getD, List.getD_eq_getElem?_getD, List.getElem?_set]
  by_cases h : i = m
  · rw [if_pos h, if_pos hi, if_pos h.symm]; rfl
  · rw [if_neg h, if_neg (fun q => h q.symm)]
theorem tkAt_set (T : List Int) (i : Nat) (hi : i < T.length) (x : Int) (k : Int) : tkAt (T.set i x) k = if k = (i : Int) then x else tkAt T k := by
  unfold tkAt
  rw [List.length_set]
  by_cases h0 : k < 0
  · rw [if_pos (.inl h0), if_neg (by omega), if_pos (.inl h0)]
  · obtain ⟨m, rfl⟩ := Int.eq_ofNat_of_zero_le (show 0 ≤ k by omega)
    by_cases hm : m < T.length
    · rw [if_neg (by omega), Int.toNat_natCast, nth_setY _ _ _ _ hi]
      by_cases he : m = i
      · rw [if_pos he, if_pos (by omega)]
      · rw [if_neg he, if_neg (by omega), if_neg (by omega)]
    · rw [if_pos (.inr (by omega)), if_neg (by omega), if_pos (.inr (by omega))]
theorem TR.set_ {T : List Int} {tk : List (Int × Int)} (h : TR T tk) (i : Nat) (hi : i < T.length) (x : Int) : TR (T.set i x) (tSet ltY tk (i : Int) x) := by
  refine ⟨h.ris.set_ intOrd _ _, fun k => ?_⟩
  rw [tkAt_set T i hi x k]
  by_cases he : k = (i : Int)
  · rw [if_pos he, he, get_set_eq intOrd (0 : Int) h.ris (i : Int) x]
  · rw [if_neg he, get_set_ne intOrd (0 : Int) h.ris (i : Int) k x he]; exact h.get k
/-- No file is without a name. -/
def NE (fl : FL) : Prop := ∀ p ∈ fl, p.2.1 ≠ ⟨#[]⟩
theorem nameOk_ne {s : ByteArray} (h : nameOk s = true) : s ≠ ⟨#[]⟩ := fun q => by subst q; exact absurd h (by decide)
/-- Rename as the document does it. -/
def ryMid (fl : FL) (s t : ByteArray) : FL :=
  let m := tSet ltY fl (inoN fl s) (⟨#[]⟩, bytesN fl s)
  if hasN m t then tDel ltY m (inoN m t) else m
theorem has_iff (fl : FL) (s : ByteArray) : hasN fl s = true ↔ ∃ p ∈ fl, p.2.1 = s := by
  constructor
  · intro h
    obtain ⟨h1, h2⟩ := has_at h
    exact ⟨_, h1, h2⟩
  · rintro ⟨p, hp, he⟩
    cases hh : hasN fl s with
    | true => rfl
    | false => exact absurd he (no_name hh p hp)
section
variable {fl : FL} {s t : ByteArray}
theorem ryMid_ris (hr : Rising ltY fl) : Rising ltY (ryMid fl s t) := by
  unfold ryMid
  dsimp only
  split
  · exact (hr.set_ intOrd _ _).del intOrd _
  · exact hr.set_ intOrd _ _
theorem mid_ino (hr : Rising ltY fl) (hu : UN fl) (hs : hasN fl s = true) (hne : s ≠ t) (ht0 : t ≠ ⟨#[]⟩) :
    (hasN (tSet ltY fl (inoN fl s) (⟨#[]⟩, bytesN fl s)) t = hasN fl t) ∧ (hasN fl t = true → inoN (tSet ltY fl (inoN fl s) (⟨#[]⟩, bytesN fl s)) t = inoN fl t ∧ inoN fl t ≠ inoN fl s) := by
  have hm := mem_set intOrd hr (inoN fl s) ((⟨#[]⟩ : ByteArray), bytesN fl s)
  have hiff : hasN (tSet ltY fl (inoN fl s) (⟨#[]⟩, bytesN fl s)) t = true ↔ hasN fl t = true := by
    rw [has_iff, has_iff]
    constructor
    · rintro ⟨p, hp, he⟩
      rcases (hm p).1 hp with rfl | q
      · exact absurd he.symm ht0
      · exact ⟨p, q.1, he⟩
    · rintro ⟨p, hp, he⟩
      refine ⟨p, (hm p).2 (.inr ⟨hp, fun q => ?_⟩), he⟩
      obtain ⟨h1, h2⟩ := has_at hs
      have h3 := hu.ino hs _ h1 h2
      have h4 : p = nth fl (findN fl s) := by
        obtain ⟨i, hi, rfl⟩ := mem_nth hp
        obtain ⟨j, hj, hj2⟩ := mem_nth h1
        have e1 : i = j := by
          have a1 := below_at intOrd hr i hi
          have a2 := below_at intOrd hr j hj
          rw [q] at a1
          rw [hj2, h3] at a2
          omega
        rw [e1, hj2]
      rw [h4, h2] at he
      exact hne he
  refine ⟨?_, fun ht => ?_⟩
  · cases h1 : hasN fl t with
    | true => exact hiff.2 h1
    | false =>
      cases h2 : hasN (tSet ltY fl (inoN fl s) (⟨#[]⟩, bytesN fl s)) t with
      | true => rw [hiff.1 h2] at h1; exact h1
      | false => rfl
  · obtain ⟨h1, h2⟩ := has_at (hiff.2 ht)
    rcases (hm _).1 h1 with q | q
    · rw [q] at h2; exact absurd h2.symm ht0
    · have e := hu.ino ht _ q.1 h2
      exact ⟨e, fun h => q.2 (by rw [e]; exact h)⟩
/-- The document's Rename leaves the same files. -/
theorem ryRename (hr : Rising ltY fl) (hu : UN fl) (hn : NE fl) (hs : hasN fl s = true) (ht : nameOk t = true) (hne : s ≠ t) :
    hasN (ryMid fl s t) ⟨#[]⟩ = true ∧ inoN (ryMid fl s t) ⟨#[]⟩ = inoN fl s ∧ bytesN (ryMid fl s t) ⟨#[]⟩ = bytesN fl s ∧ tSet ltY (ryMid fl s t) (inoN fl s) (t, bytesN fl s) = (yRename fl s t).2 := by
  have ht0 := nameOk_ne ht
  obtain ⟨m1, m2⟩ := mid_ino hr hu hs hne ht0
  have hm := mem_set intOrd hr (inoN fl s) ((⟨#[]⟩ : ByteArray), bytesN fl s)
  have hmem : ∀ p, p ∈ ryMid fl s t ↔ p = (inoN fl s, ((⟨#[]⟩ : ByteArray), bytesN fl s)) ∨ (p ∈ fl ∧ p.1 ≠ inoN fl s ∧ (hasN fl t = true → p.1 ≠ inoN fl t)) := by
    intro p
    unfold ryMid
    dsimp only
    rw [m1]
    cases h : hasN fl t with
    | true =>
      rw [if_pos rfl, (m2 h).1, mem_del intOrd (hr.set_ intOrd _ _), hm]
      constructor
      · rintro ⟨q | q, q2⟩
        · exact .inl q
        · exact .inr ⟨q.1, q.2, fun _ => q2⟩
      · rintro (q | q)
        · exact ⟨.inl q, by rw [q]; exact fun e => (m2 h).2 e.symm⟩
        · exact ⟨.inr ⟨q.1, q.2.1⟩, q.2.2 rfl⟩
    | false =>
      rw [if_neg (by simp), hm]
      constructor
      · rintro (q | q)
        · exact .inl q
        · exact .inr ⟨q.1, q.2, fun h => absurd h (by simp)⟩
      · rintro (q | q)
        · exact .inl q
        · exact .inr ⟨q.1, q.2.1⟩
  have hin : (inoN fl s, ((⟨#[]⟩ : ByteArray), bytesN fl s)) ∈ ryMid fl s t := (hmem _).2 (.inl rfl)
  have hh : hasN (ryMid fl s t) ⟨#[]⟩ = true := (has_iff _ _).2 ⟨_, hin, rfl⟩
  have hat : nth (ryMid fl s t) (findN (ryMid fl s t) ⟨#[]⟩) = (inoN fl s, ((⟨#[]⟩ : ByteArray), bytesN fl s)) := by
    obtain ⟨h1, h2⟩ := has_at hh
    rcases (hmem _).1 h1 with q | q
    · exact q
    · exact absurd h2 (hn _ q.1)
  refine ⟨hh, by unfold inoN at hat ⊢; rw [hat], by unfold bytesN at hat ⊢; rw [hat], ?_⟩
  have hy : (yRename fl s t).2 = tSet ltY (if hasN fl t && decide (inoN fl t ≠ inoN fl s) then tDel ltY fl (inoN fl t) else fl) (inoN fl s) (t, bytesN fl s) := by
    unfold yRename; rw [if_pos ht, if_pos hs]
  rw [hy]
  have hr2 : Rising ltY (if hasN fl t && decide (inoN fl t ≠ inoN fl s) then tDel ltY fl (inoN fl t) else fl) := by
    split
    · exact hr.del intOrd _
    · exact hr
  refine rise_ext intOrd ((ryMid_ris hr).set_ intOrd _ _) (hr2.set_ intOrd _ _) (fun p => ?_)
  rw [mem_set intOrd (ryMid_ris hr), mem_set intOrd hr2, hmem]
  cases h : hasN fl t with
  | true =>
    have hd : decide (inoN fl t ≠ inoN fl s) = true := decide_eq_true (m2 h).2
    rw [hd]
    simp only [Bool.and_self, if_pos]
    rw [mem_del intOrd hr]
    constructor
    · rintro (q | ⟨q | q, q2⟩)
      · exact .inl q
      · rw [q] at q2; exact absurd rfl q2
      · exact .inr ⟨⟨q.1, q.2.2 (by trivial)⟩, q2⟩
    · rintro (q | ⟨q, q2⟩)
      · exact .inl q
      · exact .inr ⟨.inr ⟨q.1, q2, fun _ => q.2⟩, q2⟩
  | false =>
    simp only [Bool.false_and, if_neg (show ¬ (false = true) by simp)]
    constructor
    · rintro (q | ⟨q | q, q2⟩)
      · exact .inl q
      · rw [q] at q2; exact absurd rfl q2
      · exact .inr ⟨q.1, q2⟩
    · rintro (q | ⟨q, q2⟩)
      · exact .inl q
      · exact .inr ⟨.inr ⟨q, q2, fun h => absurd h (by simp)⟩, q2⟩
theorem ryRename_same (hr : Rising ltY fl) (hs : hasN fl s = true) (ht : nameOk s = true) : yRename fl s s = (0, fl) := by
  unfold yRename
  rw [if_pos ht, if_pos hs, hs]
  obtain ⟨h1, h2⟩ := has_at hs
  have hlt : findN fl s < fl.length := by unfold hasN at hs; exact of_decide_eq_true hs
  simp only [ne_eq, not_true_eq_false, decide_false, Bool.and_false, Bool.false_eq_true, if_false]
  have := setY hr (findN fl s) hlt (s, bytesN fl s)
  unfold inoN
  rw [this]
  congr 1
  rw [List.set_eq_take_append_cons_drop, if_pos hlt]
  have e : nth fl (findN fl s) = ((nth fl (findN fl s)).1, (s, bytesN fl s)) := by
    refine Prod.ext rfl (Prod.ext h2 rfl)
  rw [← e, nth_get fl _ hlt, List.getElem_cons_drop, List.take_append_drop]
theorem NE.sub {m : FL} (h : NE fl) (hm : ∀ p ∈ m, p ∈ fl) : NE m := fun p hp => h p (hm p hp)
theorem NE.set_ (h : NE fl) (k : Int) (v : ByteArray × List UInt8) (hv : v.1 ≠ ⟨#[]⟩) : NE (tSet ltY fl k v) := fun p hp => by
  rcases tSet_mem _ _ _ _ hp with rfl | q
  · exact hv
  · exact h p q
theorem NE.create (h : NE fl) (s : ByteArray) : NE (yCreate fl s).2 := by
  unfold yCreate
  split
  · rename_i hs
    split
    · exact h
    · split
      · exact h
      · exact h.set_ _ _ (nameOk_ne hs)
  · exact h
theorem NE.has (h : NE fl) (hs : hasN fl s = true) : s ≠ ⟨#[]⟩ := by
  obtain ⟨h1, h2⟩ := has_at hs
  rw [← h2]; exact h _ h1
theorem NE.append (h : NE fl) (s : ByteArray) (p : List UInt8) : NE (yAppend fl s p).2 := by
  unfold yAppend
  split
  · rename_i hs
    split
    · exact h
    · exact h.set_ _ _ (h.has hs)
  · exact h
theorem NE.cut (h : NE fl) (s : ByteArray) (n : Int) : NE (yCut fl s n).2 := by
  unfold yCut
  split
  · rename_i hs
    split
    · exact h
    · exact h.set_ _ _ (h.has hs)
  · exact h
theorem NE.remove (h : NE fl) (s : ByteArray) : NE (yRemove fl s).2 := by
  unfold yRemove
  split
  · exact h.sub (tDel_sub _ _)
  · exact h
theorem NE.rename (h : NE fl) (s t : ByteArray) : NE (yRename fl s t).2 := by
  unfold yRename
  split
  · rename_i ht
    split
    · dsimp only
      split
      · exact (h.sub (tDel_sub _ _)).set_ _ _ (nameOk_ne ht)
      · exact h.set_ _ _ (nameOk_ne ht)
    · exact h
  · exact h
theorem UN.cut (hu : UN fl) (hr : Rising ltY fl) (s : ByteArray) (n : Int) : UN (yCut fl s n).2 := by
  unfold yCut
  split
  · rename_i hs
    split
    · exact hu
    · exact hu.set hr _ _ (fun q hq hne hn => hne (hu.ino hs q hq hn))
  · exact hu
end
end Go.Proofs.Ytmhdhnipljonlaa
namespace Go.Proofs.Ytmhdhnipljonlaa
open Go.RowKit
set_option linter.unusedSimpArgs false
set_option linter.unusedVariables false
/-- The row behind a drop, an insertion: in new memory, stored at gy. -/
theorem RYC.newRow {w0 w w1 : World} {gy : Nat} {lv tv : Value} {cs cs' : CL} {T : List Int} {a3 : Option Addr} {n3 k3 : Nat} (h : RYC w0 w gy lv tv cs T) (hu : Upd [] w w1) (ho : OwnN 3 ywCells w.heap.size 124 w1 (.slice a3 n3 k3) cs') (hr : Rising ltY cs') (hown : ∀ c ∈ cs', c ∈ cs ∨ (c.2.1.2 = ⟨none, 0, 0⟩ ∧ c.2.2 = [])) :
    RYC w0 (w1.setCell ⟨gy, 0, none⟩ (.slice a3 n3 k3)) gy (.slice a3 n3 k3) tv cs' T ∧ Upd [gy] w (w1.setCell ⟨gy, 0, none⟩ (.slice a3 n3 k3)) ∧ (∀ x ∈ blk (.slice a3 n3 k3), w.heap.size ≤ x) := by
  have hst : Upd [gy] w1 (w1.setCell ⟨gy, 0, none⟩ (.slice a3 n3 k3)) := (Upd.refl [gy] _).setCell _ _ (.inl (by simp))
  have hg := h.top.lt
  have h1 := h.upd0 hu
  have hne : ∀ x ∈ blk (.slice a3 n3 k3), x ∉ [gy] := fun x hx hs => by
    have := (ho.ge x hx).1
    simp at hs; omega
  have hty : ∀ (v : Value) (e : TypeId) (C : Array Value) (f : Nat × Nat) (x : Nat), w1.heap[x]? = some (.cells C e f) → e ≠ 79 → x ∉ [gy] := fun v e C f x hx hn hs => by
    simp at hs; subst hs
    exact hn (ty_one hx h1.top)
  refine ⟨⟨h1.top.set_ 0 _, h.gyb, ?_, ?_, ?_, ?_, hr⟩, hu.trans hst (by simp) (fun x hx => .inl hx), fun x hx => (ho.ge x hx).1⟩
  · exact (ho.upd hst hne).base_leR h.old.size
  · refine h1.tak.upd hst (fun x hx => ?_)
    obtain ⟨C, f, hc⟩ := h1.tak.typ x hx
    exact hty tv _ C f x hc (by decide)
  · intro c hc
    rcases hown c hc with q | ⟨q1, q2⟩
    · refine (h1.own c q).upd hst (fun x hx => ?_)
      obtain ⟨C, f, hc'⟩ := (h1.own c q).typ x hx
      exact hty tv _ C f x hc' (by decide)
    · rw [q1, q2]; exact own_nil _ _ _
  · exact h1.old.trans hst (by simp) (fun x hx => .inr (by simp at hx; subst hx; exact h.gyb))
set_option maxRecDepth 20000 in
set_option maxHeartbeats 4000000 in
theorem ryDrop_any {w0 w : World} {gy : Nat} {lv tv : Value} {cs : CL} {T : List Int} (k : Nat) (hk : k < cs.length) (h : RYC w0 w gy lv tv cs T) (hl : cs.length ≤ 1000) :
    Calls Try.prog 95 #[.pointer (some ⟨gy, 0, none⟩), .int .i64 (k : Int)] w fun e w' => e = .returned (.tuple #[]) ∧ ∃ lv', RYC w0 w' gy lv' tv (tDel ltY cs (nth cs k).1) T ∧ Upd [gy] w w' ∧ (∀ x ∈ blk lv', w.heap.size ≤ x) := by
  have HDEL := Lib.hid (delY h.ris k hk)
  obtain ⟨ao, co, rfl, hlc, hcap⟩ := h.lsl
  have HRD := Lib.hid (h.row.rd ywCells_len)
  have H := Lib.hid h
  have y0 := h.c0
  have HY0 := Lib.hid y0
  have HF : Hid (∀ W, Upd [] w W → W.frozen? ⟨gy, 0, none⟩ = false) := fun W hW => (H.out.upd0 hW).top.frozen 0
  have HR1 : Hid (∀ (ty : TypeId) (W : World) (G : Nat), w.heap.size ≤ G → Upd [] w W → Blk W G 124 [] → ∃ v' w', (Builtin.append_ #[77, 77] ty #[.slice (some ⟨G, 0, none⟩) 0 0, .slice ao (k) co]).run Try.prog W = .ok v' w' ∧ (OwnN 3 ywCells w.heap.size 124 w' v' (cs.take (k)) ∧ Upd [G] W w' ∧ Upd [] w w' ∧ ∃ a1 k1, v' = .slice a1 (k) k1)) := by
    intro ty W G hG hU hB
    obtain ⟨v', w', h1, h2, h3, h4⟩ := run_appN (P := Try.prog) (ty := ty) (base := w.heap.size) ywCells_len (by decide) ywCells_one undYW infoYW rfl _ (.slice ao (k) co) [] (cs.take (k)) (ownN_emptyR 3 ywCells _ _ W G hG hB) ((HRD.out.takeR (k) (by omega)).upd0 ywCells_len hU) (by simp; omega) (by unfold maxLen; simp; omega) hU.size
    rw [List.nil_append] at h2
    obtain ⟨a1, k1, h5, _⟩ := h2.rd ywCells_len
    exact ⟨v', w', h1, h2, h3, hU.trans h3 (by simp) (fun y hy => .inr (by simp [blk] at hy; omega)), a1, k1, by rw [h5, List.length_take, Nat.min_eq_left (by omega)]⟩
  obtain ⟨D, hD, hcutD⟩ : ∃ D : Option Addr, D = (if co = k + 1 then ao else ao.map (·.add ((k + 1) * 3))) ∧ ∀ W, (Instr.slice 77 (.slice ao cs.length co) (some (.int .i64 ((k : Int) + 1))) none none).run Try.prog W = .ok (.slice D (cs.length - (k + 1)) (co - (k + 1))) W := ⟨_, rfl, fun W => run_cut (P := Try.prog) undYW sizeYW ao cs.length co (k + 1) (by omega) W⟩
  have HD : Hid (RdN 3 ywCells w (.slice D (cs.length - (k + 1)) (co - (k + 1))) (cs.drop (k + 1))) := by unfold Hid; rw [hD]; exact HRD.out.dropR (k + 1) (by omega)
  have HR2 : Hid (∀ (ty : TypeId) (W : World) (a2 : Option Addr) (k2 : Nat), OwnN 3 ywCells w.heap.size 124 W (.slice a2 (k) k2) (cs.take k) → Upd [] w W → ∃ v' w', (Builtin.append_ #[77, 77] ty #[.slice a2 (k) k2, (.slice D (cs.length - (k + 1)) (co - (k + 1)))]).run Try.prog W = .ok v' w' ∧ (OwnN 3 ywCells w.heap.size 124 w' v' (cs.take k ++ cs.drop (k + 1)) ∧ Upd [] w w' ∧ ∃ a3 n3 k3, v' = .slice a3 n3 k3)) := by
    intro ty W a2 k2 hO hU
    obtain ⟨v', w', h1, h2, h3, h4⟩ := run_appN (P := Try.prog) (ty := ty) (base := w.heap.size) ywCells_len (by decide) ywCells_one undYW infoYW rfl _ (.slice D (cs.length - (k + 1)) (co - (k + 1))) (cs.take k) (cs.drop (k + 1)) hO (HD.out.upd0 ywCells_len hU) (by simp; omega) (by unfold maxLen; simp; omega) hU.size
    obtain ⟨a3, k3, h5, _⟩ := h2.rd ywCells_len
    exact ⟨v', w', h1, h2, hU.trans h3 (by simp) (fun y hy => .inr (hO.ge y hy).1), a3, _, k3, h5⟩
  have hcutA : ∀ W, (Instr.slice 77 (.slice ao cs.length co) none (some (.int .i64 (k : Int))) none).run Try.prog W = .ok (.slice ao k co) W := fun W => run_cut_h (P := Try.prog) undYW sizeYW ao cs.length co k (by omega) W
  have hwr : IntKind.i64.wrap ((k : Int) + 1) = (k : Int) + 1 := by rw [IntKind.wrap_i64]; omega
  have p0 : (0 : Int) ≤ k := by omega
  have p1 : (k : Int) ≤ co := by omega
  have p2 : (k : Int) + 1 ≤ cs.length := by omega
  have p3 : (0 : Int) ≤ (k : Int) + 1 := by omega
  have y0' : (w.alloc (Obj.cells #[] 124)).cell? ⟨gy, 0, none⟩ = some (.slice ao cs.length co) := ((Upd.refl [] w).alloc _).cell y0 (by simp)
  clear h hD
  go_enter Try.func95, Try.ntmps95
  go_wp2_with fail
  go_region_law (first
    | ((refine step_app_of rfl (.tmp 12) (.tmp 19) rfl (.slice a1 k k1) (.slice D (cs.length - (k + 1)) (co - (k + 1))) (by rfl) (by rfl) (HR2.out _ _ a1 k1 ?_ ?_) ?_); (refine OwnN.upd (S := []) ho8 ?_ (by simp); (repeat (first | exact Upd.refl _ _ | apply Upd.drew | apply Upd.drewN | apply Upd.alloc))); (refine hu8.seq ?_; (repeat (first | exact Upd.refl _ _ | apply Upd.drew | apply Upd.drewN | apply Upd.alloc))); (rintro v9 w9 ⟨ho9, hu9, a9, n9, k9, rfl⟩; have c9 := hu9.cell y0 (by simp); have f9 := HF.out w9 hu9; dsimp only))
    | ((refine step_app_of rfl (.tmp 5) (.tmp 11) rfl (.slice (some ⟨w.heap.size, 0, none⟩) 0 0) (.slice ao k co) (by rfl) (by rfl) (HR1.out _ _ w.heap.size (Nat.le_refl _) ?_ ?_) ?_); (repeat (first | exact Upd.refl _ _ | apply Upd.drew | apply Upd.drewN | apply Upd.alloc)); (refine Blk.fresh (w := w) (C := #[]) (xs := []) rfl rfl ?_; (repeat (first | exact Upd.refl _ _ | apply Upd.drew | apply Upd.drewN | apply Upd.alloc))); (rintro v8 w8 ⟨ho8, -, hu8, a1, k1, rfl⟩; have c8 := hu8.cell y0 (by simp); dsimp only)))
  all_goals
    have HO9 := Lib.hid ho9
    have HU9 := Lib.hid hu9
    clear ho9 hu9
    go_wp2_with fail
    go_end0
    obtain ⟨r1, r2, r3⟩ := H.out.newRow HU9.out HO9.out (by rw [← HDEL.out]; exact H.out.ris.del intOrd _) (fun c hc => .inl (by rw [← HDEL.out] at hc; exact tDel_mem cs _ c hc))
    exact ⟨rfl, _, by rw [HDEL.out]; exact r1, r2, r3⟩
end Go.Proofs.Ytmhdhnipljonlaa
