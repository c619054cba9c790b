/- Texts of the proof, joined: The document's yard: its state; Remove. The document's yard: Append. The document's yard: Files, Find. Drawn regions whose order is forced for the most part: their plain walk in the text's order, and forks where two operations may come up. A part of a function's code: from a region on, and what stands behind it. The document's yard: what is read. The document's yard: Read. The document's own look at a name. The document's yard: Rename. -/
import Derived.Test.YtmhdhnipljonlaaMy7
import Derived.Test.YtmhdhnipljonlaaMy4
import Derived.Deep.RegionHeld3
import Derived.RegionTactic
import Derived.Deep.CutBlock
import Derived.Deep.DeepCutAuto
import Derived.Test.YtmhdhnipljonlaaRows
import Derived.Test.YtmhdhnipljonlaaMy3
import Derived.Test.YtmhdhnipljonlaaMy1
import Derived.Deep.RegionWith
namespace Go.Proofs.Ytmhdhnipljonlaa
open Go.RowKit
set_option linter.unusedSimpArgs false
set_option linter.unusedVariables false
/-- The document's yard, as the laws see it; G: its blocks. -/
structure RYD (w0 w : World) (gy : Nat) (G : List Nat) (fl : FL) (T : List Int) : Prop where
  ex : ∃ lv tv cs, RYC w0 w gy lv tv cs T ∧ filesOf cs = fl ∧ cs.length ≤ 12 ∧ (∀ c ∈ cs, 1 ≤ c.1 ∧ c.1 ≤ 12 ∧ c.2.2.length ≤ 65536) ∧ G = ryFoot gy lv tv cs
def RYOut (w0 w : World) (gy : Nat) (G : List Nat) (fl' : FL) (T' : List Int) (w' : World) : Prop := ∃ G', RYD w0 w' gy G' fl' T' ∧ Upd G w w' ∧ (∀ x ∈ G', x ∈ G ∨ w.heap.size ≤ x)
section
variable {w0 w w' : World} {gy : Nat} {G : List Nat} {fl fl' : FL} {T T' : List Int} {lv tv lv' tv' : Value} {cs cs' : CL}
theorem RYD.old (h : RYD w0 w gy G fl T) : Upd [] w0 w := by
  obtain ⟨lv, tv, cs, hc, -⟩ := h.ex
  exact hc.old
theorem RYD.ge (h : RYD w0 w gy G fl T) : ∀ x ∈ G, w0.heap.size ≤ x ∧ x < w.heap.size := by
  obtain ⟨lv, tv, cs, hc, -, -, -, rfl⟩ := h.ex
  exact hc.ge
theorem RYD.upd (h : RYD w0 w gy G fl T) {S : List Nat} (hu : Upd S w w') (hs : ∀ x ∈ G, x ∉ S) (hS : ∀ x ∈ S, w0.heap.size ≤ x) : RYD w0 w' gy G fl T := by
  obtain ⟨lv, tv, cs, hc, h1, h2, h3, rfl⟩ := h.ex
  exact ⟨lv, tv, cs, hc.upd hu hs hS, h1, h2, h3, rfl⟩
theorem RYD.upd0 (h : RYD w0 w gy G fl T) (hu : Upd [] w w') : RYD w0 w' gy G fl T := h.upd hu (by simp) (by simp)
theorem RYD.out0 (h : RYD w0 w gy G fl T) (hu : Upd [] w w') : RYOut w0 w gy G fl T w' := ⟨G, h.upd0 hu, hu.mono (by simp), fun x hx => .inl hx⟩
theorem RYOut.of (h' : RYC w0 w' gy lv' tv' cs' T') (hfl : filesOf cs' = fl') (hl : cs'.length ≤ 12) (hin : ∀ c ∈ cs', 1 ≤ c.1 ∧ c.1 ≤ 12 ∧ c.2.2.length ≤ 65536) {S : List Nat} (hu : Upd S w w') (hS : ∀ x ∈ S, x ∈ ryFoot gy lv tv cs)
    (h1 : ∀ x ∈ blk lv', x ∈ blk lv ∨ w.heap.size ≤ x) (h2 : ∀ x ∈ blk tv', x ∈ blk tv ∨ w.heap.size ≤ x) (h3 : ∀ c ∈ cs', ∀ x ∈ blk (slv c.2.1.2), (∃ d ∈ cs, x ∈ blk (slv d.2.1.2)) ∨ w.heap.size ≤ x) : RYOut w0 w gy (ryFoot gy lv tv cs) fl' T' w' := by
  refine ⟨ryFoot gy lv' tv' cs', ⟨lv', tv', cs', h', hfl, hl, hin, rfl⟩, hu.mono (fun x hx => .inl (hS x hx)), fun x hx => ?_⟩
  rcases (ryFoot_mem _ _ _ _ _).1 hx with rfl | hx | hx | ⟨c, hc, hx⟩
  · exact .inl ((ryFoot_mem _ _ _ _ _).2 (.inl rfl))
  · exact (h1 x hx).imp (fun q => (ryFoot_mem _ _ _ _ _).2 (.inr (.inl q))) id
  · exact (h2 x hx).imp (fun q => (ryFoot_mem _ _ _ _ _).2 (.inr (.inr (.inl q)))) id
  · exact (h3 c hc x hx).imp (fun q => (ryFoot_mem _ _ _ _ _).2 (.inr (.inr (.inr q)))) id
theorem foot_gy : gy ∈ ryFoot gy lv tv cs := (ryFoot_mem _ _ _ _ _).2 (.inl rfl)
theorem foot_lv {x : Nat} (h : x ∈ blk lv) : x ∈ ryFoot gy lv tv cs := (ryFoot_mem _ _ _ _ _).2 (.inr (.inl h))
theorem foot_tv {x : Nat} (h : x ∈ blk tv) : x ∈ ryFoot gy lv tv cs := (ryFoot_mem _ _ _ _ _).2 (.inr (.inr (.inl h)))
/-- The file with a name: where it stands among the rows. -/
theorem fIx_at {s : ByteArray} (hs : hasN (filesOf cs) s = true) : ∃ k, k < cs.length ∧ fIx (filesOf cs) s = (k : Int) ∧ (nth cs k).1 = inoN (filesOf cs) s ∧ (nth cs k).2.1.1 = s ∧ (nth cs k).2.2 = bytesN (filesOf cs) s := by
  have hlt : findN (filesOf cs) s < cs.length := by unfold hasN at hs; have := of_decide_eq_true hs; rwa [files_len] at this
  have hat := findN_at (filesOf cs) s (by rw [files_len]; exact hlt)
  refine ⟨findN (filesOf cs) s, hlt, by unfold fIx; rw [if_pos hs], ?_, ?_, ?_⟩
  · unfold inoN; rw [nth_files cs _ hlt]
  · rw [nth_files cs _ hlt] at hat; exact hat
  · unfold bytesN; rw [nth_files cs _ hlt]
theorem fIx_neg {s : ByteArray} (hs : hasN fl s = false) : fIx fl s = -1 := by unfold fIx; rw [hs]; rfl
set_option maxRecDepth 20000 in
set_option maxHeartbeats 1000000 in
theorem ryRemove_any (s : ByteArray) (h : RYD w0 w gy G fl T) :
    Calls Try.prog 80 #[.pointer (some ⟨gy, 0, none⟩), sv s] w fun e w' => e = .returned (.int .i64 (yRemove fl s).1) ∧ RYOut w0 w gy G (yRemove fl s).2 T w' := by
  obtain ⟨lv, tv, cs, hc, rfl, hl, hin, rfl⟩ := h.ex
  have HC := Lib.hid hc
  have HL : Hid (cs.length ≤ 1000) := by unfold Hid; omega
  have H := Lib.hid h
  have HIN := Lib.hid hin
  cases hs : hasN (filesOf cs) s with
  | false =>
    have HY : Hid (yRemove (filesOf cs) s = (7, filesOf cs)) := by unfold Hid yRemove; rw [hs]; rfl
    have HI := Lib.hid (fIx_neg hs)
    clear h hc hin hs
    go_enter Try.func80, Try.ntmps80
    go_wp2_with fail
    (with_reducible refine (ryFind_any s HC.out HL.out).mono ?_)
    rw [HI.out]
    rintro e w1 ⟨rfl, hu1⟩
    have HO := Lib.hid (H.out.out0 hu1)
    clear hu1
    go_wp2_with fail
    go_ret
    rw [HY.out]
    exact ⟨rfl, HO.out⟩
  | true =>
    obtain ⟨k, hk, h1, h2, h3, h4⟩ := fIx_at hs
    have HY : Hid (yRemove (filesOf cs) s = (0, tDel ltY (filesOf cs) (nth cs k).1)) := by unfold Hid yRemove; rw [hs, h2]; rfl
    have HI := Lib.hid h1
    have HK := Lib.hid hk
    have p0 : ¬ (k : Int) < 0 := by omega
    clear h hc hin hs h1 h2 h3 h4 hk
    go_enter Try.func80, Try.ntmps80
    go_wp2_with fail
    (with_reducible refine (ryFind_any s HC.out HL.out).mono ?_)
    rw [HI.out]
    rintro e w1 ⟨rfl, hu1⟩
    have HC1 := Lib.hid (HC.out.upd0 hu1)
    have HU1 := Lib.hid hu1
    clear hu1
    go_wp2_with fail
    (with_reducible refine (ryDrop_any k HK.out HC1.out HL.out).mono ?_)
    rintro e w2 ⟨rfl, lv', h2, hu2, hf2⟩
    have H2 := Lib.hid h2
    have HU2 := Lib.hid hu2
    have HF2 := Lib.hid hf2
    clear h2 hu2 hf2
    go_wp2_with fail
    go_ret
    rw [HY.out]
    refine ⟨rfl, RYOut.of H2.out (mapY_del _ cs _).symm ?_ (fun c hc => HIN.out c (tDel_mem cs _ c hc)) (HU1.out.trans HU2.out (by simp) (fun x hx => .inl hx)) (fun x hx => by simp at hx; subst hx; exact foot_gy) (fun x hx => .inr ?_) (fun x hx => .inl hx) (fun c hc x hx => .inl ⟨c, tDel_mem cs _ c hc, hx⟩)⟩
    · have := tDel_len (lt := ltY) cs (nth cs k).1; omega
    · have := HF2.out x hx; have := HU1.out.size; omega
end
end Go.Proofs.Ytmhdhnipljonlaa
namespace Go.Proofs.Ytmhdhnipljonlaa
open Go.RowKit
set_option linter.unusedSimpArgs false
set_option linter.unusedVariables false
/-- A store into a row. -/
theorem RYC.setRow {w0 w w1 : World} {gy g n cap : Nat} {tv : Value} {cs : CL} {T : List Int} (h : RYC w0 w gy (.slice (some ⟨g, 0, none⟩) n cap) tv cs T) (hu : Upd [] w w1) (k i : Nat) (hk : k < cs.length) (hi : i < 3) (u : Value) (y : YW) (hy : ywCells y = (ywCells (nth cs k)).set i u) (hkey : y.1 = (nth cs k).1) (hown : Own bv w0.heap.size 5 w1 (slv y.2.1.2) y.2.2) :
    RYC w0 (w1.setCell ⟨g, k * 3 + i, none⟩ u) gy (.slice (some ⟨g, 0, none⟩) n cap) tv (tSet ltY cs y.1 y.2) T ∧ Upd [g] w (w1.setCell ⟨g, k * 3 + i, none⟩ u) := by
  have hst : Upd [g] w1 (w1.setCell ⟨g, k * 3 + i, none⟩ u) := (Upd.refl [g] _).setCell _ _ (.inl (by simp))
  have h1 := h.upd0 hu
  have hset : tSet ltY cs y.1 y.2 = cs.set k y := by rw [hkey, setY h.ris k hk, ← hkey]
  obtain ⟨Cg, fg, hgt⟩ := h1.row.typ g (by simp [blk])
  have hty : ∀ (e : TypeId) (C : Array Value) (f : Nat × Nat) (x : Nat), w1.heap[x]? = some (.cells C e f) → e ≠ 124 → x ∉ [g] := fun e C f x hx hn hs => by
    simp at hs; subst hs
    exact hn (ty_one hx hgt)
  have hge := (h1.row.ge g (by simp [blk])).1
  refine ⟨⟨h1.top.upd hst (hty _ _ _ _ h1.top (by decide)), h.gyb, ?_, ?_, ?_, ?_, h.ris.set_ intOrd _ _⟩, hu.trans hst (by simp) (fun x hx => .inl hx)⟩
  · rw [hset]
    exact h1.row.set_ ywCells_len k i hk hi u y (by rw [hy, nth_get cs k hk])
  · refine h1.tak.upd hst (fun x hx => ?_)
    obtain ⟨C, f, hc⟩ := h1.tak.typ x hx
    exact hty _ C f x hc (by decide)
  · intro c hc
    rcases tSet_mem cs _ _ c hc with rfl | q
    · refine hown.upd hst (fun x hx => ?_)
      obtain ⟨C, f, hc'⟩ := hown.typ x hx
      exact hty _ C f x hc' (by decide)
    · refine (h1.own c q).upd hst (fun x hx => ?_)
      obtain ⟨C, f, hc'⟩ := (h1.own c q).typ x hx
      exact hty _ C f x hc' (by decide)
  · exact h1.old.trans hst (by simp) (fun x hx => .inr (by simp at hx; subst hx; exact hge))
/-- A row, its cells. -/
theorem RYC.rowAt {w0 w : World} {gy : Nat} {lv tv : Value} {cs : CL} {T : List Int} (h : RYC w0 w gy lv tv cs T) (k : Nat) (hk : k < cs.length) :
    ∃ g cap, lv = .slice (some ⟨g, 0, none⟩) cs.length cap ∧ cs.length ≤ cap ∧ cap ≤ 9223372036854775807 ∧ ∀ i, i < 3 → ∀ W, Upd [] w W → W.cell? ⟨g, k * 3 + i, none⟩ = (ywCells (nth cs k))[i]? ∧ W.frozen? ⟨g, k * 3 + i, none⟩ = false := by
  obtain ⟨a, cap, rfl, h1, h2⟩ := h.lsl
  obtain ⟨g, rfl, -⟩ := h.row.addrR (by omega) rfl
  exact ⟨g, cap, rfl, h1, h2, fun i hi W hW => ⟨(h.row.upd hW (by simp)).cellR ywCells_len k i hk hi, (h.row.upd hW (by simp)).frozenR _⟩⟩
theorem own_len {base : Nat} {e : TypeId} {w : World} {a : Option Addr} {n k : Nat} {bs : List UInt8} (h : Own bv base e w (.slice a n k) bs) : n = bs.length ∧ bs.length ≤ k ∧ k ≤ 9223372036854775807 := by
  obtain ⟨a', k', he, h1, h2, -⟩ := h.rd
  obtain ⟨rfl, rfl, rfl⟩ := Value.slice.inj he
  exact ⟨rfl, h1, by unfold maxLen at h2; omega⟩
section
variable {w0 w w' : World} {gy : Nat} {G : List Nat} {fl : FL} {T : List Int}
set_option maxRecDepth 20000 in
set_option maxHeartbeats 4000000 in
theorem ryAppend_any (s : ByteArray) (pv : Value) (p : List UInt8) (hp : Bytes w pv p) (hpl : p.length ≤ 1000000) (h : RYD w0 w gy G fl T) :
    Calls Try.prog 77 #[.pointer (some ⟨gy, 0, none⟩), sv s, pv] w fun e w' => e = .returned (.int .i64 (yAppend fl s p).1) ∧ RYOut w0 w gy G (yAppend fl s p).2 T w' := by
  obtain ⟨lv, tv, cs, hc, rfl, hl, hin, rfl⟩ := h.ex
  have HC := Lib.hid hc
  have HL : Hid (cs.length ≤ 1000) := by unfold Hid; omega
  have H := Lib.hid h
  have HIN := Lib.hid hin
  have HP := Lib.hid hp
  obtain ⟨pa, pk, rfl, hp1, hp2, -⟩ := hp
  have hpk : pk ≤ 9223372036854775807 := by unfold maxLen at hp2; omega
  cases hs : hasN (filesOf cs) s with
  | false =>
    have HY : Hid (yAppend (filesOf cs) s p = (7, filesOf cs)) := by unfold Hid yAppend; rw [hs]; rfl
    have HI := Lib.hid (fIx_neg hs)
    clear h hc hin hs hp1 hp2
    go_enter Try.func77, Try.ntmps77
    go_wp2_with fail
    (with_reducible refine (ryFind_any s HC.out HL.out).mono ?_)
    rw [HI.out]
    rintro e w1 ⟨rfl, hu1⟩
    have HO := Lib.hid (H.out.out0 hu1)
    clear hu1
    go_wp2_with fail
    go_ret
    rw [HY.out]
    exact ⟨rfl, HO.out⟩
  | true =>
    obtain ⟨k, hk, h1, h2, h3, h4⟩ := fIx_at hs
    have hyA : yAppend (filesOf cs) s p = if 65536 < (bytesN (filesOf cs) s).length + p.length then (9, filesOf cs) else (0, tSet ltY (filesOf cs) (inoN (filesOf cs) s) (s, bytesN (filesOf cs) s ++ p)) := by unfold yAppend; rw [if_pos hs]
    rw [← h2, ← h4] at hyA
    have HI := Lib.hid h1
    have HK := Lib.hid hk
    have hmem := nth_mem k hk
    have hbd := hin _ hmem
    have ho := hc.own _ hmem
    obtain ⟨g, cap, rfl, hc1, hc2, hrow⟩ := hc.rowAt k hk
    obtain ⟨⟨ino, ⟨nm, ⟨oa, on, ok⟩⟩, old⟩, hx⟩ : ∃ x, nth cs k = x := ⟨_, rfl⟩
    have HX := Lib.hid hx
    rw [hx] at hyA h3 hbd ho hrow
    have h3 : nm = s := h3
    subst h3
    have HO := Lib.hid (show Own bv w0.heap.size 5 w (.slice oa on ok) old from ho)
    obtain ⟨hon, hok1, hok2⟩ := own_len HO.out
    subst hon
    have hob : old.length ≤ 65536 := hbd.2.2
    have HY := Lib.hid hyA
    have HBD := Lib.hid hbd
    have HR2 : Hid (∀ W, Upd [] w W → W.cell? ⟨g, k * 3 + 2, none⟩ = some (.slice oa old.length ok)) := fun W hW => (hrow 2 (by omega) W hW).1
    have HFR : Hid (∀ W, Upd [] w W → W.frozen? ⟨g, k * 3 + 2, none⟩ = false) := fun W hW => (hrow 2 (by omega) W hW).2
    have hpm : p.length ≤ pk := hp1
    have p0 : (0 : Int) ≤ k := by omega
    have p1 : (k : Int) < cs.length := by omega
    have q0 : ¬ (k : Int) < 0 := by omega
    clear h hc hin hs h1 h2 h4 hk hp1 hp2 hmem hbd ho hrow hx hyA
    go_enter Try.func77, Try.ntmps77
    go_wp2_with fail
    (with_reducible refine (ryFind_any nm HC.out HL.out).mono ?_)
    rw [HI.out]
    rintro e w1 ⟨rfl, hu1⟩
    have HC1 := Lib.hid (HC.out.upd0 hu1)
    have HU1 := Lib.hid hu1
    have y0 := HC1.out.c0
    have c2 := HR2.out w1 hu1
    clear hu1
    by_cases hbig : 65536 < old.length + p.length
    · have t1 : (65536 : Int) < (old.length : Int) + p.length := by omega
      have HY1 : Hid (yAppend (filesOf cs) nm p = (9, filesOf cs)) := by unfold Hid; rw [HY.out]; exact if_pos hbig
      have HO9 := Lib.hid (H.out.out0 HU1.out)
      clear hbig
      go_wp2_with fail
      go_ret
      rw [HY1.out]
      exact ⟨rfl, HO9.out⟩
    · have t1 : ¬ (65536 : Int) < (old.length : Int) + p.length := by omega
      have HY1 : Hid (yAppend (filesOf cs) nm p = (0, tSet ltY (filesOf cs) ino (nm, old ++ p))) := by unfold Hid; rw [HY.out]; exact if_neg hbig
      have HBG : Hid (old.length + p.length ≤ 65536) := by unfold Hid; omega
      have HOLD : Hid (Bytes w1 (.slice oa old.length ok) old) := HO.out.rd.upd0 HU1.out
      have HPW : Hid (Bytes w1 (.slice pa p.length pk) p) := HP.out.upd0 HU1.out
      clear hbig HY
      have HR1 : Hid (∀ (ty : TypeId) (W : World), Upd [] w1 W → Blk W w1.heap.size 5 [] → ∃ v' w', (Builtin.append_ #[27, 27] ty #[.slice (some ⟨w1.heap.size, 0, none⟩) 0 0, .slice oa old.length ok]).run Try.prog W = .ok v' w' ∧ (Own bv w1.heap.size 5 w' v' old ∧ Upd [] w1 w' ∧ ∃ a1 n1 k1, v' = .slice a1 n1 k1)) := by
        intro ty W hU hB
        obtain ⟨v', w', h1, h2, h3, h4⟩ := run_app (P := Try.prog) (w := W) (ty := ty) bv_one Try.underlying27 infoB8 rfl _ (.slice oa old.length ok) [] old (own_emptyR w1.heap.size W w1.heap.size (Nat.le_refl _) hB) (HOLD.out.upd0 hU) (by simp; omega) (by simp [maxLen]; omega) hU.size
        rw [List.nil_append] at h2
        obtain ⟨a1, k1, h5, _⟩ := h2.rd
        exact ⟨v', w', h1, h2, hU.trans h3 (by simp) (fun y hy => .inr (by simp [blk] at hy; omega)), a1, _, k1, h5⟩
      have HR3 : Hid (∀ (ty : TypeId) (W : World) (a1 : Option Addr) (n1 k1 : Nat), Own bv w1.heap.size 5 W (.slice a1 n1 k1) old → Upd [] w1 W → ∃ v' w', (Builtin.append_ #[27, 27] ty #[.slice a1 n1 k1, .slice pa p.length pk]).run Try.prog W = .ok v' w' ∧ (Own bv w1.heap.size 5 w' v' (old ++ p) ∧ Upd [] w1 w' ∧ ∃ a9 n9 k9, v' = .slice a9 n9 k9)) := by
        intro ty W a1 n1 k1 hO hU
        obtain ⟨v', w', h1, h2, h3, h4⟩ := run_app (P := Try.prog) (w := W) (ty := ty) bv_one Try.underlying27 infoB8 rfl _ (.slice pa p.length pk) old p hO (HPW.out.upd0 hU) (by omega) (by simp [maxLen]; omega) hU.size
        obtain ⟨a9, k9, h5, _⟩ := h2.rd
        exact ⟨v', w', h1, h2, hU.trans h3 (by simp) (fun y hy => .inr (hO.ge y hy).1), a9, _, k9, h5⟩
      have Y0 := Lib.hid y0
      have CR := Lib.hid c2
      have y0' : (w1.alloc (Obj.cells #[] 5)).cell? ⟨gy, 0, none⟩ = some (.slice (some ⟨g, 0, none⟩) cs.length cap) := ((Upd.refl [] w1).alloc _).cell y0 (by simp)
      have c2' : (w1.alloc (Obj.cells #[] 5)).cell? ⟨g, k * 3 + 2, none⟩ = some (.slice oa old.length ok) := ((Upd.refl [] w1).alloc _).cell c2 (by simp)
      go_wp2_with fail
      go_region_law (first
        | ((refine step_app_of rfl (.tmp 40) (.tmp 41) rfl (.slice a1 n1 k1) (.slice pa p.length pk) (by rfl) (by rfl) (HR3.out _ _ a1 n1 k1 ?_ ?_) ?_); (refine Own.upd (S := []) ho8 ?_ (by simp); (repeat (first | exact Upd.refl _ _ | apply Upd.drew | apply Upd.drewN | apply Upd.alloc))); (refine hu8.seq ?_; (repeat (first | exact Upd.refl _ _ | apply Upd.drew | apply Upd.drewN | apply Upd.alloc))); (rintro v9 w9 ⟨ho9, hu9, a9, n9, k9, rfl⟩; have y9 := hu9.cell Y0.out (by simp); have c9 := hu9.cell CR.out (by simp); have f9 := HFR.out w9 (HU1.out.seq hu9); dsimp only))
        | ((refine step_app_of rfl (.tmp 31) (.tmp 39) rfl (.slice (some ⟨w1.heap.size, 0, none⟩) 0 0) (.slice oa old.length ok) (by rfl) (by rfl) (HR1.out _ _ ?_ ?_) ?_); (repeat (first | exact Upd.refl _ _ | apply Upd.drew | apply Upd.drewN | apply Upd.alloc)); (refine Blk.fresh (w := w1) (C := #[]) (xs := []) rfl rfl ?_; (repeat (first | exact Upd.refl _ _ | apply Upd.drew | apply Upd.drewN | apply Upd.alloc))); (rintro v8 w8 ⟨ho8, hu8, a1, n1, k1, rfl⟩; have y8 := hu8.cell Y0.out (by simp); have c8 := hu8.cell CR.out (by simp); dsimp only)))
      all_goals
        have HO9 := Lib.hid ho9
        have HU9 := Lib.hid hu9
        clear ho9 hu9
        go_wp2_with fail
        go_ret
        obtain ⟨r1, r2⟩ := HC.out.setRow (HU1.out.seq HU9.out) k 2 HK.out (by omega) (.slice a9 n9 k9) (ino, ((nm, (⟨a9, n9, k9⟩ : Sl)), old ++ p)) (by rw [HX.out]; rfl) (by rw [HX.out]) (HO9.out.base_le (Nat.le_trans HC.out.old.size HU1.out.size))
        rw [HY1.out]
        refine ⟨rfl, RYOut.of r1 (mapY_set _ cs ino ((nm, (⟨a9, n9, k9⟩ : Sl)), old ++ p)).symm ?_ (fun c hc => ?_) r2 (fun x hx => by simp at hx; subst hx; exact foot_lv (by simp [blk])) (fun x hx => .inl hx) (fun x hx => .inl hx) (fun c hc x hx => ?_)⟩
        · show (tSet ltY cs ino _).length ≤ 12
          have e := setY HC.out.ris k HK.out ((nm, (⟨a9, n9, k9⟩ : Sl)), old ++ p)
          rw [HX.out] at e
          rw [show tSet ltY cs ino ((nm, (⟨a9, n9, k9⟩ : Sl)), old ++ p) = _ from e, List.length_set]; exact hl
        · rcases tSet_mem cs _ _ c hc with rfl | q
          · exact ⟨HBD.out.1, HBD.out.2.1, by show (old ++ p).length ≤ 65536; rw [List.length_append]; exact HBG.out⟩
          · exact HIN.out c q
        · rcases tSet_mem cs _ _ c hc with rfl | q
          · exact .inr (Nat.le_trans HU1.out.size (HO9.out.ge x hx).1)
          · exact .inl ⟨c, q, hx⟩
end
end Go.Proofs.Ytmhdhnipljonlaa
namespace Go.Proofs.Ytmhdhnipljonlaa
open Go.RowKit
set_option linter.unusedSimpArgs false
set_option linter.unusedVariables false
section
variable {w0 w w' : World} {gy : Nat} {G : List Nat} {fl : FL} {T : List Int}
set_option maxRecDepth 20000 in
set_option maxHeartbeats 4000000 in
theorem ryFiles_any (h : RYD w0 w gy G fl T) :
    Calls Try.prog 43 #[.pointer (some ⟨gy, 0, none⟩)] w fun e w' => ∃ v, e = .returned v ∧ OwnN 3 afCells w.heap.size 31 w' v (yFiles fl) ∧ Upd [] w w' := by
  obtain ⟨lv, tv, cs, hc, rfl, hl, hin, rfl⟩ := h.ex
  have HC := Lib.hid hc
  obtain ⟨ao, co, rfl, hlc, hcap⟩ := hc.lsl
  have HRD := Lib.hid (hc.row.rd ywCells_len)
  clear h hc
  go_enter Try.func43, Try.ntmps43
  go_wp2_with fail
  go_loopw [3, 4] (fun v i wr => ∃ k : Nat, k ≤ cs.length ∧ i = .int .i64 k ∧ Hid (OwnN 3 afCells w.heap.size 31 wr v ((yFiles (filesOf cs)).take k)) ∧ Hid (Upd [] w wr)) (fun _ i _ => cs.length - (intOf i).toNat)
  case atStart => exact ⟨0, Nat.zero_le _, rfl, OwnN.nil _ _ _, Upd.refl _ _⟩
  case round =>
    obtain ⟨k, hk, rfl, ho, hu⟩ := hrel
    have y0 := (HC.out.upd0 hu.out).c0
    by_cases hlt : k < cs.length
    · have HT := Lib.hid (files_take cs k hlt)
      obtain ⟨b, off, hb, hcell⟩ : ∃ b off, ao = some ⟨b, off, none⟩ ∧ ∀ j, j < cs.length → ∀ i, i < 3 → w.cell? ⟨b, off + (j * 3 + i), none⟩ = (ywCells (nth cs j))[i]? := by
        obtain ⟨a', k', he, -, -, hq⟩ := HRD.out
        obtain ⟨rfl, -, -⟩ := Value.slice.inj he
        exact hq (by intro h; simp [h] at hlt)
      subst hb
      have hown := HC.out.own _ (nth_mem k hlt)
      have c0 : wr.cell? ⟨b, off + k * 3, none⟩ = some (.int .i64 (nth cs k).1) := hu.out.cell (hcell k hlt 0 (by omega)) (by simp)
      have c1 : wr.cell? ⟨b, off + k * 3 + 1, none⟩ = some (.string (nth cs k).2.1.1) := hu.out.cell (hcell k hlt 1 (by omega)) (by simp)
      have c2 : wr.cell? ⟨b, off + k * 3 + 2, none⟩ = some (slv (nth cs k).2.1.2) := hu.out.cell (hcell k hlt 2 (by omega)) (by simp)
      have C0 : Hid (w.cell? ⟨b, off + k * 3, none⟩ = some (.int .i64 (nth cs k).1)) := hcell k hlt 0 (by omega)
      have C1 : Hid (w.cell? ⟨b, off + k * 3 + 1, none⟩ = some (.string (nth cs k).2.1.1)) := hcell k hlt 1 (by omega)
      have C2 : Hid (w.cell? ⟨b, off + k * 3 + 2, none⟩ = some (slv (nth cs k).2.1.2)) := hcell k hlt 2 (by omega)
      have Y0 := Lib.hid HC.out.c0
      have hlen2 : ((yFiles (filesOf cs)).take k).length = k := by unfold yFiles; rw [List.length_take, List.length_map, files_len]; omega
      generalize nth cs k = c at *
      obtain ⟨x, ⟨nm, ⟨sa, sn, sk⟩⟩, bs⟩ := c
      obtain ⟨hsn, -, -⟩ := own_len (show Own bv w0.heap.size 5 w (.slice sa sn sk) bs from hown)
      subst hsn
      have HT : Hid ((yFiles (filesOf cs)).take (k + 1) = (yFiles (filesOf cs)).take k ++ [(x, nm, (bs.length : Int))]) := HT
      obtain ⟨ao2, co2, rfl, -⟩ := ho.out.rd afCells_len
      rw [hlen2] at ho ⊢
      have HLEN := Lib.hid hlen2
      generalize hks : (yFiles (filesOf cs)).take k = ks at *
      have HO := Lib.hid ho.out
      have HU := Lib.hid hu.out
      have q0 : (0 : Int) ≤ k := by omega
      have q1 : (k : Int) < cs.length := by omega
      simp only [slv] at c0 c1 c2 C2
      have HRUN : Hid (∀ (ty : TypeId) (W : World), Upd [] wr W → Blk W wr.heap.size 31 [iv x, sv nm, .int .i64 (bs.length : Int)] → ∃ v' w', (Builtin.append_ #[32, 32] ty #[.slice ao2 k co2, .slice (some ⟨wr.heap.size, 0, none⟩) 1 1]).run Try.prog W = .ok v' w' ∧ (OwnN 3 afCells w.heap.size 31 w' v' (ks ++ [(x, nm, (bs.length : Int))]) ∧ Upd [] w w')) := by
        intro ty W hW hB
        have hrd : RdN 3 afCells W (.slice (some ⟨wr.heap.size, 0, none⟩) 1 1) [(x, nm, (bs.length : Int))] := ⟨_, 1, rfl, by simp, by simp [maxLen], fun _ => ⟨wr.heap.size, 0, rfl, fun j hj i hi => by
          simp at hj; subst hj
          have := hB.cell i
          rw [nth_cons_zero, show 0 + (0 * 3 + i) = i by omega]; exact this⟩⟩
        obtain ⟨v', w', h1, h2, h3, h4⟩ := run_appN (P := Try.prog) (ty := ty) (base := w.heap.size) afCells_len (by decide) afCells_one undAF infoAF rfl (.slice ao2 k co2) (.slice (some ⟨wr.heap.size, 0, none⟩) 1 1) ks [(x, nm, (bs.length : Int))] (HO.out.upd hW (by simp)) hrd (by rw [HLEN.out]; simp; omega) (by unfold maxLen; rw [HLEN.out]; simp; omega) (Nat.le_trans HU.out.size hW.size)
        exact ⟨v', w', h1, h2, (HU.out.seq hW).trans h3 (by simp) (fun y hy => .inr ((HO.out.ge y hy).1))⟩
      clear hcell hown ho hu hlen2 hks
      go_wp2_with fail
      go_region_held3 (fun W => W.cell? ⟨gy, 0, none⟩ = some (.slice (some ⟨b, off, none⟩) cs.length co) ∧ W.cell? ⟨b, off + k * 3, none⟩ = some (.int .i64 x) ∧ W.cell? ⟨b, off + k * 3 + 1, none⟩ = some (.string nm) ∧ W.cell? ⟨b, off + k * 3 + 2, none⟩ = some (.slice sa bs.length sk)) (first | go_keep | exact ⟨hu9.cell Y0.out (by simp), hu9.cell C0.out (by simp), hu9.cell C1.out (by simp), hu9.cell C2.out (by simp)⟩) (first
        | ((refine step_app_of rfl (.tmp 14) (.tmp 41) rfl (.slice ao2 k co2) (.slice (some ⟨wr.heap.size, 0, none⟩) 1 1) (by rfl) (by rfl) (HRUN.out _ _ ?_ ?_) ?_); (repeat (first | exact Upd.refl _ _ | apply Upd.drew | apply Upd.drewN | apply Upd.alloc)); (refine Blk.fresh (w := wr) rfl rfl ?_; (repeat (first | exact Upd.refl _ _ | apply Upd.drew | apply Upd.drewN | apply Upd.alloc))); (rintro v9 w9 ⟨ho9, hu9⟩; dsimp only)))
      all_goals
        have HO9 := Lib.hid ho9
        have HU9 := Lib.hid hu9
        clear ho9 hu9
        go_wp2_with fail
        go_roundw
        case rel => exact ⟨k + 1, by omega, by go_num, by rw [HT.out]; exact HO9, HU9⟩
        case measure => simp [intOf]; omega
    · obtain rfl : k = cs.length := by omega
      have q1 : ¬ ((cs.length : Nat) : Int) < cs.length := by omega
      go_wp2_with fail
      go_ret
      exact ⟨_, rfl, by have := ho.out; rwa [List.take_of_length_le (by unfold yFiles; rw [List.length_map, files_len]; omega)] at this, hu.out⟩
set_option maxRecDepth 20000 in
set_option maxHeartbeats 4000000 in
theorem ryFindF_any (s : ByteArray) (h : RYD w0 w gy G fl T) :
    Calls Try.prog 81 #[.pointer (some ⟨gy, 0, none⟩), sv s] w fun e w' => e = .returned (.tuple #[af (yFindF fl s).1, .bool (yFindF fl s).2]) ∧ Upd [] w w' := by
  obtain ⟨lv, tv, cs, hc, rfl, hl, hin, rfl⟩ := h.ex
  have hu0 := (Upd.refl [] w).alloc (.cells #[.int .i64 0, .string ⟨#[]⟩, .int .i64 0] 31)
  have HC := Lib.hid (hc.upd0 hu0)
  have H0 := Lib.hid (h.upd0 hu0)
  have HU0 := Lib.hid hu0
  have hB0 := Lib.hid (Blk.new w 31 [.int .i64 0, .string ⟨#[]⟩, .int .i64 0])
  have HL : Hid (cs.length ≤ 1000) := by unfold Hid; omega
  cases hh : hasN (filesOf cs) s with
  | false =>
    have HI := Lib.hid (fIx_neg hh)
    have HY : Hid (yFindF (filesOf cs) s = ((0, ⟨#[]⟩, 0), false)) := by unfold Hid yFindF; rw [hh]; rfl
    clear hc h hin hh hu0
    go_enter Try.func81, Try.ntmps81
    go_wp2_with fail
    (with_reducible refine (ryFind_any s HC.out HL.out).mono ?_)
    rw [HI.out]
    rintro e w1 ⟨rfl, hu1⟩
    have hB1 := hB0.out.upd hu1 (by simp)
    have hlt : w.heap.size < w1.heap.size := hB1.lt
    have d0 := hB1.cell 0
    have d1 := hB1.cell 1
    have d2 := hB1.cell 2
    have f0 := hB1.frozen 0
    have f1 := hB1.frozen 1
    have f2 := hB1.frozen 2
    simp only [List.getElem?_cons_zero, List.getElem?_cons_succ] at d0 d1 d2
    have HB := Lib.hid (blk_three hB1 (.int .i64 0) (.string ⟨#[]⟩) (.int .i64 0))
    have HU := Lib.hid (((((HU0.out.seq hu1).setCell ⟨w.heap.size, 0, none⟩ (.int .i64 0) (.inr (Nat.le_refl _))).setCell ⟨w.heap.size, 1, none⟩ (.string ⟨#[]⟩) (.inr (Nat.le_refl _))).setCell ⟨w.heap.size, 2, none⟩ (.int .i64 0) (.inr (Nat.le_refl _))))
    clear hu1 hB1
    go_wp2_with fail
    have e0 := HB.out.cell 0
    have e1 := HB.out.cell 1
    have e2 := HB.out.cell 2
    have hU := HU.out
    clear HB HU
    simp only [List.getElem?_cons_zero, List.getElem?_cons_succ] at e0 e1 e2
    generalize World.setCell _ _ _ = W at *
    rw [HY.out]
    exact bodyPost_ret (v := .tuple #[af (0, ⟨#[]⟩, 0), .bool false]) (by simp [results, Try.results81, go_sem, e0, e1, e2]; try rfl) rfl ⟨rfl, hU⟩
  | true =>
    obtain ⟨k, hk, h1, h2, h3, h4⟩ := fIx_at hh
    have HI := Lib.hid h1
    have HY : Hid (yFindF (filesOf cs) s = (tellF (nth (filesOf cs) k), true)) := by
      unfold Hid yFindF
      rw [hh, if_pos rfl]
      unfold fIx at h1
      rw [if_pos hh] at h1
      rw [show findN (filesOf cs) s = k by omega]
    have HK : Hid (k < (filesOf cs).length) := by unfold Hid; rw [files_len]; exact hk
    have q0 : (0 : Int) ≤ k := by omega
    have q1 : (k : Int) < ((yFiles (filesOf cs)).length : Int) := by unfold yFiles; rw [List.length_map, files_len]; omega
    have q2 : ¬ (k : Int) < 0 := by omega
    have HNK : Hid (nth (yFiles (filesOf cs)) k = tellF (nth (filesOf cs) k)) := by
      unfold Hid yFiles
      rw [nth_get _ k (by rw [List.length_map]; exact HK.out), List.getElem_map, ← nth_get (filesOf cs) k HK.out]
    have hym : k < (yFiles (filesOf cs)).length := by omega
    obtain ⟨⟨x, nm, z⟩, hx⟩ : ∃ x, tellF (nth (filesOf cs) k) = x := ⟨_, rfl⟩
    rw [hx] at HY HNK
    clear hc h hin hh hu0 h1 h2 h3 h4 hk hx
    go_enter Try.func81, Try.ntmps81
    go_wp2_with fail
    (with_reducible refine (ryFind_any s HC.out HL.out).mono ?_)
    rw [HI.out]
    rintro e w5 ⟨rfl, hu5⟩
    have H5 := Lib.hid (H0.out.upd0 hu5)
    have HU5 := Lib.hid hu5
    clear hu5
    go_wp2_with fail
    (with_reducible refine (ryFiles_any H5.out).mono ?_)
    rintro e w1 ⟨v, rfl, ho, hu1⟩
    obtain ⟨fb, foff, hfa, hfc⟩ : ∃ fb foff, (∃ kp, v = .slice (some ⟨fb, foff, none⟩) (yFiles (filesOf cs)).length kp) ∧ ∀ i, i < 3 → w1.cell? ⟨fb, foff + (k * 3 + i), none⟩ = (afCells (x, nm, z))[i]? := by
      obtain ⟨a, kp, rfl, -, -, hq⟩ := ho.rd afCells_len
      obtain ⟨b, off, rfl, hq2⟩ := hq (by intro h; rw [h] at hym; simp at hym)
      exact ⟨b, off, ⟨kp, rfl⟩, fun i hi => by have := hq2 k hym i hi; rw [HNK.out] at this; exact this⟩
    obtain ⟨kp, rfl⟩ := hfa
    have c0 : w1.cell? ⟨fb, foff + k * 3, none⟩ = some (.int .i64 x) := hfc 0 (by omega)
    have c1 : w1.cell? ⟨fb, foff + k * 3 + 1, none⟩ = some (.string nm) := hfc 1 (by omega)
    have c2 : w1.cell? ⟨fb, foff + k * 3 + 2, none⟩ = some (.int .i64 z) := hfc 2 (by omega)
    have hB1 := hB0.out.upd (HU5.out.seq hu1) (by simp)
    clear ho hfc hym
    have hlt : w.heap.size < w1.heap.size := hB1.lt
    have d0 := hB1.cell 0
    have d1 := hB1.cell 1
    have d2 := hB1.cell 2
    have f0 := hB1.frozen 0
    have f1 := hB1.frozen 1
    have f2 := hB1.frozen 2
    simp only [List.getElem?_cons_zero, List.getElem?_cons_succ] at d0 d1 d2
    have HB := Lib.hid (blk_three hB1 (.int .i64 x) (.string nm) (.int .i64 z))
    have HU := Lib.hid (((((HU0.out.seq (HU5.out.seq hu1)).setCell ⟨w.heap.size, 0, none⟩ (.int .i64 x) (.inr (Nat.le_refl _))).setCell ⟨w.heap.size, 1, none⟩ (.string nm) (.inr (Nat.le_refl _))).setCell ⟨w.heap.size, 2, none⟩ (.int .i64 z) (.inr (Nat.le_refl _))))
    clear hu1 hB1
    go_wp2_with fail
    have e0 := HB.out.cell 0
    have e1 := HB.out.cell 1
    have e2 := HB.out.cell 2
    have hU := HU.out
    clear HB HU
    simp only [List.getElem?_cons_zero, List.getElem?_cons_succ] at e0 e1 e2
    generalize World.setCell _ _ _ = W at *
    rw [HY.out]
    exact bodyPost_ret (v := .tuple #[af (x, nm, z), .bool true]) (by simp [results, Try.results81, go_sem, e0, e1, e2]; try rfl) rfl ⟨rfl, hU⟩
end
end Go.Proofs.Ytmhdhnipljonlaa
namespace Go.Proofs.Ytmhdhnipljonlaa
set_option linter.unusedSimpArgs false
set_option linter.unusedVariables false
section
variable {P : Program} {l : List Oper} {Q : Exit → Act → World → Prop} {K : Act → World → Prop} {md : Region.Mode}
/-- Q, but K at the end. -/
def QK (Q : Exit → Act → World → Prop) (K : Act → World → Prop) : Exit → Act → World → Prop
  | .normal, a, w => K a w
  | .exit i, a, w => Q (.exit i) a w
  | .goto i, a, w => Q (.goto i) a w
  | .ret, a, w => Q .ret a w
  | .panic c, a, w => Q (.panic c) a w
  | .outgrown, a, w => Q .outgrown a w
theorem QK.calm {Q : Exit → Act → World → Prop} {c : _} {a a' : Act} {w : World} (h : Q (.panic c) a' w → Q (.panic c) a w) : QK Q K (.panic c) a' w → QK Q K (.panic c) a w := h
def isMove (o : Oper) : Bool := match o.op with
  | .move _ => true
  | _ => false
/-- The first n of s are listed. -/
def tf (n s : Nat) : Array Bool := (List.replicate n true ++ List.replicate (s - n) false).toArray
def stepOk (md : Region.Mode) (ops : Array Oper) (n : Nat) : Bool :=
  Region.ready md ops (tf n ops.size) == [n] || ((Region.ready md ops (tf n ops.size)).contains n && Region.free md ops (tf n ops.size) n && (match ops[n]? with | some o => isMove o | none => false))
def natOk (md : Region.Mode) (ops : Array Oper) (n : Nat) : Nat → Bool
  | 0 => true
  | k + 1 => stepOk md ops n && natOk md ops (n + 1) k
theorem tf_set {n s : Nat} (h : n < s) : (tf n s).setIfInBounds n true = tf (n + 1) s := by
  unfold tf
  rw [List.setIfInBounds_toArray, List.set_append_right _ _ (by simp)]
  congr 1
  obtain ⟨d, hd⟩ : ∃ d, s - n = d + 1 := ⟨s - n - 1, by omega⟩
  rw [hd, List.length_replicate, Nat.sub_self, List.replicate_succ, List.set_cons_zero, show s - (n + 1) = d by omega, List.replicate_succ', List.append_assoc]
  rfl
theorem tf_zero (s : Nat) : tf 0 s = Array.replicate s false := by
  unfold tf; simp
theorem wp_QK {o : Oper} {a : Act} {w : World} {K' : Act → World → Prop} (hh : o.wp P a w K' (QK Q K)) : o.wp P a w K' Q := by
  unfold Oper.wp at *
  generalize (execOp a.eval o).run P w = r at *
  cases r with
  | ok n w' =>
    cases n <;> simp only [Oper.upon] at hh ⊢ <;>
      first
        | exact hh
        | exact Calls.mono hh (fun e w'' he => by cases e <;> exact he)
  | halt x w' => cases x <;> simp only [Oper.upon] at hh ⊢ <;> exact hh
theorem wpOp_of_list {i : Nat} {o : Oper} {ops : Array Oper} {rest : List Oper} {a : Act} {w : World} {K' : Act → World → Prop} (ho : ops[i]? = some o) (h : wpList P ops (QK Q K) (o :: rest) a w) (hK : ∀ a w, wpList P ops (QK Q K) rest a w → K' a w) : wpOp P ops Q i K' a w := by
  unfold wpOp
  rw [ho]
  unfold wpList at h
  show if Region.wanted o (yielded ops a.tmps) = true then _ else _
  split
  · rename_i hw
    rw [if_pos hw] at h
    exact h.imp (fun q => wp_QK (Oper.wp_mono hK q)) (fun q => ⟨q.1, q.2⟩)
  · rename_i hw
    rw [if_neg hw] at h
    exact hK _ _ h
theorem any_one_list {i : Nat} {o : Oper} {listed listed' : Array Bool} {fuel : Nat} {a : Act} {w : World} (hr : Region.ready md l.toArray listed = [i]) (ho : l.toArray[i]? = some o) (hl : listed.setIfInBounds i true = listed')
    (h : wpList P l.toArray (QK Q (fun a w => wpAny P md l.toArray Q fuel listed' a w)) [o] a w) : wpAny P md l.toArray Q (fuel + 1) listed a w := by
  subst hl
  refine wpAny_all hr (by simp) (fun j hj => ?_)
  obtain rfl : j = i := by simpa using hj
  exact wpOp_of_list ho h (fun a w q => q)
theorem any_two_list {i j : Nat} {oi oj : Oper} {listed li lj : Array Bool} {fuel : Nat} {a : Act} {w : World} (hr : Region.ready md l.toArray listed = [i, j]) (hoi : l.toArray[i]? = some oi) (hoj : l.toArray[j]? = some oj) (hli : listed.setIfInBounds i true = li) (hlj : listed.setIfInBounds j true = lj)
    (h1 : wpList P l.toArray (QK Q (fun a w => wpAny P md l.toArray Q fuel li a w)) [oi] a w) (h2 : wpList P l.toArray (QK Q (fun a w => wpAny P md l.toArray Q fuel lj a w)) [oj] a w) : wpAny P md l.toArray Q (fuel + 1) listed a w := by
  subst hli hlj
  refine wpAny_all hr (by simp) (fun k hk => ?_)
  rcases List.mem_cons.1 hk with rfl | hk
  · exact wpOp_of_list hoi h1 (fun a w q => q)
  · obtain rfl : k = j := by simpa using hk
    exact wpOp_of_list hoj h2 (fun a w q => q)
theorem any_seq (hs : Region.noSelect l.toArray = true) (hQ : ∀ c a d v w, Q (.panic c) (a.put d v) w → Q (.panic c) a w) {fuel : Nat} : ∀ (k n : Nat) (a : Act) (w : World), natOk md l.toArray n k = true → n + k ≤ l.length → wpList P l.toArray (QK Q K) ((l.drop n).take k) a w →
    (∀ a w, K a w → wpAny P md l.toArray Q fuel (tf (n + k) l.length) a w) → wpAny P md l.toArray Q (fuel + k) (tf n l.length) a w
  | 0, n, a, w, _, _, h, hK => by
    have h' : QK Q K .normal a w := by simpa [wpList] using h
    exact hK a w h'
  | k + 1, n, a, w, hn, hl, h, hK => by
    have hlt : n < l.length := by omega
    have ho : l.toArray[n]? = some l[n] := by simp
    have hd : (l.drop n).take (k + 1) = l[n] :: (l.drop (n + 1)).take k := by rw [List.drop_eq_getElem_cons hlt, List.take_succ_cons]
    rw [hd] at h
    unfold natOk at hn
    rw [Bool.and_eq_true] at hn
    have ih : ∀ a w, wpList P l.toArray (QK Q K) ((l.drop (n + 1)).take k) a w → wpAny P md l.toArray Q (fuel + k) (tf (n + 1) l.length) a w := fun a w q =>
      any_seq hs hQ k (n + 1) a w hn.2 (by omega) q (by rw [show n + 1 + k = n + (k + 1) by omega]; exact hK)
    have h1 := hn.1
    unfold stepOk at h1
    rw [show l.toArray.size = l.length by simp, Bool.or_eq_true, Bool.and_eq_true, Bool.and_eq_true, beq_iff_eq, ho] at h1
    show wpAny P md l.toArray Q ((fuel + k) + 1) (tf n l.length) a w
    rcases h1 with q | ⟨⟨q1, q2⟩, q3⟩
    · refine wpAny_all q (by simp) (fun j hj => ?_)
      obtain rfl : j = n := by simpa using hj
      rw [tf_set hlt]
      exact wpOp_of_list ho h ih
    · have hy : Yields P l.toArray l[n] (if Region.wanted l[n] (yielded l.toArray a.tmps) = true then (match l[n].op with | .move x => a.eval x | _ => undef) else undef) a := by
        by_cases hw : Region.wanted l[n] (yielded l.toArray a.tmps) = true
        · refine .inl ⟨hw, fun w => ?_⟩
          rw [if_pos hw]
          generalize hgo : l[n] = o at q3 ⊢
          obtain ⟨d, op, ty, pos, af, gd⟩ := o
          simp only [isMove] at q3
          cases op <;> simp at q3
          rfl
        · exact .inr ⟨by simpa using hw, by rw [if_neg hw]⟩
      refine wpAny_take ho hs q2 q1 (fun c a w => hQ c a _ _ w) hy ?_
      rw [tf_set hlt]
      refine ih _ _ ?_
      unfold wpList at h
      by_cases hw : Region.wanted l[n] (yielded l.toArray a.tmps) = true
      · rw [if_pos hw] at h
        rw [if_pos hw]
        rcases hy with ⟨_, y2⟩ | ⟨y1, _⟩
        · rw [if_pos hw] at y2
          rcases h with h | h
          · unfold Oper.wp at h
            rw [y2 w] at h
            exact h
          · have := h.1.1
            exfalso
            generalize hgo : l[n] = o at q3 this
            obtain ⟨d, op, ty, pos, af, gd⟩ := o
            simp only [isMove] at q3
            cases op <;> simp at q3
            rename_i xx
            have h0 : (Sem.runT P (execOp a.eval { dst := d, op := Op.move xx, type := ty, pos := pos, after := af, guard := gd }) w #[]).2 = #[] := rfl
            rw [h0] at this
            simp at this
        · rw [hw] at y1; cases y1
      · rw [if_neg hw] at h
        rw [if_neg hw]
        exact h
theorem QK_self (Q : Exit → Act → World → Prop) : QK Q (fun a w => Q .normal a w) = Q := by
  funext e a w
  cases e <;> rfl
variable {ops : Array Oper} {a : Act} {w : World} {s f F k n : Nat}
/-- The beginning: the first k in the text's order. -/
theorem reg_seq {id : Nat} (he : l.toArray = ops) (hl : l.length = s) (hm : P.follows .mixedOrders = true) (hs : Region.noSelect ops = true) (hQ : ∀ c a d v w, Q (.panic c) (a.put d v) w → Q (.panic c) a w) (hn : natOk .any ops 0 k = true) (hf : f + k = s)
    (h : wpList P l.toArray (QK Q (fun a w => wpAny P .any l.toArray Q f (tf k s) a w)) (l.take k) a w.drew) : (Code.region id l.toArray true).wp P Q a w := by
  subst he
  refine wp_region_any hm ?_
  subst hl
  have e0 : Array.replicate l.toArray.size false = tf 0 l.length := by rw [tf_zero]; simp
  rw [e0, show l.toArray.size = f + k by simp [hf]]
  exact any_seq hs hQ k 0 a _ hn (by omega) (by simpa using h) (fun a w q => by rw [Nat.zero_add]; exact q)
/-- The next k in the text's order. -/
theorem mid_seq (he : l.toArray = ops) (hl : l.length = s) (hs : Region.noSelect ops = true) (hQ : ∀ c a d v w, Q (.panic c) (a.put d v) w → Q (.panic c) a w) (n k f m : Nat) (hn : natOk .any ops n k = true) (hm : m = n + k) (hF : F = f + k) (hk : m ≤ s)
    (h : wpList P l.toArray (QK Q (fun a w => wpAny P .any l.toArray Q f (tf m s) a w)) ((l.drop n).take k) a w) : wpAny P .any l.toArray Q F (tf n s) a w := by
  subst he hm hF hl
  exact any_seq hs hQ k n a _ hn hk h (fun a w q => q)
/-- The rest in the text's order. -/
theorem end_seq (he : l.toArray = ops) (hl : l.length = s) (hs : Region.noSelect ops = true) (hQ : ∀ c a d v w, Q (.panic c) (a.put d v) w → Q (.panic c) a w) (n : Nat) (hn : natOk .any ops n F = true) (hk : n + F = s) (hr : Region.ready .any ops (tf s s) = [])
    (h : wpList P l.toArray Q (l.drop n) a w) : wpAny P .any l.toArray Q F (tf n s) a w := by
  subst he hl
  have h0 := any_seq (K := fun a w => Q .normal a w) (fuel := 0) hs hQ F n a w hn (by omega) (by rw [QK_self, List.take_of_length_le (by simp; omega)]; exact h) (fun a w q => by rw [hk]; exact wpAny_done hr q 0)
  rwa [Nat.zero_add] at h0
/-- One alone may come up. -/
theorem one_seq {i : Nat} {o : Oper} {listed : Array Bool} (he : l.toArray = ops) (listed' : Array Bool) (hr : Region.ready .any ops listed = [i]) (ho : l.toArray[i]? = some o) (hl : listed.setIfInBounds i true = listed')
    (h : wpList P l.toArray (QK Q (fun a w => wpAny P .any l.toArray Q f listed' a w)) [o] a w) : wpAny P .any l.toArray Q (f + 1) listed a w := by
  subst he
  exact any_one_list hr ho hl h
/-- Two may come up. -/
theorem two_seq {i j : Nat} {oi oj : Oper} {listed : Array Bool} (he : l.toArray = ops) (li lj : Array Bool) (hr : Region.ready .any ops listed = [i, j]) (hoi : l.toArray[i]? = some oi) (hoj : l.toArray[j]? = some oj) (hli : listed.setIfInBounds i true = li) (hlj : listed.setIfInBounds j true = lj)
    (h1 : wpList P l.toArray (QK Q (fun a w => wpAny P .any l.toArray Q f li a w)) [oi] a w) (h2 : wpList P l.toArray (QK Q (fun a w => wpAny P .any l.toArray Q f lj a w)) [oj] a w) : wpAny P .any l.toArray Q (f + 1) listed a w := by
  subst he
  exact any_two_list hr hoi hoj hli hlj h1 h2
theorem wpOp_ok {i : Nat} {o : Oper} {v : Value} {K' : Act → World → Prop} (ho : ops[i]? = some o) (hw : Region.wanted o (yielded ops a.tmps) = true) (hv : (execOp a.eval o).run P w = .ok (.value v) w) (h : K' (a.put o.dst v) w) : wpOp P ops Q i K' a w := by
  unfold wpOp
  simp only [ho]
  simp only [hw, if_true, Oper.wp, hv, Oper.upon]
  exact .inl h
/-- Two that read may come up: their order is all one. -/
theorem pair_seq {i j : Nat} {oi oj : Oper} {listed : Array Bool} {v u : Value} (he : l.toArray = ops) (listed' : Array Bool) (hs : Region.noSelect ops = true) (hr : Region.ready .any ops listed = [i, j]) (hri : Region.ready .any ops (listed.setIfInBounds i true) = [j]) (hrj : Region.ready .any ops (listed.setIfInBounds j true) = [i])
    (hoi : l.toArray[i]? = some oi) (hoj : l.toArray[j]? = some oj) (hap : oi.apart l.toArray oj = true) (hl : (listed.setIfInBounds i true).setIfInBounds j true = listed') (hl2 : (listed.setIfInBounds j true).setIfInBounds i true = listed')
    (hwi : Region.wanted oi (yielded l.toArray a.tmps) = true) (hwj : Region.wanted oj (yielded l.toArray a.tmps) = true) (hvi : (execOp a.eval oi).run P w = .ok (.value v) w) (hvj : (execOp a.eval oj).run P w = .ok (.value u) w)
    (h : wpAny P .any l.toArray Q f listed' ((a.put oi.dst v).put oj.dst u) w) : wpAny P .any l.toArray Q (f + 2) listed a w := by
  subst he
  obtain ⟨p1, p2, p3⟩ := Oper.apart_spec hap
  have si := Region.noSelect_spec hs i oi
  have sj := Region.noSelect_spec hs j oj
  refine wpAny_all hr (by simp) (fun k hk => ?_)
  rcases List.mem_cons.1 hk with rfl | hk
  · refine wpOp_ok hoi hwi hvi ?_
    refine wpAny_all hri (by simp) (fun m hm => ?_)
    obtain rfl : m = j := by simpa using hm
    refine wpOp_ok hoj (by rw [wanted_put oj a oi.dst v p1]; exact hwj) (by rw [execOp_put oj (fun cs b => sj cs b hoj) a oi.dst v p1]; exact hvj) ?_
    rw [hl]; exact h
  · obtain rfl : k = j := by simpa using hk
    refine wpOp_ok hoj hwj hvj ?_
    refine wpAny_all hrj (by simp) (fun m hm => ?_)
    obtain rfl : m = i := by simpa using hm
    refine wpOp_ok hoi (by rw [wanted_put oi a oj.dst u p3]; exact hwi) (by rw [execOp_put oi (fun cs b => si cs b hoi) a oj.dst u p3]; exact hvi) ?_
    rw [hl2, ← Act.put_comm a v u p2]; exact h
theorem qk_normal (h : K a w) : QK Q K .normal a w := h
end
/-- A region of a function's code, by its number. -/
def findReg (n : Nat) : Code → Option Code
  | .region id ops b => if id = n then some (.region id ops b) else none
  | .seq a b => match findReg n a with
    | some c => some c
    | none => findReg n b
  | .block _ c => findReg n c
  | .loop c => findReg n c
  | .scope c => findReg n c
  | .cond _ a b => match findReg n a with
    | some c => some c
    | none => findReg n b
  | _ => none
def rgOps (n : Nat) (o : Option Code) : Array Oper := match o.bind (findReg n) with
  | some (.region _ ops _) => ops
  | _ => #[]
end Go.Proofs.Ytmhdhnipljonlaa
namespace Go.Proofs.Ytmhdhnipljonlaa
set_option linter.unusedVariables false
/-- What stands behind a region that is a statement by itself, wherever it stands. -/
def restAt (n : Nat) : Code → Option Code
  | .seq a b => match a with
    | .region id ops m => if id = n then some b else restAt n b
    | _ => match restAt n a with
      | some c => some c
      | none => restAt n b
  | .block _ c => restAt n c
  | .loop c => restAt n c
  | .scope c => restAt n c
  | .cond _ a b => match restAt n a with
    | some c => some c
    | none => restAt n b
  | _ => none
def regAtOf (n : Nat) (o : Option Code) : Code := (o.bind (findReg n)).getD .skip
def restAtOf (n : Nat) (o : Option Code) : Code := (o.bind (restAt n)).getD .skip
end Go.Proofs.Ytmhdhnipljonlaa
namespace Go.Proofs.Ytmhdhnipljonlaa
open Go.RowKit
set_option linter.unusedSimpArgs false
set_option linter.unusedVariables false
theorem undIY : Try.prog.underlying 44 = some (.slice 3) := by kernel_rfl
theorem infoIY : (Try.prog.info? 3).map (fun i => (i.zero, i.size, i.bytes)) = some (some (.int .i64 0), 1, 8) := by kernel_rfl
/-- How many numbers the row of what was taken has. -/
def tkLen (w : World) (gy : Nat) : Nat := match w.cell? ⟨gy, 1, none⟩ with
  | some (.slice _ n _) => n
  | _ => 0
theorem RYC.tkLen {w0 w : World} {gy : Nat} {lv tv : Value} {cs : CL} {T : List Int} (h : RYC w0 w gy lv tv cs T) : tkLen w gy = T.length := by
  obtain ⟨a, k, rfl, -, -⟩ := h.tsl
  unfold Go.Proofs.Ytmhdhnipljonlaa.tkLen
  rw [h.c1]
/-- The row of what was taken, behind an append, stored at gy. -/
theorem RYC.newTak {w0 w w1 : World} {gy : Nat} {lv tv : Value} {cs : CL} {T T' : List Int} {a3 : Option Addr} {n3 k3 : Nat} (h : RYC w0 w gy lv tv cs T) (hu : Upd (blk tv) w w1) (ho : Own iv w0.heap.size 3 w1 (.slice a3 n3 k3) T') :
    RYC w0 (w1.setCell ⟨gy, 1, none⟩ (.slice a3 n3 k3)) gy lv (.slice a3 n3 k3) cs T' ∧ Upd (gy :: blk tv) w (w1.setCell ⟨gy, 1, none⟩ (.slice a3 n3 k3)) ∧ w1.cell? ⟨gy, 1, none⟩ = some tv ∧ w1.frozen? ⟨gy, 1, none⟩ = false := by
  have hst : Upd [gy] w1 (w1.setCell ⟨gy, 1, none⟩ (.slice a3 n3 k3)) := (Upd.refl [gy] _).setCell _ _ (.inl (by simp))
  have hnt : ∀ (e : TypeId) (C : Array Value) (f : Nat × Nat) (x : Nat), w.heap[x]? = some (.cells C e f) → e ≠ 3 → x ∉ blk tv := fun e C f x hx hn hs => by
    obtain ⟨C', f', hc⟩ := h.tak.typ x hs
    exact hn (ty_one hx hc)
  have htop := h.top.upd hu (hnt _ _ _ _ h.top (by decide))
  have hny : ∀ (e : TypeId) (C : Array Value) (f : Nat × Nat) (x : Nat), w1.heap[x]? = some (.cells C e f) → e ≠ 79 → x ∉ [gy] := fun e C f x hx hn hs => by
    simp at hs; subst hs
    exact hn (ty_one hx htop)
  have hrow := h.row.upd hu (fun x hx => by
    obtain ⟨C, f, hc⟩ := h.row.typ x hx
    exact hnt _ C f x hc (by decide))
  have hown : ∀ c ∈ cs, Own bv w0.heap.size 5 w1 (slv c.2.1.2) c.2.2 := fun c hc => (h.own c hc).upd hu (fun x hx => by
    obtain ⟨C, f, hc'⟩ := (h.own c hc).typ x hx
    exact hnt _ C f x hc' (by decide))
  have hu2 : Upd (gy :: blk tv) w (w1.setCell ⟨gy, 1, none⟩ (.slice a3 n3 k3)) := hu.trans hst (fun x hx => by simp [hx]) (fun x hx => .inl (by simp at hx; simp [hx]))
  refine ⟨⟨htop.set_ 1 _, h.gyb, ?_, ?_, ?_, ?_, h.ris⟩, hu2, htop.cell 1, htop.frozen 1⟩
  · exact hrow.upd hst (fun x hx => by
      obtain ⟨C, f, hc⟩ := hrow.typ x hx
      exact hny _ C f x hc (by decide))
  · exact ho.upd hst (fun x hx => by
      obtain ⟨C, f, hc⟩ := ho.typ x hx
      exact hny _ C f x hc (by decide))
  · intro c hc
    exact (hown c hc).upd hst (fun x hx => by
      obtain ⟨C, f, hc'⟩ := (hown c hc).typ x hx
      exact hny _ C f x hc' (by decide))
  · refine h.old.trans hu2 (by simp) (fun x hx => .inr ?_)
    rcases List.mem_cons.1 hx with rfl | q
    · exact h.gyb
    · exact (h.tak.ge x q).1
/-- A store into the row of what was taken. -/
theorem RYC.setTak {w0 w : World} {gy g n cap : Nat} {lv : Value} {cs : CL} {T : List Int} (h : RYC w0 w gy lv (.slice (some ⟨g, 0, none⟩) n cap) cs T) (i : Nat) (hi : i < T.length) (x : Int) :
    RYC w0 (w.setCell ⟨g, i, none⟩ (.int .i64 x)) gy lv (.slice (some ⟨g, 0, none⟩) n cap) cs (T.set i x) ∧ Upd [g] w (w.setCell ⟨g, i, none⟩ (.int .i64 x)) := by
  have hst : Upd [g] w (w.setCell ⟨g, i, none⟩ (.int .i64 x)) := (Upd.refl [g] _).setCell _ _ (.inl (by simp))
  obtain ⟨Cg, fg, hgt⟩ := h.tak.typ g (by simp [blk])
  have hny : ∀ (e : TypeId) (C : Array Value) (f : Nat × Nat) (x : Nat), w.heap[x]? = some (.cells C e f) → e ≠ 3 → x ∉ [g] := fun e C f x hx hn hs => by
    simp at hs; subst hs
    exact hn (ty_one hx hgt)
  refine ⟨⟨h.top.upd hst (hny _ _ _ _ h.top (by decide)), h.gyb, ?_, h.tak.set_ i hi x, ?_, ?_, h.ris⟩, hst⟩
  · exact h.row.upd hst (fun x hx => by
      obtain ⟨C, f, hc⟩ := h.row.typ x hx
      exact hny _ C f x hc (by decide))
  · intro c hc
    exact (h.own c hc).upd hst (fun x hx => by
      obtain ⟨C, f, hc'⟩ := (h.own c hc).typ x hx
      exact hny _ C f x hc' (by decide))
  · exact h.old.trans hst (by simp) (fun y hy => .inr (by simp at hy; subst hy; exact (h.tak.ge _ (by simp [blk])).1))
noncomputable def regR14 : Code := regAtOf 14 Try.f44.body
noncomputable def restR14 : Code := restAtOf 14 Try.f44.body
set_option maxRecDepth 100000 in
set_option maxHeartbeats 8000000 in
theorem ry14 {w0 W : World} {gy x KA N sk : Nat} {lv tv : Value} {sa : Option Addr} {cs : CL} {T : List Int} {tk : List (Int × Int)} {nm : ByteArray} {bs : List UInt8} {x4 x5 x6 x7 x8 x9 x10 x11 x13 x14 x15 x16 x17 x18 x19 x20 x21 x22 x23 x24 x25 x26 x27 x28 x29 x30 x31 x32 x33 x34 x35 x36 x37 x38 x39 x40 x41 x42 x43 x44 x45 x46 x47 x48 x49 x50 x51 x52 x53 x54 x55 x56 x57 x58 x59 x60 x61 x62 x63 x64 x65 x66 x67 x68 x69 x70 x71 x72 x73 x74 x75 x76 x77 x78 x79 x80 x81 x82 x83 x84 x85 x86 x87 x88 x89 x90 x91 x92 x93 x94 x95 x96 x97 x98 x99 : Value} {Q : Exit → Act → World → Prop} (hC : RYC w0 W gy lv tv cs T) (hmem : ((x : Int), ((nm, (⟨sa, bs.length, sk⟩ : Sl)), bs)) ∈ cs) (hKA : KA ≤ bs.length) (hbl : bs.length ≤ 65536) (hN : (N : Int) ≤ 9223372036854775807) (hx : x ≤ 12) (hTl : T.length ≤ 13) (hTR : TR T tk) (hbd : ∀ k : Nat, 0 ≤ (tGet ltY 0 tk (k : Int)).1 ∧ (tGet ltY 0 tk (k : Int)).1 ≤ 1000000000000)
    (hQ : ∀ (y0 y1 y2 y3 y4 y5 y6 y7 y10 y11 y12 y13 y14 y15 y16 y17 y18 y19 y20 y21 y22 y23 y24 y25 y26 y27 y28 y29 y30 y31 y32 y33 y34 y35 y36 y37 y38 y39 y40 y41 y42 y43 y44 y45 y46 y47 y48 y49 y50 y51 y52 y53 y54 y55 y56 y57 y58 y59 y60 y61 y62 y63 y64 y65 y66 y67 y68 y69 y70 y71 y72 y73 y74 y75 y76 y77 y78 y79 y80 y81 y82 y83 y84 y85 y86 y87 y88 y89 y90 y91 y92 y93 y94 y95 y96 y97 y98 y99 : Value) (v : Value) (T2 : List Int) (tv2 : Value) (w' : World), Own bv W.heap.size 5 w' v ((bs.drop KA).take N) ∧ TR T2 (tSet ltY tk (x : Int) ((tGet ltY 0 tk (x : Int)).1 + ((((bs.drop KA).take N).length : Nat) : Int))) ∧ T2.length ≤ 13 ∧ RYC w0 w' gy lv tv2 cs T2 ∧ Upd (gy :: blk tv) W w' ∧ (∀ y ∈ blk tv2, y ∈ blk tv ∨ W.heap.size ≤ y) → Q .ret ⟨#[y0, y1, y2, y3, y4, y5, y6, y7, v, .int .i64 0, y10, y11, y12, y13, y14, y15, y16, y17, y18, y19, y20, y21, y22, y23, y24, y25, y26, y27, y28, y29, y30, y31, y32, y33, y34, y35, y36, y37, y38, y39, y40, y41, y42, y43, y44, y45, y46, y47, y48, y49, y50, y51, y52, y53, y54, y55, y56, y57, y58, y59, y60, y61, y62, y63, y64, y65, y66, y67, y68, y69, y70, y71, y72, y73, y74, y75, y76, y77, y78, y79, y80, y81, y82, y83, y84, y85, y86, y87, y88, y89, y90, y91, y92, y93, y94, y95, y96, y97, y98, y99], []⟩ w') {K : Act → World → Prop} (hK : ∀ a w, Code.wp Try.prog restR14 Q a w → K a w) : Code.wp Try.prog regR14 (Exit.then K Q) ⟨#[.pointer (some ⟨gy, 0, none⟩), .int .i64 (x : Int), .int .i64 (KA : Int), .int .i64 (N : Int), x4, x5, x6, x7, x8, x9, x10, x11, .slice sa bs.length sk, x13, x14, x15, x16, x17, x18, x19, x20, x21, x22, x23, x24, x25, x26, x27, x28, x29, x30, x31, x32, x33, x34, x35, x36, x37, x38, x39, x40, x41, x42, x43, x44, x45, x46, x47, x48, x49, x50, x51, x52, x53, x54, x55, x56, x57, x58, x59, x60, x61, x62, x63, x64, x65, x66, x67, x68, x69, x70, x71, x72, x73, x74, x75, x76, x77, x78, x79, x80, x81, x82, x83, x84, x85, x86, x87, x88, x89, x90, x91, x92, x93, x94, x95, x96, x97, x98, x99], []⟩ W := by
  conv => arg 2; whnf
  change ∀ a w, Code.wp _ (Code.seq _ _) Q a w → K a w at hK
  have HQ := Lib.hid hQ
  clear hQ
  have HC := Lib.hid hC
  have hb : Bytes W (.slice sa bs.length sk) bs := (hC.own _ hmem).rd
  have HMEM := Lib.hid hmem
  have HBD := Lib.hid hbd
  have HTR := Lib.hid hTR
  obtain ⟨hsk, hskm⟩ : bs.length ≤ sk ∧ sk ≤ 9223372036854775807 := by
    obtain ⟨a', c', he, h1, h2, -⟩ := hb
    obtain ⟨-, -, rfl⟩ := Value.slice.inj he
    exact ⟨h1, by unfold maxLen at h2; omega⟩
  obtain ⟨D, hD, hcut1⟩ : ∃ D : Option Addr, D = (if sk = KA then sa else sa.map (·.add KA)) ∧ ∀ W, (Instr.slice 27 (.slice sa bs.length sk) (some (.int .i64 (KA : Int))) none none).run Try.prog W = .ok (.slice D (bs.length - KA) (sk - KA)) W :=
    ⟨_, rfl, fun W => by have h := run_cut (P := Try.prog) (size := 1) Try.underlying27 (by kernel_rfl) sa bs.length sk KA hKA W; simpa using h⟩
  have HBK : Hid (Bytes W (.slice D (bs.length - KA) (sk - KA)) (bs.drop KA)) := by unfold Hid; rw [hD]; exact hb.drop KA hKA
  have q0 : (0 : Int) ≤ KA := by omega
  have q1 : (KA : Int) ≤ bs.length := by omega
  obtain ⟨M, hM⟩ : ∃ M, (M = N ∧ N < bs.length - KA) ∨ (M = bs.length - KA ∧ bs.length - KA ≤ N) := by
    by_cases q : N < bs.length - KA
    · exact ⟨N, .inl ⟨rfl, q⟩⟩
    · exact ⟨bs.length - KA, .inr ⟨rfl, by omega⟩⟩
  have hMl : M ≤ bs.length - KA := by omega
  have hrl : ((bs.drop KA).take M).length = M := by rw [List.length_take, List.length_drop]; omega
  have HRL := Lib.hid hrl
  have HTN : Hid ((bs.drop KA).take N = (bs.drop KA).take M) := by
    rcases hM with ⟨rfl, -⟩ | ⟨rfl, h2⟩
    · rfl
    · unfold Hid
      rw [List.take_of_length_le (by rw [List.length_drop]; omega), List.take_of_length_le (by rw [List.length_drop]; omega)]
  have hcut2 : ∀ V, (Instr.slice 27 (.slice D (bs.length - KA) (sk - KA)) none (some (.int .i64 (N : Int))) none).run Try.prog V = .ok (.slice D N (sk - KA)) V ∨ ¬ N ≤ sk - KA := fun V => by
    by_cases q : N ≤ sk - KA
    · exact .inl (run_cut_h (P := Try.prog) (size := 1) Try.underlying27 (by kernel_rfl) D (bs.length - KA) (sk - KA) N q V)
    · exact .inr q
  have HDROP : Hid (∀ V, Bytes V (.slice sa bs.length sk) bs → Bytes V (.slice D M (sk - KA)) ((bs.drop KA).take M)) := fun V hV => by
    have h1 := (hV.drop KA hKA).take M (by rw [List.length_drop]; omega)
    rw [hD]; exact h1
  clear hC hb hbd hTR hD hmem
  rcases hM with ⟨rfl, hM2⟩ | ⟨rfl, hM2⟩
  · have hcut3 : ∀ V, (Instr.slice 27 (.slice D (bs.length - KA) (sk - KA)) none (some (.int .i64 (M : Int))) none).run Try.prog V = .ok (.slice D M (sk - KA)) V := fun V => (hcut2 V).resolve_right (by omega)
    have t1 : (M : Int) < ((bs.length - KA : Nat) : Int) := by omega
    have t2 : (0 : Int) ≤ M := by omega
    clear hcut2
    go_wp2_with fail
    go_loopw [] (fun wr => ∃ (tv2 : Value) (T2 : List Int), T2.length ≤ 13 ∧ T.length ≤ T2.length ∧ Hid (RYC w0 wr gy lv tv2 cs T2) ∧ Hid (TR T2 tk) ∧ Hid (Upd (gy :: blk tv) W wr) ∧ Hid (∀ x ∈ blk tv2, x ∈ blk tv ∨ W.heap.size ≤ x)) (fun wr => 13 - tkLen wr gy)
    case atStart => exact ⟨tv, T, hTl, Nat.le_refl _, HC, HTR, (Upd.refl _ _), fun x hx => .inl hx⟩
    case round =>
      clear HC
      obtain ⟨tv2, T2, hT2, hTT, hC2, hTR2, hu2, hn2⟩ := hrel
      obtain ⟨ta, tkp, rfl, htc, htm⟩ := hC2.out.tsl
      have y1 := hC2.out.c1
      have HY1 := Lib.hid y1
      have hTLN := Lib.hid hC2.out.tkLen
      by_cases hle : T2.length ≤ x
      · have t3 : (T2.length : Int) ≤ (x : Int) := by omega
        have HL13 : Hid (T2.length + 1 ≤ 13) := by unfold Hid; omega
        go_wp2_with (at_builtin; go_must (refine wpList_app_of rfl _ _ rfl (.slice ta T2.length tkp) (.slice (some ⟨wr.heap.size, 0, none⟩) 1 1) rfl rfl (run_app (c := iv) (fun _ => rfl) undIY infoIY rfl _ _ T2 [(0 : Int)] (hC2.out.tak.upd ((Upd.refl [] _).alloc _) (by simp)) (Rd.lit [(0 : Int)] (by simp) rfl rfl (by decide) (by decide)) (by simp; omega) (by unfold maxLen; simp; omega) (by have := hC2.out.old.size; simp; omega)) ?_; rintro v1 w3 ⟨ho3, hu3, hk3⟩; obtain ⟨a3, k3, rfl, -⟩ := id ho3.rd; have HU3 : Hid (Upd (blk (.slice ta T2.length tkp)) wr w3) := ((Upd.refl [] wr).alloc _).trans hu3 (by simp) (fun y hy => .inl hy); have HNT := Lib.hid (hC2.out.newTak HU3.out ho3); have HK3 := Lib.hid hk3; have y3 := HNT.out.2.2.1; have f3 := HNT.out.2.2.2; clear ho3 hu3 hk3 y1; dsimp only))
        have hsz3 := HU3.out.size
        go_roundw
        case rel =>
          have hnt := HNT.out
          rw [show (T2 ++ [(0 : Int)]).length = T2.length + 1 by simp] at hnt
          refine ⟨_, T2 ++ [0], by rw [List.length_append]; exact HL13.out, by rw [List.length_append]; omega, hnt.1, hTR2.out.app, ?_, ?_⟩
          · refine hu2.out.trans hnt.2.1 (fun x hx => hx) (fun x hx => ?_)
            rcases List.mem_cons.1 hx with rfl | q
            · exact .inl (by simp)
            · rcases hn2.out x q with r | r
              · exact .inl (by simp [r])
              · exact .inr r
          · intro x hx
            have HK4 := HK3.out
            rw [show (T2 ++ [(0 : Int)]).length = T2.length + 1 by simp] at HK4
            rcases HK4 x hx with q | q
            · exact hn2.out x q
            · have := hu2.out.size; simp at q; exact .inr (by omega)
        case measure =>
          have e1 := HNT.out.1.tkLen
          rw [show (T2 ++ [(0 : Int)]).length = T2.length + 1 by simp] at e1
          have e2 := hTLN.out
          rw [e1, e2]
          have := HL13.out
          simp; omega
      · have t3 : ¬ (T2.length : Int) ≤ (x : Int) := by omega
        have hlt : x < T2.length := by omega
        obtain ⟨g, cap, hform, hgb, -, -⟩ := hC2.out.tak.form0 (fun q => by rw [q] at hlt; simp at hlt)
        obtain ⟨rfl, -, rfl⟩ := Value.slice.inj hform
        have c1 : wr.cell? ⟨g, x, none⟩ = some (.int .i64 (nth T2 x)) := hC2.out.tak.cell x hlt
        have f1 : wr.frozen? ⟨g, x, none⟩ = false := hC2.out.tak.frozen x
        have hat : tkAt T2 (x : Int) = nth T2 x := by unfold tkAt; rw [if_neg (by omega)]; rfl
        have hge := (hTR2.out.get (x : Int))
        obtain ⟨old, hold⟩ : ∃ old, nth T2 x = old := ⟨_, rfl⟩
        rw [hat] at hge
        rw [hold] at c1 hge
        have hob : 0 ≤ old ∧ old ≤ 1000000000000 := by rw [← hge]; exact HBD.out x
        obtain ⟨ho1, ho2⟩ := hob
        have hMb : (M : Int) ≤ 65536 := by omega
        have hwr : IntKind.i64.wrap (old + (M : Int)) = old + (M : Int) := by rw [IntKind.wrap_i64]; omega
        have t4 : (x : Int) < T2.length := by omega
        have t5 : (0 : Int) ≤ x := by omega
        have hC3 := hC2.out.upd0 (Upd.refl [] wr).drew
        have HFIN := Lib.hid (hC3.setTak x hlt (old + (M : Int)))
        have HOLDE := Lib.hid hge
        have HLT := Lib.hid hlt
        have HS5 : Hid ((wr.drew.setCell ⟨g, x, none⟩ (.int .i64 (old + (M : Int)))).heap.size = wr.heap.size) := by unfold Hid; simp
        have HRUN : Hid (∀ ty, ∃ v' w', (Builtin.append_ #[27, 27] ty #[.slice (some ⟨wr.heap.size, 0, none⟩) 0 0, .slice D M (sk - KA)]).run Try.prog ((wr.drew.setCell ⟨g, x, none⟩ (.int .i64 (old + (M : Int)))).alloc (.cells #[] 5)) = .ok v' w' ∧ (Own bv wr.heap.size 5 w' v' ((bs.drop KA).take M) ∧ Upd [] (wr.drew.setCell ⟨g, x, none⟩ (.int .i64 (old + (M : Int)))) w')) := by
          intro ty
          have hbk := Blk.new (wr.drew.setCell ⟨g, x, none⟩ (.int .i64 (old + (M : Int)))) 5 []
          rw [HS5.out] at hbk
          have hua := (Upd.refl [] (wr.drew.setCell ⟨g, x, none⟩ (.int .i64 (old + (M : Int))))).alloc (.cells #[] 5)
          have hrd : Bytes (wr.drew.setCell ⟨g, x, none⟩ (.int .i64 (old + (M : Int)))) (.slice D M (sk - KA)) ((bs.drop KA).take M) := HDROP.out _ (HFIN.out.1.own _ HMEM.out).rd
          obtain ⟨v', w', h1, h2, h3, h4⟩ := run_app (P := Try.prog) (ty := ty) bv_one Try.underlying27 infoB8 rfl _ (.slice D M (sk - KA)) [] ((bs.drop KA).take M) (own_emptyR wr.heap.size _ wr.heap.size (Nat.le_refl _) hbk) (hrd.upd0 hua) (by rw [HRL.out]; simp; omega) (by rw [HRL.out]; simp [maxLen]; omega) (by have := hua.size; rw [HS5.out] at this; exact this)
          rw [List.nil_append] at h2
          exact ⟨v', w', h1, h2, hua.trans h3 (by simp) (fun y hy => .inr (by simp [blk] at hy; rw [HS5.out]; omega))⟩
        clear hold hat hge hle hgb hC3
        go_wp2_with fail
        go_still_tail 16, (by kernel_rfl)
        change wpList _ _ _ _ _ wr.drew
        go_wp2_with (at_builtin; go_must (refine wpList_app_of rfl _ _ rfl (.slice (some ⟨wr.heap.size, 0, none⟩) 0 0) (.slice D M (sk - KA)) rfl rfl (HRUN.out _) ?_; rintro v6 w6 ⟨ho6, hu6⟩; have HO6 := Lib.hid ho6; have HU6 := Lib.hid hu6; clear ho6 hu6; dsimp only))
        have HFU := HFIN.out.2
        refine HQ.out _ _ _ _ _ _ _ _ _ _ _ _ _ _ _ _ _ _ _ _ _ _ _ _ _ _ _ _ _ _ _ _ _ _ _ _ _ _ _ _ _ _ _ _ _ _ _ _ _ _ _ _ _ _ _ _ _ _ _ _ _ _ _ _ _ _ _ _ _ _ _ _ _ _ _ _ _ _ _ _ _ _ _ _ _ _ _ _ _ _ _ _ _ _ _ _ _ _ v6 (T2.set x (old + (M : Int))) (.slice (some ⟨g, 0, none⟩) T2.length tkp) w6 ⟨?_, ?_, ?_, HFIN.out.1.upd0 HU6.out, ?_, fun y hy => ?_⟩
        · have hz := hu2.out.size
          first | exact HO6.out.base_le hz | (rw [HTN.out]; exact HO6.out.base_le hz)
        · have := hTR2.out.set_ x HLT.out (old + (M : Int))
          first | rw [HTN.out, HRL.out, HOLDE.out] | rw [HRL.out, HOLDE.out]
          exact this
        · rw [List.length_set]; exact hT2
        · refine (hu2.out.trans (T := gy :: blk tv) ((Upd.refl [] wr).drew.trans HFU (T := [g]) (by simp) (fun x hx => .inl hx)) (fun x hx => hx) (fun y hy => ?_)).trans HU6.out (fun x hx => hx) (by simp)
          simp at hy; subst hy
          rcases hn2.out y (by simp [blk]) with r | r
          · exact .inl (by simp [r])
          · exact .inr r
        · exact hn2.out y hy
  · have t1 : ¬ (N : Int) < ((bs.length - KA : Nat) : Int) := by omega
    clear hcut2
    go_wp2_with fail
    go_loopw [] (fun wr => ∃ (tv2 : Value) (T2 : List Int), T2.length ≤ 13 ∧ T.length ≤ T2.length ∧ Hid (RYC w0 wr gy lv tv2 cs T2) ∧ Hid (TR T2 tk) ∧ Hid (Upd (gy :: blk tv) W wr) ∧ Hid (∀ x ∈ blk tv2, x ∈ blk tv ∨ W.heap.size ≤ x)) (fun wr => 13 - tkLen wr gy)
    case atStart => exact ⟨tv, T, hTl, Nat.le_refl _, HC, HTR, (Upd.refl _ _), fun x hx => .inl hx⟩
    case round =>
      clear HC
      obtain ⟨tv2, T2, hT2, hTT, hC2, hTR2, hu2, hn2⟩ := hrel
      obtain ⟨ta, tkp, rfl, htc, htm⟩ := hC2.out.tsl
      have y1 := hC2.out.c1
      have HY1 := Lib.hid y1
      have hTLN := Lib.hid hC2.out.tkLen
      by_cases hle : T2.length ≤ x
      · have t3 : (T2.length : Int) ≤ (x : Int) := by omega
        have HL13 : Hid (T2.length + 1 ≤ 13) := by unfold Hid; omega
        go_wp2_with (at_builtin; go_must (refine wpList_app_of rfl _ _ rfl (.slice ta T2.length tkp) (.slice (some ⟨wr.heap.size, 0, none⟩) 1 1) rfl rfl (run_app (c := iv) (fun _ => rfl) undIY infoIY rfl _ _ T2 [(0 : Int)] (hC2.out.tak.upd ((Upd.refl [] _).alloc _) (by simp)) (Rd.lit [(0 : Int)] (by simp) rfl rfl (by decide) (by decide)) (by simp; omega) (by unfold maxLen; simp; omega) (by have := hC2.out.old.size; simp; omega)) ?_; rintro v1 w3 ⟨ho3, hu3, hk3⟩; obtain ⟨a3, k3, rfl, -⟩ := id ho3.rd; have HU3 : Hid (Upd (blk (.slice ta T2.length tkp)) wr w3) := ((Upd.refl [] wr).alloc _).trans hu3 (by simp) (fun y hy => .inl hy); have HNT := Lib.hid (hC2.out.newTak HU3.out ho3); have HK3 := Lib.hid hk3; have y3 := HNT.out.2.2.1; have f3 := HNT.out.2.2.2; clear ho3 hu3 hk3 y1; dsimp only))
        have hsz3 := HU3.out.size
        go_roundw
        case rel =>
          have hnt := HNT.out
          rw [show (T2 ++ [(0 : Int)]).length = T2.length + 1 by simp] at hnt
          refine ⟨_, T2 ++ [0], by rw [List.length_append]; exact HL13.out, by rw [List.length_append]; omega, hnt.1, hTR2.out.app, ?_, ?_⟩
          · refine hu2.out.trans hnt.2.1 (fun x hx => hx) (fun x hx => ?_)
            rcases List.mem_cons.1 hx with rfl | q
            · exact .inl (by simp)
            · rcases hn2.out x q with r | r
              · exact .inl (by simp [r])
              · exact .inr r
          · intro x hx
            have HK4 := HK3.out
            rw [show (T2 ++ [(0 : Int)]).length = T2.length + 1 by simp] at HK4
            rcases HK4 x hx with q | q
            · exact hn2.out x q
            · have := hu2.out.size; simp at q; exact .inr (by omega)
        case measure =>
          have e1 := HNT.out.1.tkLen
          rw [show (T2 ++ [(0 : Int)]).length = T2.length + 1 by simp] at e1
          have e2 := hTLN.out
          rw [e1, e2]
          have := HL13.out
          simp; omega
      · have t3 : ¬ (T2.length : Int) ≤ (x : Int) := by omega
        have hlt : x < T2.length := by omega
        obtain ⟨g, cap, hform, hgb, -, -⟩ := hC2.out.tak.form0 (fun q => by rw [q] at hlt; simp at hlt)
        obtain ⟨rfl, -, rfl⟩ := Value.slice.inj hform
        have c1 : wr.cell? ⟨g, x, none⟩ = some (.int .i64 (nth T2 x)) := hC2.out.tak.cell x hlt
        have f1 : wr.frozen? ⟨g, x, none⟩ = false := hC2.out.tak.frozen x
        have hat : tkAt T2 (x : Int) = nth T2 x := by unfold tkAt; rw [if_neg (by omega)]; rfl
        have hge := (hTR2.out.get (x : Int))
        obtain ⟨old, hold⟩ : ∃ old, nth T2 x = old := ⟨_, rfl⟩
        rw [hat] at hge
        rw [hold] at c1 hge
        have hob : 0 ≤ old ∧ old ≤ 1000000000000 := by rw [← hge]; exact HBD.out x
        obtain ⟨ho1, ho2⟩ := hob
        have hMb : (((bs.length - KA : Nat)) : Int) ≤ 65536 := by omega
        have hwr : IntKind.i64.wrap (old + (((bs.length - KA : Nat)) : Int)) = old + (((bs.length - KA : Nat)) : Int) := by rw [IntKind.wrap_i64]; omega
        have t4 : (x : Int) < T2.length := by omega
        have t5 : (0 : Int) ≤ x := by omega
        have hC3 := hC2.out.upd0 (Upd.refl [] wr).drew
        have HFIN := Lib.hid (hC3.setTak x hlt (old + (((bs.length - KA : Nat)) : Int)))
        have HOLDE := Lib.hid hge
        have HLT := Lib.hid hlt
        have HS5 : Hid ((wr.drew.setCell ⟨g, x, none⟩ (.int .i64 (old + (((bs.length - KA : Nat)) : Int)))).heap.size = wr.heap.size) := by unfold Hid; simp
        have HRUN : Hid (∀ ty, ∃ v' w', (Builtin.append_ #[27, 27] ty #[.slice (some ⟨wr.heap.size, 0, none⟩) 0 0, .slice D (bs.length - KA) (sk - KA)]).run Try.prog ((wr.drew.setCell ⟨g, x, none⟩ (.int .i64 (old + (((bs.length - KA : Nat)) : Int)))).alloc (.cells #[] 5)) = .ok v' w' ∧ (Own bv wr.heap.size 5 w' v' ((bs.drop KA).take (bs.length - KA)) ∧ Upd [] (wr.drew.setCell ⟨g, x, none⟩ (.int .i64 (old + (((bs.length - KA : Nat)) : Int)))) w')) := by
          intro ty
          have hbk := Blk.new (wr.drew.setCell ⟨g, x, none⟩ (.int .i64 (old + (((bs.length - KA : Nat)) : Int)))) 5 []
          rw [HS5.out] at hbk
          have hua := (Upd.refl [] (wr.drew.setCell ⟨g, x, none⟩ (.int .i64 (old + (((bs.length - KA : Nat)) : Int))))).alloc (.cells #[] 5)
          have hrd : Bytes (wr.drew.setCell ⟨g, x, none⟩ (.int .i64 (old + (((bs.length - KA : Nat)) : Int)))) (.slice D (bs.length - KA) (sk - KA)) ((bs.drop KA).take (bs.length - KA)) := HDROP.out _ (HFIN.out.1.own _ HMEM.out).rd
          obtain ⟨v', w', h1, h2, h3, h4⟩ := run_app (P := Try.prog) (ty := ty) bv_one Try.underlying27 infoB8 rfl _ (.slice D (bs.length - KA) (sk - KA)) [] ((bs.drop KA).take (bs.length - KA)) (own_emptyR wr.heap.size _ wr.heap.size (Nat.le_refl _) hbk) (hrd.upd0 hua) (by rw [HRL.out]; simp; omega) (by rw [HRL.out]; simp [maxLen]; omega) (by have := hua.size; rw [HS5.out] at this; exact this)
          rw [List.nil_append] at h2
          exact ⟨v', w', h1, h2, hua.trans h3 (by simp) (fun y hy => .inr (by simp [blk] at hy; rw [HS5.out]; omega))⟩
        clear hold hat hge hle hgb hC3
        go_wp2_with fail
        go_still_tail 16, (by kernel_rfl)
        change wpList _ _ _ _ _ wr.drew
        go_wp2_with (at_builtin; go_must (refine wpList_app_of rfl _ _ rfl (.slice (some ⟨wr.heap.size, 0, none⟩) 0 0) (.slice D (bs.length - KA) (sk - KA)) rfl rfl (HRUN.out _) ?_; rintro v6 w6 ⟨ho6, hu6⟩; have HO6 := Lib.hid ho6; have HU6 := Lib.hid hu6; clear ho6 hu6; dsimp only))
        have HFU := HFIN.out.2
        refine HQ.out _ _ _ _ _ _ _ _ _ _ _ _ _ _ _ _ _ _ _ _ _ _ _ _ _ _ _ _ _ _ _ _ _ _ _ _ _ _ _ _ _ _ _ _ _ _ _ _ _ _ _ _ _ _ _ _ _ _ _ _ _ _ _ _ _ _ _ _ _ _ _ _ _ _ _ _ _ _ _ _ _ _ _ _ _ _ _ _ _ _ _ _ _ _ _ _ _ _ v6 (T2.set x (old + (((bs.length - KA : Nat)) : Int))) (.slice (some ⟨g, 0, none⟩) T2.length tkp) w6 ⟨?_, ?_, ?_, HFIN.out.1.upd0 HU6.out, ?_, fun y hy => ?_⟩
        · have hz := hu2.out.size
          first | exact HO6.out.base_le hz | (rw [HTN.out]; exact HO6.out.base_le hz)
        · have := hTR2.out.set_ x HLT.out (old + (((bs.length - KA : Nat)) : Int))
          first | rw [HTN.out, HRL.out, HOLDE.out] | rw [HRL.out, HOLDE.out]
          exact this
        · rw [List.length_set]; exact hT2
        · refine (hu2.out.trans (T := gy :: blk tv) ((Upd.refl [] wr).drew.trans HFU (T := [g]) (by simp) (fun x hx => .inl hx)) (fun x hx => hx) (fun y hy => ?_)).trans HU6.out (fun x hx => hx) (by simp)
          simp at hy; subst hy
          rcases hn2.out y (by simp [blk]) with r | r
          · exact .inl (by simp [r])
          · exact .inr r
        · exact hn2.out y hy

end Go.Proofs.Ytmhdhnipljonlaa
namespace Go.Proofs.Ytmhdhnipljonlaa
open Go.RowKit
set_option linter.unusedSimpArgs false
set_option linter.unusedVariables false
section
variable {w0 w w' : World} {gy : Nat} {G : List Nat} {fl : FL} {T : List Int} {tk : List (Int × Int)}
theorem key_in {cs : CL} (hr : Rising ltY cs) {ino : Int} (m : Nat) (hm : m < cs.length) (hk : (nth cs m).1 = ino) : isIn ltY (filesOf cs) ino = true ∧ nth (filesOf cs) (below ltY (filesOf cs) ino) = (ino, (nth cs m).2.1.1, (nth cs m).2.2) := by
  rw [mapY_isIn, mapY_below]
  subst hk
  rw [isIn_at intOrd hr m hm, below_at intOrd hr m hm]
  exact ⟨rfl, nth_files cs m hm⟩
theorem key_no {cs : CL} {ino : Int} (h : ∀ j, j < cs.length → (nth cs j).1 ≠ ino) : isIn ltY (filesOf cs) ino = false := by
  rw [mapY_isIn]
  cases hh : isIn ltY cs ino with
  | false => rfl
  | true =>
    unfold isIn at hh
    obtain ⟨h1, h2⟩ := of_decide_eq_true hh
    exact absurd h2 (h _ h1)
set_option maxRecDepth 20000 in
set_option maxHeartbeats 4000000 in
theorem ryRead_any (ino a n : Int) (hi : I64 ino) (ha : I64 a) (hn : I64 n) (h : RYD w0 w gy G fl T) (hTl : T.length ≤ 13) (hTR : TR T tk) (hbd : ∀ k : Nat, 0 ≤ (tGet ltY 0 tk (k : Int)).1 ∧ (tGet ltY 0 tk (k : Int)).1 ≤ 1000000000000) :
    Calls Try.prog 44 #[.pointer (some ⟨gy, 0, none⟩), .int .i64 ino, .int .i64 a, .int .i64 n] w fun e w' => ∃ v, e = .returned (.tuple #[v, .int .i64 (yRead fl tk ino a n).1.2]) ∧ Own bv w.heap.size 5 w' v (yRead fl tk ino a n).1.1 ∧ ∃ T', TR T' (yRead fl tk ino a n).2 ∧ T'.length ≤ 13 ∧ RYOut w0 w gy G fl T' w' := by
  obtain ⟨lv, tv, cs, hc, rfl, hl, hin, rfl⟩ := h.ex
  have HC := Lib.hid hc
  have H := Lib.hid h
  have HIN := Lib.hid hin
  have HTR := Lib.hid hTR
  have HBD := Lib.hid hbd
  obtain ⟨ao, co, rfl, hlc, hcap⟩ := hc.lsl
  have HRD := Lib.hid (hc.row.rd ywCells_len)
  have HI := Lib.hid hi
  have HA := Lib.hid (show -9223372036854775808 ≤ a ∧ a ≤ 9223372036854775807 from ha)
  have HN := Lib.hid (show -9223372036854775808 ≤ n ∧ n ≤ 9223372036854775807 from hn)
  clear h hc hin hTR hbd hi ha hn
  go_enter Try.func44, Try.ntmps44
  go_wp2_with fail
  go_loopw [10, 11] (fun vk vi wr => ∃ (i : Nat) (z : Int), i ≤ cs.length ∧ vi = .int .i64 i ∧ vk = .int .i64 z ∧ Hid (Upd [] w wr) ∧ Hid ((z = -1 ∧ ∀ j, j < i → (nth cs j).1 ≠ ino) ∨ ∃ m : Nat, m < i ∧ z = (m : Int) ∧ (nth cs m).1 = ino)) (fun _ vi _ => cs.length - (intOf vi).toNat)
  case atStart => exact ⟨0, -1, Nat.zero_le _, rfl, rfl, Upd.refl _ _, .inl ⟨rfl, fun j h => absurd h (by omega)⟩⟩
  case round =>
    obtain ⟨i, z, hi, rfl, rfl, hu, hz⟩ := hrel
    have y0 := (HC.out.upd0 hu.out).c0
    by_cases hlt : i < cs.length
    · obtain ⟨b, off, hb, hcell⟩ : ∃ b off, ao = some ⟨b, off, none⟩ ∧ ∀ j, j < cs.length → ∀ i, i < 3 → w.cell? ⟨b, off + (j * 3 + i), none⟩ = (ywCells (nth cs j))[i]? := by
        obtain ⟨a', k', he, -, -, hq⟩ := HRD.out
        obtain ⟨rfl, -, -⟩ := Value.slice.inj he
        exact hq (by intro h; simp [h] at hlt)
      subst hb
      have c0 : wr.cell? ⟨b, off + i * 3, none⟩ = some (.int .i64 (nth cs i).1) := hu.out.cell (hcell i hlt 0 (by omega)) (by simp)
      obtain ⟨x, hx⟩ : ∃ x, (nth cs i).1 = x := ⟨_, rfl⟩
      rw [hx] at c0
      have HX := Lib.hid hx
      have q0 : (0 : Int) ≤ i := by omega
      have q1 : (i : Int) < cs.length := by omega
      clear hcell hx
      by_cases he : x = ino
      · have t1 : (x == ino) = true := by rw [he]; simp
        have HE := Lib.hid he
        clear he
        go_wp2_with fail
        go_roundw
        case rel => exact ⟨i + 1, (i : Int), by omega, by go_num, rfl, hu, .inr ⟨i, by omega, rfl, HX.out.trans HE.out⟩⟩
        case measure => simp [intOf]; omega
      · have t1 : (x == ino) = false := by rw [beq_eq_false_iff_ne]; exact he
        have HE := Lib.hid he
        clear he
        go_wp2_with fail
        go_roundw
        case rel =>
          refine ⟨i + 1, z, by omega, by go_num, rfl, hu, ?_⟩
          rcases hz.out with ⟨e1, e2⟩ | ⟨m, m1, m2, m3⟩
          · refine .inl ⟨e1, fun j hj => ?_⟩
            rcases Nat.lt_or_eq_of_le (Nat.le_of_lt_succ hj) with q | q
            · exact e2 j q
            · subst q; rw [HX.out]; exact HE.out
          · exact .inr ⟨m, by omega, m2, m3⟩
        case measure => simp [intOf]; omega
    · obtain rfl : i = cs.length := by omega
      have q1 : ¬ ((cs.length : Nat) : Int) < cs.length := by omega
      rcases hz.out with ⟨e1, e2⟩ | ⟨m, m1, m2, m3⟩
      · have HY : Hid (yRead (filesOf cs) tk ino a n = (([], 7), tk)) := by unfold Hid yRead; rw [key_no e2]; rfl
        have HO := Lib.hid (H.out.out0 hu.out)
        subst e1
        clear hz e2
        go_wp2_with fail
        go_ret2
        rw [HY.out]
        exact ⟨.slice none 0 0, rfl, World.ownsRow_nil _ _ _ _, T, HTR.out, hTl, HO.out⟩
      · obtain ⟨k1, k2⟩ := key_in HC.out.ris m m1 m3
        have hyA : yRead (filesOf cs) tk ino a n = if a < 0 ∨ n < 0 then (([], 1), tk) else ((((nth cs m).2.2.drop a.toNat).take n.toNat, 0), tSet ltY tk ino ((tGet ltY 0 tk ino).1 + ((((nth cs m).2.2.drop a.toNat).take n.toNat).length : Int))) := by unfold yRead; rw [if_pos k1, k2]
        have HY := Lib.hid hyA
        subst m2
        have q2 : ¬ (m : Int) < 0 := by omega
        clear hz k1 k2 hyA
        by_cases han : a < 0
        · have HY1 : Hid (yRead (filesOf cs) tk ino a n = (([], 1), tk)) := by unfold Hid; rw [HY.out, if_pos (.inl han)]
          have HO := Lib.hid (H.out.out0 hu.out)
          clear HY
          go_wp2_with fail
          go_ret2
          rw [HY1.out]
          exact ⟨.slice none 0 0, rfl, World.ownsRow_nil _ _ _ _, T, HTR.out, hTl, HO.out⟩
        by_cases hnn : n < 0
        · have HY1 : Hid (yRead (filesOf cs) tk ino a n = (([], 1), tk)) := by unfold Hid; rw [HY.out, if_pos (.inr hnn)]
          have HO := Lib.hid (H.out.out0 hu.out)
          clear HY
          go_wp2_with fail
          go_ret2
          rw [HY1.out]
          exact ⟨.slice none 0 0, rfl, World.ownsRow_nil _ _ _ _, T, HTR.out, hTl, HO.out⟩
        have HY1 : Hid (yRead (filesOf cs) tk ino a n = ((((nth cs m).2.2.drop a.toNat).take n.toNat, 0), tSet ltY tk ino ((tGet ltY 0 tk ino).1 + ((((nth cs m).2.2.drop a.toNat).take n.toNat).length : Int)))) := by unfold Hid; rw [HY.out, if_neg (by intro q; rcases q with q | q <;> omega)]
        obtain ⟨b, off, hb, hcell⟩ : ∃ b off, ao = some ⟨b, off, none⟩ ∧ ∀ j, j < cs.length → ∀ i, i < 3 → w.cell? ⟨b, off + (j * 3 + i), none⟩ = (ywCells (nth cs j))[i]? := by
          obtain ⟨a', k', he, -, -, hq⟩ := HRD.out
          obtain ⟨rfl, -, -⟩ := Value.slice.inj he
          exact hq (by intro h; simp [h] at m1)
        subst hb
        have c2 : wr.cell? ⟨b, off + m * 3 + 2, none⟩ = some (slv (nth cs m).2.1.2) := hu.out.cell (hcell m m1 2 (by omega)) (by simp)
        have hmem := nth_mem m m1
        have hbd := HIN.out _ hmem
        have hown := HC.out.own _ hmem
        rw [m3] at hbd
        obtain ⟨x, rfl⟩ := Int.eq_ofNat_of_zero_le (show 0 ≤ ino by omega)
        obtain ⟨A, rfl⟩ := Int.eq_ofNat_of_zero_le (show 0 ≤ a by omega)
        obtain ⟨N, rfl⟩ := Int.eq_ofNat_of_zero_le (show 0 ≤ n by omega)
        obtain ⟨⟨ki, ⟨nm, ⟨sa, sn, sk⟩⟩, bs⟩, hcx⟩ : ∃ c, nth cs m = c := ⟨_, rfl⟩
        rw [hcx] at c2 hmem hbd hown m3 HY1
        have m3 : ki = (x : Int) := m3
        subst m3
        obtain ⟨hsn, hsk, hskm⟩ := own_len (show Own bv w0.heap.size 5 w (.slice sa sn sk) bs from hown)
        subst hsn
        simp only [slv] at c2
        have HM := Lib.hid hmem
        have HBL : Hid (bs.length ≤ 65536) := hbd.2.2
        have HX12 : Hid (x ≤ 12) := by have := hbd.2.1; unfold Hid; omega
        have HY1 : Hid (yRead (filesOf cs) tk (x : Int) (A : Int) (N : Int) = (((bs.drop A).take N, 0), tSet ltY tk (x : Int) ((tGet ltY 0 tk (x : Int)).1 + (((bs.drop A).take N).length : Int)))) := HY1
        have HCW := Lib.hid (HC.out.upd0 hu.out)
        have p1 : (m : Int) < cs.length := by omega
        have p2 : (0 : Int) ≤ m := by omega
        clear hcell hmem hbd hown hcx HY
        by_cases hA : bs.length < A
        · have t4 : (bs.length : Int) < (A : Int) := by omega
          have HDR : Hid ((bs.drop A).take N = (bs.drop bs.length).take N) := by unfold Hid; rw [List.drop_eq_nil_of_le (by omega), List.drop_length]
          go_upto_region 14 with fail
          refine ry14 HCW.out HM.out (Nat.le_refl _) HBL.out HN.out.2 HX12.out hTl HTR.out HBD.out (fun _ _ _ _ _ _ _ _ _ _ _ _ _ _ _ _ _ _ _ _ _ _ _ _ _ _ _ _ _ _ _ _ _ _ _ _ _ _ _ _ _ _ _ _ _ _ _ _ _ _ _ _ _ _ _ _ _ _ _ _ _ _ _ _ _ _ _ _ _ _ _ _ _ _ _ _ _ _ _ _ _ _ _ _ _ _ _ _ _ _ _ _ _ _ _ _ _ _ v T2 tv2 w9 h => ?_) (by assumption)
          have HF := Lib.hid h
          clear h
          go_ret2
          obtain ⟨r1, r2, r3, r4, r5, r6⟩ := HF.out
          rw [HY1.out, HDR.out]
          have hz := hu.out.size
          refine ⟨v, rfl, r1.base_le hz, T2, r2, r3, RYOut.of r4 rfl hl HIN.out (hu.out.trans (T := gy :: blk tv) r5 (by simp) (fun x hx => .inl hx)) (fun x hx => ?_) (fun x hx => .inl hx) (fun x hx => (r6 x hx).imp id (fun q => by omega)) (fun c hc x hx => .inl ⟨c, hc, hx⟩)⟩
          rcases List.mem_cons.1 hx with rfl | q
          · exact foot_gy
          · exact foot_tv q
        · have t4 : ¬ (bs.length : Int) < (A : Int) := by omega
          have HDR : Hid ((bs.drop A).take N = (bs.drop A).take N) := rfl
          have hAl : A ≤ bs.length := by omega
          go_upto_region 14 with fail
          refine ry14 HCW.out HM.out hAl HBL.out HN.out.2 HX12.out hTl HTR.out HBD.out (fun _ _ _ _ _ _ _ _ _ _ _ _ _ _ _ _ _ _ _ _ _ _ _ _ _ _ _ _ _ _ _ _ _ _ _ _ _ _ _ _ _ _ _ _ _ _ _ _ _ _ _ _ _ _ _ _ _ _ _ _ _ _ _ _ _ _ _ _ _ _ _ _ _ _ _ _ _ _ _ _ _ _ _ _ _ _ _ _ _ _ _ _ _ _ _ _ _ _ v T2 tv2 w9 h => ?_) (by assumption)
          have HF := Lib.hid h
          clear h
          go_ret2
          obtain ⟨r1, r2, r3, r4, r5, r6⟩ := HF.out
          rw [HY1.out, HDR.out]
          have hz := hu.out.size
          refine ⟨v, rfl, r1.base_le hz, T2, r2, r3, RYOut.of r4 rfl hl HIN.out (hu.out.trans (T := gy :: blk tv) r5 (by simp) (fun x hx => .inl hx)) (fun x hx => ?_) (fun x hx => .inl hx) (fun x hx => (r6 x hx).imp id (fun q => by omega)) (fun c hc x hx => .inl ⟨c, hc, hx⟩)⟩
          rcases List.mem_cons.1 hx with rfl | q
          · exact foot_gy
          · exact foot_tv q
end
end Go.Proofs.Ytmhdhnipljonlaa
namespace Go.Proofs.Ytmhdhnipljonlaa
open Go.RowKit
set_option linter.unusedSimpArgs false
set_option linter.unusedVariables false
theorem neE (s : ByteArray) (h : ¬ s.size < 1) : (s.toList == ([] : List UInt8)) = false := by
  rw [beq_eq_false_iff_ne, strList_eq]
  intro q
  have := congrArg List.length q
  rw [Array.length_toList] at this
  have : s.size = 0 := this
  omega
set_option maxRecDepth 20000 in
set_option maxHeartbeats 1000000 in
theorem rName_any (w : World) (s : ByteArray) :
    Calls Try.prog 90 #[sv s] w fun e w' => e = .returned (.bool (nameOk s)) ∧ w = w' := by
  by_cases h1 : s.size < 1
  · have HN : Hid (nameOk s = false) := by unfold Hid nameOk; simp; omega
    obtain rfl : s = ⟨#[]⟩ := str_inj _ _ (by rw [strList_eq, strList_eq]; exact List.eq_nil_of_length_eq_zero (by rw [Array.length_toList]; show s.size = 0; omega))
    go_enter Try.func90, Try.ntmps90
    go_wp2_with fail
    go_ret
    exact ⟨by rw [HN.out]; rfl, rfl⟩
  · by_cases h2 : s.size ≤ 32
    · have q : (s.toList == ([] : List UInt8)) = false := neE s h1
      have q' : ¬ (32 : Int) < s.size := by omega
      go_enter Try.func90, Try.ntmps90
      go_wp2_with fail
      go_loopw [3] (fun i wr => ∃ k : Nat, k ≤ s.size ∧ i = .int .i64 k ∧ w = wr ∧ Hid (∀ j (h : j < s.size), j < k → 33 ≤ (s[j]).toNat ∧ (s[j]).toNat ≤ 126)) (fun i _ => s.size - (intOf i).toNat)
      case atStart => exact ⟨0, Nat.zero_le _, rfl, rfl, fun j _ h => absurd h (by omega)⟩
      case round =>
        obtain ⟨k, hk, rfl, rfl, hh⟩ := hrel
        by_cases hlt : k < s.size
        · have q0 : (0 : Int) ≤ k := by omega
          have q1 : (k : Int) < s.size := by omega
          by_cases hb : 33 ≤ (s[k]).toNat ∧ (s[k]).toNat ≤ 126
          · have hb1 : ¬ ((s[k]).toNat : Int) < 33 := by omega
            have hb2 : ¬ (126 : Int) < ((s[k]).toNat : Int) := by omega
            have HH : Hid (∀ j (h : j < s.size), j < k + 1 → 33 ≤ (s[j]).toNat ∧ (s[j]).toNat ≤ 126) := fun j hj hjk => by
              rcases Nat.lt_or_eq_of_le (Nat.le_of_lt_succ hjk) with h | h
              · exact hh.out j hj h
              · subst h; exact hb
            clear hb
            go_wp2_with fail
            go_roundw
            case rel => exact ⟨k + 1, by omega, by go_num, by first | trivial | rfl, HH⟩
            case measure => simp [intOf]; omega
          · have HN : Hid (nameOk s = false) := by
              unfold Hid nameOk
              exact decide_eq_false (fun h => hb (h.2.2 k hlt))
            have hd : ((s[k]).toNat : Int) < 33 ∨ (¬ ((s[k]).toNat : Int) < 33 ∧ (126 : Int) < ((s[k]).toNat : Int)) := by omega
            clear hb
            rcases hd with hb1 | ⟨hb1, hb2⟩
            all_goals
              go_wp2_with fail
              go_ret
              exact ⟨by rw [HN.out]; rfl, rfl⟩
        · obtain rfl : k = s.size := by omega
          have HN : Hid (nameOk s = true) := by
            unfold Hid nameOk
            exact decide_eq_true ⟨by omega, by omega, fun j hj => hh.out j hj hj⟩
          go_wp2_with fail
          go_ret
          exact ⟨by rw [HN.out]; rfl, rfl⟩
    · have HN : Hid (nameOk s = false) := by unfold Hid nameOk; exact decide_eq_false (fun h => h2 h.2.1)
      have q : (s.toList == ([] : List UInt8)) = false := neE s h1
      have q' : (32 : Int) < s.size := by omega
      go_enter Try.func90, Try.ntmps90
      go_wp2_with fail
      go_ret
      exact ⟨by rw [HN.out]; rfl, rfl⟩
end Go.Proofs.Ytmhdhnipljonlaa
namespace Go.Proofs.Ytmhdhnipljonlaa
open Go.RowKit
set_option linter.unusedSimpArgs false
set_option linter.unusedVariables false
section
variable {w0 w w' : World} {gy : Nat} {G : List Nat} {fl : FL} {T : List Int}
theorem set_len12 {cs : CL} (hr : Rising ltY cs) (k : Nat) (hk : k < cs.length) (key : Int) (hkey : (nth cs k).1 = key) (v : (ByteArray × Sl) × List UInt8) : (tSet ltY cs key v).length = cs.length := by
  rw [← hkey, setY hr k hk, List.length_set]
theorem ryName_any (w : World) (s : ByteArray) : Calls Try.prog 90 #[sv s] w fun e w' => e = .returned (.bool (nameOk s)) ∧ Upd [] w w' := by
  refine (rName_any w s).mono ?_
  rintro e w' ⟨rfl, rfl⟩
  exact ⟨rfl, Upd.refl [] w⟩
/-- The second half of Rename: the file without a name takes it. -/
theorem ren_store {w1 : World} {lv tv : Value} {cs : CL} (t : ByteArray) (j : Nat) (hj : j < cs.length) (hc : RYC w0 w1 gy lv tv cs T) :
    ∃ g cap, ∃ sl : ByteArray × Sl, ∃ bs ino, lv = .slice (some ⟨g, 0, none⟩) cs.length cap ∧ nth cs j = (ino, ((sl.1, sl.2), bs)) ∧ (∀ W, Upd [] w1 W → W.cell? ⟨g, j * 3 + 1, none⟩ = some (.string sl.1) ∧ W.frozen? ⟨g, j * 3 + 1, none⟩ = false) ∧ ∀ W, Upd [] w1 W → RYC w0 (W.setCell ⟨g, j * 3 + 1, none⟩ (.string t)) gy lv tv (tSet ltY cs ino ((t, sl.2), bs)) T ∧ Upd [g] w1 (W.setCell ⟨g, j * 3 + 1, none⟩ (.string t)) := by
  obtain ⟨g, cap, rfl, h1, h2, hrow⟩ := hc.rowAt j hj
  obtain ⟨⟨ino, ⟨nm, sl⟩, bs⟩, hx⟩ : ∃ x, nth cs j = x := ⟨_, rfl⟩
  have ho := hc.own _ (nth_mem j hj)
  rw [hx] at hrow ho
  refine ⟨g, cap, (nm, sl), bs, ino, rfl, hx, fun W hW => hrow 1 (by omega) W hW, fun W hW => ?_⟩
  exact hc.setRow hW j 1 hj (by omega) (.string t) (ino, ((t, sl), bs)) (by rw [hx]; rfl) (by rw [hx]) (ho.upd hW (by simp))
set_option maxRecDepth 20000 in
set_option maxHeartbeats 4000000 in
theorem ryRename_any (s t : ByteArray) (hU : UN fl) (hN : NE fl) (h : RYD w0 w gy G fl T) :
    Calls Try.prog 78 #[.pointer (some ⟨gy, 0, none⟩), sv s, sv t] w fun e w' => e = .returned (.int .i64 (yRename fl s t).1) ∧ RYOut w0 w gy G (yRename fl s t).2 T w' := by
  obtain ⟨lv, tv, cs, hc, rfl, hl, hin, rfl⟩ := h.ex
  have HC := Lib.hid hc
  have HL : Hid (cs.length ≤ 1000) := by unfold Hid; omega
  have H := Lib.hid h
  have HIN := Lib.hid hin
  have hris : Rising ltY (filesOf cs) := mapY_rising' _ hc.ris
  cases ht : nameOk t with
  | false =>
    have HY : Hid (yRename (filesOf cs) s t = (14, filesOf cs)) := by unfold Hid yRename; rw [ht]; rfl
    have HT := Lib.hid ht
    clear h hc hin ht
    go_enter Try.func78, Try.ntmps78
    go_wp2_with fail
    (with_reducible refine (ryName_any _ t).mono ?_)
    rw [HT.out]
    rintro e w1 ⟨rfl, hu1⟩
    have HO := Lib.hid (H.out.out0 hu1)
    clear hu1
    go_wp2_with fail
    go_ret
    rw [HY.out]
    exact ⟨rfl, HO.out⟩
  | true =>
  cases hs : hasN (filesOf cs) s with
  | false =>
    have HY : Hid (yRename (filesOf cs) s t = (7, filesOf cs)) := by unfold Hid yRename; rw [ht, hs]; rfl
    have HI := Lib.hid (fIx_neg hs)
    have HT := Lib.hid ht
    clear h hc hin hs ht
    go_enter Try.func78, Try.ntmps78
    go_wp2_with fail
    (with_reducible refine (ryName_any _ t).mono ?_)
    rw [HT.out]
    rintro e w1 ⟨rfl, hu1⟩
    have HC1 := Lib.hid (HC.out.upd0 hu1)
    have HU1 := Lib.hid hu1
    clear hu1
    go_wp2_with fail
    (with_reducible refine (ryFind_any s HC1.out HL.out).mono ?_)
    rw [HI.out]
    rintro e w2 ⟨rfl, hu2⟩
    have HO := Lib.hid (H.out.out0 (HU1.out.seq hu2))
    clear hu2
    go_wp2_with fail
    go_ret
    rw [HY.out]
    exact ⟨rfl, HO.out⟩
  | true =>
  obtain ⟨k, hk, h1, h2, h3, h4⟩ := fIx_at hs
  have HI := Lib.hid h1
  have HK := Lib.hid hk
  have HT := Lib.hid ht
  have p0 : ¬ (k : Int) < 0 := by omega
  by_cases hst : s = t
  · subst hst
    have HY : Hid (yRename (filesOf cs) s s = (0, filesOf cs)) := ryRename_same hris hs ht
    have x1 : (s.toList == s.toList) = true := by simp
    clear h hc hin hs ht h1 h2 h3 h4 hk
    go_enter Try.func78, Try.ntmps78
    go_wp2_with fail
    (with_reducible refine (ryName_any _ s).mono ?_)
    rw [HT.out]
    rintro e w1 ⟨rfl, hu1⟩
    have HC1 := Lib.hid (HC.out.upd0 hu1)
    have HU1 := Lib.hid hu1
    clear hu1
    go_wp2_with fail
    (with_reducible refine (ryFind_any s HC1.out HL.out).mono ?_)
    rw [HI.out]
    rintro e w2 ⟨rfl, hu2⟩
    have HO := Lib.hid (H.out.out0 (HU1.out.seq hu2))
    clear hu2
    go_wp2_with fail
    go_ret
    rw [HY.out]
    exact ⟨rfl, HO.out⟩
  · have x1 := str_neR hst
    obtain ⟨q1, q2, q3, q4⟩ := ryRename hris hU hN hs ht hst
    have HR1 : Hid ((yRename (filesOf cs) s t).1 = 0) := by unfold Hid yRename; rw [ht, hs]; rfl
    have HR2 := Lib.hid q4
    have HQ1 := Lib.hid q1
    have HQ2 := Lib.hid q2
    have HQ3 := Lib.hid q3
    obtain ⟨g, cap, sl, bs, ino, rfl, hx, hcell, hset⟩ := ren_store (T := T) ⟨#[]⟩ k hk hc
    rw [hx] at h2 h3 h4
    have h2 : ino = inoN (filesOf cs) s := h2
    have h4 : bs = bytesN (filesOf cs) s := h4
    have HINO := Lib.hid h2
    have HBS := Lib.hid h4
    have HX := Lib.hid hx
    have HCE := Lib.hid hcell
    have HSE := Lib.hid hset
    have hbd := hin _ (nth_mem k hk)
    rw [hx] at hbd
    have HBD := Lib.hid hbd
    have p1 : (0 : Int) ≤ k := by omega
    have p2 : (k : Int) < cs.length := by omega
    have hfm : filesOf (tSet ltY cs ino ((⟨#[]⟩, sl.2), bs)) = tSet ltY (filesOf cs) (inoN (filesOf cs) s) (⟨#[]⟩, bytesN (filesOf cs) s) := by
      rw [← h2, ← h4]; exact (mapY_set (fun v : (ByteArray × Sl) × List UInt8 => (v.1.1, v.2)) cs ino ((⟨#[]⟩, sl.2), bs)).symm
    have HFM := Lib.hid hfm
    have HLE : Hid ((tSet ltY cs ino ((⟨#[]⟩, sl.2), bs)).length = cs.length) := set_len12 hc.ris k hk ino (by rw [hx]) _
    have HMB : Hid (∀ c ∈ tSet ltY cs ino ((⟨#[]⟩, sl.2), bs), (1 ≤ c.1 ∧ c.1 ≤ 12 ∧ c.2.2.length ≤ 65536) ∧ ∀ x ∈ blk (slv c.2.1.2), ∃ d ∈ cs, x ∈ blk (slv d.2.1.2)) := fun c hc' => by
      rcases tSet_mem cs _ _ c hc' with rfl | q
      · exact ⟨hbd, fun x hx' => ⟨nth cs k, nth_mem k hk, by rw [hx]; exact hx'⟩⟩
      · exact ⟨hin c q, fun x hx' => ⟨c, q, hx'⟩⟩
    have HGG : Hid (∀ x ∈ [g], x ∈ ryFoot gy (.slice (some ⟨g, 0, none⟩) cs.length cap) tv cs) := fun x hx => by simp at hx; subst hx; exact foot_lv (by simp [blk])
    clear h hc hin hs ht h1 h2 h3 h4 hk q1 q2 q3 q4 hx hcell hset hbd hst hfm
    go_enter Try.func78, Try.ntmps78
    go_wp2_with fail
    (with_reducible refine (ryName_any _ t).mono ?_)
    rw [HT.out]
    rintro e w1 ⟨rfl, hu1⟩
    have HC1 := Lib.hid (HC.out.upd0 hu1)
    have HU1 := Lib.hid hu1
    clear hu1
    go_wp2_with fail
    (with_reducible refine (ryFind_any s HC1.out HL.out).mono ?_)
    rw [HI.out]
    rintro e w2 ⟨rfl, hu2⟩
    have HU2 := Lib.hid (HU1.out.seq hu2)
    have y0 := (HC.out.upd0 HU2.out).c0
    obtain ⟨c1, f1⟩ := HCE.out w2 HU2.out
    obtain ⟨s1, s2⟩ := HSE.out w2 HU2.out
    have HC3 := Lib.hid s1
    have HU3 := Lib.hid s2
    clear hu2 s1 s2 HC1
    go_upto_region 9 with fail
    generalize w2.setCell ⟨g, k * 3 + 1, none⟩ (.string ⟨#[]⟩) = w3 at *
    obtain ⟨cs1, hcs1⟩ : ∃ cs1, tSet ltY cs ino ((⟨#[]⟩, sl.2), bs) = cs1 := ⟨_, rfl⟩
    rw [hcs1] at HC3 HFM HLE HMB
    have HL1 : Hid (cs1.length ≤ 1000) := by have := HLE.out; unfold Hid; omega
    clear y0 c1 f1 hcs1
    go_wp2_with fail
    (with_reducible refine (ryFind_any t HC3.out HL1.out).mono ?_)
    rintro e w4 ⟨rfl, hu4⟩
    have HC4 := Lib.hid (HC3.out.upd0 hu4)
    have HU4 : Hid (Upd [g] w w4) := HU3.out.trans hu4 (fun x hx => hx) (by simp)
    clear hu4 HC3 HU3
    cases htm : hasN (filesOf cs1) t with
    | true =>
      obtain ⟨m, hm, e1, e2, -, -⟩ := fIx_at htm
      have HM := Lib.hid hm
      have HMID : Hid (filesOf (tDel ltY cs1 (nth cs1 m).1) = ryMid (filesOf cs) s t) := by
        unfold Hid ryMid
        dsimp only
        rw [← HFM.out, if_pos htm, e2]
        exact (mapY_del (fun v : (ByteArray × Sl) × List UInt8 => (v.1.1, v.2)) cs1 _).symm
      have m0 : (0 : Int) ≤ m := by omega
      rw [e1]
      clear htm e1 e2 hm
      go_wp2_with fail
      (with_reducible refine (ryDrop_any m HM.out HC4.out HL1.out).mono ?_)
      rintro e w5 ⟨rfl, lv5, h5, hu5, hf5⟩
      have HF5 : Hid (∀ x ∈ blk lv5, x ∈ blk (.slice (some ⟨g, 0, none⟩) cs.length cap) ∨ w.heap.size ≤ x) := fun x hx => .inr (Nat.le_trans HU4.out.size (hf5 x hx))
      have HC5 := Lib.hid h5
      have HU5 : Hid (Upd (g :: [gy]) w w5) := HU4.out.trans hu5 (by simp) (fun x hx => .inl (by simp at hx; simp [hx]))
      have HMB5 : Hid (∀ c ∈ tDel ltY cs1 (nth cs1 m).1, (1 ≤ c.1 ∧ c.1 ≤ 12 ∧ c.2.2.length ≤ 65536) ∧ ∀ x ∈ blk (slv c.2.1.2), ∃ d ∈ cs, x ∈ blk (slv d.2.1.2)) := fun c hc => HMB.out c (tDel_mem cs1 _ c hc)
      have HLN5 : Hid ((tDel ltY cs1 (nth cs1 m).1).length ≤ 12) := by have := tDel_len (lt := ltY) cs1 (nth cs1 m).1; have := HLE.out; unfold Hid; omega
      obtain ⟨cs2, hcs2⟩ : ∃ cs2, tDel ltY cs1 (nth cs1 m).1 = cs2 := ⟨_, rfl⟩
      rw [hcs2] at HC5 HMB5 HLN5 HMID
      clear h5 hu5 hf5 hcs2 HC4 HU4
      have HL2 : Hid (cs2.length ≤ 1000) := by have := HLN5.out; unfold Hid; omega
      obtain ⟨j, hj, e1, e2, e3, e4⟩ := fIx_at (s := ⟨#[]⟩) (by rw [HMID.out]; exact HQ1.out)
      rw [HMID.out] at e2 e4
      obtain ⟨g6, cap6, sl6, bs6, ino6, hlv6, hx6, hcell6, hset6⟩ := ren_store (T := T) t j hj HC5.out
      have hlen6 : cs2.length ≤ cap6 ∧ cap6 ≤ 9223372036854775807 := by
        obtain ⟨a', k', he, h1, h2⟩ := HC5.out.lsl
        rw [hlv6] at he
        obtain ⟨-, -, rfl⟩ := Value.slice.inj he
        exact ⟨h1, h2⟩
      obtain ⟨hl6, hm6⟩ := hlen6
      rw [hx6] at e2 e4
      have e2 : ino6 = inoN (filesOf cs) s := e2.trans HQ2.out
      have e4 : bs6 = bytesN (filesOf cs) s := e4.trans HQ3.out
      have HE1 := Lib.hid e1
      have HJ := Lib.hid hj
      have HX6 := Lib.hid hx6
      have HCE6 := Lib.hid hcell6
      have HSE6 := Lib.hid hset6
      have HFIN : Hid (filesOf (tSet ltY cs2 ino6 ((t, sl6.2), bs6)) = (yRename (filesOf cs) s t).2) := by
        unfold Hid
        rw [← HR2.out, ← HMID.out, ← e2, ← e4]
        exact (mapY_set (fun v : (ByteArray × Sl) × List UInt8 => (v.1.1, v.2)) cs2 ino6 ((t, sl6.2), bs6)).symm
      have HLV6 := Lib.hid hlv6
      have y5 := HC5.out.c0
      rw [hlv6] at y5
      have Y5 := Lib.hid y5
      have j0 : (0 : Int) ≤ j := by omega
      have j1 : (j : Int) < (cs2.length : Int) := by omega
      obtain ⟨c5, f5⟩ := hcell6 w5 (Upd.refl [] w5)
      have ru := Upd.refl [] w5
      have HCF : Hid (∀ W, Upd [] w5 W → Calls Try.prog 94 #[.pointer (some ⟨gy, 0, none⟩), sv ⟨#[]⟩] W fun e w' => e = .returned (.int .i64 (j : Int)) ∧ Upd [] w5 w') := fun W hW => by
        refine (ryFind_any ⟨#[]⟩ (HC5.out.upd0 hW) HL2.out).mono ?_
        rw [HE1.out]
        rintro e w' ⟨rfl, hu⟩
        exact ⟨rfl, hW.seq hu⟩
      clear e1 e2 e3 e4 hj hx6 hcell6 hset6 hlv6
      go_wp2_with fail
      go_region_with (first
        | (go_at_call 94; (with_reducible refine (HCF.out _ (Upd.seq ru ?_)).mono ?_); (repeat (first | exact Upd.refl _ _ | apply Upd.drew | apply Upd.drewN | apply Upd.alloc)); (rintro _ W6 ⟨rfl, ru6⟩; have y6 := ru6.cell Y5.out (by simp); obtain ⟨c6, f6⟩ := HCE6.out W6 ru6; dsimp only)))
      all_goals
        have RU6 := Lib.hid ru6
        clear ru6
        go_wp2_with fail
        go_ret
        obtain ⟨r1, r2⟩ := HSE6.out _ RU6.out
        rw [HR1.out]
        refine ⟨rfl, RYOut.of r1 HFIN.out ?_ (fun c hc => ?_) (HU5.out.trans (T := ryFoot gy (.slice (some ⟨g, 0, none⟩) cs.length cap) tv cs) r2 (fun x hx => ?_) (fun x hx => ?_)) (fun x hx => hx) HF5.out (fun x hx => .inl hx) (fun c hc x hx => .inl ?_)⟩
        · rw [set_len12 HC5.out.ris j HJ.out ino6 (by rw [HX6.out])]; exact HLN5.out
        · rcases tSet_mem cs2 _ _ c hc with rfl | q
          · have := (HMB5.out _ (nth_mem j HJ.out)).1; rw [HX6.out] at this; exact this
          · exact (HMB5.out c q).1
        · rcases List.mem_cons.1 hx with rfl | q
          · exact HGG.out _ (by simp)
          · simp at q; subst q; exact foot_gy
        · simp at hx; subst hx
          rcases HF5.out x (by rw [HLV6.out]; simp [blk]) with q | q
          · exact .inl (foot_lv q)
          · exact .inr q
        · rcases tSet_mem cs2 _ _ c hc with rfl | q
          · exact (HMB5.out _ (nth_mem j HJ.out)).2 x (by rw [HX6.out]; exact hx)
          · exact (HMB5.out c q).2 x hx
    | false =>
      have HMID : Hid (filesOf cs1 = ryMid (filesOf cs) s t) := by
        unfold Hid ryMid
        dsimp only
        rw [← HFM.out, if_neg (by rw [htm]; simp)]
      have HF5 : Hid (∀ x ∈ blk (.slice (some ⟨g, 0, none⟩) cs.length cap), x ∈ blk (.slice (some ⟨g, 0, none⟩) cs.length cap) ∨ w.heap.size ≤ x) := fun x hx => .inl hx
      have HLN5 : Hid (cs1.length ≤ 12) := by have := HLE.out; unfold Hid; omega
      have HU5 : Hid (Upd (g :: [gy]) w w4) := HU4.out.mono (fun x hx => .inl (by simp at hx; simp [hx]))
      rw [fIx_neg htm]
      clear htm HU4
      have HL2 : Hid (cs1.length ≤ 1000) := by have := HLN5.out; unfold Hid; omega
      obtain ⟨j, hj, e1, e2, e3, e4⟩ := fIx_at (s := ⟨#[]⟩) (by rw [HMID.out]; exact HQ1.out)
      rw [HMID.out] at e2 e4
      obtain ⟨g6, cap6, sl6, bs6, ino6, hlv6, hx6, hcell6, hset6⟩ := ren_store (T := T) t j hj HC4.out
      have hlen6 : cs1.length ≤ cap6 ∧ cap6 ≤ 9223372036854775807 := by
        obtain ⟨a', k', he, h1, h2⟩ := HC4.out.lsl
        rw [hlv6] at he
        obtain ⟨-, -, rfl⟩ := Value.slice.inj he
        exact ⟨h1, h2⟩
      obtain ⟨hl6, hm6⟩ := hlen6
      rw [hx6] at e2 e4
      have e2 : ino6 = inoN (filesOf cs) s := e2.trans HQ2.out
      have e4 : bs6 = bytesN (filesOf cs) s := e4.trans HQ3.out
      have HE1 := Lib.hid e1
      have HJ := Lib.hid hj
      have HX6 := Lib.hid hx6
      have HCE6 := Lib.hid hcell6
      have HSE6 := Lib.hid hset6
      have HFIN : Hid (filesOf (tSet ltY cs1 ino6 ((t, sl6.2), bs6)) = (yRename (filesOf cs) s t).2) := by
        unfold Hid
        rw [← HR2.out, ← HMID.out, ← e2, ← e4]
        exact (mapY_set (fun v : (ByteArray × Sl) × List UInt8 => (v.1.1, v.2)) cs1 ino6 ((t, sl6.2), bs6)).symm
      have HLV6 := Lib.hid hlv6
      have y5 := HC4.out.c0
      rw [hlv6] at y5
      have Y5 := Lib.hid y5
      have j0 : (0 : Int) ≤ j := by omega
      have j1 : (j : Int) < (cs1.length : Int) := by omega
      obtain ⟨c5, f5⟩ := hcell6 w4 (Upd.refl [] w4)
      have ru := Upd.refl [] w4
      have HCF : Hid (∀ W, Upd [] w4 W → Calls Try.prog 94 #[.pointer (some ⟨gy, 0, none⟩), sv ⟨#[]⟩] W fun e w' => e = .returned (.int .i64 (j : Int)) ∧ Upd [] w4 w') := fun W hW => by
        refine (ryFind_any ⟨#[]⟩ (HC4.out.upd0 hW) HL2.out).mono ?_
        rw [HE1.out]
        rintro e w' ⟨rfl, hu⟩
        exact ⟨rfl, hW.seq hu⟩
      clear e1 e2 e3 e4 hj hx6 hcell6 hset6 hlv6
      go_wp2_with fail
      go_region_with (first
        | (go_at_call 94; (with_reducible refine (HCF.out _ (Upd.seq ru ?_)).mono ?_); (repeat (first | exact Upd.refl _ _ | apply Upd.drew | apply Upd.drewN | apply Upd.alloc)); (rintro _ W6 ⟨rfl, ru6⟩; have y6 := ru6.cell Y5.out (by simp); obtain ⟨c6, f6⟩ := HCE6.out W6 ru6; dsimp only)))
      all_goals
        have RU6 := Lib.hid ru6
        clear ru6
        go_wp2_with fail
        go_ret
        obtain ⟨r1, r2⟩ := HSE6.out _ RU6.out
        rw [HR1.out]
        refine ⟨rfl, RYOut.of r1 HFIN.out ?_ (fun c hc => ?_) (HU5.out.trans (T := ryFoot gy (.slice (some ⟨g, 0, none⟩) cs.length cap) tv cs) r2 (fun x hx => ?_) (fun x hx => ?_)) (fun x hx => hx) HF5.out (fun x hx => .inl hx) (fun c hc x hx => .inl ?_)⟩
        · rw [set_len12 HC4.out.ris j HJ.out ino6 (by rw [HX6.out])]; exact HLN5.out
        · rcases tSet_mem cs1 _ _ c hc with rfl | q
          · have := (HMB.out _ (nth_mem j HJ.out)).1; rw [HX6.out] at this; exact this
          · exact (HMB.out c q).1
        · rcases List.mem_cons.1 hx with rfl | q
          · exact HGG.out _ (by simp)
          · simp at q; subst q; exact foot_gy
        · simp at hx; subst hx
          rcases HF5.out x (by rw [HLV6.out]; simp [blk]) with q | q
          · exact .inl (foot_lv q)
          · exact .inr q
        · rcases tSet_mem cs1 _ _ c hc with rfl | q
          · exact (HMB.out _ (nth_mem j HJ.out)).2 x (by rw [HX6.out]; exact hx)
          · exact (HMB.out c q).2 x hx
end
end Go.Proofs.Ytmhdhnipljonlaa
