/- Chapter 4's Set at int,file. -/
import Derived.Test.YtmhdhnipljonlaaTabIFA
import Derived.Deep.RegionHeld3
import Derived.Deep.RegionWith
namespace Go.Proofs.Ytmhdhnipljonlaa
open Go.RowKit
set_option linter.unusedSimpArgs false
set_option linter.unusedVariables false
section
variable {base : Nat} {g : Nat} {lv : Value} {l : List (Int × (ByteArray × Sl))} {w w' : World}
set_option maxRecDepth 20000 in
set_option maxHeartbeats 400000 in
theorem tSetIF_old (w : World) (k : Int) (y : ByteArray × Sl) (hs : TBIF base w g lv l) (hr : Rising ltIF l) (hlen : l.length ≤ 100000) (hk : I64 k) (hn : isIn ltIF l k = true) :
    Calls Try.prog 53 #[.pointer (some ⟨g, 0, none⟩), iv k, fv y] w fun e w' => e = .returned (.bool false) ∧ TBIF base w' g lv (l.set (below ltIF l k) ((nth l (below ltIF l k)).1, y)) ∧ Upd (blk lv) w w' := by
  obtain ⟨nm, sl⟩ := y
  have hu0 := (Upd.refl [] w).alloc (.cells #[sv nm, slv sl] 91)
  have hs0 := hs.upd0 hu0
  have hc := tFindIF_any _ k hs0 hr hlen hk
  rw [hn] at hc
  have HC := Lib.hid hc
  have HS := Lib.hid hs0
  unfold isIn at hn
  have hlt := (of_decide_eq_true hn).1
  have hgl := hs.g_lv
  rcases hs0.rows.2 with ⟨-, h0⟩ | ⟨b, co, cur, rfl, hb, hg, -⟩
  · omega
  have hbw : b < w.heap.size := (hs.rows.ge b (by simp [blk])).2
  have HL := Lib.hid hlt
  obtain ⟨ao', co', e', -, -, hcell⟩ := hs.rows.rd rcIF_len
  injection e' with e1 e2 e3
  obtain ⟨b', off, e4, hc'⟩ := hcell (by intro h; simp [h] at hlt)
  rw [e4] at e1
  injection e1 with e1; injection e1 with e1 e5
  subst e1; subst e5
  have D0 := Lib.hid (show w.cell? ⟨g, 0, none⟩ = some (.slice (some ⟨b, 0, none⟩) l.length co) from hs.tab.cell 0)
  have D1 := Lib.hid (show w.cell? ⟨b, below ltIF l k * 3 + 1, none⟩ = some (sv (nth l (below ltIF l k)).2.1) from by simpa using hc' _ hlt 1 (by omega))
  have D2 := Lib.hid (show w.cell? ⟨b, below ltIF l k * 3 + 2, none⟩ = some (slv (nth l (below ltIF l k)).2.2) from by simpa using hc' _ hlt 2 (by omega))
  have HG := Lib.hid hg
  have HU0 := Lib.hid hu0
  clear hs hs0 hr hk hc hn hgl hg hcell hc' e2 e3 e4 hu0
  generalize below ltIF l k = i at *
  have q1 : (0 : Int) ≤ i := by omega
  have q2 : (i : Int) < l.length := by omega
  go_enter Try.func53, Try.ntmps53
  go_wp2_with fail
  (with_reducible refine HC.out.mono ?_)
  rintro e w1 ⟨rfl, hu1⟩
  have x0 := hu1.cell (p := ⟨w.heap.size, 0, none⟩) (v := sv nm) (by go_simp) (by simp)
  have x1 := hu1.cell (p := ⟨w.heap.size, 1, none⟩) (v := slv sl) (by go_simp) (by simp)
  have HU1 := Lib.hid (HU0.out.seq hu1)
  have d0 := HU1.out.cell D0.out (by simp)
  have d1 := HU1.out.cell D1.out (by simp)
  have d2 := HU1.out.cell D2.out (by simp)
  have hg1 := hu1.heap HG.out (by simp)
  have f1 : w1.frozen? ⟨b, i * 3 + 1, none⟩ = false := frozen_of_row w1 b _ cur _ hg1
  have f2 : w1.frozen? ⟨b, i * 3 + 2, none⟩ = false := frozen_of_row w1 b _ cur _ hg1
  have HS1 := Lib.hid (HS.out.upd0 hu1)
  clear hu1 hg1
  go_wp2_with fail
  go_region
  all_goals (go_wp2_with fail)
  all_goals
    go_ret
    have hl := HL.out
    have hs1 := HS1.out
    have hgb : g ≠ b := fun e => hs1.g_lv (by rw [e]; simp [blk])
    have hst : Upd [b] w1 ((w1.setCell ⟨b, i * 3 + 1, none⟩ (sv nm)).setCell ⟨b, i * 3 + 2, none⟩ (slv sl)) := ((Upd.refl [b] w1).setCell _ _ (.inl (by simp))).setCell _ _ (.inl (by simp))
    refine ⟨rfl, ⟨(hs1.tab.upd hst (by simpa using hgb)).upd (Upd.refl [] _).drew (by simp), ?_, hs1.gb⟩, ?_⟩
    · have h1 := OwnN.set_ rcIF_len hs1.rows i 1 hl (by omega) (sv nm) (l[i].1, nm, l[i].2.2) rfl
      have h2 := OwnN.set_ rcIF_len h1 i 2 (by rw [List.length_set]; exact hl) (by omega) (slv sl) (l[i].1, nm, sl) (by rw [List.getElem_set_self]; rfl)
      rw [List.set_set] at h2
      rw [nth_get l i hl]
      exact h2.upd (Upd.refl [] _).drew (by simp)
    · exact (((show Upd [b] w w1 from HU1.out.mono (by simp)).setCell _ _ (.inl (by simp))).setCell _ _ (.inl (by simp))).drew
set_option maxRecDepth 20000 in
set_option maxHeartbeats 1000000 in
theorem tSetIF_new (w : World) (k : Int) (y : ByteArray × Sl) (hs : TBIF base w g lv l) (hr : Rising ltIF l) (hlen : l.length ≤ 100000) (hbs : base ≤ w.heap.size) (hk : I64 k) (hn : isIn ltIF l k = false) :
    Calls Try.prog 53 #[.pointer (some ⟨g, 0, none⟩), iv k, fv y] w fun e w' => e = .returned (.bool true) ∧ ∃ lv', TBIF base w' g lv' (l.take (below ltIF l k) ++ (k, y) :: l.drop (below ltIF l k)) ∧ Upd (g :: blk lv) w w' ∧ (∀ x ∈ blk lv', x ∈ blk lv ∨ w.heap.size ≤ x) := by
  obtain ⟨nm, sl⟩ := y
  have hu0 := (Upd.refl [] w).alloc (.cells #[sv nm, slv sl] 91)
  have hs0 := hs.upd0 hu0
  have hc := tFindIF_any _ k hs0 hr hlen hk
  rw [hn] at hc
  have HC := Lib.hid hc
  have HS := Lib.hid hs
  have HU0 := Lib.hid hu0
  have hle := below_le (lt := ltIF) l k
  have HD : Hid (∀ (w1 W : World) (G : Nat), Upd [] w w1 → Upd [] w1 W → w1.heap.size ≤ G → Blk W G 132 [iv k, sv nm, slv sl] → Calls Try.prog 83 #[lv, .int .i64 ((below ltIF l k : Nat) : Int), .slice (some ⟨G, 0, none⟩) 1 1] W fun e w' => ∃ v', e = .returned v' ∧ OwnN 3 rcIF base 132 w' v' (l.take (below ltIF l k) ++ (k, nm, sl) :: l.drop (below ltIF l k)) ∧ Upd (blk lv) W w' ∧ (∀ y ∈ blk v', y ∈ blk lv ∨ W.heap.size ≤ y)) := fun w1 W G h1 h2 hG hB =>
    slInsIF_any W lv (below ltIF l k) G (k, nm, sl) (hs.rows.upd (h1.seq h2) (by simp)) hle hlen (by have := h1.size; have := h2.size; omega) hB (fun hx => by have := (hs.rows.ge _ hx).2; have := h1.size; omega)
  have D0 := Lib.hid (show w.cell? ⟨g, 0, none⟩ = some lv from hs.tab.cell 0)
  obtain ⟨ao, n, co, rfl⟩ := hs.rows.slice_
  clear hs hs0 hr hk hc hn hbs hle hu0
  generalize below ltIF l k = i at *
  go_enter Try.func53, Try.ntmps53
  go_wp2_with fail
  (with_reducible refine HC.out.mono ?_)
  rintro e w1 ⟨rfl, hu1⟩
  have x0 := hu1.cell (p := ⟨w.heap.size, 0, none⟩) (v := sv nm) (by go_simp) (by simp)
  have x1 := hu1.cell (p := ⟨w.heap.size, 1, none⟩) (v := slv sl) (by go_simp) (by simp)
  have HU1 := Lib.hid (HU0.out.seq hu1)
  have d0 := HU1.out.cell D0.out (by simp)
  have hgl := HS.out.g_lv
  have htab := HS.out.tab.upd HU1.out (by simp)
  have hua := (Upd.refl [] w1).alloc (.cells #[iv k, sv nm, slv sl] 132)
  have d0a := hua.cell d0 (by simp)
  have x0a := hua.cell x0 (by simp)
  have x1a := hua.cell x1 (by simp)
  clear hu1 hua
  go_wp2_with fail
  go_region_law
    (first
      | (go_simp; go_at_call 83; (with_reducible refine (HD.out w1 _ w1.heap.size HU1.out ?_ (Nat.le_refl _) ?_).mono ?_); (repeat (first | exact Upd.refl _ _ | apply Upd.drew | apply Upd.drewN | apply Upd.alloc)); (refine Blk.fresh (w := w1) (C := #[iv k, sv nm, slv sl]) (xs := [iv k, sv nm, slv sl]) rfl rfl ?_; (repeat (first | exact Upd.refl _ _ | apply Upd.drew | apply Upd.drewN | apply Upd.alloc))); (rintro e w2 ⟨v2, rfl, ho2, hu2, hb2⟩; obtain ⟨ao2, n2, co2, rfl⟩ := ho2.slice_; have hu3 : Upd [] w1 _ := Upd.alloc (Upd.drew (Upd.refl [] w1)) (.cells #[iv k, sv nm, slv sl] 132); have ht2 : Blk w2 g 127 _ := (htab.upd hu3 (by simp)).upd hu2 hgl; have f0 := ht2.frozen 0; have e0 := ht2.cell 0; dsimp only)))
  all_goals
    have hua := ((Upd.refl [] w1).alloc (.cells #[iv k, sv nm, slv sl] 132)).drew
    have hu4 : Upd (g :: blk (.slice ao n co)) w (w2.setCell ⟨g, 0, none⟩ (.slice ao2 n2 co2)) := ((HU1.out.seq hua).trans (T := g :: blk (.slice ao n co)) hu2 (by simp) (fun x hx => .inl (by simp [hx]))).setCell _ _ (.inl (by simp))
    have hb3 : ∀ x ∈ blk (.slice ao2 n2 co2), x ∈ blk (.slice ao n co) ∨ w.heap.size ≤ x := fun x hx => (hb2 x hx).imp id (fun h => by have := (HU1.out.seq hua).size; omega)
    have hg2 : g ∉ blk (.slice ao2 n2 co2) := fun hx => by
      rcases hb3 g hx with q | q
      · exact hgl q
      · have := HS.out.tab.lt; omega
    have HT : Hid (TBIF base (w2.setCell ⟨g, 0, none⟩ (.slice ao2 n2 co2)) g (.slice ao2 n2 co2) (l.take i ++ (k, nm, sl) :: l.drop i)) :=
      ⟨by simpa using ht2.set_ 0 (.slice ao2 n2 co2), ho2.upd ((Upd.refl [g] _).setCell _ _ (.inl (by simp))) (by intro x hx; simp; rintro rfl; exact hg2 hx), HS.out.gb⟩
    have HU4 := Lib.hid hu4
    have HB3 := Lib.hid hb3
    clear hua hu4 hb3 hg2 hu2 ho2 hb2 ht2 hgl
    go_wp2_with fail
    go_ret
    exact ⟨rfl, _, HT.out, HU4.out, HB3.out⟩
theorem tSetIF_any (w : World) (k : Int) (y : ByteArray × Sl) (hs : TBIF base w g lv l) (hr : Rising ltIF l) (hlen : l.length ≤ 100000) (hbs : base ≤ w.heap.size) (hk : I64 k) :
    Calls Try.prog 53 #[.pointer (some ⟨g, 0, none⟩), iv k, fv y] w fun e w' => e = .returned (.bool (!isIn ltIF l k)) ∧ ∃ lv', TBIF base w' g lv' (tSet ltIF l k y) ∧ Upd (g :: blk lv) w w' ∧ (∀ x ∈ blk lv', x ∈ blk lv ∨ w.heap.size ≤ x) := by
  cases hn : isIn ltIF l k with
  | false =>
    refine (tSetIF_new w k y hs hr hlen hbs hk hn).mono ?_
    rintro e w' ⟨rfl, v', ht, hu, hb⟩
    exact ⟨rfl, v', by unfold tSet; rw [hn]; exact ht, hu, hb⟩
  | true =>
    refine (tSetIF_old w k y hs hr hlen hk hn).mono ?_
    rintro e w' ⟨rfl, ht, hu⟩
    refine ⟨rfl, lv, ?_, hu.mono (fun x hx => .inl (by simp [hx])), fun x hx => .inl hx⟩
    rw [tSet_in l k y hn]; exact ht
end
end Go.Proofs.Ytmhdhnipljonlaa
