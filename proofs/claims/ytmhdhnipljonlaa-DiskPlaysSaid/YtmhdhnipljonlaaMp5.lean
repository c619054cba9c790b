/- Texts of the proof, joined: Chapter 22: Mark and Back. The document's disk: Back. The document's disk: new bytes, put. Chapter 22: may a file have that name?. Chapter 22: Rename, Cut, Remove. Chapter 22: Append. The document's disk: Append. -/
import Derived.Test.YtmhdhnipljonlaaMp4
import Derived.Test.YtmhdhnipljonlaaRows
import Derived.Test.YtmhdhnipljonlaaMp1
import Derived.Test.YtmhdhnipljonlaaMp3
namespace Go.Proofs.Ytmhdhnipljonlaa
open Go.RowKit
set_option linter.unusedSimpArgs false
set_option linter.unusedVariables false
section
variable {w0 w w' : World} {gd gn gm : Nat} {F B : List Nat} {K : KB} {cs : CF}
set_option maxRecDepth 20000 in
set_option maxHeartbeats 2000000 in
theorem mark_any (p1 : Option Addr) (s2 : Sl) (hd : Blk w gd 111 [.pointer (some ⟨gn, 0, none⟩), .pointer p1, slv s2]) (hgd : w0.heap.size ≤ gd) (ht : TD w0 w gn F B K cs) (hB : Bks w0.heap.size w B K) (hlen : cs.length ≤ 100000) :
    Calls Try.prog 36 #[.pointer (some ⟨gd, 0, none⟩)] w fun e w' => e = .returned (.tuple #[]) ∧ ∃ gm' Fm' cm', DC w0 w' gd gn gm' F Fm' B K cs cm' (.slice none 0 0) [] ∧ dfOf cm' = dfOf cs ∧ Upd [gd] w w' ∧ (∀ x ∈ Fm', w.heap.size ≤ x) := by
  obtain ⟨la, ln, lk⟩ := s2
  have c0 : w.cell? ⟨gd, 0, none⟩ = some (.pointer (some ⟨gn, 0, none⟩)) := hd.cell 0
  have HD := Lib.hid hd
  have HT := Lib.hid ht
  have HB := Lib.hid hB
  clear hd ht hB
  go_enter Try.func36, Try.ntmps36
  go_wp2_with fail
  (with_reducible refine (copied_any HT.out HB.out hlen).mono ?_)
  rintro e w1 ⟨g1, F1, cm, rfl, h1, hf1, hdf1, hu1, hfr1⟩
  have hd1 := HD.out.upd hu1 (by simp)
  have c1 : w1.cell? ⟨gd, 1, none⟩ = some (.pointer p1) := hd1.cell 1
  have c2 : w1.cell? ⟨gd, 2, none⟩ = some (.slice la ln lk) := hd1.cell 2
  have f1 := hd1.frozen 1
  have f2 := hd1.frozen 2
  have HD1 := Lib.hid hd1
  have H1 := Lib.hid h1
  have HF1 := Lib.hid hf1
  have HDF1 := Lib.hid hdf1
  have HU1 := Lib.hid hu1
  have HFR1 := Lib.hid hfr1
  clear hd1 h1 hf1 hdf1 hu1 hfr1 c0
  go_wp2_with fail
  go_end0
  have hset : Upd [gd] w1 ((w1.setCell ⟨gd, 1, none⟩ (.pointer (some ⟨g1, 0, none⟩))).setCell ⟨gd, 2, none⟩ (.slice none 0 0)) := ((Upd.refl [gd] w1).setCell _ _ (.inl (by simp))).setCell _ _ (.inl (by simp))
  have hblk := (HD1.out.set_ 1 (.pointer (some ⟨g1, 0, none⟩))).set_ 2 (.slice none 0 0)
  have hS : ∀ x ∈ [gd], w0.heap.size ≤ x := fun x hx => by simp at hx; omega
  have hT1 := HT.out.upd0 HU1.out
  have hB1 := HB.out.upd HU1.out (by simp)
  refine ⟨rfl, g1, F1, cm, ⟨hblk, hgd, hT1.upd hset (fun x hx hy => ?_) hS, H1.out.upd hset (fun x hx hy => ?_) hS, HF1.out, ?_, hB1.upd hset (fun x hx hy => ?_), OwnN.nil _ _ _, by simp⟩, HDF1.out, HU1.out.trans hset (by simp) (fun x hx => .inl hx), HFR1.out⟩
  · simp at hy; subst hy; exact dk_F HD1.out hT1.tab hx
  · simp at hy; subst hy; exact dk_F HD1.out H1.out.tab hx
  · exact Ap.symm (Ap.new (n := w.heap.size) HFR1.out (fun x hx => (HT.out.tab.ge x hx).2))
  · simp at hy; subst hy; exact dk_B HD1.out hB1 hx
end
section
variable {w0 w w' : World} {gd : Nat} {G : List Nat} {s : DS}
theorem dMark_any (h : DD w0 w gd G s) (hl : s.now.length ≤ 100000) :
    Calls Try.prog 36 #[.pointer (some ⟨gd, 0, none⟩)] w fun e w' => e = .returned (.tuple #[]) ∧ DOut w0 w gd G (dMark s) w' := by
  obtain ⟨gn, gm, Fn, Fm, B, K, cn, cm, lv, lg, hc, rfl, ho, rfl⟩ := h.ex
  obtain ⟨ao, co, rfl, -⟩ := hc.log.rd lwCells_len
  refine (mark_any _ ⟨ao, lg.length, co⟩ hc.dk hc.gdb hc.now hc.bks (by rwa [df_len] at hl)).mono ?_
  rintro e w' ⟨rfl, gm', Fm', cm', h', hd', hu, hfr⟩
  refine ⟨rfl, _, ⟨gn, gm', Fn, Fm', B, K, cn, cm', _, [], h', by rw [hd']; rfl, ho.mark, rfl⟩, hu.mono (fun x hx => .inl (by simp at hx; subst hx; exact (dfoot_mem _ _ _ _ _ _).2 (.inl rfl))), fun x hx => ?_⟩
  rcases (dfoot_mem _ _ _ _ _ _).1 hx with rfl | hx | hx | hx | hx
  · exact .inl ((dfoot_mem _ _ _ _ _ _).2 (.inl rfl))
  · exact .inl ((dfoot_mem _ _ _ _ _ _).2 (.inr (.inl hx)))
  · exact .inr (hfr x hx)
  · exact .inl ((dfoot_mem _ _ _ _ _ _).2 (.inr (.inr (.inr (.inl hx)))))
  · simp [blk] at hx
theorem wApply_len (x : Wr) (fs : DF) : (wApply x fs).length ≤ fs.length + 1 := by
  have h1 := fun k v => tSet_len (lt := strLt) fs k v
  have h2 := tDel_len (lt := strLt) fs x.nm
  have h3 := tSet_len (lt := strLt) (tDel strLt fs x.nm) x.tn (dGet fs x.nm).1
  unfold wApply
  split
  · exact h1 _ _
  split
  · exact h1 _ _
  split
  · split <;> omega
  split
  · exact h1 _ _
  split <;> omega
theorem wAll_len : ∀ {fs : DF} {l : List Wr}, LogOk fs l → fs.length ≤ 100000 → (wAll fs l).length ≤ 100000
  | fs, [], _, h => h
  | fs, x :: l, h, _ => wAll_len (fs := wApply x fs) h.2 (by have := wApply_len x fs; have := h.1.len; omega)
/-- While the raw writes are done again. -/
structure BL (w0 w wr : World) (gd gm : Nat) (Fn Fm B : List Nat) (K : KB) (cm : CF) (s2 : Sl) (lg : List LW) (k : Nat) (F' B' : List Nat) (K' : KB) (c' : CF) : Prop where
  dk : Blk wr gd 111 [.pointer (some ⟨gm, 0, none⟩), .pointer (some ⟨gm, 0, none⟩), slv s2]
  tab : TD w0 wr gm F' B' K' c'
  bks : Bks w0.heap.size wr B' K'
  ext : Ext B K B' K'
  eq : dfOf c' = wAll (dfOf cm) ((lg.map (·.1)).take k)
  log : OwnN 5 lwCells w0.heap.size 114 wr (slv s2) lg
  lsh : ∀ x ∈ lg, Sh B' K' x.2 x.1.p
  upd : Upd (dfoot gd Fn Fm B (slv s2)) w wr
  ff : ∀ x ∈ F', x ∈ Fm ∨ w.heap.size ≤ x
  fb : ∀ x ∈ B', x ∈ B ∨ w.heap.size ≤ x
theorem BL.upd0 {w0 w wr w' : World} {gd gm : Nat} {Fn Fm B : List Nat} {K : KB} {cm : CF} {s2 : Sl} {lg : List LW} {k : Nat} {F' B' : List Nat} {K' : KB} {c' : CF} (h : BL w0 w wr gd gm Fn Fm B K cm s2 lg k F' B' K' c') (hu : Upd [] wr w') : BL w0 w w' gd gm Fn Fm B K cm s2 lg k F' B' K' c' :=
  ⟨h.dk.upd hu (by simp), h.tab.upd0 hu, h.bks.upd hu (by simp), h.ext, h.eq, h.log.upd hu (by simp), h.lsh, h.upd.trans hu (fun x hx => hx) (by simp), h.ff, h.fb⟩
theorem BL.step {w0 w wr w' : World} {gd gm : Nat} {Fn Fm B : List Nat} {K : KB} {cm : CF} {s2 : Sl} {lg : List LW} {k : Nat} {F' B' : List Nat} {K' : KB} {c' : CF} (h : BL w0 w wr gd gm Fn Fm B K cm s2 lg k F' B' K' c') (hk : k < lg.length) (hd : TDoes w0 wr gm F' B' K' (wApply (nth lg k).1 (dfOf c')) w') :
    ∃ F'' B'' K'' c'', BL w0 w w' gd gm Fn Fm B K cm s2 lg (k + 1) F'' B'' K'' c'' := by
  obtain ⟨F2, B2, K2, c2, h1, h2, h3, h4, h5, h6, h7⟩ := hd
  have hw := h.upd.size
  refine ⟨F2, B2, K2, c2, ⟨h.dk.upd h5 (fun hx => ?_), h1, h2, h.ext.trans h3, ?_, h.log.upd h5 (fun x hx hx' => ?_), fun x hx => (h.lsh x hx).ext h3, h.upd.trans h5 (fun x hx => hx) (fun x hx => ?_), fun x hx => ?_, fun x hx => ?_⟩⟩
  · rcases List.mem_append.1 hx with q | q
    · exact dk_F h.dk h.tab.tab q
    · exact dk_B h.dk h.bks q
  · rw [h4, h.eq, wAll_take _ _ k (by simpa using hk)]
    congr 1
    rw [nth_get lg k hk, nth_get (lg.map (·.1)) k (by simpa using hk)]; simp
  · rcases List.mem_append.1 hx' with q | q
    · exact log_F h.log h.tab.tab x hx q
    · exact log_B h.log h.bks x hx q
  · rcases List.mem_append.1 hx with q | q
    · exact (h.ff x q).imp (fun q => (dfoot_mem _ _ _ _ _ _).2 (.inr (.inr (.inl q)))) id
    · exact (h.fb x q).imp (fun q => (dfoot_mem _ _ _ _ _ _).2 (.inr (.inr (.inr (.inl q))))) id
  · rcases h6 x hx with q | q
    · exact h.ff x q
    · exact .inr (by omega)
  · rcases h7 x hx with q | q
    · exact h.fb x q
    · exact .inr (by omega)
theorem BL.wok {w0 w wr : World} {gd gm : Nat} {Fn Fm B : List Nat} {K : KB} {cm : CF} {s2 : Sl} {lg : List LW} {k : Nat} {F' B' : List Nat} {K' : KB} {c' : CF} (h : BL w0 w wr gd gm Fn Fm B K cm s2 lg k F' B' K' c') (ho : LogOk (dfOf cm) (lg.map (·.1))) (hk : k < lg.length) : WrOk (nth lg k).1 (dfOf c') := by
  have h1 := ho.at_ k (by simpa using hk)
  rw [← h.eq, nth_get (lg.map (·.1)) k (by simpa using hk)] at h1
  rw [nth_get lg k hk]
  simpa using h1
theorem BL.step0 {w0 w wr w' : World} {gd gm : Nat} {Fn Fm B : List Nat} {K : KB} {cm : CF} {s2 : Sl} {lg : List LW} {k : Nat} {F' B' : List Nat} {K' : KB} {c' : CF} (h : BL w0 w wr gd gm Fn Fm B K cm s2 lg k F' B' K' c') (hk : k < lg.length) (hd : TDoes w0 wr gm F' B' K' (wApply (nth lg k).1 (dfOf c')) w') :
    ∃ F'' B'' K'' c'', BL w0 w w' gd gm Fn Fm B K cm s2 lg (k + 1) F'' B'' K'' c'' := h.step hk hd
theorem TDoes.later {w0 w w1 w' : World} {g : Nat} {F B : List Nat} {K : KB} {fs : DF} (h : TDoes w0 w1 g F B K fs w') (hu : Upd [] w w1) : TDoes w0 w g F B K fs w' := by
  obtain ⟨F2, B2, K2, c2, h1, h2, h3, h4, h5, h6, h7⟩ := h
  have := hu.size
  exact ⟨F2, B2, K2, c2, h1, h2, h3, h4, hu.trans h5 (by simp) (fun x hx => .inl hx), fun x hx => (h6 x hx).imp id (fun q => by omega), fun x hx => (h7 x hx).imp id (fun q => by omega)⟩
theorem BL.finish {w0 w wr w' : World} {gd gm gm' : Nat} {Fn Fm Fm' B : List Nat} {K : KB} {cn cm cm' : CF} {s2 : Sl} {lg : List LW} {k : Nat} {F' B' : List Nat} {K' : KB} {c' : CF} (h : BL w0 w wr gd gm Fn Fm B K cm s2 lg k F' B' K' c') (ho : DOk ⟨dfOf cn, dfOf cm, lg.map (·.1)⟩) (n : Int) (hm : min n.toNat lg.length = k)
    (h1 : DC w0 w' gd gm gm' F' Fm' B' K' c' cm' (.slice none 0 0) []) (h2 : dfOf cm' = dfOf c') (hu : Upd [gd] wr w') (hf : ∀ x ∈ Fm', wr.heap.size ≤ x) : DOut w0 w gd (dfoot gd Fn Fm B (slv s2)) (dBack ⟨dfOf cn, dfOf cm, lg.map (·.1)⟩ n) w' := by
  have he : dBackF ⟨dfOf cn, dfOf cm, lg.map (·.1)⟩ n = dfOf c' := by
    unfold dBackF
    rw [h.eq, ← hm]
    dsimp only
    congr 1
    rw [List.take_eq_take_iff]
    simp
  have hw := h.upd.size
  refine ⟨_, ⟨gm, gm', F', Fm', B', K', c', cm', _, [], h1, by unfold dBack; rw [he, h2]; rfl, ho.back n, rfl⟩, h.upd.trans hu (fun x hx => hx) (fun x hx => .inl (by simp at hx; subst hx; exact (dfoot_mem _ _ _ _ _ _).2 (.inl rfl))), fun x hx => ?_⟩
  rcases (dfoot_mem _ _ _ _ _ _).1 hx with rfl | hx | hx | hx | hx
  · exact .inl ((dfoot_mem _ _ _ _ _ _).2 (.inl rfl))
  · exact (h.ff x hx).imp (fun q => (dfoot_mem _ _ _ _ _ _).2 (.inr (.inr (.inl q)))) id
  · exact .inr (by have := hf x hx; omega)
  · exact (h.fb x hx).imp (fun q => (dfoot_mem _ _ _ _ _ _).2 (.inr (.inr (.inr (.inl q))))) id
  · simp [blk] at hx
set_option maxRecDepth 20000 in
set_option maxHeartbeats 4000000 in
theorem dBack_any (n : Int) (hn : I64 n) (h : DD w0 w gd G s) (hl : s.mark.length ≤ 100000) :
    Calls Try.prog 32 #[.pointer (some ⟨gd, 0, none⟩), .int .i64 n] w fun e w' => e = .returned (.tuple #[]) ∧ DOut w0 w gd G (dBack s n) w' := by
  obtain ⟨gn, gm, Fn, Fm, B, K, cn, cm, lv, lg, hc, rfl, ho, rfl⟩ := h.ex
  obtain ⟨ao, co, rfl, hlc, hcm, -⟩ := hc.log.rd lwCells_len
  have hmx : co ≤ 9223372036854775807 := by unfold maxLen at hcm; omega
  have c1 : w.cell? ⟨gd, 1, none⟩ = some (.pointer (some ⟨gm, 0, none⟩)) := hc.dk.cell 1
  have f0 := hc.dk.frozen 0
  have c0 : w.cell? ⟨gd, 0, none⟩ = some (.pointer (some ⟨gn, 0, none⟩)) := hc.dk.cell 0
  have hset : Upd [gd] w (w.setCell ⟨gd, 0, none⟩ (.pointer (some ⟨gm, 0, none⟩))) := (Upd.refl [gd] w).setCell _ _ (.inl (by simp))
  have hblk := hc.dk.set_ 0 (.pointer (some ⟨gm, 0, none⟩))
  have hS : ∀ x ∈ [gd], w0.heap.size ≤ x := fun x hx => by simp at hx; subst hx; exact hc.gdb
  have HBL : Hid (BL w0 w (w.setCell ⟨gd, 0, none⟩ (.pointer (some ⟨gm, 0, none⟩))) gd gm Fn Fm B K cm ⟨ao, lg.length, co⟩ lg 0 Fm B K cm) :=
    ⟨hblk, hc.mark.upd hset (fun x hx hy => by simp at hy; subst hy; exact dk_F hc.dk hc.mark.tab hx) hS, hc.bks.upd hset (fun x hx hy => by simp at hy; subst hy; exact dk_B hc.dk hc.bks hx), Ext.refl _ _, rfl, hc.log.upd hset (fun x hx hy => by simp at hy; subst hy; exact dk_L hc.dk hc.log hx), hc.lsh,
      hset.mono (fun x hx => .inl (by simp at hx; subst hx; exact (dfoot_mem _ _ _ _ _ _).2 (.inl rfl))), fun x hx => .inl hx, fun x hx => .inl hx⟩
  have HLOK := Lib.hid ho.log
  have HDK := Lib.hid ho
  have HGDB := Lib.hid hc.gdb
  have HML : Hid ((dfOf cm).length ≤ 100000) := hl
  have HN := Lib.hid hn
  clear h hc hset hblk hS ho hl
  go_enter Try.func32, Try.ntmps32
  go_wp2_with fail
  generalize w.setCell ⟨gd, 0, none⟩ (.pointer (some ⟨gm, 0, none⟩)) = w1 at *
  have c2 : w1.cell? ⟨gd, 2, none⟩ = some (.slice ao lg.length co) := HBL.out.dk.cell 2
  have hcase : (n ≤ 0 ∧ Hid (min n.toNat lg.length = 0)) ∨ (∃ m : Nat, n = (m : Int) ∧ 0 < m ∧ m ≤ lg.length ∧ Hid (min n.toNat lg.length = m)) ∨ ((lg.length : Int) < n ∧ 0 < n ∧ Hid (min n.toNat lg.length = lg.length)) := by
    unfold Hid
    rcases Int.lt_or_le 0 n with q | q
    · obtain ⟨m, rfl⟩ := Int.eq_ofNat_of_zero_le (Int.le_of_lt q)
      rcases Nat.lt_or_ge lg.length m with r | r
      · exact .inr (.inr ⟨by omega, q, by simp; omega⟩)
      · exact .inr (.inl ⟨m, rfl, by omega, r, by simp; omega⟩)
    · exact .inl ⟨q, by omega⟩
  rcases hcase with ⟨hn0, hm⟩ | ⟨m, rfl, hm0, hml, hm⟩ | ⟨hnl, hn0, hm⟩
  · rcases (show n < 0 ∨ n = 0 by omega) with q | rfl
    · have z0 : (if n < 0 then 0 else n) = 0 := if_pos q
      have HM := Lib.hid hm
      clear hm
      go_wp2_with fail
      go_quiet (fail)
      have HBQ : Hid (BL w0 w (w1.drewN nq) gd gm Fn Fm B K cm ⟨ao, lg.length, co⟩ lg 0 Fm B K cm) := HBL.out.upd0 ((Upd.refl [] w1).drewN _)
      generalize w1.drewN nq = w2 at *
      clear HBL c2 c1 f0 c0
      go_wp2_with fail
      go_loopw [27] (fun i wr => ∃ (k : Nat) (F' B' : List Nat) (K' : KB) (c' : CF), k ≤ 0 ∧ i = .int .i64 k ∧ Hid (BL w0 w wr gd gm Fn Fm B K cm ⟨ao, lg.length, co⟩ lg k F' B' K' c')) (fun i _ => 0 - (intOf i).toNat)
      case atStart => exact ⟨0, Fm, B, K, cm, Nat.zero_le _, rfl, HBQ⟩
      case round =>
        obtain ⟨k, F', B', K', c', hk, rfl, hb⟩ := hrel
        clear HBQ
        by_cases hlt : k < 0
        · exact absurd hlt (Nat.not_lt_zero _)
        · obtain rfl : k = 0 := by omega
          have HLEN : Hid (c'.length ≤ 100000) := by
            have h1 := wAll_len (HLOK.out.take 0) HML.out
            rw [← hb.out.eq, df_len] at h1
            exact h1
          go_wp2_with fail
          (with_reducible refine (mark_any (some ⟨gm, 0, none⟩) ⟨ao, lg.length, co⟩ hb.out.dk HGDB.out hb.out.tab hb.out.bks HLEN.out).mono ?_)
          rintro e w5 ⟨rfl, gm', Fm', cm', h', hd', hu, hfr⟩
          have HF := Lib.hid (hb.out.finish HDK.out n HM.out h' hd' hu hfr)
          clear h' hd' hu hfr hb
          go_wp2_with fail
          go_end0
          exact ⟨rfl, HF.out⟩
    · have HM := Lib.hid hm
      clear hm
      go_wp2_with fail
      go_quiet (fail)
      have HBQ : Hid (BL w0 w (w1.drewN nq) gd gm Fn Fm B K cm ⟨ao, lg.length, co⟩ lg 0 Fm B K cm) := HBL.out.upd0 ((Upd.refl [] w1).drewN _)
      generalize w1.drewN nq = w2 at *
      clear HBL c2 c1 f0 c0
      go_wp2_with fail
      go_loopw [27] (fun i wr => ∃ (k : Nat) (F' B' : List Nat) (K' : KB) (c' : CF), k ≤ 0 ∧ i = .int .i64 k ∧ Hid (BL w0 w wr gd gm Fn Fm B K cm ⟨ao, lg.length, co⟩ lg k F' B' K' c')) (fun i _ => 0 - (intOf i).toNat)
      case atStart => exact ⟨0, Fm, B, K, cm, Nat.zero_le _, rfl, HBQ⟩
      case round =>
        obtain ⟨k, F', B', K', c', hk, rfl, hb⟩ := hrel
        clear HBQ
        by_cases hlt : k < 0
        · exact absurd hlt (Nat.not_lt_zero _)
        · obtain rfl : k = 0 := by omega
          have HLEN : Hid (c'.length ≤ 100000) := by
            have h1 := wAll_len (HLOK.out.take 0) HML.out
            rw [← hb.out.eq, df_len] at h1
            exact h1
          go_wp2_with fail
          (with_reducible refine (mark_any (some ⟨gm, 0, none⟩) ⟨ao, lg.length, co⟩ hb.out.dk HGDB.out hb.out.tab hb.out.bks HLEN.out).mono ?_)
          rintro e w5 ⟨rfl, gm', Fm', cm', h', hd', hu, hfr⟩
          have HF := Lib.hid (hb.out.finish HDK.out 0 HM.out h' hd' hu hfr)
          clear h' hd' hu hfr hb
          go_wp2_with fail
          go_end0
          exact ⟨rfl, HF.out⟩
  · have HM := Lib.hid hm
    clear hm
    go_wp2_with fail
    go_quiet (fail)
    have HBQ : Hid (BL w0 w (w1.drewN nq) gd gm Fn Fm B K cm ⟨ao, lg.length, co⟩ lg 0 Fm B K cm) := HBL.out.upd0 ((Upd.refl [] w1).drewN _)
    generalize w1.drewN nq = w2 at *
    clear HBL c2 c1 f0 c0
    go_wp2_with fail
    go_loopw [27] (fun i wr => ∃ (k : Nat) (F' B' : List Nat) (K' : KB) (c' : CF), k ≤ m ∧ i = .int .i64 k ∧ Hid (BL w0 w wr gd gm Fn Fm B K cm ⟨ao, lg.length, co⟩ lg k F' B' K' c')) (fun i _ => m - (intOf i).toNat)
    case atStart => exact ⟨0, Fm, B, K, cm, Nat.zero_le _, rfl, HBQ⟩
    case round =>
      obtain ⟨k, F', B', K', c', hk, rfl, hb⟩ := hrel
      clear HBQ
      by_cases hlt : k < m
      · have hkl : k < lg.length := by omega
        obtain ⟨la, lc, he, -, -, hcell⟩ := hb.out.log.rd lwCells_len
        have e1 : ao = la := (Value.slice.inj he).1
        obtain ⟨lb, loff, e2, hcell⟩ := hcell (by intro h; simp [h] at hkl)
        obtain rfl : ao = some ⟨lb, loff, none⟩ := e1.trans e2
        have d0 : wr.cell? ⟨lb, loff + k * 5, none⟩ = some (.int .i64 (nth lg k).1.kd) := hcell k hkl 0 (by omega)
        have d1 : wr.cell? ⟨lb, loff + k * 5 + 1, none⟩ = some (sv (nth lg k).1.nm) := hcell k hkl 1 (by omega)
        have d2 : wr.cell? ⟨lb, loff + k * 5 + 2, none⟩ = some (sv (nth lg k).1.tn) := hcell k hkl 2 (by omega)
        have d3 : wr.cell? ⟨lb, loff + k * 5 + 3, none⟩ = some (slv (nth lg k).2) := hcell k hkl 3 (by omega)
        have d4 : wr.cell? ⟨lb, loff + k * 5 + 4, none⟩ = some (.int .i64 (nth lg k).1.n) := hcell k hkl 4 (by omega)
        have HW := Lib.hid (hb.out.wok HLOK.out hkl)
        have HSH := Lib.hid (hb.out.lsh (nth lg k) (by rw [nth_get _ _ hkl]; exact List.getElem_mem _))
        have HST := Lib.hid (fun w' hd => hb.out.step0 (w' := w') hkl hd)
        clear he hcell e1 e2
        generalize nth lg k = x at *
        obtain ⟨⟨kd, nm, tn, p, nn⟩, ⟨pa, pn, pk⟩⟩ := x
        simp only [slv, sv] at d0 d1 d2 d3 d4
        have q1 : (0 : Int) ≤ k := by omega
        have q2 : (k : Int) < m := by omega
        have hua : Upd [] wr (wr.alloc (.cells #[.int .i64 kd, sv nm, sv tn, .slice pa pn pk, .int .i64 nn] 114)) := (Upd.refl [] wr).alloc _
        have HB := Lib.hid (hb.out.upd0 hua)
        have hbx := Blk.new wr 114 [.int .i64 kd, sv nm, sv tn, .slice pa pn pk, .int .i64 nn]
        have HBX := Lib.hid hbx
        have HUA := Lib.hid hua
        clear hb hua hbx
        go_wp2_with fail
        have b0 := HBX.out.cell 0
        have b1 := HBX.out.cell 1
        have b2 := HBX.out.cell 2
        have b3 := HBX.out.cell 3
        have b4 := HBX.out.cell 4
        simp only [List.getElem?_cons_zero, List.getElem?_cons_succ] at b0 b1 b2 b3 b4
        generalize wr.alloc (.cells #[.int .i64 kd, sv nm, sv tn, .slice pa pn pk, .int .i64 nn] 114) = w3 at *
        have c0 : w3.cell? ⟨gd, 0, none⟩ = some (.pointer (some ⟨gm, 0, none⟩)) := HB.out.dk.cell 0
        clear d0 d1 d2 d3 d4
        go_still_tail 5, (by kernel_rfl)
        change wpList _ _ _ _ _ w3.drew
        go_wp2_with fail
        (with_reducible refine (apply_any ⟨kd, nm, tn, p, nn⟩ ⟨pa, pn, pk⟩ HW.out (HB.out.tab.upd0 (Upd.refl [] w3).drew) (HB.out.bks.upd (Upd.refl [] w3).drew (by simp)) HSH.out).mono ?_)
        rintro e w4 ⟨rfl, hd⟩
        have HD : Hid (TDoes w0 wr gm F' B' K' (wApply ⟨kd, nm, tn, p, nn⟩ (dfOf c')) w4) := hd.later HUA.out.drew
        clear hd c0
        obtain ⟨F4, B4, K4, c4, hb4⟩ := HST.out w4 HD.out
        have HB4 := Lib.hid hb4
        clear hb4 HST
        go_wp2_with fail
        go_roundw
        case rel => exact ⟨k + 1, F4, B4, K4, c4, by omega, by go_num, HB4⟩
        case measure => simp [intOf]; omega
      · obtain rfl : m = k := by omega
        have HLEN : Hid (c'.length ≤ 100000) := by
          have h1 := wAll_len (HLOK.out.take m) HML.out
          rw [← hb.out.eq, df_len] at h1
          exact h1
        go_wp2_with fail
        (with_reducible refine (mark_any (some ⟨gm, 0, none⟩) ⟨ao, lg.length, co⟩ hb.out.dk HGDB.out hb.out.tab hb.out.bks HLEN.out).mono ?_)
        rintro e w5 ⟨rfl, gm', Fm', cm', h', hd', hu, hfr⟩
        have HF := Lib.hid (hb.out.finish HDK.out (m : Int) HM.out h' hd' hu hfr)
        clear h' hd' hu hfr hb
        go_wp2_with fail
        go_end0
        exact ⟨rfl, HF.out⟩
  · have HM := Lib.hid hm
    clear hm
    go_wp2_with fail
    go_quiet (fail)
    have HBQ : Hid (BL w0 w (w1.drewN nq) gd gm Fn Fm B K cm ⟨ao, lg.length, co⟩ lg 0 Fm B K cm) := HBL.out.upd0 ((Upd.refl [] w1).drewN _)
    generalize w1.drewN nq = w2 at *
    clear HBL c2 c1 f0 c0
    go_wp2_with fail
    go_loopw [27] (fun i wr => ∃ (k : Nat) (F' B' : List Nat) (K' : KB) (c' : CF), k ≤ lg.length ∧ i = .int .i64 k ∧ Hid (BL w0 w wr gd gm Fn Fm B K cm ⟨ao, lg.length, co⟩ lg k F' B' K' c')) (fun i _ => lg.length - (intOf i).toNat)
    case atStart => exact ⟨0, Fm, B, K, cm, Nat.zero_le _, rfl, HBQ⟩
    case round =>
      obtain ⟨k, F', B', K', c', hk, rfl, hb⟩ := hrel
      clear HBQ
      by_cases hlt : k < lg.length
      · have hkl : k < lg.length := by omega
        obtain ⟨la, lc, he, -, -, hcell⟩ := hb.out.log.rd lwCells_len
        have e1 : ao = la := (Value.slice.inj he).1
        obtain ⟨lb, loff, e2, hcell⟩ := hcell (by intro h; simp [h] at hkl)
        obtain rfl : ao = some ⟨lb, loff, none⟩ := e1.trans e2
        have d0 : wr.cell? ⟨lb, loff + k * 5, none⟩ = some (.int .i64 (nth lg k).1.kd) := hcell k hkl 0 (by omega)
        have d1 : wr.cell? ⟨lb, loff + k * 5 + 1, none⟩ = some (sv (nth lg k).1.nm) := hcell k hkl 1 (by omega)
        have d2 : wr.cell? ⟨lb, loff + k * 5 + 2, none⟩ = some (sv (nth lg k).1.tn) := hcell k hkl 2 (by omega)
        have d3 : wr.cell? ⟨lb, loff + k * 5 + 3, none⟩ = some (slv (nth lg k).2) := hcell k hkl 3 (by omega)
        have d4 : wr.cell? ⟨lb, loff + k * 5 + 4, none⟩ = some (.int .i64 (nth lg k).1.n) := hcell k hkl 4 (by omega)
        have HW := Lib.hid (hb.out.wok HLOK.out hkl)
        have HSH := Lib.hid (hb.out.lsh (nth lg k) (by rw [nth_get _ _ hkl]; exact List.getElem_mem _))
        have HST := Lib.hid (fun w' hd => hb.out.step0 (w' := w') hkl hd)
        clear he hcell e1 e2
        generalize nth lg k = x at *
        obtain ⟨⟨kd, nm, tn, p, nn⟩, ⟨pa, pn, pk⟩⟩ := x
        simp only [slv, sv] at d0 d1 d2 d3 d4
        have q1 : (0 : Int) ≤ k := by omega
        have q2 : (k : Int) < lg.length := by omega
        have hua : Upd [] wr (wr.alloc (.cells #[.int .i64 kd, sv nm, sv tn, .slice pa pn pk, .int .i64 nn] 114)) := (Upd.refl [] wr).alloc _
        have HB := Lib.hid (hb.out.upd0 hua)
        have hbx := Blk.new wr 114 [.int .i64 kd, sv nm, sv tn, .slice pa pn pk, .int .i64 nn]
        have HBX := Lib.hid hbx
        have HUA := Lib.hid hua
        clear hb hua hbx
        go_wp2_with fail
        have b0 := HBX.out.cell 0
        have b1 := HBX.out.cell 1
        have b2 := HBX.out.cell 2
        have b3 := HBX.out.cell 3
        have b4 := HBX.out.cell 4
        simp only [List.getElem?_cons_zero, List.getElem?_cons_succ] at b0 b1 b2 b3 b4
        generalize wr.alloc (.cells #[.int .i64 kd, sv nm, sv tn, .slice pa pn pk, .int .i64 nn] 114) = w3 at *
        have c0 : w3.cell? ⟨gd, 0, none⟩ = some (.pointer (some ⟨gm, 0, none⟩)) := HB.out.dk.cell 0
        clear d0 d1 d2 d3 d4
        go_still_tail 5, (by kernel_rfl)
        change wpList _ _ _ _ _ w3.drew
        go_wp2_with fail
        (with_reducible refine (apply_any ⟨kd, nm, tn, p, nn⟩ ⟨pa, pn, pk⟩ HW.out (HB.out.tab.upd0 (Upd.refl [] w3).drew) (HB.out.bks.upd (Upd.refl [] w3).drew (by simp)) HSH.out).mono ?_)
        rintro e w4 ⟨rfl, hd⟩
        have HD : Hid (TDoes w0 wr gm F' B' K' (wApply ⟨kd, nm, tn, p, nn⟩ (dfOf c')) w4) := hd.later HUA.out.drew
        clear hd c0
        obtain ⟨F4, B4, K4, c4, hb4⟩ := HST.out w4 HD.out
        have HB4 := Lib.hid hb4
        clear hb4 HST
        go_wp2_with fail
        go_roundw
        case rel => exact ⟨k + 1, F4, B4, K4, c4, by omega, by go_num, HB4⟩
        case measure => simp [intOf]; omega
      · obtain rfl : k = lg.length := by omega
        have HLEN : Hid (c'.length ≤ 100000) := by
          have h1 := wAll_len (HLOK.out.take lg.length) HML.out
          rw [← hb.out.eq, df_len] at h1
          exact h1
        go_wp2_with fail
        (with_reducible refine (mark_any (some ⟨gm, 0, none⟩) ⟨ao, lg.length, co⟩ hb.out.dk HGDB.out hb.out.tab hb.out.bks HLEN.out).mono ?_)
        rintro e w5 ⟨rfl, gm', Fm', cm', h', hd', hu, hfr⟩
        have HF := Lib.hid (hb.out.finish HDK.out n HM.out h' hd' hu hfr)
        clear h' hd' hu hfr hb
        go_wp2_with fail
        go_end0
        exact ⟨rfl, HF.out⟩
end
end Go.Proofs.Ytmhdhnipljonlaa
namespace Go.Proofs.Ytmhdhnipljonlaa
open Go.RowKit
set_option linter.unusedSimpArgs false
set_option linter.unusedVariables false
section
variable {w0 w w' wr : World} {gr : Nat} {R : List Nat} {nv mv : Sl} {ln lm : List OW} {ov : Value} {ops : List LW}
/-- While the raw writes are done again on the document's list. -/
structure RB (w0 w wr : World) (gr : Nat) (R : List Nat) (nv mv : Sl) (ln lm : List OW) (ov : Value) (ops : List LW) (k : Nat) (R' : List Nat) (v : Value) (lk : List OW) : Prop where
  rc : RC w0 wr gr R nv mv ln lm ov ops
  cur : RL wr R' v lk
  sub : ∀ x ∈ R, x ∈ R'
  new : ∀ x ∈ R', x ∈ R ∨ (w.heap.size ≤ x ∧ x < wr.heap.size)
  eq : dfOf lk = wAll (dfOf lm) ((ops.map (·.1)).take k)
  upd : Upd [] w wr
theorem RB.step {k : Nat} {R' : List Nat} {v : Value} {lk : List OW} {e : Ending} (h : RB w0 w wr gr R nv mv ln lm ov ops k R' v lk) (hk : k < ops.length) (hd : RDoes wr R' (wApply (nth ops k).1 (dfOf lk)) e w') :
    ∃ a n c R'' l'', e = .returned (.slice a n c) ∧ RB w0 w w' gr R nv mv ln lm ov ops (k + 1) R'' (.slice a n c) l'' := by
  obtain ⟨v2, R2, l2, rfl, h2, ho2, h4, h5, h6, h7, -⟩ := hd
  obtain ⟨a2, c2, rfl, -⟩ := ho2.rd owCells_len
  have h1 := h.upd.size
  have h3 := h5.size
  refine ⟨a2, _, c2, R2, l2, rfl, h.rc.upd0 h5, h2, fun x hx => h6 x (h.sub x hx), fun x hx => ?_, ?_, h.upd.seq h5⟩
  · rcases h7 x hx with q | q
    · exact (h.new x q).imp id (fun q => ⟨q.1, by omega⟩)
    · exact .inr ⟨by omega, q.2⟩
  · rw [h4, h.eq, wAll_take _ _ k (by simpa using hk)]
    congr 1
    rw [nth_get ops k hk, nth_get (ops.map (·.1)) k (by simpa using hk)]; simp
theorem RB.wok {k : Nat} {R' : List Nat} {v : Value} {lk : List OW} (h : RB w0 w wr gr R nv mv ln lm ov ops k R' v lk) (ho : LogOk (dfOf lm) (ops.map (·.1))) (hk : k < ops.length) : WrOk (nth ops k).1 (dfOf lk) := by
  have h1 := ho.at_ k (by simpa using hk)
  rw [← h.eq, nth_get (ops.map (·.1)) k (by simpa using hk)] at h1
  rw [nth_get ops k hk]
  simpa using h1
theorem RB.finish {k : Nat} {R' : List Nat} {nv' : Sl} {lk : List OW} (h : RB w0 w wr gr R nv mv ln lm ov ops k R' (slv nv') lk) (ho : DOk ⟨dfOf ln, dfOf lm, ops.map (·.1)⟩) (n : Int) (hm : min n.toNat ops.length = k)
    (h1 : RC w0 w' gr R' nv' nv' lk lk (.slice none 0 0) []) (hu : Upd [gr] wr w') : ROut w0 w gr (rfoot gr R ov) (dBack ⟨dfOf ln, dfOf lm, ops.map (·.1)⟩ n) w' := by
  have he : dBackF ⟨dfOf ln, dfOf lm, ops.map (·.1)⟩ n = dfOf lk := by
    unfold dBackF
    rw [h.eq, ← hm]
    dsimp only
    congr 1
    rw [List.take_eq_take_iff]
    simp
  refine ⟨_, ⟨R', nv', nv', lk, lk, _, [], h1, by unfold dBack; rw [he]; rfl, ho.back n, rfl⟩, h.upd.trans hu (by simp) (fun x hx => .inl (by simp at hx; subst hx; exact (rfoot_mem _ _ _ _).2 (.inl rfl))), fun x hx => ?_⟩
  rcases (rfoot_mem _ _ _ _).1 hx with rfl | hx | hx
  · exact .inl ((rfoot_mem _ _ _ _).2 (.inl rfl))
  · exact (h.new x hx).imp (fun q => (rfoot_mem _ _ _ _).2 (.inr (.inl q))) (fun q => q.1)
  · simp [blk] at hx
end
section
variable {w0 w w' : World} {gr : Nat} {G : List Nat} {s : DS}
theorem LogOk.tot_at {fs : DF} {l : List Wr} (h : LogOk fs l) (ht : dTotal fs ≤ 16777216) : dTotal (wAll fs l) ≤ 16777216 := by
  induction l generalizing fs with
  | nil => exact ht
  | cons x l ih => exact ih h.2 h.1.tot
set_option maxRecDepth 20000 in
set_option maxHeartbeats 4000000 in
theorem rBack_any (n : Int) (hn : I64 n) (h : RD w0 w gr G s) (hl : s.log.length ≤ 1000000000) :
    Calls Try.prog 70 #[.pointer (some ⟨gr, 0, none⟩), .int .i64 n] w fun e w' => e = .returned (.tuple #[]) ∧ ROut w0 w gr G (dBack s n) w' := by
  obtain ⟨R, ⟨na, nn, nk⟩, ⟨ma, mn, mk⟩, ln, lm, ov, ops, hc, rfl, ho, rfl⟩ := h.ex
  obtain ⟨ao, co, rfl, hlc, hcm, -⟩ := hc.opw.rd lwCells_len
  have hmx : co ≤ 9223372036854775807 := by unfold maxLen at hcm; omega
  have c1 : w.cell? ⟨gr, 1, none⟩ = some (.slice ma mn mk) := hc.dk.cell 1
  have HB0 : Hid (RB w0 w w gr R ⟨na, nn, nk⟩ ⟨ma, mn, mk⟩ ln lm (.slice ao ops.length co) ops 0 R (.slice ma mn mk) lm) :=
    ⟨hc, hc.mark, fun x hx => hx, fun x hx => .inl hx, rfl, Upd.refl _ _⟩
  have HLOK := Lib.hid ho.log
  have HC0 := Lib.hid hc
  have HDK := Lib.hid ho
  have HTM : Hid (dTotal (dfOf lm) ≤ 16777216) := ho.totm
  have HN := Lib.hid hn
  obtain ⟨m, hm⟩ : ∃ m, min n.toNat ops.length = m := ⟨_, rfl⟩
  have HM := Lib.hid hm
  have hmo : m ≤ ops.length := by omega
  have HLN : Hid (ops.length ≤ 1000000000) := by simpa [Hid] using hl
  clear h hc ho hl hm
  go_enter Try.func70, Try.ntmps70
  go_wp2_with fail
  go_loopw [4, 5] (fun v i wr => ∃ (k : Nat) (R' : List Nat) (va : Option Addr) (vn vk : Nat) (lk : List OW), k ≤ m ∧ i = .int .i64 k ∧ v = .slice va vn vk ∧ Hid (RB w0 w wr gr R ⟨na, nn, nk⟩ ⟨ma, mn, mk⟩ ln lm (.slice ao ops.length co) ops k R' (.slice va vn vk) lk)) (fun _ i _ => m - (intOf i).toNat)
  case atStart => exact ⟨0, R, ma, mn, mk, lm, Nat.zero_le _, rfl, rfl, HB0⟩
  case round =>
    obtain ⟨k, R', va, vn, vk, lk, hk, rfl, rfl, hb⟩ := hrel
    clear HB0 c1
    have c2 : wr.cell? ⟨gr, 2, none⟩ = some (.slice ao ops.length co) := hb.out.rc.dk.cell 2
    by_cases hlt : k < m
    · have hkl : k < ops.length := by omega
      obtain ⟨la, lc, he, -, -, hcell⟩ := hb.out.rc.opw.rd lwCells_len
      have e1 : ao = la := (Value.slice.inj he).1
      obtain ⟨lb, loff, e2, hcell⟩ := hcell (by intro h; simp [h] at hkl)
      obtain rfl : ao = some ⟨lb, loff, none⟩ := e1.trans e2
      have d0 : wr.cell? ⟨lb, loff + k * 5, none⟩ = some (.int .i64 (nth ops k).1.kd) := hcell k hkl 0 (by omega)
      have d1 : wr.cell? ⟨lb, loff + k * 5 + 1, none⟩ = some (sv (nth ops k).1.nm) := hcell k hkl 1 (by omega)
      have d2 : wr.cell? ⟨lb, loff + k * 5 + 2, none⟩ = some (sv (nth ops k).1.tn) := hcell k hkl 2 (by omega)
      have d3 : wr.cell? ⟨lb, loff + k * 5 + 3, none⟩ = some (slv (nth ops k).2) := hcell k hkl 3 (by omega)
      have d4 : wr.cell? ⟨lb, loff + k * 5 + 4, none⟩ = some (.int .i64 (nth ops k).1.n) := hcell k hkl 4 (by omega)
      have HW := Lib.hid (hb.out.wok HLOK.out hkl)
      have hmem : nth ops k ∈ ops := by rw [nth_get _ _ hkl]; exact List.getElem_mem _
      have HP := Lib.hid (hb.out.rc.odat _ hmem)
      have HTT : Hid (dTotal (dfOf lk) ≤ 16777216) := by unfold Hid; rw [hb.out.eq]; exact (HLOK.out.take k).tot_at HTM.out
      have HST := Lib.hid (fun e w' hd => hb.out.step (e := e) (w' := w') hkl hd)
      clear he hcell e1 e2 hmem
      generalize nth ops k = x at *
      obtain ⟨⟨kd, nm, tn, p, nn⟩, ⟨pa, pn, pk⟩⟩ := x
      simp only [slv, sv] at d0 d1 d2 d3 d4
      have q1 : (0 : Int) ≤ k := by omega
      have q2 : (k : Int) < n := by have := HM.out; omega
      have q3 : (k : Int) < ops.length := by omega
      go_wp2_with fail
      (with_reducible refine (rMade_any ⟨kd, nm, tn, p, nn⟩ ⟨pa, pn, pk⟩ hb.out.cur HW.out HP.out HTT.out).mono ?_)
      intro e w4 hd
      obtain ⟨a4, n4, c4, R4, l4, rfl, h4⟩ := HST.out e w4 hd
      have HB4 := Lib.hid h4
      clear h4 hd HST
      go_wp2_with fail
      go_roundw
      case rel => exact ⟨k + 1, R4, a4, n4, c4, l4, by omega, by go_num, rfl, HB4⟩
      case measure => simp [intOf]; omega
    · obtain rfl : m = k := by omega
      have f0 := hb.out.rc.dk.frozen 0
      have c0 : wr.cell? ⟨gr, 0, none⟩ = some (.slice na nn nk) := hb.out.rc.dk.cell 0
      have HRC : Hid (RC w0 (wr.setCell ⟨gr, 0, none⟩ (.slice va vn vk)) gr R' ⟨va, vn, vk⟩ ⟨ma, mn, mk⟩ lk lm (.slice ao ops.length co) ops) :=
        HC0.out.setNow (nv' := ⟨va, vn, vk⟩) hb.out.cur hb.out.upd hb.out.sub hb.out.new
      rcases (show n ≤ (m : Int) ∨ ((m : Int) < n ∧ (ops.length : Int) ≤ m) by have := HM.out; omega) with q | ⟨q, q2⟩
      all_goals
        go_wp2_with fail
        (with_reducible refine (rSetMarkC_any HRC.out).mono ?_)
        rintro e w5 ⟨rfl, h5, hu5⟩
        have hset : Upd [gr] wr (wr.setCell ⟨gr, 0, none⟩ (.slice va vn vk)) := (Upd.refl [gr] wr).setCell _ _ (.inl (by simp))
        have HF := Lib.hid (hb.out.finish (nv' := ⟨va, vn, vk⟩) HDK.out n HM.out h5 (hset.trans hu5 (fun x hx => hx) (fun x hx => .inl hx)))
        clear h5 hu5 hset hb
        go_wp2_with fail
        go_end0
        exact ⟨rfl, HF.out⟩
end
end Go.Proofs.Ytmhdhnipljonlaa
namespace Go.Proofs.Ytmhdhnipljonlaa
open Go.RowKit
set_option linter.unusedSimpArgs false
set_option linter.unusedVariables false
section
variable {w0 w w' : World} {gr : Nat} {R : List Nat} {nv mv : Sl} {ln lm : List OW} {ov : Value} {ops : List LW}
theorem RL.more {w : World} {R R' : List Nat} {v : Value} {l : List OW} (h : RL w R v l) (hs : ∀ x ∈ R, x ∈ R') : RL w R' v l :=
  ⟨h.row, fun x hx => hs x (h.vR x hx), h.dat, fun c hc x hx => hs x (h.dR c hc x hx), h.ris⟩
theorem RC.bytes (h : RC w0 w gr R nv mv ln lm ov ops) {v : Value} {l : List UInt8} (ho : Own bv w.heap.size 5 w' v l) (hu : Upd [] w w') : RC w0 w' gr (R ++ blk v) nv mv ln lm ov ops := by
  have h0 := h.upd0 hu
  have hlt := h.dk.lt
  have hs : ∀ x ∈ R, x ∈ R ++ blk v := fun x hx => List.mem_append.2 (.inl hx)
  refine ⟨h0.dk, h0.grb, fun hx => ?_, h0.now.more hs, h0.mark.more hs, h0.opw, h0.odat, fun x hx y hy => hs y (h0.oR x hx y hy), fun x hx hy => ?_, h0.old, fun x hx => ?_⟩
  · rcases List.mem_append.1 hx with q | q
    · exact h.grR q
    · have := (ho.ge gr q).1; omega
  · rcases List.mem_append.1 hy with q | q
    · exact h.oap x hx q
    · have := (ho.ge x q).1; have := (h.opw.ge x hx).2; omega
  · rcases List.mem_append.1 hx with q | q
    · exact h0.Rlt x q
    · have h1 := ho.ge x q; have h2 := h.old.size; exact ⟨by omega, h1.2⟩
end
section
variable {w0 w w' : World} {gr : Nat} {G : List Nat} {s : DS}
theorem rPut_any (nm : ByteArray) (c : List UInt8) (sl : Sl) (h : RD w0 w gr G s) (ho : Own bv w.heap.size 5 w' (slv sl) c) (hu : Upd [] w w') (hx : WrOk (wPut nm c) s.now) (hl : s.log.length ≤ 1000000000) :
    Calls Try.prog 92 #[.pointer (some ⟨gr, 0, none⟩), wrv (wPut nm c) sl] w' fun e w2 => e = .returned (.tuple #[]) ∧ ROut w0 w gr G (dDo (wPut nm c) s) w2 := by
  obtain ⟨R, nv, mv, ln, lm, ov, ops, hc, rfl, hok, rfl⟩ := h.ex
  have hc2 := hc.bytes ho hu
  refine (rDoC_any (wPut nm c) sl hc2 hx hok.tot ho.rd (fun y hy => List.mem_append.2 (.inr hy)) (by simpa using hl)).mono ?_
  rintro e w2 ⟨rfl, R', nv', ln', ov', h1, h3, h4, h5⟩
  have hf : ∀ x ∈ rfoot gr (R ++ blk (slv sl)) ov, x ∈ rfoot gr R ov ∨ w.heap.size ≤ x := fun x hx => by
    rcases (rfoot_mem _ _ _ _).1 hx with rfl | q | q
    · exact .inl ((rfoot_mem _ _ _ _).2 (.inl rfl))
    · rcases List.mem_append.1 q with q | q
      · exact .inl ((rfoot_mem _ _ _ _).2 (.inr (.inl q)))
      · exact .inr (ho.ge x q).1
    · exact .inl ((rfoot_mem _ _ _ _).2 (.inr (.inr q)))
  refine ⟨rfl, _, ⟨R', nv', mv, ln', lm, ov', _, h1, by unfold dDo; rw [h3]; simp, hok.do_ hx, rfl⟩, hu.trans h4 (by simp) hf, fun x hx => ?_⟩
  rcases h5 x hx with q | q
  · exact hf x q
  · exact .inr (by have := hu.size; omega)
end
end Go.Proofs.Ytmhdhnipljonlaa
namespace Go.Proofs.Ytmhdhnipljonlaa
open Go.RowKit
set_option linter.unusedSimpArgs false
set_option linter.unusedVariables false
set_option maxRecDepth 20000 in
set_option maxHeartbeats 1000000 in
theorem dnamed_lo (w : World) (s : ByteArray) (h : s.size < 1) :
    Calls Try.prog 59 #[sv s] w fun e w' => e = .returned (.bool (nameOk s)) ∧ w = w' := by
  have q : ¬ (1 : Int) ≤ s.size := by omega
  have HN : Hid (nameOk s = false) := by unfold Hid nameOk; exact decide_eq_false (fun x => by omega)
  go_enter Try.func59, Try.ntmps59
  go_wp2_with fail
  go_loopw [3, 4] (fun x i wr => ∃ (k : Nat) (b : Bool), k ≤ s.size ∧ i = .int .i64 k ∧ x = .bool b ∧ w = wr ∧ Hid (b = true → 1 ≤ s.size ∧ s.size ≤ 32 ∧ ∀ j (h : j < s.size), j < k → 33 ≤ (s[j]).toNat ∧ (s[j]).toNat ≤ 126) ∧ Hid (b = false → nameOk s = false)) (fun _ i _ => s.size - (intOf i).toNat)
  case atStart => exact ⟨0, false, Nat.zero_le _, rfl, rfl, rfl, fun h => absurd h (by simp), fun _ => HN.out⟩
  case round =>
    obtain ⟨k, b, hk, rfl, rfl, rfl, ht, hf⟩ := hrel
    by_cases hlt : k < s.size
    · exact absurd hlt (by omega)
    · obtain rfl : k = s.size := by omega
      have HN : Hid (nameOk s = b) := by
        cases b with
        | false => exact hf.out rfl
        | true => obtain ⟨t1, t2, t3⟩ := ht.out rfl; unfold Hid nameOk; exact decide_eq_true ⟨t1, t2, fun j hj => t3 j hj hj⟩
      clear ht hf
      go_wp2_with fail
      go_ret
      exact ⟨by rw [HN.out]; rfl, rfl⟩
set_option maxRecDepth 20000 in
set_option maxHeartbeats 1000000 in
theorem dnamed_hi (w : World) (s : ByteArray) (h : 32 < s.size) :
    Calls Try.prog 59 #[sv s] w fun e w' => e = .returned (.bool (nameOk s)) ∧ w = w' := by
  have q : (1 : Int) ≤ s.size := by omega
  have q' : ¬ (s.size : Int) ≤ 32 := by omega
  have HN : Hid (nameOk s = false) := by unfold Hid nameOk; exact decide_eq_false (fun x => by omega)
  go_enter Try.func59, Try.ntmps59
  go_wp2_with fail
  go_loopw [3, 4] (fun x i wr => ∃ (k : Nat) (b : Bool), k ≤ s.size ∧ i = .int .i64 k ∧ x = .bool b ∧ w = wr ∧ Hid (b = true → 1 ≤ s.size ∧ s.size ≤ 32 ∧ ∀ j (h : j < s.size), j < k → 33 ≤ (s[j]).toNat ∧ (s[j]).toNat ≤ 126) ∧ Hid (b = false → nameOk s = false)) (fun _ i _ => s.size - (intOf i).toNat)
  case atStart => exact ⟨0, false, Nat.zero_le _, rfl, rfl, rfl, fun h => absurd h (by simp), fun _ => HN.out⟩
  case round =>
    obtain ⟨k, b, hk, rfl, rfl, rfl, ht, hf⟩ := hrel
    by_cases hlt : k < s.size
    · have q1 : (k : Int) < s.size := by omega
      have q0 : (0 : Int) ≤ k := by omega
      cases b with
      | true =>
        exact absurd (ht.out rfl).2.1 (by omega)
      | false =>
        have HN := Lib.hid (hf.out rfl)
        clear ht hf
        go_wp2_with fail
        go_ret
        exact ⟨by rw [HN.out]; rfl, rfl⟩
    · obtain rfl : k = s.size := by omega
      have HN : Hid (nameOk s = b) := by
        cases b with
        | false => exact hf.out rfl
        | true => obtain ⟨t1, t2, t3⟩ := ht.out rfl; unfold Hid nameOk; exact decide_eq_true ⟨t1, t2, fun j hj => t3 j hj hj⟩
      clear ht hf
      go_wp2_with fail
      go_ret
      exact ⟨by rw [HN.out]; rfl, rfl⟩
set_option maxRecDepth 20000 in
set_option maxHeartbeats 1000000 in
theorem dnamed_mid (w : World) (s : ByteArray) (h : 1 ≤ s.size) (h2 : s.size ≤ 32) :
    Calls Try.prog 59 #[sv s] w fun e w' => e = .returned (.bool (nameOk s)) ∧ w = w' := by
  have q : (1 : Int) ≤ s.size := by omega
  have q' : (s.size : Int) ≤ 32 := by omega
  go_enter Try.func59, Try.ntmps59
  go_wp2_with fail
  go_loopw [3, 4] (fun x i wr => ∃ (k : Nat) (b : Bool), k ≤ s.size ∧ i = .int .i64 k ∧ x = .bool b ∧ w = wr ∧ Hid (b = true → 1 ≤ s.size ∧ s.size ≤ 32 ∧ ∀ j (h : j < s.size), j < k → 33 ≤ (s[j]).toNat ∧ (s[j]).toNat ≤ 126) ∧ Hid (b = false → nameOk s = false)) (fun _ i _ => s.size - (intOf i).toNat)
  case atStart => exact ⟨0, true, Nat.zero_le _, rfl, rfl, rfl, fun _ => ⟨by omega, by omega, fun j _ h => absurd h (by omega)⟩, fun h => absurd h (by simp)⟩
  case round =>
    obtain ⟨k, b, hk, rfl, rfl, rfl, ht, hf⟩ := hrel
    by_cases hlt : k < s.size
    · have q1 : (k : Int) < s.size := by omega
      have q0 : (0 : Int) ≤ k := by omega
      cases b with
      | true =>
        obtain ⟨t1, t2, t3⟩ := ht.out rfl
        have HT3 := Lib.hid t3
        clear t3 ht hf
        by_cases b1 : 33 ≤ (s[k]).toNat
        · have c1 : ¬ ((s[k]).toNat : Int) < 33 := by omega
          by_cases b2 : (s[k]).toNat ≤ 126
          · have c2 : ¬ (126 : Int) < ((s[k]).toNat : Int) := by omega
            have HB1 := Lib.hid b1
            have HB2 := Lib.hid b2
            have e1 : decide (33 ≤ (s[k]).toNat) = true := decide_eq_true b1
            have e2 : decide ((s[k]).toNat ≤ 126) = true := decide_eq_true b2
            clear b1 b2
            go_wp2_with fail
            go_roundw
            case rel => exact ⟨k + 1, true, by omega, by go_num, by first | rfl | exact congrArg Value.bool (decide_eq_true (by omega)), by first | trivial | rfl, fun _ => ⟨t1, t2, fun j hj hjk => by
              rcases Nat.lt_or_eq_of_le (Nat.le_of_lt_succ hjk) with h | h
              · exact HT3.out j hj h
              · subst h; exact ⟨HB1.out, HB2.out⟩⟩, fun h => absurd h (by simp)⟩
            case measure => (try simp [intOf]) <;> omega
          · have c2 : (126 : Int) < ((s[k]).toNat : Int) := by omega
            have HN : Hid (nameOk s = false) := by unfold Hid nameOk; exact decide_eq_false (fun h => b2 (h.2.2 k hlt).2)
            have HB1 := Lib.hid b1
            have e1 : decide (33 ≤ (s[k]).toNat) = true := decide_eq_true b1
            have e2 : decide ((s[k]).toNat ≤ 126) = false := decide_eq_false b2
            clear b1 b2
            go_wp2_with fail
            go_roundw
            case rel => exact ⟨k + 1, false, by omega, by go_num, by first | rfl | exact congrArg Value.bool (decide_eq_false (by omega)), by first | trivial | rfl, fun h => absurd h (by simp), fun _ => HN.out⟩
            case measure => (try simp [intOf]) <;> omega
        · have c1 : ((s[k]).toNat : Int) < 33 := by omega
          have HN : Hid (nameOk s = false) := by unfold Hid nameOk; exact decide_eq_false (fun h => b1 (h.2.2 k hlt).1)
          have e1 : decide (33 ≤ (s[k]).toNat) = false := decide_eq_false b1
          clear b1
          go_wp2_with fail
          go_roundw
          case rel => exact ⟨k + 1, false, by omega, by go_num, by first | rfl | exact congrArg Value.bool (decide_eq_false (by omega)), by first | trivial | rfl, fun h => absurd h (by simp), fun _ => HN.out⟩
          case measure => (try simp [intOf]) <;> omega
      | false =>
        have HN := Lib.hid (hf.out rfl)
        clear ht hf
        go_wp2_with fail
        go_ret
        exact ⟨by rw [HN.out]; rfl, rfl⟩
    · obtain rfl : k = s.size := by omega
      have HN : Hid (nameOk s = b) := by
        cases b with
        | false => exact hf.out rfl
        | true => obtain ⟨t1, t2, t3⟩ := ht.out rfl; unfold Hid nameOk; exact decide_eq_true ⟨t1, t2, fun j hj => t3 j hj hj⟩
      clear ht hf
      go_wp2_with fail
      go_ret
      exact ⟨by rw [HN.out]; rfl, rfl⟩
theorem dnamed_any (w : World) (s : ByteArray) :
    Calls Try.prog 59 #[sv s] w fun e w' => e = .returned (.bool (nameOk s)) ∧ w = w' := by
  rcases (show s.size < 1 ∨ 32 < s.size ∨ (1 ≤ s.size ∧ s.size ≤ 32) by omega) with h | h | ⟨h, h2⟩
  · exact dnamed_lo w s h
  · exact dnamed_hi w s h
  · exact dnamed_mid w s h h2
end Go.Proofs.Ytmhdhnipljonlaa
namespace Go.Proofs.Ytmhdhnipljonlaa
open Go.RowKit
set_option linter.unusedSimpArgs false
set_option linter.unusedVariables false
section
variable {w0 w w' : World} {gd : Nat} {G : List Nat} {s : DS}
/-- What a call on a disk answers, and the disk behind it. -/
def DDoes (w0 w : World) (gd : Nat) (G : List Nat) (r : Int × DS) (e : Ending) (w' : World) : Prop := e = .returned (.int .i64 r.1) ∧ DOut w0 w gd G r.2 w'
theorem DOut.later {w1 : World} (hu : Upd [] w w1) (h : DOut w0 w1 gd G s w') : DOut w0 w gd G s w' := by
  obtain ⟨G', h1, h2, h3⟩ := h
  exact ⟨G', h1, hu.trans h2 (by simp) (fun x hx => .inl hx), fun x hx => (h3 x hx).imp id (fun q => by have := hu.size; omega)⟩
/-- A raw write, as the laws see it. -/
theorem dDo_any (x : Wr) (h : DD w0 w gd G s) (hx : WrOk x s.now) (hp : x.p = []) (hl : s.log.length ≤ 1000000000) :
    Calls Try.prog 61 #[.pointer (some ⟨gd, 0, none⟩), wrv x ⟨none, 0, 0⟩] w fun e w' => e = .returned (.tuple #[]) ∧ DOut w0 w gd G (dDo x s) w' := by
  obtain ⟨gn, gm, Fn, Fm, B, K, cn, cm, lv, lg, hc, rfl, ho, rfl⟩ := h.ex
  refine (do_any x ⟨none, 0, 0⟩ hc hx (by rw [hp]; exact Sh.nil) (by simpa using hl)).mono ?_
  rintro e w' ⟨rfl, Fn', B', K', cn', lv', h1, h2, h3, h4, h5⟩
  exact ⟨rfl, _, ⟨gn, gm, Fn', Fm, B', K', cn', cm, lv', _, h1, by unfold dDo; rw [h3]; simp, ho.do_ hx, rfl⟩, h4, h5⟩
theorem DD.p0 (h : DD w0 w gd G s) : ∃ gn Fn B K cn, w.cell? ⟨gd, 0, none⟩ = some (.pointer (some ⟨gn, 0, none⟩)) ∧ TD w0 w gn Fn B K cn ∧ dfOf cn = s.now := by
  obtain ⟨gn, gm, Fn, Fm, B, K, cn, cm, lv, lg, hc, rfl, ho, rfl⟩ := h.ex
  exact ⟨gn, Fn, B, K, cn, hc.dk.cell 0, hc.now, rfl⟩
/-- The look for a name, as the calls begin. -/
theorem DD.look (h : DD w0 w gd G s) (nm : ByteArray) (hl : s.now.length ≤ 5000) : ∃ gn oa on ok, w.cell? ⟨gd, 0, none⟩ = some (.pointer (some ⟨gn, 0, none⟩)) ∧ on = (dGet s.now nm).1.length ∧
    ∀ W, Upd [] w W → Calls Try.prog 60 #[.pointer (some ⟨gn, 0, none⟩), sv nm] W fun e w' => e = .returned (.tuple #[.slice oa on ok, .bool (inD s.now nm)]) ∧ Upd [] W w' := by
  obtain ⟨gn, Fn, B, K, cn, h0, ht, he⟩ := h.p0
  obtain ⟨⟨oa, on, ok⟩, old, b, hget, hdg, hin, hsh, hgr, hoth⟩ := ht.found nm
  rw [he] at hdg hin
  refine ⟨gn, oa, on, ok, h0, by rw [hdg]; exact hsh.n, fun W hW => ?_⟩
  rw [hin]
  exact txSL_Get nm ⟨oa, on, ok⟩ b (ht.tab.upd0 hW) (by rw [rowsF_len]; rw [← he, df_len] at hl; omega) trivial hget
set_option maxRecDepth 20000 in
set_option maxHeartbeats 1000000 in
theorem dRename_any (nm tn : ByteArray) (h : DD w0 w gd G s) (hn : s.now.length ≤ 5000) (hl : s.log.length ≤ 1000000000) :
    Calls Try.prog 31 #[.pointer (some ⟨gd, 0, none⟩), sv nm, sv tn] w (DDoes w0 w gd G (dRename s nm tn)) := by
  obtain ⟨gn, oa, on, ok, c0, -, hget⟩ := h.look nm hn
  have HG := Lib.hid (hget w (Upd.refl _ _))
  have HD := Lib.hid h
  have HL := Lib.hid hl
  have HNL := Lib.hid hn
  clear hget h hl hn
  cases hok : nameOk tn with
  | false =>
    have HR : Hid (dRename s nm tn = (14, s)) := by unfold Hid dRename; rw [hok]; rfl
    have HOK := Lib.hid hok
    clear hok
    go_enter Try.func31, Try.ntmps31
    go_wp2_with fail
    (with_reducible refine (dnamed_any w tn).mono ?_)
    rw [HOK.out]
    rintro e w1 ⟨rfl, rfl⟩
    go_wp2_with fail
    go_ret
    exact ⟨by rw [HR.out]; rfl, by rw [HR.out]; exact HD.out.out0 (Upd.refl _ _)⟩
  | true =>
    have HOK := Lib.hid hok
    cases hin : inD s.now nm with
    | false =>
      have HR : Hid (dRename s nm tn = (7, s)) := by unfold Hid dRename; rw [hok, hin]; rfl
      rw [hin] at HG
      clear hok hin
      go_enter Try.func31, Try.ntmps31
      go_wp2_with fail
      (with_reducible refine (dnamed_any w tn).mono ?_)
      rw [HOK.out]
      rintro e w1 ⟨rfl, rfl⟩
      go_wp2_with fail
      (with_reducible refine HG.out.mono ?_)
      rintro e w2 ⟨rfl, hu2⟩
      have HU2 := Lib.hid hu2
      clear hu2
      go_wp2_with fail
      go_ret
      exact ⟨by rw [HR.out]; rfl, by rw [HR.out]; exact HD.out.out0 HU2.out⟩
    | true =>
      have HR : Hid (dRename s nm tn = (0, dDo (wRen nm tn) s)) := by unfold Hid dRename; rw [hok, hin]; rfl
      have HW := Lib.hid (HD.out.ok.ren nm tn hin HNL.out).1
      rw [hin] at HG
      clear hok hin
      go_enter Try.func31, Try.ntmps31
      go_wp2_with fail
      (with_reducible refine (dnamed_any w tn).mono ?_)
      rw [HOK.out]
      rintro e w1 ⟨rfl, rfl⟩
      go_wp2_with fail
      (with_reducible refine HG.out.mono ?_)
      rintro e w2 ⟨rfl, hu2⟩
      have HU2 := Lib.hid hu2
      clear hu2
      go_wp2_with fail
      (with_reducible refine (dDo_any (wRen nm tn) (HD.out.upd0 HU2.out) HW.out rfl HL.out).mono ?_)
      rintro e w3 ⟨rfl, ho⟩
      have HO := Lib.hid ho
      clear ho
      go_wp2_with fail
      go_ret
      exact ⟨by rw [HR.out]; rfl, by rw [HR.out]; exact HO.out.later HU2.out⟩
set_option maxRecDepth 20000 in
set_option maxHeartbeats 1000000 in
theorem dRemove_any (nm : ByteArray) (h : DD w0 w gd G s) (hn : s.now.length ≤ 5000) (hl : s.log.length ≤ 1000000000) :
    Calls Try.prog 38 #[.pointer (some ⟨gd, 0, none⟩), sv nm] w (DDoes w0 w gd G (dRemove s nm)) := by
  obtain ⟨gn, oa, on, ok, c0, -, hget⟩ := h.look nm hn
  have HG := Lib.hid (hget w (Upd.refl _ _))
  have HD := Lib.hid h
  have HL := Lib.hid hl
  have HNL := Lib.hid hn
  clear hget h hl hn
  cases hin : inD s.now nm with
  | false =>
    have HR : Hid (dRemove s nm = (7, s)) := by unfold Hid dRemove; rw [hin]; rfl
    rw [hin] at HG
    clear hin
    go_enter Try.func38, Try.ntmps38
    go_wp2_with fail
    (with_reducible refine HG.out.mono ?_)
    rintro e w2 ⟨rfl, hu2⟩
    have HU2 := Lib.hid hu2
    clear hu2
    go_wp2_with fail
    go_ret
    exact ⟨by rw [HR.out]; rfl, by rw [HR.out]; exact HD.out.out0 HU2.out⟩
  | true =>
    have HR : Hid (dRemove s nm = (0, dDo (wRem nm) s)) := by unfold Hid dRemove; rw [hin]; rfl
    have HW := Lib.hid (HD.out.ok.rem nm hin HNL.out).1
    rw [hin] at HG
    clear hin
    go_enter Try.func38, Try.ntmps38
    go_wp2_with fail
    (with_reducible refine HG.out.mono ?_)
    rintro e w2 ⟨rfl, hu2⟩
    have HU2 := Lib.hid hu2
    clear hu2
    go_wp2_with fail
    (with_reducible refine (dDo_any (wRem nm) (HD.out.upd0 HU2.out) HW.out rfl HL.out).mono ?_)
    rintro e w3 ⟨rfl, ho⟩
    have HO := Lib.hid ho
    clear ho
    go_wp2_with fail
    go_ret
    exact ⟨by rw [HR.out]; rfl, by rw [HR.out]; exact HO.out.later HU2.out⟩
set_option maxRecDepth 20000 in
set_option maxHeartbeats 1000000 in
theorem dCut_any (nm : ByteArray) (n : Int) (hi : I64 n) (h : DD w0 w gd G s) (hn : s.now.length ≤ 5000) (hl : s.log.length ≤ 1000000000) :
    Calls Try.prog 37 #[.pointer (some ⟨gd, 0, none⟩), sv nm, .int .i64 n] w (DDoes w0 w gd G (dCut s nm n)) := by
  obtain ⟨gn, oa, on, ok, c0, hon, hget⟩ := h.look nm hn
  have HG := Lib.hid (hget w (Upd.refl _ _))
  have HD := Lib.hid h
  have HL := Lib.hid hl
  have HNL := Lib.hid hn
  have HON := Lib.hid hon
  clear hget h hl hn hon
  cases hin : inD s.now nm with
  | false =>
    have HR : Hid (dCut s nm n = (7, s)) := by unfold Hid dCut; rw [hin]; rfl
    rw [hin] at HG
    clear hin
    go_enter Try.func37, Try.ntmps37
    go_wp2_with fail
    (with_reducible refine HG.out.mono ?_)
    rintro e w2 ⟨rfl, hu2⟩
    have HU2 := Lib.hid hu2
    clear hu2
    go_wp2_with fail
    go_ret
    exact ⟨by rw [HR.out]; rfl, by rw [HR.out]; exact HD.out.out0 HU2.out⟩
  | true =>
    rw [hin] at HG
    by_cases hbad : n < 0 ∨ (on : Int) < n
    · have HR : Hid (dCut s nm n = (1, s)) := by unfold Hid dCut; rw [hin, ← HON.out, if_pos rfl, if_pos hbad]
      clear hin
      rcases (show n < 0 ∨ (¬ n < 0 ∧ (on : Int) < n) by omega) with q | ⟨q, q2⟩
      all_goals
        clear hbad
        go_enter Try.func37, Try.ntmps37
        go_wp2_with fail
        (with_reducible refine HG.out.mono ?_)
        rintro e w2 ⟨rfl, hu2⟩
        have HU2 := Lib.hid hu2
        clear hu2
        go_wp2_with fail
        go_ret
        exact ⟨by rw [HR.out]; rfl, by rw [HR.out]; exact HD.out.out0 HU2.out⟩
    · have HR : Hid (dCut s nm n = (0, dDo (wCut nm n) s)) := by unfold Hid dCut; rw [hin, ← HON.out, if_pos rfl, if_neg hbad]
      have HW := Lib.hid (HD.out.ok.cut nm n hin (by omega) (by rw [← HON.out]; omega) HNL.out).1
      have q : ¬ n < 0 := by omega
      have q2 : ¬ (on : Int) < n := by omega
      clear hin hbad
      go_enter Try.func37, Try.ntmps37
      go_wp2_with fail
      (with_reducible refine HG.out.mono ?_)
      rintro e w2 ⟨rfl, hu2⟩
      have HU2 := Lib.hid hu2
      clear hu2
      go_wp2_with fail
      (with_reducible refine (dDo_any (wCut nm n) (HD.out.upd0 HU2.out) HW.out rfl HL.out).mono ?_)
      rintro e w3 ⟨rfl, ho⟩
      have HO := Lib.hid ho
      clear ho
      go_wp2_with fail
      go_ret
      exact ⟨by rw [HR.out]; rfl, by rw [HR.out]; exact HO.out.later HU2.out⟩
end
end Go.Proofs.Ytmhdhnipljonlaa
namespace Go.Proofs.Ytmhdhnipljonlaa
open Go.RowKit
set_option linter.unusedSimpArgs false
set_option linter.unusedVariables false
section
variable {B : List Nat} {K : KB} {s : Sl} {l : List UInt8}
theorem Sh.take_ (h : Sh B K s l) (m : Nat) (hm : m ≤ l.length) : Sh B K ⟨s.a, m, s.k⟩ (l.take m) := by
  have h1 := h.n
  have h2 := h.k
  refine ⟨by rw [List.length_take]; show m = _; omega, by show m ≤ s.k; omega, h.m, h.nul, fun hne => ?_⟩
  have hl : l ≠ [] := fun q => hne (by rw [q]; simp)
  obtain ⟨b, off, e1, e2, e3, e4⟩ := h.ex hl
  refine ⟨b, off, e1, e2, by rw [List.length_take]; omega, ?_⟩
  rw [List.length_take, Nat.min_eq_left hm]
  conv => rhs; rw [← e4]
  rw [List.take_take, Nat.min_eq_left hm]
theorem Sh.drop_ (h : Sh B K s l) (m : Nat) (hm : m ≤ l.length) : Sh B K ⟨if s.k = m then s.a else s.a.map (·.add m), l.length - m, s.k - m⟩ (l.drop m) := by
  have h1 := h.n
  have h2 := h.k
  refine ⟨by rw [List.length_drop], by show l.length - m ≤ s.k - m; omega, by have := h.m; show s.k - m ≤ _; omega, fun q => ?_, fun hne => ?_⟩
  · dsimp only at q ⊢
    split at q
    · have := h.nul q; omega
    · have := h.nul (by simpa using q); omega
  · have hlt : m < l.length := by
      rcases Nat.lt_or_ge m l.length with q | q
      · exact q
      · exact absurd (List.drop_eq_nil_of_le q) hne
    obtain ⟨b, off, e1, e2, e3, e4⟩ := h.ex (fun q => by rw [q] at hlt; simp at hlt)
    refine ⟨b, off + m, ?_, e2, by rw [List.length_drop]; omega, ?_⟩
    · show (if s.k = m then s.a else s.a.map (·.add m)) = _
      rw [if_neg (by omega), e1]; simp [add_none]
    · rw [List.length_drop]
      conv => rhs; rw [← e4]
      rw [List.drop_take, List.drop_drop]
end
/-- A disk, and a slice of bytes that its blocks have. -/
structure DP (w0 w : World) (gd : Nat) (G : List Nat) (s : DS) (sl : Sl) (l : List UInt8) : Prop where
  ex : ∃ gn gm Fn Fm B K cn cm lv lg, DC w0 w gd gn gm Fn Fm B K cn cm lv lg ∧ s = ⟨dfOf cn, dfOf cm, lg.map (·.1)⟩ ∧ DOk s ∧ G = dfoot gd Fn Fm B lv ∧ Sh B K sl l
section
variable {w0 w w' : World} {gd : Nat} {G : List Nat} {s : DS} {sl sl' : Sl} {l l' : List UInt8}
theorem DP.dd (h : DP w0 w gd G s sl l) : DD w0 w gd G s := by
  obtain ⟨gn, gm, Fn, Fm, B, K, cn, cm, lv, lg, hc, e, ho, eG, hs⟩ := h.ex
  exact ⟨gn, gm, Fn, Fm, B, K, cn, cm, lv, lg, hc, e, ho, eG⟩
theorem DP.upd0 (h : DP w0 w gd G s sl l) (hu : Upd [] w w') : DP w0 w' gd G s sl l := by
  obtain ⟨gn, gm, Fn, Fm, B, K, cn, cm, lv, lg, hc, e, ho, eG, hs⟩ := h.ex
  exact ⟨gn, gm, Fn, Fm, B, K, cn, cm, lv, lg, hc.upd0 hu, e, ho, eG, hs⟩
theorem DP.drop_ (h : DP w0 w gd G s sl l) (m : Nat) (hm : m ≤ l.length) : DP w0 w gd G s ⟨if sl.k = m then sl.a else sl.a.map (·.add m), l.length - m, sl.k - m⟩ (l.drop m) := by
  obtain ⟨gn, gm, Fn, Fm, B, K, cn, cm, lv, lg, hc, e, ho, eG, hs⟩ := h.ex
  exact ⟨gn, gm, Fn, Fm, B, K, cn, cm, lv, lg, hc, e, ho, eG, hs.drop_ m hm⟩
theorem DP.form (h : DP w0 w gd G s sl l) : sl.n = l.length ∧ sl.n ≤ sl.k ∧ sl.k ≤ maxLen := by
  obtain ⟨gn, gm, Fn, Fm, B, K, cn, cm, lv, lg, hc, e, ho, eG, hs⟩ := h.ex
  exact ⟨hs.n, hs.k, hs.m⟩
/-- New bytes. -/
theorem DD.bytes (h : DD w0 w gd G s) {v : Value} (ho : Own bv w.heap.size 5 w' v l) (hu : Upd [] w w') : ∃ sl G', v = .slice sl.a sl.n sl.k ∧ DP w0 w' gd G' s sl l ∧ (∀ x ∈ G', x ∈ G ∨ w.heap.size ≤ x) ∧ (∀ x ∈ G, x ∈ G') := by
  obtain ⟨gn, gm, Fn, Fm, B, K, cn, cm, lv, lg, hc, e, hok, rfl⟩ := h.ex
  obtain ⟨sl, B', K', rfl, h1, h2, h3, h4, h5, h6, h7⟩ := hc.bks.new ho hu hc.old.size
  have hd := hc.upd0 hu
  refine ⟨sl, _, rfl, ⟨gn, gm, Fn, Fm, B', K', cn, cm, lv, lg, ⟨hd.dk, hd.gdb, hd.now.keep h2 h7, hd.mark.keep h2 h7, hd.full, hd.apt, h1, hd.log, fun x hx => (hd.lsh x hx).ext h2⟩, e, hok, rfl, h4⟩, fun x hx => ?_, fun x hx => ?_⟩
  · rcases (dfoot_mem _ _ _ _ _ _).1 hx with rfl | hx | hx | hx | hx
    · exact .inl ((dfoot_mem _ _ _ _ _ _).2 (.inl rfl))
    · exact .inl ((dfoot_mem _ _ _ _ _ _).2 (.inr (.inl hx)))
    · exact .inl ((dfoot_mem _ _ _ _ _ _).2 (.inr (.inr (.inl hx))))
    · exact (h3 x hx).imp (fun q => (dfoot_mem _ _ _ _ _ _).2 (.inr (.inr (.inr (.inl q))))) id
    · exact .inl ((dfoot_mem _ _ _ _ _ _).2 (.inr (.inr (.inr (.inr hx)))))
  · rcases (dfoot_mem _ _ _ _ _ _).1 hx with rfl | hx | hx | hx | hx
    · exact (dfoot_mem _ _ _ _ _ _).2 (.inl rfl)
    · exact (dfoot_mem _ _ _ _ _ _).2 (.inr (.inl hx))
    · exact (dfoot_mem _ _ _ _ _ _).2 (.inr (.inr (.inl hx)))
    · exact (dfoot_mem _ _ _ _ _ _).2 (.inr (.inr (.inr (.inl (h2.sub x hx)))))
    · exact (dfoot_mem _ _ _ _ _ _).2 (.inr (.inr (.inr (.inr hx))))
/-- The first bytes are put. -/
theorem dpPut_any (nm : ByteArray) (m : Nat) (h : DP w0 w gd G s sl l) (hm : m ≤ l.length) (hx : WrOk (wPut nm (l.take m)) s.now) (hl : s.log.length ≤ 1000000000) :
    Calls Try.prog 61 #[.pointer (some ⟨gd, 0, none⟩), wrv (wPut nm (l.take m)) ⟨sl.a, m, sl.k⟩] w fun e w' => e = .returned (.tuple #[]) ∧ ∃ G', DP w0 w' gd G' (dDo (wPut nm (l.take m)) s) sl l ∧ Upd G w w' ∧ (∀ x ∈ G', x ∈ G ∨ w.heap.size ≤ x) := by
  obtain ⟨gn, gm, Fn, Fm, B, K, cn, cm, lv, lg, hc, rfl, ho, rfl, hs⟩ := h.ex
  refine (do_any (wPut nm (l.take m)) ⟨sl.a, m, sl.k⟩ hc hx (hs.take_ m hm) (by simpa using hl)).mono ?_
  rintro e w' ⟨rfl, Fn', B', K', cn', lv', h1, h2, h3, h4, h5⟩
  exact ⟨rfl, _, ⟨gn, gm, Fn', Fm, B', K', cn', cm, lv', _, h1, by unfold dDo; rw [h3]; simp, ho.do_ hx, rfl, hs.ext h2⟩, h4, h5⟩
/-- MARK -/
def lenV : Value → Nat
  | .slice _ n _ => n
  | _ => 0
theorem bytes_upd {w w' : World} {v : Value} {l : List UInt8} (h : Bytes w v l) {S : List Nat} (hu : Upd S w w') (hs : l ≠ [] → ∀ x ∈ blk v, x ∉ S) : Bytes w' v l := by
  by_cases hne : l = []
  · obtain ⟨a, k, e, h1, h2, h3⟩ := h
    exact ⟨a, k, e, h1, h2, fun q => absurd hne q⟩
  · exact h.upd hu (hs hne)
theorem DOut.dp {w1 w2 : World} {G1 G2 : List Nat} (h : DP w0 w2 gd G2 s sl l) (hu : Upd G w w1) (hf : ∀ x ∈ G1, x ∈ G ∨ w.heap.size ≤ x) (hu2 : Upd G1 w1 w2) (hf2 : ∀ x ∈ G2, x ∈ G1 ∨ w1.heap.size ≤ x) : DOut w0 w gd G s w2 :=
  ⟨G2, h.dd, hu.trans hu2 (fun x hx => hx) hf, fun x hx => by
    have := hu.size
    rcases hf2 x hx with q | q
    · exact hf x q
    · exact .inr (by omega)⟩
set_option maxRecDepth 20000 in
set_option maxHeartbeats 4000000 in
theorem dAppend_any (nm : ByteArray) (v : Value) (p : List UInt8) (hp : Bytes w v p) (hap : p ≠ [] → ∀ x ∈ blk v, x ∉ G) (h : DD w0 w gd G s) (hpl : p.length ≤ 100000000) (hn : s.now.length ≤ 4999) (hl : s.log.length ≤ 500000000) :
    Calls Try.prog 29 #[.pointer (some ⟨gd, 0, none⟩), sv nm, v] w (DDoes w0 w gd G (dAppend s nm p)) := by
  have HP := Lib.hid hp
  obtain ⟨ap, cp, rfl, hp1, hp2, -⟩ := hp
  have hcp : cp ≤ 9223372036854775807 := by unfold maxLen at hp2; omega
  obtain ⟨gn, oa, on, ok, c0, -, hget⟩ := h.look nm (by omega)
  have HGET := Lib.hid hget
  have C0 := Lib.hid c0
  have HD := Lib.hid h
  have HL := Lib.hid hl
  have HNL := Lib.hid hn
  have HAP := Lib.hid hap
  have htot := h.ok.tot
  clear hget h hl hn hp2 c0 hap
  cases hok : nameOk nm with
  | false =>
    have HR : Hid (dAppend s nm p = (14, s)) := by unfold Hid dAppend; rw [hok]; rfl
    have HOK := Lib.hid hok
    clear hok
    go_enter Try.func29, Try.ntmps29
    go_wp2_with fail
    (with_reducible refine (dnamed_any w nm).mono ?_)
    rw [HOK.out]
    rintro e w1 ⟨rfl, rfl⟩
    go_wp2_with fail
    go_ret
    exact ⟨by rw [HR.out]; rfl, by rw [HR.out]; exact HD.out.out0 (Upd.refl _ _)⟩
  | true =>
    have HOK := Lib.hid hok
    have HTOT : Hid (s.now.length ≤ 100000) := by have := HNL.out; unfold Hid; omega
    by_cases hfull : 16777216 < dTotal s.now + p.length
    · have HR : Hid (dAppend s nm p = (9, s)) := by unfold Hid dAppend; rw [hok, if_pos rfl, if_pos hfull]
      have q : (16777216 : Int) - (dTotal s.now : Int) < p.length := by omega
      have hwr : IntKind.i64.wrap (16777216 - (dTotal s.now : Int)) = 16777216 - (dTotal s.now : Int) := by rw [IntKind.wrap_i64]; omega
      clear hok
      go_enter Try.func29, Try.ntmps29
      go_wp2_with fail
      (with_reducible refine (dnamed_any w nm).mono ?_)
      rw [HOK.out]
      rintro e w1 ⟨rfl, rfl⟩
      go_wp2_with fail
      (with_reducible refine (dTotal_any HD.out HTOT.out).mono ?_)
      rintro e w2 ⟨rfl, hu2⟩
      have HU2 := Lib.hid hu2
      clear hu2
      go_wp2_with fail
      go_ret
      exact ⟨by rw [HR.out]; rfl, by rw [HR.out]; exact HD.out.out0 HU2.out⟩
    · have q : ¬ (16777216 : Int) - (dTotal s.now : Int) < p.length := by omega
      have hwr : IntKind.i64.wrap (16777216 - (dTotal s.now : Int)) = 16777216 - (dTotal s.now : Int) := by rw [IntKind.wrap_i64]; omega
      have HT : Hid (dTotal s.now + p.length ≤ 16777216) := by unfold Hid; omega
      cases hin : inD s.now nm with
      | true =>
        have HR : Hid (dAppend s nm p = (0, dPut nm s (chunks p))) := by unfold Hid dAppend; rw [hok, if_pos rfl, if_neg hfull, hin, if_pos rfl]
        rw [hin] at HGET
        have HIN1 := Lib.hid hin
        clear hok hin hfull
        go_enter Try.func29, Try.ntmps29
        go_wp2_with fail
        (with_reducible refine (dnamed_any w nm).mono ?_)
        rw [HOK.out]
        rintro e w1 ⟨rfl, rfl⟩
        go_wp2_with fail
        (with_reducible refine (dTotal_any HD.out HTOT.out).mono ?_)
        rintro e w2 ⟨rfl, hu2⟩
        have HU2 := Lib.hid hu2
        have c0 := hu2.cell C0.out (by simp)
        clear hu2
        go_wp2_with fail
        (with_reducible refine (HGET.out w2 HU2.out).mono ?_)
        rintro e w3 ⟨rfl, hu3⟩
        have HU3 := Lib.hid (HU2.out.seq hu3)
        have D1 := Lib.hid (HD.out.upd0 HU3.out)
        have HP1 := Lib.hid (HP.out.upd0 HU3.out)
        have HLN1 : Hid (s.now.length ≤ 5000) := by have := HNL.out; unfold Hid; omega
        have HTT1 : Hid (dTotal s.now + p.length ≤ 16777216) := HT.out
        have HLG1 : Hid (s.log.length ≤ 500000001) := by have := HL.out; unfold Hid; omega
        clear hu3 c0 q hwr htot
        have HRUN := Lib.hid (fun ty => run_app (P := Try.prog) (w := w3) (ty := ty) bv_one Try.underlying27 infoB8 rfl (.slice none 0 0) (.slice ap p.length cp) [] p (World.ownsRow_nil w3 (w3.heap).size _ 1) HP1.out (by simp; omega) (by simp [maxLen]; omega) (Nat.le_refl _))
        go_wp2_with (at_builtin; go_must (refine wpList_app_of rfl _ _ rfl (.slice none 0 0) (.slice ap p.length cp) rfl rfl (HRUN.out _) ?_; rintro v2 w2 ⟨ho2, hu2, hk2⟩; have HU2 := Lib.hid (hu2.mono (T := []) (by simp [blk])); obtain ⟨⟨a2, n2, k2⟩, G2, rfl, hd2, hg2, hg2'⟩ := D1.out.bytes (l := p) ho2 HU2.out; have HD2 := Lib.hid hd2; have HG2 := Lib.hid hg2; have HG2' := Lib.hid hg2'; clear ho2 hu2 hk2 hd2 hg2 hg2' HRUN; dsimp only))
        go_loopw [2] (fun v wr => ∃ (k : Nat) (sl : Sl) (G' : List Nat), k ≤ (chunks p).length ∧ v = .slice sl.a sl.n sl.k ∧ Hid (DP w0 wr gd G' (dPut nm s ((chunks p).take k)) sl (p.drop (32 * k))) ∧ Hid (Upd G w3 wr) ∧ Hid (∀ x ∈ G', x ∈ G ∨ (w3.heap).size ≤ x)) (fun v _ => lenV v)
        case atStart => exact ⟨0, ⟨a2, n2, k2⟩, G2, Nat.zero_le _, rfl, HD2.out, HU2.out.mono (by simp), HG2.out⟩
        case round =>
          obtain ⟨k, ⟨sa, sn, sk⟩, G', hk, rfl, hd, hu, hg⟩ := hrel
          clear HD2 HU2 HG2 HG2'
          have hform := hd.out.form
          dsimp only at hform
          obtain ⟨hf1, hf2, hf3⟩ := hform
          rw [List.length_drop] at hf1
          have hcl := chunks_len p
          by_cases hlt : k < (chunks p).length
          · have hpos : 32 * k < p.length := by omega
            obtain ⟨hw0, hstep⟩ : WrOk (wPut nm ((p.drop (32 * k)).take 32)) (dPut nm s ((chunks p).take k)).now ∧ (dPut nm s ((chunks p).take k)).log.length ≤ 1000000000 := by
              have ih := PutOk.all p D1.out.ok HIN1.out HLN1.out HTT1.out k hk
              have hcl2 : ((p.drop (32 * k)).take 32).length = min 32 (p.length - 32 * k) := by rw [List.length_take, List.length_drop]
              have htt := HTT1.out
              refine ⟨(ih.step ((p.drop (32 * k)).take 32) (fun q => by rw [q] at hcl2; simp at hcl2; omega) HLN1.out (by rw [hcl2]; omega)).1, ?_⟩
              have := ih.log
              have := HLG1.out
              omega
            have HWO := Lib.hid hw0
            have HLO := Lib.hid hstep
            have HDT := Lib.hid (dPut_take nm s p k hlt)
            obtain ⟨m, hmd⟩ : ∃ m, m = min sn 32 := ⟨_, rfl⟩
            have HM1 : Hid ((p.drop (32 * k)).take 32 = (p.drop (32 * k)).take m) := by
              unfold Hid
              rcases Nat.lt_or_ge sn 32 with q | q
              · rw [List.take_of_length_le (by rw [List.length_drop]; omega), List.take_of_length_le (by rw [List.length_drop]; omega)]
              · rw [show m = 32 by omega]
            have HM2 : Hid ((p.drop (32 * k)).drop m = p.drop (32 * (k + 1))) := by
              unfold Hid
              rw [List.drop_drop]
              rcases Nat.lt_or_ge sn 32 with q | q
              · rw [List.drop_of_length_le (by omega), List.drop_of_length_le (by omega)]
              · rw [show 32 * k + m = 32 * (k + 1) by omega]
            have HM3 : Hid (m ≤ (p.drop (32 * k)).length) := by unfold Hid; rw [List.length_drop]; omega
            have hm1 : m ≤ sn := by omega
            have hm0 : 0 < m := by omega
            have HLD : Hid ((p.drop (32 * k)).length = sn) := by unfold Hid; rw [List.length_drop]; omega
            obtain ⟨A, hA, hcut2⟩ : ∃ A : Option Addr, A = (if sk = m then sa else sa.map (·.add m)) ∧ ∀ W, (Instr.slice 27 (.slice sa sn sk) (some (.int .i64 (m : Int))) none none).run Try.prog W = .ok (.slice A (sn - m) (sk - m)) W :=
              ⟨_, rfl, fun W => by have h := run_cut (P := Try.prog) (size := 1) Try.underlying27 (by kernel_rfl) sa sn sk m hm1 W; simpa using h⟩
            have hcut1 := fun W => run_cut_h (P := Try.prog) (size := 1) Try.underlying27 (by kernel_rfl) sa sn sk m (by omega) W
            have HA := Lib.hid hA
            have hpz : (0 : Int) < sn := by omega
            have HMD := Lib.hid hmd
            clear hw0 hstep hA hf1 hcl
            have fin : Hid (∀ w' G2, DP w0 w' gd G2 (dDo (wPut nm ((p.drop (32 * k)).take m)) (dPut nm s ((chunks p).take k))) ⟨sa, sn, sk⟩ (p.drop (32 * k)) → DP w0 w' gd G2 (dPut nm s ((chunks p).take (k + 1))) ⟨A, sn - m, sk - m⟩ (p.drop (32 * (k + 1)))) := fun w' G2 h => by
              have h2 := h.drop_ m HM3.out
              rw [HM2.out, HLD.out] at h2
              dsimp only at h2
              rw [← HA.out] at h2
              rw [HDT.out, HM1.out]; exact h2
            rw [HM1.out] at HWO
            rcases Nat.lt_or_ge 32 sn with q | q
            · obtain rfl : m = 32 := by omega
              have q1 : (32 : Int) < sn := by omega
              clear q hmd
              go_wp2_with fail
              (with_reducible refine (dpPut_any nm _ hd.out HM3.out HWO.out HLO.out).mono ?_)
              rintro e w4 ⟨rfl, G4, h4, hu4, hg4⟩
              have H4 := Lib.hid (fin.out w4 G4 h4)
              try rw [Nat.sub_self] at H4
              have HU4 : Hid (Upd G w3 w4) := hu.out.trans hu4 (fun x hx => hx) hg.out
              have HG4 : Hid (∀ x ∈ G4, x ∈ G ∨ (w3.heap).size ≤ x) := fun x hx => by
                have := hu.out.size
                rcases hg4 x hx with r | r
                · exact hg.out x r
                · exact .inr (by omega)
              clear h4 hu4 hg4 fin
              go_wp2_with fail
              go_roundw
              case rel => exact ⟨k + 1, ⟨A, _, _⟩, G4, by omega, by first | rfl | (rw [HA.out, if_neg (by omega)]; rfl), H4, HU4, HG4⟩
              case measure => simp [lenV]; omega
            · obtain rfl : m = sn := by omega
              have q1 : ¬ (32 : Int) < m := by omega
              clear q hmd
              go_wp2_with fail
              (with_reducible refine (dpPut_any nm _ hd.out HM3.out HWO.out HLO.out).mono ?_)
              rintro e w4 ⟨rfl, G4, h4, hu4, hg4⟩
              have H4 := Lib.hid (fin.out w4 G4 h4)
              try rw [Nat.sub_self] at H4
              have HU4 : Hid (Upd G w3 w4) := hu.out.trans hu4 (fun x hx => hx) hg.out
              have HG4 : Hid (∀ x ∈ G4, x ∈ G ∨ (w3.heap).size ≤ x) := fun x hx => by
                have := hu.out.size
                rcases hg4 x hx with r | r
                · exact hg.out x r
                · exact .inr (by omega)
              clear h4 hu4 hg4 fin
              go_wp2_with fail
              go_roundw
              case rel => exact ⟨k + 1, ⟨A, _, _⟩, G4, by omega, by first | rfl | (rw [HA.out, if_neg (by omega)]; rfl), H4, HU4, HG4⟩
              case measure => simp [lenV]; omega
          · obtain rfl : k = (chunks p).length := by omega
            have hz : sn = 0 := by omega
            have HF : Hid (DP w0 wr gd G' (dPut nm s (chunks p)) ⟨sa, sn, sk⟩ (p.drop (32 * (chunks p).length))) := by have := hd.out; rwa [List.take_length] at this
            have HFO := Lib.hid hf1
            clear hf1 hcl hd
            subst hz
            go_wp2_with fail
            go_ret
            exact ⟨by rw [HR.out]; rfl, by rw [HR.out]; exact DOut.dp HF.out (HU3.out.mono (by simp)) (fun x hx => .inl hx) hu.out hg.out⟩
      | false =>
        have HR : Hid (dAppend s nm p = (0, dPut nm (dDo (wMake nm) s) (chunks p))) := by unfold Hid dAppend; rw [hok, if_pos rfl, if_neg hfull, hin, if_neg (by simp)]
        rw [hin] at HGET
        obtain ⟨hw, hk1, hk2, hk3, hk4⟩ := HD.out.ok.make nm hin (by have := HNL.out; omega)
        have HW := Lib.hid hw
        have HIN1 := Lib.hid hk2
        have HLN1 : Hid ((dDo (wMake nm) s).now.length ≤ 5000) := by have := HNL.out; unfold Hid; omega
        have HTT1 : Hid (dTotal (dDo (wMake nm) s).now + p.length ≤ 16777216) := by unfold Hid; rw [hk3]; exact HT.out
        have HLG1 : Hid ((dDo (wMake nm) s).log.length ≤ 500000001) := by have := HL.out; unfold Hid dDo; simp; omega
        have HLL : Hid (s.log.length ≤ 1000000000) := by have := HL.out; unfold Hid; omega
        clear hok hin hfull hw hk1 hk2 hk3 hk4
        go_enter Try.func29, Try.ntmps29
        go_wp2_with fail
        (with_reducible refine (dnamed_any w nm).mono ?_)
        rw [HOK.out]
        rintro e w1 ⟨rfl, rfl⟩
        go_wp2_with fail
        (with_reducible refine (dTotal_any HD.out HTOT.out).mono ?_)
        rintro e w2 ⟨rfl, hu2⟩
        have HU2 := Lib.hid hu2
        have c0 := hu2.cell C0.out (by simp)
        clear hu2
        go_wp2_with fail
        (with_reducible refine (HGET.out w2 HU2.out).mono ?_)
        rintro e w3 ⟨rfl, hu3⟩
        have HU3 := Lib.hid (HU2.out.seq hu3)
        clear hu3 c0 q hwr htot
        go_wp2_with fail
        (with_reducible refine (dDo_any (wMake nm) (HD.out.upd0 HU3.out) HW.out rfl HLL.out).mono ?_)
        rintro e w5 ⟨rfl, ho5⟩
        have HO5 := Lib.hid (ho5.later HU3.out)
        obtain ⟨G5, hd5, hu5, hg5⟩ := HO5.out
        have D1 := Lib.hid hd5
        have HU5 := Lib.hid hu5
        have HG5 := Lib.hid hg5
        have HP1 := Lib.hid (bytes_upd HP.out hu5 HAP.out)
        clear ho5 hd5 hu5 hg5 HO5
        have HRUN := Lib.hid (fun ty => run_app (P := Try.prog) (w := w5) (ty := ty) bv_one Try.underlying27 infoB8 rfl (.slice none 0 0) (.slice ap p.length cp) [] p (World.ownsRow_nil w5 (w5.heap).size _ 1) HP1.out (by simp; omega) (by simp [maxLen]; omega) (Nat.le_refl _))
        go_wp2_with (at_builtin; go_must (refine wpList_app_of rfl _ _ rfl (.slice none 0 0) (.slice ap p.length cp) rfl rfl (HRUN.out _) ?_; rintro v2 w2 ⟨ho2, hu2, hk2⟩; have HU2 := Lib.hid (hu2.mono (T := []) (by simp [blk])); obtain ⟨⟨a2, n2, k2⟩, G2, rfl, hd2, hg2, hg2'⟩ := D1.out.bytes (l := p) ho2 HU2.out; have HD2 := Lib.hid hd2; have HG2 := Lib.hid hg2; have HG2' := Lib.hid hg2'; clear ho2 hu2 hk2 hd2 hg2 hg2' HRUN; dsimp only))
        go_loopw [2] (fun v wr => ∃ (k : Nat) (sl : Sl) (G' : List Nat), k ≤ (chunks p).length ∧ v = .slice sl.a sl.n sl.k ∧ Hid (DP w0 wr gd G' (dPut nm (dDo (wMake nm) s) ((chunks p).take k)) sl (p.drop (32 * k))) ∧ Hid (Upd G5 w5 wr) ∧ Hid (∀ x ∈ G', x ∈ G5 ∨ (w5.heap).size ≤ x)) (fun v _ => lenV v)
        case atStart => exact ⟨0, ⟨a2, n2, k2⟩, G2, Nat.zero_le _, rfl, HD2.out, HU2.out.mono (by simp), HG2.out⟩
        case round =>
          obtain ⟨k, ⟨sa, sn, sk⟩, G', hk, rfl, hd, hu, hg⟩ := hrel
          clear HD2 HU2 HG2 HG2'
          have hform := hd.out.form
          dsimp only at hform
          obtain ⟨hf1, hf2, hf3⟩ := hform
          rw [List.length_drop] at hf1
          have hcl := chunks_len p
          by_cases hlt : k < (chunks p).length
          · have hpos : 32 * k < p.length := by omega
            obtain ⟨hw0, hstep⟩ : WrOk (wPut nm ((p.drop (32 * k)).take 32)) (dPut nm (dDo (wMake nm) s) ((chunks p).take k)).now ∧ (dPut nm (dDo (wMake nm) s) ((chunks p).take k)).log.length ≤ 1000000000 := by
              have ih := PutOk.all p D1.out.ok HIN1.out HLN1.out HTT1.out k hk
              have hcl2 : ((p.drop (32 * k)).take 32).length = min 32 (p.length - 32 * k) := by rw [List.length_take, List.length_drop]
              have htt := HTT1.out
              refine ⟨(ih.step ((p.drop (32 * k)).take 32) (fun q => by rw [q] at hcl2; simp at hcl2; omega) HLN1.out (by rw [hcl2]; omega)).1, ?_⟩
              have := ih.log
              have := HLG1.out
              omega
            have HWO := Lib.hid hw0
            have HLO := Lib.hid hstep
            have HDT := Lib.hid (dPut_take nm (dDo (wMake nm) s) p k hlt)
            obtain ⟨m, hmd⟩ : ∃ m, m = min sn 32 := ⟨_, rfl⟩
            have HM1 : Hid ((p.drop (32 * k)).take 32 = (p.drop (32 * k)).take m) := by
              unfold Hid
              rcases Nat.lt_or_ge sn 32 with q | q
              · rw [List.take_of_length_le (by rw [List.length_drop]; omega), List.take_of_length_le (by rw [List.length_drop]; omega)]
              · rw [show m = 32 by omega]
            have HM2 : Hid ((p.drop (32 * k)).drop m = p.drop (32 * (k + 1))) := by
              unfold Hid
              rw [List.drop_drop]
              rcases Nat.lt_or_ge sn 32 with q | q
              · rw [List.drop_of_length_le (by omega), List.drop_of_length_le (by omega)]
              · rw [show 32 * k + m = 32 * (k + 1) by omega]
            have HM3 : Hid (m ≤ (p.drop (32 * k)).length) := by unfold Hid; rw [List.length_drop]; omega
            have hm1 : m ≤ sn := by omega
            have hm0 : 0 < m := by omega
            have HLD : Hid ((p.drop (32 * k)).length = sn) := by unfold Hid; rw [List.length_drop]; omega
            obtain ⟨A, hA, hcut2⟩ : ∃ A : Option Addr, A = (if sk = m then sa else sa.map (·.add m)) ∧ ∀ W, (Instr.slice 27 (.slice sa sn sk) (some (.int .i64 (m : Int))) none none).run Try.prog W = .ok (.slice A (sn - m) (sk - m)) W :=
              ⟨_, rfl, fun W => by have h := run_cut (P := Try.prog) (size := 1) Try.underlying27 (by kernel_rfl) sa sn sk m hm1 W; simpa using h⟩
            have hcut1 := fun W => run_cut_h (P := Try.prog) (size := 1) Try.underlying27 (by kernel_rfl) sa sn sk m (by omega) W
            have HA := Lib.hid hA
            have hpz : (0 : Int) < sn := by omega
            have HMD := Lib.hid hmd
            clear hw0 hstep hA hf1 hcl
            have fin : Hid (∀ w' G2, DP w0 w' gd G2 (dDo (wPut nm ((p.drop (32 * k)).take m)) (dPut nm (dDo (wMake nm) s) ((chunks p).take k))) ⟨sa, sn, sk⟩ (p.drop (32 * k)) → DP w0 w' gd G2 (dPut nm (dDo (wMake nm) s) ((chunks p).take (k + 1))) ⟨A, sn - m, sk - m⟩ (p.drop (32 * (k + 1)))) := fun w' G2 h => by
              have h2 := h.drop_ m HM3.out
              rw [HM2.out, HLD.out] at h2
              dsimp only at h2
              rw [← HA.out] at h2
              rw [HDT.out, HM1.out]; exact h2
            rw [HM1.out] at HWO
            rcases Nat.lt_or_ge 32 sn with q | q
            · obtain rfl : m = 32 := by omega
              have q1 : (32 : Int) < sn := by omega
              clear q hmd
              go_wp2_with fail
              (with_reducible refine (dpPut_any nm _ hd.out HM3.out HWO.out HLO.out).mono ?_)
              rintro e w4 ⟨rfl, G4, h4, hu4, hg4⟩
              have H4 := Lib.hid (fin.out w4 G4 h4)
              try rw [Nat.sub_self] at H4
              have HU4 : Hid (Upd G5 w5 w4) := hu.out.trans hu4 (fun x hx => hx) hg.out
              have HG4 : Hid (∀ x ∈ G4, x ∈ G5 ∨ (w5.heap).size ≤ x) := fun x hx => by
                have := hu.out.size
                rcases hg4 x hx with r | r
                · exact hg.out x r
                · exact .inr (by omega)
              clear h4 hu4 hg4 fin
              go_wp2_with fail
              go_roundw
              case rel => exact ⟨k + 1, ⟨A, _, _⟩, G4, by omega, by first | rfl | (rw [HA.out, if_neg (by omega)]; rfl), H4, HU4, HG4⟩
              case measure => simp [lenV]; omega
            · obtain rfl : m = sn := by omega
              have q1 : ¬ (32 : Int) < m := by omega
              clear q hmd
              go_wp2_with fail
              (with_reducible refine (dpPut_any nm _ hd.out HM3.out HWO.out HLO.out).mono ?_)
              rintro e w4 ⟨rfl, G4, h4, hu4, hg4⟩
              have H4 := Lib.hid (fin.out w4 G4 h4)
              try rw [Nat.sub_self] at H4
              have HU4 : Hid (Upd G5 w5 w4) := hu.out.trans hu4 (fun x hx => hx) hg.out
              have HG4 : Hid (∀ x ∈ G4, x ∈ G5 ∨ (w5.heap).size ≤ x) := fun x hx => by
                have := hu.out.size
                rcases hg4 x hx with r | r
                · exact hg.out x r
                · exact .inr (by omega)
              clear h4 hu4 hg4 fin
              go_wp2_with fail
              go_roundw
              case rel => exact ⟨k + 1, ⟨A, _, _⟩, G4, by omega, by first | rfl | (rw [HA.out, if_neg (by omega)]; rfl), H4, HU4, HG4⟩
              case measure => simp [lenV]; omega
          · obtain rfl : k = (chunks p).length := by omega
            have hz : sn = 0 := by omega
            have HF : Hid (DP w0 wr gd G' (dPut nm (dDo (wMake nm) s) (chunks p)) ⟨sa, sn, sk⟩ (p.drop (32 * (chunks p).length))) := by have := hd.out; rwa [List.take_length] at this
            have HFO := Lib.hid hf1
            clear hf1 hcl hd
            subst hz
            go_wp2_with fail
            go_ret
            exact ⟨by rw [HR.out]; rfl, by rw [HR.out]; exact DOut.dp HF.out HU5.out HG5.out hu.out hg.out⟩
end
end Go.Proofs.Ytmhdhnipljonlaa
namespace Go.Proofs.Ytmhdhnipljonlaa
open Go.RowKit
set_option linter.unusedSimpArgs false
set_option linter.unusedVariables false
section
variable {w0 w w' : World} {gr : Nat} {G : List Nat} {s : DS}
set_option maxRecDepth 20000 in
set_option maxHeartbeats 4000000 in
theorem rAppend_any (nm : ByteArray) (v : Value) (p : List UInt8) (hp : Bytes w v p) (hap : p ≠ [] → ∀ x ∈ blk v, x ∉ G) (h : RD w0 w gr G s) (hpl : p.length ≤ 100000000) (hn : s.now.length ≤ 4999) (hl : s.log.length ≤ 500000000) :
    Calls Try.prog 65 #[.pointer (some ⟨gr, 0, none⟩), sv nm, v] w (RAns w0 w gr G (dAppend s nm p)) := by
  have HP := Lib.hid hp
  have HLT : Hid (p ≠ [] → ∀ x ∈ blk v, x < w.heap.size) := fun hne => hp.lt hne
  obtain ⟨ap, cp, rfl, hp1, hp2, -⟩ := hp
  have hcp : cp ≤ 9223372036854775807 := by unfold maxLen at hp2; omega
  obtain ⟨na, nn, nk, ln, R, c0, -, -, hget⟩ := h.look nm (by omega)
  have HGET := Lib.hid hget
  have C0 := Lib.hid c0
  have HD := Lib.hid h
  have HL := Lib.hid hl
  have HNL := Lib.hid hn
  have HAP := Lib.hid hap
  have htot := h.ok.tot
  clear hget h hl hn hp2 c0 hap
  cases hok : nameOk nm with
  | false =>
    have HR : Hid (dAppend s nm p = (14, s)) := by unfold Hid dAppend; rw [hok]; rfl
    have HOK := Lib.hid hok
    clear hok
    go_enter Try.func65, Try.ntmps65
    go_wp2_with fail
    (with_reducible refine (rName_any w nm).mono ?_)
    rw [HOK.out]
    rintro e w1 ⟨rfl, rfl⟩
    go_wp2_with fail
    go_ret
    exact ⟨by rw [HR.out]; rfl, by rw [HR.out]; exact HD.out.out0 (Upd.refl _ _)⟩
  | true =>
    have HOK := Lib.hid hok
    have HTOT : Hid (s.now.length ≤ 100000) := by have := HNL.out; unfold Hid; omega
    have hwr0 : IntKind.i64.wrap ((dTotal s.now : Int) + p.length) = (dTotal s.now : Int) + p.length := by rw [IntKind.wrap_i64]; omega
    by_cases hfull : 16777216 < dTotal s.now + p.length
    · have HR : Hid (dAppend s nm p = (9, s)) := by unfold Hid dAppend; rw [hok, if_pos rfl, if_pos hfull]
      have q : (16777216 : Int) < (dTotal s.now : Int) + p.length := by omega
      clear hok
      go_enter Try.func65, Try.ntmps65
      go_wp2_with fail
      (with_reducible refine (rName_any w nm).mono ?_)
      rw [HOK.out]
      rintro e w1 ⟨rfl, rfl⟩
      go_wp2_with fail
      (with_reducible refine (rTotal_any HD.out HTOT.out).mono ?_)
      rintro e w2 ⟨rfl, hu2⟩
      have HU2 := Lib.hid hu2
      clear hu2
      go_wp2_with fail
      go_ret
      exact ⟨by rw [HR.out]; rfl, by rw [HR.out]; exact HD.out.out0 HU2.out⟩
    · have q : ¬ (16777216 : Int) < (dTotal s.now : Int) + p.length := by omega
      have HT : Hid (dTotal s.now + p.length ≤ 16777216) := by unfold Hid; omega
      cases hin : inD s.now nm with
      | true =>
        have HR : Hid (dAppend s nm p = (0, dPut nm s (chunks p))) := by unfold Hid dAppend; rw [hok, if_pos rfl, if_neg hfull, hin, if_pos rfl]
        rw [hin, if_pos rfl] at HGET
        have HIN1 := Lib.hid hin
        have z : ¬ ((below strLt ln nm : Nat) : Int) < 0 := by omega
        generalize below strLt ln nm = kk at *
        clear hok hin hfull
        go_enter Try.func65, Try.ntmps65
        go_wp2_with fail
        (with_reducible refine (rName_any w nm).mono ?_)
        rw [HOK.out]
        rintro e w1 ⟨rfl, rfl⟩
        go_wp2_with fail
        (with_reducible refine (rTotal_any HD.out HTOT.out).mono ?_)
        rintro e w2 ⟨rfl, hu2⟩
        have HU2 := Lib.hid hu2
        have c0 := hu2.cell C0.out (by simp)
        clear hu2
        go_wp2_with fail
        (with_reducible refine (HGET.out w2 HU2.out).mono ?_)
        rintro e w3 ⟨rfl, hu3⟩
        have HU3 := Lib.hid (HU2.out.seq hu3)
        have D1 := Lib.hid (HD.out.upd0 HU3.out)
        have HP1 := Lib.hid (HP.out.upd0 HU3.out)
        have HAP1 := Lib.hid HAP.out
        have HLN1 : Hid (s.now.length ≤ 5000) := by have := HNL.out; unfold Hid; omega
        have HTT1 : Hid (dTotal s.now + p.length ≤ 16777216) := HT.out
        have HLG1 : Hid (s.log.length ≤ 500000001) := by have := HL.out; unfold Hid; omega
        clear hu3 c0 q hwr0 htot
        go_wp2_with fail
        go_loopw [7] (fun v wr => ∃ (k J : Nat) (G' : List Nat), k ≤ (chunks p).length ∧ Hid (J = 32 * k) ∧ v = .int .i64 (J : Int) ∧ Hid (RD w0 wr gr G' (dPut nm s ((chunks p).take k))) ∧ Hid (Upd G w3 wr) ∧ Hid (∀ x ∈ G', x ∈ G ∨ (w3.heap).size ≤ x)) (fun v _ => p.length - (intOf v).toNat)
        case atStart => exact ⟨0, 0, G, Nat.zero_le _, rfl, rfl, D1.out, Upd.refl _ _, fun x hx => .inl hx⟩
        case round =>
          obtain ⟨k, J, G', hk, HJ, rfl, hd, hu, hg⟩ := hrel
          have hcl := chunks_len p
          by_cases hpos : J < p.length
          · have hlt : k < (chunks p).length := by have := HJ.out; omega
            obtain ⟨hw0, hstep⟩ : WrOk (wPut nm ((p.drop (32 * k)).take 32)) (dPut nm s ((chunks p).take k)).now ∧ (dPut nm s ((chunks p).take k)).log.length ≤ 1000000000 := by
              have ih := PutOk.all p D1.out.ok HIN1.out HLN1.out HTT1.out k hk
              have hcl2 : ((p.drop (32 * k)).take 32).length = min 32 (p.length - 32 * k) := by rw [List.length_take, List.length_drop]
              have htt := HTT1.out
              have := HJ.out
              refine ⟨(ih.step ((p.drop (32 * k)).take 32) (fun q => by rw [q] at hcl2; simp at hcl2; omega) HLN1.out (by rw [hcl2]; omega)).1, ?_⟩
              have := ih.log
              have := HLG1.out
              omega
            have HWO := Lib.hid hw0
            have HLO := Lib.hid hstep
            have HDT := Lib.hid (dPut_take nm s p k hlt)
            have q0 : (0 : Int) ≤ J := by omega
            have q1 : (J : Int) < p.length := by omega
            have hwr : IntKind.i64.wrap ((J : Int) + 32) = (J : Int) + 32 := by rw [IntKind.wrap_i64]; omega
            clear hw0 hstep hcl
            rcases Nat.lt_or_ge p.length (J + 32) with q | q
            · obtain ⟨M, hM⟩ : ∃ M, M = p.length := ⟨_, rfl⟩
              have q2 : (p.length : Int) < (J : Int) + 32 := by omega
              obtain ⟨Ln, hLn⟩ : ∃ Ln, M - J = Ln := ⟨_, rfl⟩
              obtain ⟨A, hA, hcut⟩ : ∃ A : Option Addr, A = (if cp = J then ap else ap.map (·.add J)) ∧ ∀ W, (Instr.slice 27 (.slice ap p.length cp) (some (.int .i64 (J : Int))) (some (.int .i64 (p.length : Int))) none).run Try.prog W = .ok (.slice A Ln (cp - J)) W :=
                ⟨_, rfl, fun W => by have h := run_cut_lh (P := Try.prog) (size := 1) Try.underlying27 (by kernel_rfl) ap p.length cp J M (by omega) (by omega) W (J : Int) (p.length : Int) rfl (by omega); rw [hLn] at h; simpa using h⟩
              have HRDC : Hid (Bytes wr (.slice A Ln (cp - J)) ((p.drop J).take Ln)) := by
                have h := (bytes_upd HP1.out hu.out HAP1.out).sub J M (by omega) (by omega)
                rw [hLn] at h
                unfold Hid; rw [hA]; exact h
              have hce : (p.drop (32 * k)).take 32 = (p.drop J).take Ln := by
                have := HJ.out
                subst this
                rcases Nat.lt_or_ge p.length (32 * k + 32) with q | q
                · rw [List.take_of_length_le (by rw [List.length_drop]; omega), List.take_of_length_le (by rw [List.length_drop]; omega)]
                · rw [show Ln = 32 by omega]
              rw [hce] at HDT HWO
              have hclen : ((p.drop J).take Ln).length = Ln := by rw [List.length_take, List.length_drop]; omega
              have HCL := Lib.hid hclen
              have HLB : Hid (Ln ≤ p.length) := by unfold Hid; omega
              clear hce hclen hA hLn hM
              obtain ⟨c, hc⟩ : ∃ c, (p.drop J).take Ln = c := ⟨_, rfl⟩
              rw [hc] at HDT HWO HRDC HCL
              clear hc
              have hu1 : Upd [] wr (wr.alloc (.cells #[] 5)) := (Upd.refl [] wr).alloc _
              have HRUN := Lib.hid (fun ty => run_app (P := Try.prog) (w := wr.alloc (.cells #[] 5)) (ty := ty) (base := wr.heap.size) bv_one Try.underlying27 infoB8 rfl (.slice (some ⟨wr.heap.size, 0, none⟩) 0 0) (.slice A Ln (cp - J)) [] c (own_emptyR wr.heap.size _ wr.heap.size (Nat.le_refl _) (Blk.new wr 5 [])) (HRDC.out.upd0 hu1) (by have := HLB.out; rw [HCL.out]; simp; omega) (by have := HLB.out; rw [HCL.out]; simp [maxLen]; omega) (by simp))
              have HU1 := Lib.hid hu1
              clear hu1
              go_wp2_with (at_builtin; go_must (refine wpList_app_of rfl _ _ rfl (.slice (some ⟨wr.heap.size, 0, none⟩) 0 0) (.slice A Ln (cp - J)) rfl rfl (HRUN.out _) ?_; rintro v2 w2 ⟨ho2, hu2, hk2⟩; have HU2 : Hid (Upd [] wr w2) := (HU1.out.trans hu2 (by simp) (fun y hy => .inr (by simp [blk] at hy; omega))); rw [List.nil_append] at ho2; obtain ⟨a2, k2, rfl, -⟩ := ho2.rd; have HO2 : Hid (Own bv wr.heap.size 5 w2 (slv ⟨a2, c.length, k2⟩) c) := ho2; clear ho2 hu2 hk2 HRUN HRDC HU1; dsimp only))
              (with_reducible refine (rPut_any nm c ⟨a2, c.length, k2⟩ hd.out HO2.out HU2.out HWO.out HLO.out).mono ?_)
              rintro e w4 ⟨rfl, G4, h4, hu4, hg4⟩
              have H4 : Hid (RD w0 w4 gr G4 (dPut nm s ((chunks p).take (k + 1)))) := by unfold Hid; rw [HDT.out]; exact h4
              have HU4 : Hid (Upd G w3 w4) := hu.out.trans hu4 (fun x hx => hx) hg.out
              have HG4 : Hid (∀ x ∈ G4, x ∈ G ∨ (w3.heap).size ≤ x) := fun x hx => by
                have := hu.out.size
                rcases hg4 x hx with r | r
                · exact hg.out x r
                · exact .inr (by omega)
              clear h4 hu4 hg4
              go_wp2_with fail
              go_roundw
              case rel => exact ⟨k + 1, J + 32, G4, by omega, by have := HJ.out; unfold Hid; omega, by go_num, H4, HU4, HG4⟩
              case measure => simp [intOf]; omega
            · obtain ⟨M, hM⟩ : ∃ M, M = J + 32 := ⟨_, rfl⟩
              have q2 : ¬ (p.length : Int) < (J : Int) + 32 := by omega
              obtain ⟨Ln, hLn⟩ : ∃ Ln, M - J = Ln := ⟨_, rfl⟩
              obtain ⟨A, hA, hcut⟩ : ∃ A : Option Addr, A = (if cp = J then ap else ap.map (·.add J)) ∧ ∀ W, (Instr.slice 27 (.slice ap p.length cp) (some (.int .i64 (J : Int))) (some (.int .i64 ((J : Int) + 32))) none).run Try.prog W = .ok (.slice A Ln (cp - J)) W :=
                ⟨_, rfl, fun W => by have h := run_cut_lh (P := Try.prog) (size := 1) Try.underlying27 (by kernel_rfl) ap p.length cp J M (by omega) (by omega) W (J : Int) ((J : Int) + 32) rfl (by omega); rw [hLn] at h; simpa using h⟩
              have HRDC : Hid (Bytes wr (.slice A Ln (cp - J)) ((p.drop J).take Ln)) := by
                have h := (bytes_upd HP1.out hu.out HAP1.out).sub J M (by omega) (by omega)
                rw [hLn] at h
                unfold Hid; rw [hA]; exact h
              have hce : (p.drop (32 * k)).take 32 = (p.drop J).take Ln := by
                have := HJ.out
                subst this
                rcases Nat.lt_or_ge p.length (32 * k + 32) with q | q
                · rw [List.take_of_length_le (by rw [List.length_drop]; omega), List.take_of_length_le (by rw [List.length_drop]; omega)]
                · rw [show Ln = 32 by omega]
              rw [hce] at HDT HWO
              have hclen : ((p.drop J).take Ln).length = Ln := by rw [List.length_take, List.length_drop]; omega
              have HCL := Lib.hid hclen
              have HLB : Hid (Ln ≤ p.length) := by unfold Hid; omega
              clear hce hclen hA hLn hM
              obtain ⟨c, hc⟩ : ∃ c, (p.drop J).take Ln = c := ⟨_, rfl⟩
              rw [hc] at HDT HWO HRDC HCL
              clear hc
              have hu1 : Upd [] wr (wr.alloc (.cells #[] 5)) := (Upd.refl [] wr).alloc _
              have HRUN := Lib.hid (fun ty => run_app (P := Try.prog) (w := wr.alloc (.cells #[] 5)) (ty := ty) (base := wr.heap.size) bv_one Try.underlying27 infoB8 rfl (.slice (some ⟨wr.heap.size, 0, none⟩) 0 0) (.slice A Ln (cp - J)) [] c (own_emptyR wr.heap.size _ wr.heap.size (Nat.le_refl _) (Blk.new wr 5 [])) (HRDC.out.upd0 hu1) (by have := HLB.out; rw [HCL.out]; simp; omega) (by have := HLB.out; rw [HCL.out]; simp [maxLen]; omega) (by simp))
              have HU1 := Lib.hid hu1
              clear hu1
              go_wp2_with (at_builtin; go_must (refine wpList_app_of rfl _ _ rfl (.slice (some ⟨wr.heap.size, 0, none⟩) 0 0) (.slice A Ln (cp - J)) rfl rfl (HRUN.out _) ?_; rintro v2 w2 ⟨ho2, hu2, hk2⟩; have HU2 : Hid (Upd [] wr w2) := (HU1.out.trans hu2 (by simp) (fun y hy => .inr (by simp [blk] at hy; omega))); rw [List.nil_append] at ho2; obtain ⟨a2, k2, rfl, -⟩ := ho2.rd; have HO2 : Hid (Own bv wr.heap.size 5 w2 (slv ⟨a2, c.length, k2⟩) c) := ho2; clear ho2 hu2 hk2 HRUN HRDC HU1; dsimp only))
              (with_reducible refine (rPut_any nm c ⟨a2, c.length, k2⟩ hd.out HO2.out HU2.out HWO.out HLO.out).mono ?_)
              rintro e w4 ⟨rfl, G4, h4, hu4, hg4⟩
              have H4 : Hid (RD w0 w4 gr G4 (dPut nm s ((chunks p).take (k + 1)))) := by unfold Hid; rw [HDT.out]; exact h4
              have HU4 : Hid (Upd G w3 w4) := hu.out.trans hu4 (fun x hx => hx) hg.out
              have HG4 : Hid (∀ x ∈ G4, x ∈ G ∨ (w3.heap).size ≤ x) := fun x hx => by
                have := hu.out.size
                rcases hg4 x hx with r | r
                · exact hg.out x r
                · exact .inr (by omega)
              clear h4 hu4 hg4
              go_wp2_with fail
              go_roundw
              case rel => exact ⟨k + 1, J + 32, G4, by omega, by have := HJ.out; unfold Hid; omega, by go_num, H4, HU4, HG4⟩
              case measure => simp [intOf]; omega
          · have q1 : ¬ (J : Int) < p.length := by omega
            have hke : k = (chunks p).length := by have := HJ.out; omega
            have HF : Hid (RD w0 wr gr G' (dPut nm s (chunks p))) := by have := hd.out; rwa [hke, List.take_length] at this
            clear hd hcl hke
            go_wp2_with fail
            go_ret
            exact ⟨by rw [HR.out]; rfl, by rw [HR.out]; exact ⟨G', HF.out, (HU3.out.mono (by simp)).trans hu.out (fun x hx => hx) (fun x hx => .inl hx), fun x hx => (hg.out x hx).imp id (fun q => by have := HU3.out.size; omega)⟩⟩
      | false =>
        have HR : Hid (dAppend s nm p = (0, dPut nm (dDo (wMake nm) s) (chunks p))) := by unfold Hid dAppend; rw [hok, if_pos rfl, if_neg hfull, hin, if_neg (by simp)]
        rw [hin, if_neg (by simp)] at HGET
        obtain ⟨hw, hk1, hk2, hk3, hk4⟩ := HD.out.ok.make nm hin (by have := HNL.out; omega)
        have HW := Lib.hid hw
        have HIN1 := Lib.hid hk2
        have HLN1 : Hid ((dDo (wMake nm) s).now.length ≤ 5000) := by have := HNL.out; unfold Hid; omega
        have HTT1 : Hid (dTotal (dDo (wMake nm) s).now + p.length ≤ 16777216) := by unfold Hid; rw [hk3]; exact HT.out
        have HLG1 : Hid ((dDo (wMake nm) s).log.length ≤ 500000001) := by have := HL.out; unfold Hid dDo; simp; omega
        have HLL : Hid (s.log.length ≤ 1000000000) := by have := HL.out; unfold Hid; omega
        clear hok hin hfull hw hk1 hk2 hk3 hk4
        go_enter Try.func65, Try.ntmps65
        go_wp2_with fail
        (with_reducible refine (rName_any w nm).mono ?_)
        rw [HOK.out]
        rintro e w1 ⟨rfl, rfl⟩
        go_wp2_with fail
        (with_reducible refine (rTotal_any HD.out HTOT.out).mono ?_)
        rintro e w2 ⟨rfl, hu2⟩
        have HU2 := Lib.hid hu2
        have c0 := hu2.cell C0.out (by simp)
        clear hu2
        go_wp2_with fail
        (with_reducible refine (HGET.out w2 HU2.out).mono ?_)
        rintro e w3 ⟨rfl, hu3⟩
        have HU3 := Lib.hid (HU2.out.seq hu3)
        clear hu3 c0 q hwr0 htot
        go_wp2_with fail
        (with_reducible refine (rDo_any (wMake nm) (HD.out.upd0 HU3.out) HW.out rfl HLL.out).mono ?_)
        rintro e w5 ⟨rfl, ho5⟩
        have HO5 := Lib.hid (ho5.later HU3.out)
        obtain ⟨G5, hd5, hu5, hg5⟩ := HO5.out
        have D1 := Lib.hid hd5
        have HU5 := Lib.hid hu5
        have HG5 := Lib.hid hg5
        have HP1 := Lib.hid (bytes_upd HP.out hu5 HAP.out)
        have HAP1 : Hid (p ≠ [] → ∀ x ∈ blk (.slice ap p.length cp), x ∉ G5) := fun hne x hx hg => by
          rcases hg5 x hg with q | q
          · exact HAP.out hne x hx q
          · have := HLT.out hne x hx; omega
        clear ho5 hd5 hu5 hg5 HO5
        go_wp2_with fail
        go_loopw [7] (fun v wr => ∃ (k J : Nat) (G' : List Nat), k ≤ (chunks p).length ∧ Hid (J = 32 * k) ∧ v = .int .i64 (J : Int) ∧ Hid (RD w0 wr gr G' (dPut nm (dDo (wMake nm) s) ((chunks p).take k))) ∧ Hid (Upd G5 w5 wr) ∧ Hid (∀ x ∈ G', x ∈ G5 ∨ (w5.heap).size ≤ x)) (fun v _ => p.length - (intOf v).toNat)
        case atStart => exact ⟨0, 0, G5, Nat.zero_le _, rfl, rfl, D1.out, Upd.refl _ _, fun x hx => .inl hx⟩
        case round =>
          obtain ⟨k, J, G', hk, HJ, rfl, hd, hu, hg⟩ := hrel
          have hcl := chunks_len p
          by_cases hpos : J < p.length
          · have hlt : k < (chunks p).length := by have := HJ.out; omega
            obtain ⟨hw0, hstep⟩ : WrOk (wPut nm ((p.drop (32 * k)).take 32)) (dPut nm (dDo (wMake nm) s) ((chunks p).take k)).now ∧ (dPut nm (dDo (wMake nm) s) ((chunks p).take k)).log.length ≤ 1000000000 := by
              have ih := PutOk.all p D1.out.ok HIN1.out HLN1.out HTT1.out k hk
              have hcl2 : ((p.drop (32 * k)).take 32).length = min 32 (p.length - 32 * k) := by rw [List.length_take, List.length_drop]
              have htt := HTT1.out
              have := HJ.out
              refine ⟨(ih.step ((p.drop (32 * k)).take 32) (fun q => by rw [q] at hcl2; simp at hcl2; omega) HLN1.out (by rw [hcl2]; omega)).1, ?_⟩
              have := ih.log
              have := HLG1.out
              omega
            have HWO := Lib.hid hw0
            have HLO := Lib.hid hstep
            have HDT := Lib.hid (dPut_take nm (dDo (wMake nm) s) p k hlt)
            have q0 : (0 : Int) ≤ J := by omega
            have q1 : (J : Int) < p.length := by omega
            have hwr : IntKind.i64.wrap ((J : Int) + 32) = (J : Int) + 32 := by rw [IntKind.wrap_i64]; omega
            clear hw0 hstep hcl
            rcases Nat.lt_or_ge p.length (J + 32) with q | q
            · obtain ⟨M, hM⟩ : ∃ M, M = p.length := ⟨_, rfl⟩
              have q2 : (p.length : Int) < (J : Int) + 32 := by omega
              obtain ⟨Ln, hLn⟩ : ∃ Ln, M - J = Ln := ⟨_, rfl⟩
              obtain ⟨A, hA, hcut⟩ : ∃ A : Option Addr, A = (if cp = J then ap else ap.map (·.add J)) ∧ ∀ W, (Instr.slice 27 (.slice ap p.length cp) (some (.int .i64 (J : Int))) (some (.int .i64 (p.length : Int))) none).run Try.prog W = .ok (.slice A Ln (cp - J)) W :=
                ⟨_, rfl, fun W => by have h := run_cut_lh (P := Try.prog) (size := 1) Try.underlying27 (by kernel_rfl) ap p.length cp J M (by omega) (by omega) W (J : Int) (p.length : Int) rfl (by omega); rw [hLn] at h; simpa using h⟩
              have HRDC : Hid (Bytes wr (.slice A Ln (cp - J)) ((p.drop J).take Ln)) := by
                have h := (bytes_upd HP1.out hu.out HAP1.out).sub J M (by omega) (by omega)
                rw [hLn] at h
                unfold Hid; rw [hA]; exact h
              have hce : (p.drop (32 * k)).take 32 = (p.drop J).take Ln := by
                have := HJ.out
                subst this
                rcases Nat.lt_or_ge p.length (32 * k + 32) with q | q
                · rw [List.take_of_length_le (by rw [List.length_drop]; omega), List.take_of_length_le (by rw [List.length_drop]; omega)]
                · rw [show Ln = 32 by omega]
              rw [hce] at HDT HWO
              have hclen : ((p.drop J).take Ln).length = Ln := by rw [List.length_take, List.length_drop]; omega
              have HCL := Lib.hid hclen
              have HLB : Hid (Ln ≤ p.length) := by unfold Hid; omega
              clear hce hclen hA hLn hM
              obtain ⟨c, hc⟩ : ∃ c, (p.drop J).take Ln = c := ⟨_, rfl⟩
              rw [hc] at HDT HWO HRDC HCL
              clear hc
              have hu1 : Upd [] wr (wr.alloc (.cells #[] 5)) := (Upd.refl [] wr).alloc _
              have HRUN := Lib.hid (fun ty => run_app (P := Try.prog) (w := wr.alloc (.cells #[] 5)) (ty := ty) (base := wr.heap.size) bv_one Try.underlying27 infoB8 rfl (.slice (some ⟨wr.heap.size, 0, none⟩) 0 0) (.slice A Ln (cp - J)) [] c (own_emptyR wr.heap.size _ wr.heap.size (Nat.le_refl _) (Blk.new wr 5 [])) (HRDC.out.upd0 hu1) (by have := HLB.out; rw [HCL.out]; simp; omega) (by have := HLB.out; rw [HCL.out]; simp [maxLen]; omega) (by simp))
              have HU1 := Lib.hid hu1
              clear hu1
              go_wp2_with (at_builtin; go_must (refine wpList_app_of rfl _ _ rfl (.slice (some ⟨wr.heap.size, 0, none⟩) 0 0) (.slice A Ln (cp - J)) rfl rfl (HRUN.out _) ?_; rintro v2 w2 ⟨ho2, hu2, hk2⟩; have HU2 : Hid (Upd [] wr w2) := (HU1.out.trans hu2 (by simp) (fun y hy => .inr (by simp [blk] at hy; omega))); rw [List.nil_append] at ho2; obtain ⟨a2, k2, rfl, -⟩ := ho2.rd; have HO2 : Hid (Own bv wr.heap.size 5 w2 (slv ⟨a2, c.length, k2⟩) c) := ho2; clear ho2 hu2 hk2 HRUN HRDC HU1; dsimp only))
              (with_reducible refine (rPut_any nm c ⟨a2, c.length, k2⟩ hd.out HO2.out HU2.out HWO.out HLO.out).mono ?_)
              rintro e w4 ⟨rfl, G4, h4, hu4, hg4⟩
              have H4 : Hid (RD w0 w4 gr G4 (dPut nm (dDo (wMake nm) s) ((chunks p).take (k + 1)))) := by unfold Hid; rw [HDT.out]; exact h4
              have HU4 : Hid (Upd G5 w5 w4) := hu.out.trans hu4 (fun x hx => hx) hg.out
              have HG4 : Hid (∀ x ∈ G4, x ∈ G5 ∨ (w5.heap).size ≤ x) := fun x hx => by
                have := hu.out.size
                rcases hg4 x hx with r | r
                · exact hg.out x r
                · exact .inr (by omega)
              clear h4 hu4 hg4
              go_wp2_with fail
              go_roundw
              case rel => exact ⟨k + 1, J + 32, G4, by omega, by have := HJ.out; unfold Hid; omega, by go_num, H4, HU4, HG4⟩
              case measure => simp [intOf]; omega
            · obtain ⟨M, hM⟩ : ∃ M, M = J + 32 := ⟨_, rfl⟩
              have q2 : ¬ (p.length : Int) < (J : Int) + 32 := by omega
              obtain ⟨Ln, hLn⟩ : ∃ Ln, M - J = Ln := ⟨_, rfl⟩
              obtain ⟨A, hA, hcut⟩ : ∃ A : Option Addr, A = (if cp = J then ap else ap.map (·.add J)) ∧ ∀ W, (Instr.slice 27 (.slice ap p.length cp) (some (.int .i64 (J : Int))) (some (.int .i64 ((J : Int) + 32))) none).run Try.prog W = .ok (.slice A Ln (cp - J)) W :=
                ⟨_, rfl, fun W => by have h := run_cut_lh (P := Try.prog) (size := 1) Try.underlying27 (by kernel_rfl) ap p.length cp J M (by omega) (by omega) W (J : Int) ((J : Int) + 32) rfl (by omega); rw [hLn] at h; simpa using h⟩
              have HRDC : Hid (Bytes wr (.slice A Ln (cp - J)) ((p.drop J).take Ln)) := by
                have h := (bytes_upd HP1.out hu.out HAP1.out).sub J M (by omega) (by omega)
                rw [hLn] at h
                unfold Hid; rw [hA]; exact h
              have hce : (p.drop (32 * k)).take 32 = (p.drop J).take Ln := by
                have := HJ.out
                subst this
                rcases Nat.lt_or_ge p.length (32 * k + 32) with q | q
                · rw [List.take_of_length_le (by rw [List.length_drop]; omega), List.take_of_length_le (by rw [List.length_drop]; omega)]
                · rw [show Ln = 32 by omega]
              rw [hce] at HDT HWO
              have hclen : ((p.drop J).take Ln).length = Ln := by rw [List.length_take, List.length_drop]; omega
              have HCL := Lib.hid hclen
              have HLB : Hid (Ln ≤ p.length) := by unfold Hid; omega
              clear hce hclen hA hLn hM
              obtain ⟨c, hc⟩ : ∃ c, (p.drop J).take Ln = c := ⟨_, rfl⟩
              rw [hc] at HDT HWO HRDC HCL
              clear hc
              have hu1 : Upd [] wr (wr.alloc (.cells #[] 5)) := (Upd.refl [] wr).alloc _
              have HRUN := Lib.hid (fun ty => run_app (P := Try.prog) (w := wr.alloc (.cells #[] 5)) (ty := ty) (base := wr.heap.size) bv_one Try.underlying27 infoB8 rfl (.slice (some ⟨wr.heap.size, 0, none⟩) 0 0) (.slice A Ln (cp - J)) [] c (own_emptyR wr.heap.size _ wr.heap.size (Nat.le_refl _) (Blk.new wr 5 [])) (HRDC.out.upd0 hu1) (by have := HLB.out; rw [HCL.out]; simp; omega) (by have := HLB.out; rw [HCL.out]; simp [maxLen]; omega) (by simp))
              have HU1 := Lib.hid hu1
              clear hu1
              go_wp2_with (at_builtin; go_must (refine wpList_app_of rfl _ _ rfl (.slice (some ⟨wr.heap.size, 0, none⟩) 0 0) (.slice A Ln (cp - J)) rfl rfl (HRUN.out _) ?_; rintro v2 w2 ⟨ho2, hu2, hk2⟩; have HU2 : Hid (Upd [] wr w2) := (HU1.out.trans hu2 (by simp) (fun y hy => .inr (by simp [blk] at hy; omega))); rw [List.nil_append] at ho2; obtain ⟨a2, k2, rfl, -⟩ := ho2.rd; have HO2 : Hid (Own bv wr.heap.size 5 w2 (slv ⟨a2, c.length, k2⟩) c) := ho2; clear ho2 hu2 hk2 HRUN HRDC HU1; dsimp only))
              (with_reducible refine (rPut_any nm c ⟨a2, c.length, k2⟩ hd.out HO2.out HU2.out HWO.out HLO.out).mono ?_)
              rintro e w4 ⟨rfl, G4, h4, hu4, hg4⟩
              have H4 : Hid (RD w0 w4 gr G4 (dPut nm (dDo (wMake nm) s) ((chunks p).take (k + 1)))) := by unfold Hid; rw [HDT.out]; exact h4
              have HU4 : Hid (Upd G5 w5 w4) := hu.out.trans hu4 (fun x hx => hx) hg.out
              have HG4 : Hid (∀ x ∈ G4, x ∈ G5 ∨ (w5.heap).size ≤ x) := fun x hx => by
                have := hu.out.size
                rcases hg4 x hx with r | r
                · exact hg.out x r
                · exact .inr (by omega)
              clear h4 hu4 hg4
              go_wp2_with fail
              go_roundw
              case rel => exact ⟨k + 1, J + 32, G4, by omega, by have := HJ.out; unfold Hid; omega, by go_num, H4, HU4, HG4⟩
              case measure => simp [intOf]; omega
          · have q1 : ¬ (J : Int) < p.length := by omega
            have hke : k = (chunks p).length := by have := HJ.out; omega
            have HF : Hid (RD w0 wr gr G' (dPut nm (dDo (wMake nm) s) (chunks p))) := by have := hd.out; rwa [hke, List.take_length] at this
            clear hd hcl hke
            go_wp2_with fail
            go_ret
            exact ⟨by rw [HR.out]; rfl, by rw [HR.out]; exact ⟨G', HF.out, HU5.out.trans hu.out (fun x hx => hx) HG5.out, fun x hx => by
              rcases hg.out x hx with q | q
              · exact HG5.out x q
              · exact .inr (by have := HU5.out.size; omega)⟩⟩
end
end Go.Proofs.Ytmhdhnipljonlaa
