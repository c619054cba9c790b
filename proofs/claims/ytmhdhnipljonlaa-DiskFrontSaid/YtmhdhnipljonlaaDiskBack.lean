/- Chapter 22: Mark and Back. -/
import Derived.Test.YtmhdhnipljonlaaDiskMark
namespace Go.Proofs.Ytmhdhnipljonlaa
open Go.RowKit
set_option linter.unusedSimpArgs false
set_option linter.unusedVariables false
section
variable {w0 w w' : World} {gd gn gm : Nat} {F B : List Nat} {K : KB} {cs : CF}
set_option maxRecDepth 20000 in
set_option maxHeartbeats 2000000 in
theorem mark_any (p1 : Option Addr) (s2 : Sl) (hd : Blk w gd 111 [.pointer (some ⟨gn, 0, none⟩), .pointer p1, slv s2]) (hgd : w0.heap.size ≤ gd) (ht : TD w0 w gn F B K cs) (hB : Bks w0.heap.size w B K) (hlen : cs.length ≤ 100000) :
    Calls Try.prog 36 #[.pointer (some ⟨gd, 0, none⟩)] w fun e w' => e = .returned (.tuple #[]) ∧ ∃ gm' Fm' cm', DC w0 w' gd gn gm' F Fm' B K cs cm' (.slice none 0 0) [] ∧ dfOf cm' = dfOf cs ∧ Upd [gd] w w' ∧ (∀ x ∈ Fm', w.heap.size ≤ x) := by
  obtain ⟨la, ln, lk⟩ := s2
  have c0 : w.cell? ⟨gd, 0, none⟩ = some (.pointer (some ⟨gn, 0, none⟩)) := hd.cell 0
  have HD := Lib.hid hd
  have HT := Lib.hid ht
  have HB := Lib.hid hB
  clear hd ht hB
  go_enter Try.func36, Try.ntmps36
  go_wp2_with fail
  (with_reducible refine (copied_any HT.out HB.out hlen).mono ?_)
  rintro e w1 ⟨g1, F1, cm, rfl, h1, hf1, hdf1, hu1, hfr1⟩
  have hd1 := HD.out.upd hu1 (by simp)
  have c1 : w1.cell? ⟨gd, 1, none⟩ = some (.pointer p1) := hd1.cell 1
  have c2 : w1.cell? ⟨gd, 2, none⟩ = some (.slice la ln lk) := hd1.cell 2
  have f1 := hd1.frozen 1
  have f2 := hd1.frozen 2
  have HD1 := Lib.hid hd1
  have H1 := Lib.hid h1
  have HF1 := Lib.hid hf1
  have HDF1 := Lib.hid hdf1
  have HU1 := Lib.hid hu1
  have HFR1 := Lib.hid hfr1
  clear hd1 h1 hf1 hdf1 hu1 hfr1 c0
  go_wp2_with fail
  go_end0
  have hset : Upd [gd] w1 ((w1.setCell ⟨gd, 1, none⟩ (.pointer (some ⟨g1, 0, none⟩))).setCell ⟨gd, 2, none⟩ (.slice none 0 0)) := ((Upd.refl [gd] w1).setCell _ _ (.inl (by simp))).setCell _ _ (.inl (by simp))
  have hblk := (HD1.out.set_ 1 (.pointer (some ⟨g1, 0, none⟩))).set_ 2 (.slice none 0 0)
  have hS : ∀ x ∈ [gd], w0.heap.size ≤ x := fun x hx => by simp at hx; omega
  have hT1 := HT.out.upd0 HU1.out
  have hB1 := HB.out.upd HU1.out (by simp)
  refine ⟨rfl, g1, F1, cm, ⟨hblk, hgd, hT1.upd hset (fun x hx hy => ?_) hS, H1.out.upd hset (fun x hx hy => ?_) hS, HF1.out, ?_, hB1.upd hset (fun x hx hy => ?_), OwnN.nil _ _ _, by simp⟩, HDF1.out, HU1.out.trans hset (by simp) (fun x hx => .inl hx), HFR1.out⟩
  · simp at hy; subst hy; exact dk_F HD1.out hT1.tab hx
  · simp at hy; subst hy; exact dk_F HD1.out H1.out.tab hx
  · exact Ap.symm (Ap.new (n := w.heap.size) HFR1.out (fun x hx => (HT.out.tab.ge x hx).2))
  · simp at hy; subst hy; exact dk_B HD1.out hB1 hx
end
section
variable {w0 w w' : World} {gd : Nat} {G : List Nat} {s : DS}
theorem dMark_any (h : DD w0 w gd G s) (hl : s.now.length ≤ 100000) :
    Calls Try.prog 36 #[.pointer (some ⟨gd, 0, none⟩)] w fun e w' => e = .returned (.tuple #[]) ∧ DOut w0 w gd G (dMark s) w' := by
  obtain ⟨gn, gm, Fn, Fm, B, K, cn, cm, lv, lg, hc, rfl, ho, rfl⟩ := h.ex
  obtain ⟨ao, co, rfl, -⟩ := hc.log.rd lwCells_len
  refine (mark_any _ ⟨ao, lg.length, co⟩ hc.dk hc.gdb hc.now hc.bks (by rwa [df_len] at hl)).mono ?_
  rintro e w' ⟨rfl, gm', Fm', cm', h', hd', hu, hfr⟩
  refine ⟨rfl, _, ⟨gn, gm', Fn, Fm', B, K, cn, cm', _, [], h', by rw [hd']; rfl, ho.mark, rfl⟩, hu.mono (fun x hx => .inl (by simp at hx; subst hx; exact (dfoot_mem _ _ _ _ _ _).2 (.inl rfl))), fun x hx => ?_⟩
  rcases (dfoot_mem _ _ _ _ _ _).1 hx with rfl | hx | hx | hx | hx
  · exact .inl ((dfoot_mem _ _ _ _ _ _).2 (.inl rfl))
  · exact .inl ((dfoot_mem _ _ _ _ _ _).2 (.inr (.inl hx)))
  · exact .inr (hfr x hx)
  · exact .inl ((dfoot_mem _ _ _ _ _ _).2 (.inr (.inr (.inr (.inl hx)))))
  · simp [blk] at hx
theorem wApply_len (x : Wr) (fs : DF) : (wApply x fs).length ≤ fs.length + 1 := by
  have h1 := fun k v => tSet_len (lt := strLt) fs k v
  have h2 := tDel_len (lt := strLt) fs x.nm
  have h3 := tSet_len (lt := strLt) (tDel strLt fs x.nm) x.tn (dGet fs x.nm).1
  unfold wApply
  split
  · exact h1 _ _
  split
  · exact h1 _ _
  split
  · split <;> omega
  split
  · exact h1 _ _
  split <;> omega
theorem wAll_len : ∀ {fs : DF} {l : List Wr}, LogOk fs l → fs.length ≤ 100000 → (wAll fs l).length ≤ 100000
  | fs, [], _, h => h
  | fs, x :: l, h, _ => wAll_len (fs := wApply x fs) h.2 (by have := wApply_len x fs; have := h.1.len; omega)
/-- While the raw writes are done again. -/
structure BL (w0 w wr : World) (gd gm : Nat) (Fn Fm B : List Nat) (K : KB) (cm : CF) (s2 : Sl) (lg : List LW) (k : Nat) (F' B' : List Nat) (K' : KB) (c' : CF) : Prop where
  dk : Blk wr gd 111 [.pointer (some ⟨gm, 0, none⟩), .pointer (some ⟨gm, 0, none⟩), slv s2]
  tab : TD w0 wr gm F' B' K' c'
  bks : Bks w0.heap.size wr B' K'
  ext : Ext B K B' K'
  eq : dfOf c' = wAll (dfOf cm) ((lg.map (·.1)).take k)
  log : OwnN 5 lwCells w0.heap.size 114 wr (slv s2) lg
  lsh : ∀ x ∈ lg, Sh B' K' x.2 x.1.p
  upd : Upd (dfoot gd Fn Fm B (slv s2)) w wr
  ff : ∀ x ∈ F', x ∈ Fm ∨ w.heap.size ≤ x
  fb : ∀ x ∈ B', x ∈ B ∨ w.heap.size ≤ x
theorem BL.upd0 {w0 w wr w' : World} {gd gm : Nat} {Fn Fm B : List Nat} {K : KB} {cm : CF} {s2 : Sl} {lg : List LW} {k : Nat} {F' B' : List Nat} {K' : KB} {c' : CF} (h : BL w0 w wr gd gm Fn Fm B K cm s2 lg k F' B' K' c') (hu : Upd [] wr w') : BL w0 w w' gd gm Fn Fm B K cm s2 lg k F' B' K' c' :=
  ⟨h.dk.upd hu (by simp), h.tab.upd0 hu, h.bks.upd hu (by simp), h.ext, h.eq, h.log.upd hu (by simp), h.lsh, h.upd.trans hu (fun x hx => hx) (by simp), h.ff, h.fb⟩
theorem BL.step {w0 w wr w' : World} {gd gm : Nat} {Fn Fm B : List Nat} {K : KB} {cm : CF} {s2 : Sl} {lg : List LW} {k : Nat} {F' B' : List Nat} {K' : KB} {c' : CF} (h : BL w0 w wr gd gm Fn Fm B K cm s2 lg k F' B' K' c') (hk : k < lg.length) (hd : TDoes w0 wr gm F' B' K' (wApply (nth lg k).1 (dfOf c')) w') :
    ∃ F'' B'' K'' c'', BL w0 w w' gd gm Fn Fm B K cm s2 lg (k + 1) F'' B'' K'' c'' := by
  obtain ⟨F2, B2, K2, c2, h1, h2, h3, h4, h5, h6, h7⟩ := hd
  have hw := h.upd.size
  refine ⟨F2, B2, K2, c2, ⟨h.dk.upd h5 (fun hx => ?_), h1, h2, h.ext.trans h3, ?_, h.log.upd h5 (fun x hx hx' => ?_), fun x hx => (h.lsh x hx).ext h3, h.upd.trans h5 (fun x hx => hx) (fun x hx => ?_), fun x hx => ?_, fun x hx => ?_⟩⟩
  · rcases List.mem_append.1 hx with q | q
    · exact dk_F h.dk h.tab.tab q
    · exact dk_B h.dk h.bks q
  · rw [h4, h.eq, wAll_take _ _ k (by simpa using hk)]
    congr 1
    rw [nth_get lg k hk, nth_get (lg.map (·.1)) k (by simpa using hk)]; simp
  · rcases List.mem_append.1 hx' with q | q
    · exact log_F h.log h.tab.tab x hx q
    · exact log_B h.log h.bks x hx q
  · rcases List.mem_append.1 hx with q | q
    · exact (h.ff x q).imp (fun q => (dfoot_mem _ _ _ _ _ _).2 (.inr (.inr (.inl q)))) id
    · exact (h.fb x q).imp (fun q => (dfoot_mem _ _ _ _ _ _).2 (.inr (.inr (.inr (.inl q))))) id
  · rcases h6 x hx with q | q
    · exact h.ff x q
    · exact .inr (by omega)
  · rcases h7 x hx with q | q
    · exact h.fb x q
    · exact .inr (by omega)
theorem BL.wok {w0 w wr : World} {gd gm : Nat} {Fn Fm B : List Nat} {K : KB} {cm : CF} {s2 : Sl} {lg : List LW} {k : Nat} {F' B' : List Nat} {K' : KB} {c' : CF} (h : BL w0 w wr gd gm Fn Fm B K cm s2 lg k F' B' K' c') (ho : LogOk (dfOf cm) (lg.map (·.1))) (hk : k < lg.length) : WrOk (nth lg k).1 (dfOf c') := by
  have h1 := ho.at_ k (by simpa using hk)
  rw [← h.eq, nth_get (lg.map (·.1)) k (by simpa using hk)] at h1
  rw [nth_get lg k hk]
  simpa using h1
theorem BL.step0 {w0 w wr w' : World} {gd gm : Nat} {Fn Fm B : List Nat} {K : KB} {cm : CF} {s2 : Sl} {lg : List LW} {k : Nat} {F' B' : List Nat} {K' : KB} {c' : CF} (h : BL w0 w wr gd gm Fn Fm B K cm s2 lg k F' B' K' c') (hk : k < lg.length) (hd : TDoes w0 wr gm F' B' K' (wApply (nth lg k).1 (dfOf c')) w') :
    ∃ F'' B'' K'' c'', BL w0 w w' gd gm Fn Fm B K cm s2 lg (k + 1) F'' B'' K'' c'' := h.step hk hd
theorem TDoes.later {w0 w w1 w' : World} {g : Nat} {F B : List Nat} {K : KB} {fs : DF} (h : TDoes w0 w1 g F B K fs w') (hu : Upd [] w w1) : TDoes w0 w g F B K fs w' := by
  obtain ⟨F2, B2, K2, c2, h1, h2, h3, h4, h5, h6, h7⟩ := h
  have := hu.size
  exact ⟨F2, B2, K2, c2, h1, h2, h3, h4, hu.trans h5 (by simp) (fun x hx => .inl hx), fun x hx => (h6 x hx).imp id (fun q => by omega), fun x hx => (h7 x hx).imp id (fun q => by omega)⟩
theorem BL.finish {w0 w wr w' : World} {gd gm gm' : Nat} {Fn Fm Fm' B : List Nat} {K : KB} {cn cm cm' : CF} {s2 : Sl} {lg : List LW} {k : Nat} {F' B' : List Nat} {K' : KB} {c' : CF} (h : BL w0 w wr gd gm Fn Fm B K cm s2 lg k F' B' K' c') (ho : DOk ⟨dfOf cn, dfOf cm, lg.map (·.1)⟩) (n : Int) (hm : min n.toNat lg.length = k)
    (h1 : DC w0 w' gd gm gm' F' Fm' B' K' c' cm' (.slice none 0 0) []) (h2 : dfOf cm' = dfOf c') (hu : Upd [gd] wr w') (hf : ∀ x ∈ Fm', wr.heap.size ≤ x) : DOut w0 w gd (dfoot gd Fn Fm B (slv s2)) (dBack ⟨dfOf cn, dfOf cm, lg.map (·.1)⟩ n) w' := by
  have he : dBackF ⟨dfOf cn, dfOf cm, lg.map (·.1)⟩ n = dfOf c' := by
    unfold dBackF
    rw [h.eq, ← hm]
    dsimp only
    congr 1
    rw [List.take_eq_take_iff]
    simp
  have hw := h.upd.size
  refine ⟨_, ⟨gm, gm', F', Fm', B', K', c', cm', _, [], h1, by unfold dBack; rw [he, h2]; rfl, ho.back n, rfl⟩, h.upd.trans hu (fun x hx => hx) (fun x hx => .inl (by simp at hx; subst hx; exact (dfoot_mem _ _ _ _ _ _).2 (.inl rfl))), fun x hx => ?_⟩
  rcases (dfoot_mem _ _ _ _ _ _).1 hx with rfl | hx | hx | hx | hx
  · exact .inl ((dfoot_mem _ _ _ _ _ _).2 (.inl rfl))
  · exact (h.ff x hx).imp (fun q => (dfoot_mem _ _ _ _ _ _).2 (.inr (.inr (.inl q)))) id
  · exact .inr (by have := hf x hx; omega)
  · exact (h.fb x hx).imp (fun q => (dfoot_mem _ _ _ _ _ _).2 (.inr (.inr (.inr (.inl q))))) id
  · simp [blk] at hx
set_option maxRecDepth 20000 in
set_option maxHeartbeats 4000000 in
theorem dBack_any (n : Int) (hn : I64 n) (h : DD w0 w gd G s) (hl : s.mark.length ≤ 100000) :
    Calls Try.prog 32 #[.pointer (some ⟨gd, 0, none⟩), .int .i64 n] w fun e w' => e = .returned (.tuple #[]) ∧ DOut w0 w gd G (dBack s n) w' := by
  obtain ⟨gn, gm, Fn, Fm, B, K, cn, cm, lv, lg, hc, rfl, ho, rfl⟩ := h.ex
  obtain ⟨ao, co, rfl, hlc, hcm, -⟩ := hc.log.rd lwCells_len
  have hmx : co ≤ 9223372036854775807 := by unfold maxLen at hcm; omega
  have c1 : w.cell? ⟨gd, 1, none⟩ = some (.pointer (some ⟨gm, 0, none⟩)) := hc.dk.cell 1
  have f0 := hc.dk.frozen 0
  have c0 : w.cell? ⟨gd, 0, none⟩ = some (.pointer (some ⟨gn, 0, none⟩)) := hc.dk.cell 0
  have hset : Upd [gd] w (w.setCell ⟨gd, 0, none⟩ (.pointer (some ⟨gm, 0, none⟩))) := (Upd.refl [gd] w).setCell _ _ (.inl (by simp))
  have hblk := hc.dk.set_ 0 (.pointer (some ⟨gm, 0, none⟩))
  have hS : ∀ x ∈ [gd], w0.heap.size ≤ x := fun x hx => by simp at hx; subst hx; exact hc.gdb
  have HBL : Hid (BL w0 w (w.setCell ⟨gd, 0, none⟩ (.pointer (some ⟨gm, 0, none⟩))) gd gm Fn Fm B K cm ⟨ao, lg.length, co⟩ lg 0 Fm B K cm) :=
    ⟨hblk, hc.mark.upd hset (fun x hx hy => by simp at hy; subst hy; exact dk_F hc.dk hc.mark.tab hx) hS, hc.bks.upd hset (fun x hx hy => by simp at hy; subst hy; exact dk_B hc.dk hc.bks hx), Ext.refl _ _, rfl, hc.log.upd hset (fun x hx hy => by simp at hy; subst hy; exact dk_L hc.dk hc.log hx), hc.lsh,
      hset.mono (fun x hx => .inl (by simp at hx; subst hx; exact (dfoot_mem _ _ _ _ _ _).2 (.inl rfl))), fun x hx => .inl hx, fun x hx => .inl hx⟩
  have HLOK := Lib.hid ho.log
  have HDK := Lib.hid ho
  have HGDB := Lib.hid hc.gdb
  have HML : Hid ((dfOf cm).length ≤ 100000) := hl
  have HN := Lib.hid hn
  clear h hc hset hblk hS ho hl
  go_enter Try.func32, Try.ntmps32
  go_wp2_with fail
  generalize w.setCell ⟨gd, 0, none⟩ (.pointer (some ⟨gm, 0, none⟩)) = w1 at *
  have c2 : w1.cell? ⟨gd, 2, none⟩ = some (.slice ao lg.length co) := HBL.out.dk.cell 2
  have hcase : (n ≤ 0 ∧ Hid (min n.toNat lg.length = 0)) ∨ (∃ m : Nat, n = (m : Int) ∧ 0 < m ∧ m ≤ lg.length ∧ Hid (min n.toNat lg.length = m)) ∨ ((lg.length : Int) < n ∧ 0 < n ∧ Hid (min n.toNat lg.length = lg.length)) := by
    unfold Hid
    rcases Int.lt_or_le 0 n with q | q
    · obtain ⟨m, rfl⟩ := Int.eq_ofNat_of_zero_le (Int.le_of_lt q)
      rcases Nat.lt_or_ge lg.length m with r | r
      · exact .inr (.inr ⟨by omega, q, by simp; omega⟩)
      · exact .inr (.inl ⟨m, rfl, by omega, r, by simp; omega⟩)
    · exact .inl ⟨q, by omega⟩
  rcases hcase with ⟨hn0, hm⟩ | ⟨m, rfl, hm0, hml, hm⟩ | ⟨hnl, hn0, hm⟩
  · rcases (show n < 0 ∨ n = 0 by omega) with q | rfl
    · have z0 : (if n < 0 then 0 else n) = 0 := if_pos q
      have HM := Lib.hid hm
      clear hm
      go_wp2_with fail
      go_quiet (fail)
      have HBQ : Hid (BL w0 w (w1.drewN nq) gd gm Fn Fm B K cm ⟨ao, lg.length, co⟩ lg 0 Fm B K cm) := HBL.out.upd0 ((Upd.refl [] w1).drewN _)
      generalize w1.drewN nq = w2 at *
      clear HBL c2 c1 f0 c0
      go_wp2_with fail
      go_loopw [27] (fun i wr => ∃ (k : Nat) (F' B' : List Nat) (K' : KB) (c' : CF), k ≤ 0 ∧ i = .int .i64 k ∧ Hid (BL w0 w wr gd gm Fn Fm B K cm ⟨ao, lg.length, co⟩ lg k F' B' K' c')) (fun i _ => 0 - (intOf i).toNat)
      case atStart => exact ⟨0, Fm, B, K, cm, Nat.zero_le _, rfl, HBQ⟩
      case round =>
        obtain ⟨k, F', B', K', c', hk, rfl, hb⟩ := hrel
        clear HBQ
        by_cases hlt : k < 0
        · exact absurd hlt (Nat.not_lt_zero _)
        · obtain rfl : k = 0 := by omega
          have HLEN : Hid (c'.length ≤ 100000) := by
            have h1 := wAll_len (HLOK.out.take 0) HML.out
            rw [← hb.out.eq, df_len] at h1
            exact h1
          go_wp2_with fail
          (with_reducible refine (mark_any (some ⟨gm, 0, none⟩) ⟨ao, lg.length, co⟩ hb.out.dk HGDB.out hb.out.tab hb.out.bks HLEN.out).mono ?_)
          rintro e w5 ⟨rfl, gm', Fm', cm', h', hd', hu, hfr⟩
          have HF := Lib.hid (hb.out.finish HDK.out n HM.out h' hd' hu hfr)
          clear h' hd' hu hfr hb
          go_wp2_with fail
          go_end0
          exact ⟨rfl, HF.out⟩
    · have HM := Lib.hid hm
      clear hm
      go_wp2_with fail
      go_quiet (fail)
      have HBQ : Hid (BL w0 w (w1.drewN nq) gd gm Fn Fm B K cm ⟨ao, lg.length, co⟩ lg 0 Fm B K cm) := HBL.out.upd0 ((Upd.refl [] w1).drewN _)
      generalize w1.drewN nq = w2 at *
      clear HBL c2 c1 f0 c0
      go_wp2_with fail
      go_loopw [27] (fun i wr => ∃ (k : Nat) (F' B' : List Nat) (K' : KB) (c' : CF), k ≤ 0 ∧ i = .int .i64 k ∧ Hid (BL w0 w wr gd gm Fn Fm B K cm ⟨ao, lg.length, co⟩ lg k F' B' K' c')) (fun i _ => 0 - (intOf i).toNat)
      case atStart => exact ⟨0, Fm, B, K, cm, Nat.zero_le _, rfl, HBQ⟩
      case round =>
        obtain ⟨k, F', B', K', c', hk, rfl, hb⟩ := hrel
        clear HBQ
        by_cases hlt : k < 0
        · exact absurd hlt (Nat.not_lt_zero _)
        · obtain rfl : k = 0 := by omega
          have HLEN : Hid (c'.length ≤ 100000) := by
            have h1 := wAll_len (HLOK.out.take 0) HML.out
            rw [← hb.out.eq, df_len] at h1
            exact h1
          go_wp2_with fail
          (with_reducible refine (mark_any (some ⟨gm, 0, none⟩) ⟨ao, lg.length, co⟩ hb.out.dk HGDB.out hb.out.tab hb.out.bks HLEN.out).mono ?_)
          rintro e w5 ⟨rfl, gm', Fm', cm', h', hd', hu, hfr⟩
          have HF := Lib.hid (hb.out.finish HDK.out 0 HM.out h' hd' hu hfr)
          clear h' hd' hu hfr hb
          go_wp2_with fail
          go_end0
          exact ⟨rfl, HF.out⟩
  · have HM := Lib.hid hm
    clear hm
    go_wp2_with fail
    go_quiet (fail)
    have HBQ : Hid (BL w0 w (w1.drewN nq) gd gm Fn Fm B K cm ⟨ao, lg.length, co⟩ lg 0 Fm B K cm) := HBL.out.upd0 ((Upd.refl [] w1).drewN _)
    generalize w1.drewN nq = w2 at *
    clear HBL c2 c1 f0 c0
    go_wp2_with fail
    go_loopw [27] (fun i wr => ∃ (k : Nat) (F' B' : List Nat) (K' : KB) (c' : CF), k ≤ m ∧ i = .int .i64 k ∧ Hid (BL w0 w wr gd gm Fn Fm B K cm ⟨ao, lg.length, co⟩ lg k F' B' K' c')) (fun i _ => m - (intOf i).toNat)
    case atStart => exact ⟨0, Fm, B, K, cm, Nat.zero_le _, rfl, HBQ⟩
    case round =>
      obtain ⟨k, F', B', K', c', hk, rfl, hb⟩ := hrel
      clear HBQ
      by_cases hlt : k < m
      · have hkl : k < lg.length := by omega
        obtain ⟨la, lc, he, -, -, hcell⟩ := hb.out.log.rd lwCells_len
        have e1 : ao = la := (Value.slice.inj he).1
        obtain ⟨lb, loff, e2, hcell⟩ := hcell (by intro h; simp [h] at hkl)
        obtain rfl : ao = some ⟨lb, loff, none⟩ := e1.trans e2
        have d0 : wr.cell? ⟨lb, loff + k * 5, none⟩ = some (.int .i64 (nth lg k).1.kd) := hcell k hkl 0 (by omega)
        have d1 : wr.cell? ⟨lb, loff + k * 5 + 1, none⟩ = some (sv (nth lg k).1.nm) := hcell k hkl 1 (by omega)
        have d2 : wr.cell? ⟨lb, loff + k * 5 + 2, none⟩ = some (sv (nth lg k).1.tn) := hcell k hkl 2 (by omega)
        have d3 : wr.cell? ⟨lb, loff + k * 5 + 3, none⟩ = some (slv (nth lg k).2) := hcell k hkl 3 (by omega)
        have d4 : wr.cell? ⟨lb, loff + k * 5 + 4, none⟩ = some (.int .i64 (nth lg k).1.n) := hcell k hkl 4 (by omega)
        have HW := Lib.hid (hb.out.wok HLOK.out hkl)
        have HSH := Lib.hid (hb.out.lsh (nth lg k) (by rw [nth_get _ _ hkl]; exact List.getElem_mem _))
        have HST := Lib.hid (fun w' hd => hb.out.step0 (w' := w') hkl hd)
        clear he hcell e1 e2
        generalize nth lg k = x at *
        obtain ⟨⟨kd, nm, tn, p, nn⟩, ⟨pa, pn, pk⟩⟩ := x
        simp only [slv, sv] at d0 d1 d2 d3 d4
        have q1 : (0 : Int) ≤ k := by omega
        have q2 : (k : Int) < m := by omega
        have hua : Upd [] wr (wr.alloc (.cells #[.int .i64 kd, sv nm, sv tn, .slice pa pn pk, .int .i64 nn] 114)) := (Upd.refl [] wr).alloc _
        have HB := Lib.hid (hb.out.upd0 hua)
        have hbx := Blk.new wr 114 [.int .i64 kd, sv nm, sv tn, .slice pa pn pk, .int .i64 nn]
        have HBX := Lib.hid hbx
        have HUA := Lib.hid hua
        clear hb hua hbx
        go_wp2_with fail
        have b0 := HBX.out.cell 0
        have b1 := HBX.out.cell 1
        have b2 := HBX.out.cell 2
        have b3 := HBX.out.cell 3
        have b4 := HBX.out.cell 4
        simp only [List.getElem?_cons_zero, List.getElem?_cons_succ] at b0 b1 b2 b3 b4
        generalize wr.alloc (.cells #[.int .i64 kd, sv nm, sv tn, .slice pa pn pk, .int .i64 nn] 114) = w3 at *
        have c0 : w3.cell? ⟨gd, 0, none⟩ = some (.pointer (some ⟨gm, 0, none⟩)) := HB.out.dk.cell 0
        clear d0 d1 d2 d3 d4
        go_still_tail 5, (by kernel_rfl)
        change wpList _ _ _ _ _ w3.drew
        go_wp2_with fail
        (with_reducible refine (apply_any ⟨kd, nm, tn, p, nn⟩ ⟨pa, pn, pk⟩ HW.out (HB.out.tab.upd0 (Upd.refl [] w3).drew) (HB.out.bks.upd (Upd.refl [] w3).drew (by simp)) HSH.out).mono ?_)
        rintro e w4 ⟨rfl, hd⟩
        have HD : Hid (TDoes w0 wr gm F' B' K' (wApply ⟨kd, nm, tn, p, nn⟩ (dfOf c')) w4) := hd.later HUA.out.drew
        clear hd c0
        obtain ⟨F4, B4, K4, c4, hb4⟩ := HST.out w4 HD.out
        have HB4 := Lib.hid hb4
        clear hb4 HST
        go_wp2_with fail
        go_roundw
        case rel => exact ⟨k + 1, F4, B4, K4, c4, by omega, by go_num, HB4⟩
        case measure => simp [intOf]; omega
      · obtain rfl : m = k := by omega
        have HLEN : Hid (c'.length ≤ 100000) := by
          have h1 := wAll_len (HLOK.out.take m) HML.out
          rw [← hb.out.eq, df_len] at h1
          exact h1
        go_wp2_with fail
        (with_reducible refine (mark_any (some ⟨gm, 0, none⟩) ⟨ao, lg.length, co⟩ hb.out.dk HGDB.out hb.out.tab hb.out.bks HLEN.out).mono ?_)
        rintro e w5 ⟨rfl, gm', Fm', cm', h', hd', hu, hfr⟩
        have HF := Lib.hid (hb.out.finish HDK.out (m : Int) HM.out h' hd' hu hfr)
        clear h' hd' hu hfr hb
        go_wp2_with fail
        go_end0
        exact ⟨rfl, HF.out⟩
  · have HM := Lib.hid hm
    clear hm
    go_wp2_with fail
    go_quiet (fail)
    have HBQ : Hid (BL w0 w (w1.drewN nq) gd gm Fn Fm B K cm ⟨ao, lg.length, co⟩ lg 0 Fm B K cm) := HBL.out.upd0 ((Upd.refl [] w1).drewN _)
    generalize w1.drewN nq = w2 at *
    clear HBL c2 c1 f0 c0
    go_wp2_with fail
    go_loopw [27] (fun i wr => ∃ (k : Nat) (F' B' : List Nat) (K' : KB) (c' : CF), k ≤ lg.length ∧ i = .int .i64 k ∧ Hid (BL w0 w wr gd gm Fn Fm B K cm ⟨ao, lg.length, co⟩ lg k F' B' K' c')) (fun i _ => lg.length - (intOf i).toNat)
    case atStart => exact ⟨0, Fm, B, K, cm, Nat.zero_le _, rfl, HBQ⟩
    case round =>
      obtain ⟨k, F', B', K', c', hk, rfl, hb⟩ := hrel
      clear HBQ
      by_cases hlt : k < lg.length
      · have hkl : k < lg.length := by omega
        obtain ⟨la, lc, he, -, -, hcell⟩ := hb.out.log.rd lwCells_len
        have e1 : ao = la := (Value.slice.inj he).1
        obtain ⟨lb, loff, e2, hcell⟩ := hcell (by intro h; simp [h] at hkl)
        obtain rfl : ao = some ⟨lb, loff, none⟩ := e1.trans e2
        have d0 : wr.cell? ⟨lb, loff + k * 5, none⟩ = some (.int .i64 (nth lg k).1.kd) := hcell k hkl 0 (by omega)
        have d1 : wr.cell? ⟨lb, loff + k * 5 + 1, none⟩ = some (sv (nth lg k).1.nm) := hcell k hkl 1 (by omega)
        have d2 : wr.cell? ⟨lb, loff + k * 5 + 2, none⟩ = some (sv (nth lg k).1.tn) := hcell k hkl 2 (by omega)
        have d3 : wr.cell? ⟨lb, loff + k * 5 + 3, none⟩ = some (slv (nth lg k).2) := hcell k hkl 3 (by omega)
        have d4 : wr.cell? ⟨lb, loff + k * 5 + 4, none⟩ = some (.int .i64 (nth lg k).1.n) := hcell k hkl 4 (by omega)
        have HW := Lib.hid (hb.out.wok HLOK.out hkl)
        have HSH := Lib.hid (hb.out.lsh (nth lg k) (by rw [nth_get _ _ hkl]; exact List.getElem_mem _))
        have HST := Lib.hid (fun w' hd => hb.out.step0 (w' := w') hkl hd)
        clear he hcell e1 e2
        generalize nth lg k = x at *
        obtain ⟨⟨kd, nm, tn, p, nn⟩, ⟨pa, pn, pk⟩⟩ := x
        simp only [slv, sv] at d0 d1 d2 d3 d4
        have q1 : (0 : Int) ≤ k := by omega
        have q2 : (k : Int) < lg.length := by omega
        have hua : Upd [] wr (wr.alloc (.cells #[.int .i64 kd, sv nm, sv tn, .slice pa pn pk, .int .i64 nn] 114)) := (Upd.refl [] wr).alloc _
        have HB := Lib.hid (hb.out.upd0 hua)
        have hbx := Blk.new wr 114 [.int .i64 kd, sv nm, sv tn, .slice pa pn pk, .int .i64 nn]
        have HBX := Lib.hid hbx
        have HUA := Lib.hid hua
        clear hb hua hbx
        go_wp2_with fail
        have b0 := HBX.out.cell 0
        have b1 := HBX.out.cell 1
        have b2 := HBX.out.cell 2
        have b3 := HBX.out.cell 3
        have b4 := HBX.out.cell 4
        simp only [List.getElem?_cons_zero, List.getElem?_cons_succ] at b0 b1 b2 b3 b4
        generalize wr.alloc (.cells #[.int .i64 kd, sv nm, sv tn, .slice pa pn pk, .int .i64 nn] 114) = w3 at *
        have c0 : w3.cell? ⟨gd, 0, none⟩ = some (.pointer (some ⟨gm, 0, none⟩)) := HB.out.dk.cell 0
        clear d0 d1 d2 d3 d4
        go_still_tail 5, (by kernel_rfl)
        change wpList _ _ _ _ _ w3.drew
        go_wp2_with fail
        (with_reducible refine (apply_any ⟨kd, nm, tn, p, nn⟩ ⟨pa, pn, pk⟩ HW.out (HB.out.tab.upd0 (Upd.refl [] w3).drew) (HB.out.bks.upd (Upd.refl [] w3).drew (by simp)) HSH.out).mono ?_)
        rintro e w4 ⟨rfl, hd⟩
        have HD : Hid (TDoes w0 wr gm F' B' K' (wApply ⟨kd, nm, tn, p, nn⟩ (dfOf c')) w4) := hd.later HUA.out.drew
        clear hd c0
        obtain ⟨F4, B4, K4, c4, hb4⟩ := HST.out w4 HD.out
        have HB4 := Lib.hid hb4
        clear hb4 HST
        go_wp2_with fail
        go_roundw
        case rel => exact ⟨k + 1, F4, B4, K4, c4, by omega, by go_num, HB4⟩
        case measure => simp [intOf]; omega
      · obtain rfl : k = lg.length := by omega
        have HLEN : Hid (c'.length ≤ 100000) := by
          have h1 := wAll_len (HLOK.out.take lg.length) HML.out
          rw [← hb.out.eq, df_len] at h1
          exact h1
        go_wp2_with fail
        (with_reducible refine (mark_any (some ⟨gm, 0, none⟩) ⟨ao, lg.length, co⟩ hb.out.dk HGDB.out hb.out.tab hb.out.bks HLEN.out).mono ?_)
        rintro e w5 ⟨rfl, gm', Fm', cm', h', hd', hu, hfr⟩
        have HF := Lib.hid (hb.out.finish HDK.out n HM.out h' hd' hu hfr)
        clear h' hd' hu hfr hb
        go_wp2_with fail
        go_end0
        exact ⟨rfl, HF.out⟩
end
end Go.Proofs.Ytmhdhnipljonlaa
