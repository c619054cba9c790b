/- Chapter 21: Rename. -/
import Derived.Test.YtmhdhnipljonlaaYardCut
namespace Go.Proofs.Ytmhdhnipljonlaa
open Go.RowKit
set_option linter.unusedSimpArgs false
set_option linter.unusedVariables false
abbrev fileF : (ByteArray × Sl) × List UInt8 → ByteArray × List UInt8 := fun v => (v.1.1, v.2)
theorem mem_del {ν : Type} [Inhabited ν] {l : List (Int × ν)} (h : Rising ltY l) {k : Int} {p : Int × ν} (hp : p ∈ l) (hne : k ≠ p.1) : p ∈ tDel ltY l k := by
  unfold tDel
  split
  · rename_i hin
    unfold isIn at hin
    obtain ⟨h1, h2⟩ := of_decide_eq_true hin
    rw [← List.take_append_drop (below ltY l k) l] at hp
    rcases List.mem_append.1 hp with q | q
    · exact List.mem_append_left _ q
    · rw [List.drop_eq_getElem_cons h1] at q
      rcases List.mem_cons.1 q with q | q
      · exfalso; apply hne
        rw [← h2, nth_get l _ h1, q]
      · exact List.mem_append_right _ q
  · exact hp
section
variable {w0 w : World} {gy : Nat} {G : List Nat} {fl : FL} {tk : List (Int × Int)}
set_option maxRecDepth 20000 in
set_option maxHeartbeats 2000000 in
theorem yRename_any (s t : ByteArray) (h : YD w0 w gy G fl tk) :
    Calls Try.prog 17 #[.pointer (some ⟨gy, 0, none⟩), sv s, sv t] w (YDoes w0 w gy G tk (yRename fl s t)) := by
  obtain ⟨gf, gt, F, T, cs, hc, rfl, hlen, hin, rfl⟩ := h.ex
  have HC := Lib.hid hc
  have hlen1 : cs.length ≤ 1000 := by omega
  have HIN := Lib.hid hin
  have HD := Lib.hid h
  cases hn : nameOk t with
  | false =>
    have HY : Hid (yRename (filesOf cs) s t = (14, filesOf cs)) := by unfold Hid yRename; rw [hn]; rfl
    have HN := Lib.hid (named_any w t)
    rw [hn] at HN
    clear hc h hin hn
    go_enter Try.func17, Try.ntmps17
    go_wp2_with fail
    (with_reducible refine HN.out.mono ?_)
    rintro e w' ⟨rfl, rfl⟩
    go_wp2_with fail
    go_ret
    exact ⟨by rw [HY.out]; rfl, by rw [HY.out]; exact HD.out.out0 (Upd.refl _ _)⟩
  | true =>
   have HN := Lib.hid (named_any w t)
   rw [hn] at HN
   cases hh : hasN (filesOf cs) s with
   | false =>
    have HY : Hid (yRename (filesOf cs) s t = (7, filesOf cs)) := by unfold Hid yRename; rw [hn, hh]; rfl
    have HF := Lib.hid (yFind_no s HC.out hlen1 hh)
    clear hc h hin hh hn
    go_enter Try.func17, Try.ntmps17
    go_wp2_with fail
    (with_reducible refine HN.out.mono ?_)
    rintro e w' ⟨rfl, rfl⟩
    go_wp2_with fail
    (with_reducible refine HF.out.mono ?_)
    rintro e w1 ⟨rfl, hu1⟩
    have HU1 := Lib.hid (hu1.alloc (.cells #[.string ⟨#[]⟩, .slice none 0 0] 91))
    clear hu1
    go_wp2_with fail
    go_ret
    exact ⟨by rw [HY.out]; rfl, by rw [HY.out]; exact HD.out.out0 HU1.out⟩
   | true =>
    have HF := Lib.hid (yFind_yes s _ HC.out hlen1 hh rfl)
    have hlt : findN (filesOf cs) s < cs.length := by unfold hasN at hh; have := of_decide_eq_true hh; rwa [files_len] at this
    have hat := findN_at (filesOf cs) s (by rw [files_len]; exact hlt)
    rw [nth_files cs _ hlt] at hat
    have hmem : nth cs (findN (filesOf cs) s) ∈ cs := nth_mem _ hlt
    have hino : inoN (filesOf cs) s = (nth cs (findN (filesOf cs) s)).1 := by unfold inoN; rw [nth_files cs _ hlt]
    have hby : bytesN (filesOf cs) s = (nth cs (findN (filesOf cs) s)).2.2 := by unfold bytesN; rw [nth_files cs _ hlt]
    generalize nth cs (findN (filesOf cs) s) = c0 at *
    obtain ⟨x, ⟨nm, sl⟩, bs⟩ := c0
    have hat : nm = s := hat
    subst hat
    have hino : inoN (filesOf cs) nm = x := hino
    have hby : bytesN (filesOf cs) nm = bs := hby
    have hx := hin _ hmem
    have hx1 : (1 : Int) ≤ x := hx.1
    have hx2 : x ≤ 12 := hx.2.1
    have hbl : bs.length ≤ 65536 := hx.2.2
    have HX : Hid (I64 x) := ⟨by omega, by omega⟩
    have hx0 : (x == 0) = false := by rw [beq_eq_false_iff_ne]; omega
    have HMEM := Lib.hid hmem
    have ho := hc.own _ hmem
    have HO : Hid (Own bv w0.heap.size 5 w (slv sl) bs) := ho
    have hsn : sl.n = bs.length := by
      rcases ho.2 with ⟨he, h0⟩ | ⟨g', cap', cur, he, -⟩
      · injection he with e1 e2 e3; rw [e2]; exact h0.symm
      · injection he with e1 e2 e3
    obtain ⟨sa, sn, sk⟩ := sl
    have hsn : sn = bs.length := hsn
    subst hsn
    have HH := Lib.hid hh
    have HNM := Lib.hid hn
    have HINO := Lib.hid hino
    have HBY := Lib.hid hby
    clear hc h hin hh hlt hmem ho hx hn hino hby
    cases ht : hasN (filesOf cs) t with
    | false =>
      have HY : Hid (yRename (filesOf cs) nm t = (0, tSet ltY (filesOf cs) x (t, bs))) := by unfold Hid yRename; rw [HNM.out, HH.out, ht, HINO.out, HBY.out]; simp
      have HF2 := Lib.hid (fun W (hu : Upd [] w W) => yFind_no t (HC.out.upd0 hu) hlen1 ht)
      clear ht
      go_enter Try.func17, Try.ntmps17
      go_wp2_with fail
      (with_reducible refine HN.out.mono ?_)
      rintro e w' ⟨rfl, rfl⟩
      go_wp2_with fail
      (with_reducible refine HF.out.mono ?_)
      rintro e w1 ⟨rfl, hu1⟩
      have HU1 := Lib.hid (hu1.alloc (.cells #[sv nm, .slice sa bs.length sk] 91))
      have HB1 := Lib.hid (Blk.new w1 91 [sv nm, .slice sa bs.length sk])
      have hs1 := hu1.size
      clear hu1
      go_wp2_with fail
      (with_reducible refine (HF2.out _ HU1.out).mono ?_)
      rintro e w2 ⟨rfl, hu2⟩
      have HUb := Lib.hid ((HU1.out.seq hu2).alloc (.cells #[.string ⟨#[]⟩, .slice none 0 0] 91))
      have hb2 := HB1.out.upd hu2 (by simp)
      have hlt2 : w1.heap.size < w2.heap.size := hb2.lt
      have hbb : Blk (w2.alloc (.cells #[.string ⟨#[]⟩, .slice none 0 0] 91)) w1.heap.size 91 [sv nm, .slice sa bs.length sk] := hb2.upd ((Upd.refl [] w2).alloc _) (by simp)
      have d0 := hbb.cell 0
      have d1 := hbb.cell 1
      have f0 := hbb.frozen 0
      simp only [List.getElem?_cons_zero, List.getElem?_cons_succ] at d0 d1
      have HB4 := Lib.hid ((hb2.set_ 0 (sv t)).upd ((Upd.refl [] _).alloc (.cells #[.string ⟨#[]⟩, .slice none 0 0] 91)) (by simp))
      have HU4' := ((HU1.out.seq hu2).setCell ⟨w1.heap.size, 0, none⟩ (sv t) (.inr hs1)).alloc (.cells #[.string ⟨#[]⟩, .slice none 0 0] 91)
      have HC4 := Lib.hid (HC.out.upd0 HU4')
      have HU4 := Lib.hid (show Upd (foot gy F T cs) w _ from HU4'.mono (by simp))
      clear hu2 hb2 hbb HU4'
      go_wp2_with fail
      generalize (w2.setCell ⟨w1.heap.size, 0, none⟩ (sv t)).alloc (.cells #[.string ⟨#[]⟩, .slice none 0 0] 91) = w4 at *
      have e0 := HB4.out.cell 0
      have e1 := HB4.out.cell 1
      simp only [List.set_cons_zero, List.getElem?_cons_zero, List.getElem?_cons_succ] at e0 e1
      have y1 := HC4.out.p0
      go_still_tail 6, (by kernel_rfl)
      change wpList _ _ _ _ _ w4.drew
      have HM2 : Hid ((x, (nm, (⟨sa, bs.length, sk⟩ : Sl)), bs) ∈ cs) := HMEM.out
      have HO4 := Lib.hid (HC4.out.own _ HM2.out)
      have HAPD : Hid (∀ d ∈ cs, d.1 ≠ x → Ap (blk (slv ⟨sa, bs.length, sk⟩)) (blk (slv d.2.1.2))) := fun d hd hne => HC4.out.ap _ HM2.out d hd (fun e => hne e.symm)
      have hl4 : (cs).length ≤ cs.length := Nat.le_refl _
      go_wp2_with fail
      (with_reducible refine ((HC4.out.upd0 (Upd.refl [] _).drew).set (by omega) x HX.out t ⟨sa, bs.length, sk⟩ bs (HO4.out.upd (Upd.refl [] _).drew (by simp)) HAPD.out).mono ?_)
      rintro e w5 ⟨⟨r5, rfl⟩, F', hc5, hu5, hf5⟩
      have HC5 := Lib.hid hc5
      have HU5 := Lib.hid hu5
      have HF5 := Lib.hid hf5
      clear hc5 hu5 hf5
      go_wp2_with fail
      go_ret
      refine ⟨by rw [HY.out]; rfl, ?_⟩
      rw [HY.out]
      have hsz := HU4.out.size
      have hfr : ∀ y ∈ F, y ∈ foot gy F T cs ∨ w.heap.size ≤ y := (fun y hy => .inl (foot_F hy))
      refine YOut.of HC5.out ?_ ?_ ?_ (HU4.out.drew.trans HU5.out (fun y hy => hy) (fun y hy => hfr y hy)) (fun y hy => (HF5.out y hy).elim (fun q => hfr y q) (fun q => .inr (by simp at q; omega))) (fun y hy => .inl (foot_T hy)) ?_
      · exact (mapY_set fileF cs x ((t, ⟨sa, bs.length, sk⟩), bs)).symm
      · have hin5 := isIn_mem HC4.out.ris _ HM2.out
        rw [tSet_in (cs) x _ hin5, List.length_set]; omega
      · intro c hcm
        rcases tSet_mem (cs) _ _ c hcm with rfl | q
        · exact ⟨hx1, hx2, hbl⟩
        · exact HIN.out c ((fun c hc => hc) c q)
      · intro c hcm y hy
        rcases tSet_mem (cs) _ _ c hcm with rfl | q
        · exact .inl (foot_c HMEM.out hy)
        · exact .inl (foot_c ((fun c hc => hc) c q) hy)
    | true =>
      have HF2 := Lib.hid (fun W (hu : Upd [] w W) => yFind_yes t _ (HC.out.upd0 hu) hlen1 ht rfl)
      have hlt2 : findN (filesOf cs) t < cs.length := by unfold hasN at ht; have := of_decide_eq_true ht; rwa [files_len] at this
      have hmem2 : nth cs (findN (filesOf cs) t) ∈ cs := nth_mem _ hlt2
      have hino2 : inoN (filesOf cs) t = (nth cs (findN (filesOf cs) t)).1 := by unfold inoN; rw [nth_files cs _ hlt2]
      generalize nth cs (findN (filesOf cs) t) = c2 at *
      obtain ⟨x2, ⟨nm2, sl2⟩, bs2⟩ := c2
      have hino2 : inoN (filesOf cs) t = x2 := hino2
      have hxx := HIN.out _ hmem2
      have hxx1 : (1 : Int) ≤ x2 := hxx.1
      have hxx2 : x2 ≤ 12 := hxx.2.1
      have HX2 : Hid (I64 x2) := ⟨by omega, by omega⟩
      have hx20 : (x2 != 0) = true := by rw [bne_iff_ne]; omega
      by_cases hsame : x2 = x
      · have hsame' := hsame.symm
        subst hsame'
        have HY : Hid (yRename (filesOf cs) nm t = (0, tSet ltY (filesOf cs) x (t, bs))) := by unfold Hid yRename; rw [HNM.out, HH.out, ht, HINO.out, HBY.out, hino2]; simp
        clear ht hlt2 hmem2 hino2 hxx
        go_enter Try.func17, Try.ntmps17
        go_wp2_with fail
        (with_reducible refine HN.out.mono ?_)
        rintro e w' ⟨rfl, rfl⟩
        go_wp2_with fail
        (with_reducible refine HF.out.mono ?_)
        rintro e w1 ⟨rfl, hu1⟩
        have HU1 := Lib.hid (hu1.alloc (.cells #[sv nm, .slice sa bs.length sk] 91))
        have HB1 := Lib.hid (Blk.new w1 91 [sv nm, .slice sa bs.length sk])
        have hs1 := hu1.size
        clear hu1
        go_wp2_with fail
        (with_reducible refine (HF2.out _ HU1.out).mono ?_)
        rintro e w2 ⟨rfl, hu2⟩
        have HUb := Lib.hid ((HU1.out.seq hu2).alloc (.cells #[sv nm2, slv sl2] 91))
        have hb2 := HB1.out.upd hu2 (by simp)
        have hlt2 : w1.heap.size < w2.heap.size := hb2.lt
        have hbb : Blk (w2.alloc (.cells #[sv nm2, slv sl2] 91)) w1.heap.size 91 [sv nm, .slice sa bs.length sk] := hb2.upd ((Upd.refl [] w2).alloc _) (by simp)
        have d0 := hbb.cell 0
        have d1 := hbb.cell 1
        have f0 := hbb.frozen 0
        simp only [List.getElem?_cons_zero, List.getElem?_cons_succ] at d0 d1
        have HB4 := Lib.hid ((hb2.set_ 0 (sv t)).upd ((Upd.refl [] _).alloc (.cells #[sv nm2, slv sl2] 91)) (by simp))
        have HU4' := ((HU1.out.seq hu2).setCell ⟨w1.heap.size, 0, none⟩ (sv t) (.inr hs1)).alloc (.cells #[sv nm2, slv sl2] 91)
        have HC4 := Lib.hid (HC.out.upd0 HU4')
        have HU4 := Lib.hid (show Upd (foot gy F T cs) w _ from HU4'.mono (by simp))
        clear hu2 hb2 hbb HU4'
        go_wp2_with fail
        generalize (w2.setCell ⟨w1.heap.size, 0, none⟩ (sv t)).alloc (.cells #[sv nm2, slv sl2] 91) = w4 at *
        have e0 := HB4.out.cell 0
        have e1 := HB4.out.cell 1
        simp only [List.set_cons_zero, List.getElem?_cons_zero, List.getElem?_cons_succ] at e0 e1
        have y1 := HC4.out.p0
        go_still_tail 6, (by kernel_rfl)
        change wpList _ _ _ _ _ w4.drew
        have HM2 : Hid ((x, (nm, (⟨sa, bs.length, sk⟩ : Sl)), bs) ∈ cs) := HMEM.out
        have HO4 := Lib.hid (HC4.out.own _ HM2.out)
        have HAPD : Hid (∀ d ∈ cs, d.1 ≠ x → Ap (blk (slv ⟨sa, bs.length, sk⟩)) (blk (slv d.2.1.2))) := fun d hd hne => HC4.out.ap _ HM2.out d hd (fun e => hne e.symm)
        have hl4 : (cs).length ≤ cs.length := Nat.le_refl _
        go_wp2_with fail
        (with_reducible refine ((HC4.out.upd0 (Upd.refl [] _).drew).set (by omega) x HX.out t ⟨sa, bs.length, sk⟩ bs (HO4.out.upd (Upd.refl [] _).drew (by simp)) HAPD.out).mono ?_)
        rintro e w5 ⟨⟨r5, rfl⟩, F', hc5, hu5, hf5⟩
        have HC5 := Lib.hid hc5
        have HU5 := Lib.hid hu5
        have HF5 := Lib.hid hf5
        clear hc5 hu5 hf5
        go_wp2_with fail
        go_ret
        refine ⟨by rw [HY.out]; rfl, ?_⟩
        rw [HY.out]
        have hsz := HU4.out.size
        have hfr : ∀ y ∈ F, y ∈ foot gy F T cs ∨ w.heap.size ≤ y := (fun y hy => .inl (foot_F hy))
        refine YOut.of HC5.out ?_ ?_ ?_ (HU4.out.drew.trans HU5.out (fun y hy => hy) (fun y hy => hfr y hy)) (fun y hy => (HF5.out y hy).elim (fun q => hfr y q) (fun q => .inr (by simp at q; omega))) (fun y hy => .inl (foot_T hy)) ?_
        · exact (mapY_set fileF cs x ((t, ⟨sa, bs.length, sk⟩), bs)).symm
        · have hin5 := isIn_mem HC4.out.ris _ HM2.out
          rw [tSet_in (cs) x _ hin5, List.length_set]; omega
        · intro c hcm
          rcases tSet_mem (cs) _ _ c hcm with rfl | q
          · exact ⟨hx1, hx2, hbl⟩
          · exact HIN.out c ((fun c hc => hc) c q)
        · intro c hcm y hy
          rcases tSet_mem (cs) _ _ c hcm with rfl | q
          · exact .inl (foot_c HMEM.out hy)
          · exact .inl (foot_c ((fun c hc => hc) c q) hy)
      · have HY : Hid (yRename (filesOf cs) nm t = (0, tSet ltY (tDel ltY (filesOf cs) x2) x (t, bs))) := by unfold Hid yRename; rw [HNM.out, HH.out, ht, HINO.out, HBY.out, hino2]; simp [hsame]
        have hne : (x2 != x) = true := by rw [bne_iff_ne]; exact hsame
        clear ht hlt2 hmem2 hino2 hxx
        go_enter Try.func17, Try.ntmps17
        go_wp2_with fail
        (with_reducible refine HN.out.mono ?_)
        rintro e w' ⟨rfl, rfl⟩
        go_wp2_with fail
        (with_reducible refine HF.out.mono ?_)
        rintro e w1 ⟨rfl, hu1⟩
        have HU1 := Lib.hid (hu1.alloc (.cells #[sv nm, .slice sa bs.length sk] 91))
        have HB1 := Lib.hid (Blk.new w1 91 [sv nm, .slice sa bs.length sk])
        have hs1 := hu1.size
        clear hu1
        go_wp2_with fail
        (with_reducible refine (HF2.out _ HU1.out).mono ?_)
        rintro e w2 ⟨rfl, hu2⟩
        have HUb := Lib.hid ((HU1.out.seq hu2).alloc (.cells #[sv nm2, slv sl2] 91))
        have hb2 := HB1.out.upd hu2 (by simp)
        have hlt2 : w1.heap.size < w2.heap.size := hb2.lt
        have hbb : Blk (w2.alloc (.cells #[sv nm2, slv sl2] 91)) w1.heap.size 91 [sv nm, .slice sa bs.length sk] := hb2.upd ((Upd.refl [] w2).alloc _) (by simp)
        have HBb := Lib.hid hbb
        have y0 := (HC.out.upd0 HUb.out).p0
        clear hu2 hb2 hbb
        go_wp2_with fail
        (with_reducible refine ((HC.out.upd0 HUb.out).del hlen1 x2 HX2.out).mono ?_)
        rintro e w3 ⟨⟨r, rfl⟩, F3, hc3, hu3, hf3⟩
        have hgF : w1.heap.size ∉ F := fun h => by have := (HC.out.files.ge _ h).2; omega
        have hb3 := HBb.out.upd hu3 hgF
        have HC3 := Lib.hid hc3
        have HU3 := Lib.hid (show Upd (foot gy F T cs) w w3 from HUb.out.trans hu3 (by simp) (fun y hy => .inl (foot_F hy)))
        have HF3 := Lib.hid (show ∀ y ∈ F3, y ∈ foot gy F T cs ∨ w.heap.size ≤ y from fun y hy => (hf3 y hy).imp foot_F (fun q => by have := HUb.out.size; omega))
        have d0 := hb3.cell 0
        have d1 := hb3.cell 1
        have f0 := hb3.frozen 0
        simp only [List.getElem?_cons_zero, List.getElem?_cons_succ] at d0 d1
        have HB4 := Lib.hid (hb3.set_ 0 (sv t))
        have hg1 : w1.heap.size ∉ foot gy F3 T (tDel ltY cs x2) := fun h => by
          rcases (foot_mem _ _ _ _ _).1 h with e | h | h | ⟨c, hcm, h⟩
          · have := HC.out.yard.lt; omega
          · rcases hf3 _ h with q | q
            · exact hgF q
            · simp at q; omega
          · have := (HC.out.taken.ge _ h).2; omega
          · have := ((HC.out.own c (tDel_mem cs x2 c hcm)).ge _ h).2; omega
        have HC4 := Lib.hid (HC3.out.upd ((Upd.refl [w1.heap.size] w3).setCell ⟨w1.heap.size, 0, none⟩ (sv t) (.inl (by simp))) (fun y hy h => hg1 (by simp at h; rw [← h]; exact hy)) (fun y hy => by simp at hy; have := HC.out.old.size; omega))
        have HU4 := Lib.hid (HU3.out.setCell ⟨w1.heap.size, 0, none⟩ (sv t) (.inr hs1))
        have hs34 : w3.heap.size = (w3.setCell ⟨w1.heap.size, 0, none⟩ (sv t)).heap.size := by simp
        clear hc3 hu3 hf3 hb3 hgF hg1 HU3 HC3 HBb y0
        go_wp2_with fail
        generalize w3.setCell ⟨w1.heap.size, 0, none⟩ (sv t) = w4 at *
        have e0 := HB4.out.cell 0
        have e1 := HB4.out.cell 1
        simp only [List.set_cons_zero, List.getElem?_cons_zero, List.getElem?_cons_succ] at e0 e1
        have y1 := HC4.out.p0
        go_still_tail 6, (by kernel_rfl)
        change wpList _ _ _ _ _ w4.drew
        have HM2 : Hid ((x, (nm, (⟨sa, bs.length, sk⟩ : Sl)), bs) ∈ (tDel ltY cs x2)) := mem_del HC.out.ris HMEM.out (by simpa using hne)
        have HO4 := Lib.hid (HC4.out.own _ HM2.out)
        have HAPD : Hid (∀ d ∈ (tDel ltY cs x2), d.1 ≠ x → Ap (blk (slv ⟨sa, bs.length, sk⟩)) (blk (slv d.2.1.2))) := fun d hd hne => HC4.out.ap _ HM2.out d hd (fun e => hne e.symm)
        have hl4 : ((tDel ltY cs x2)).length ≤ cs.length := tDel_len cs x2
        go_wp2_with fail
        (with_reducible refine ((HC4.out.upd0 (Upd.refl [] _).drew).set (by omega) x HX.out t ⟨sa, bs.length, sk⟩ bs (HO4.out.upd (Upd.refl [] _).drew (by simp)) HAPD.out).mono ?_)
        rintro e w5 ⟨⟨r5, rfl⟩, F', hc5, hu5, hf5⟩
        have HC5 := Lib.hid hc5
        have HU5 := Lib.hid hu5
        have HF5 := Lib.hid hf5
        clear hc5 hu5 hf5
        go_wp2_with fail
        go_ret
        refine ⟨by rw [HY.out]; rfl, ?_⟩
        rw [HY.out]
        have hsz := HU4.out.size
        have hfr : ∀ y ∈ F3, y ∈ foot gy F T cs ∨ w.heap.size ≤ y := HF3.out
        refine YOut.of HC5.out ?_ ?_ ?_ (HU4.out.drew.trans HU5.out (fun y hy => hy) (fun y hy => hfr y hy)) (fun y hy => (HF5.out y hy).elim (fun q => hfr y q) (fun q => .inr (by simp at q; omega))) (fun y hy => .inl (foot_T hy)) ?_
        · exact (mapY_set fileF (tDel ltY cs x2) x ((t, ⟨sa, bs.length, sk⟩), bs)).symm.trans (by rw [← mapY_del])
        · have hin5 := isIn_mem HC4.out.ris _ HM2.out
          rw [tSet_in ((tDel ltY cs x2)) x _ hin5, List.length_set]; omega
        · intro c hcm
          rcases tSet_mem ((tDel ltY cs x2)) _ _ c hcm with rfl | q
          · exact ⟨hx1, hx2, hbl⟩
          · exact HIN.out c ((fun c hc => tDel_mem cs x2 c hc) c q)
        · intro c hcm y hy
          rcases tSet_mem ((tDel ltY cs x2)) _ _ c hcm with rfl | q
          · exact .inl (foot_c HMEM.out hy)
          · exact .inl (foot_c ((fun c hc => tDel_mem cs x2 c hc) c q) hy)
end
end Go.Proofs.Ytmhdhnipljonlaa
