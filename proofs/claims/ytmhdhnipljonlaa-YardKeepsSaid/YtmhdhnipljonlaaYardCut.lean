/- Chapter 21: Rename, Cut, Remove. -/
import Derived.Test.YtmhdhnipljonlaaYardAppend
import Derived.Test.YtmhdhnipljonlaaSliceCut
namespace Go.Proofs.Ytmhdhnipljonlaa
open Go.RowKit
set_option linter.unusedSimpArgs false
set_option linter.unusedVariables false
theorem isIn_mem {ν : Type} [Inhabited ν] {l : List (Int × ν)} (h : Rising ltY l) (p : Int × ν) (hp : p ∈ l) : isIn ltY l p.1 = true := by
  obtain ⟨i, hi, he⟩ := List.mem_iff_getElem.1 hp
  have := isIn_at intOrd h i hi
  rwa [nth_get l i hi, he] at this
theorem Own.cut {α : Type} {c : α → Value} {base : Nat} {e : TypeId} {w : World} {a : Option Addr} {n cap : Nat} {l : List α} (h : Own c base e w (.slice a n cap) l) (k : Nat) (hk : k ≤ l.length) : Own c base e w (.slice a k cap) (l.take k) := by
  obtain ⟨h1, h2⟩ := h
  refine ⟨by simp, ?_⟩
  have hl : (l.take k).length = k := by rw [List.length_take]; omega
  rcases h2 with ⟨he, hn⟩ | ⟨g, cap', cur, he, hb, hg, hc, hm, hs, ht⟩
  · injection he with e1 e2 e3
    subst e1; subst e3
    have : k = 0 := by omega
    subst this
    exact .inl ⟨rfl, hl⟩
  · injection he with e1 e2 e3
    subst e1; subst e3
    refine .inr ⟨g, _, cur, by rw [hl], hb, hg, by omega, hm, hs, ?_⟩
    rw [hl, List.map_take, ← ht, List.take_take]
    congr 1; omega
section
variable {w0 w : World} {gy : Nat} {G : List Nat} {fl : FL} {tk : List (Int × Int)}
set_option maxRecDepth 20000 in
set_option maxHeartbeats 1000000 in
theorem yRemove_any (s : ByteArray) (h : YD w0 w gy G fl tk) :
    Calls Try.prog 46 #[.pointer (some ⟨gy, 0, none⟩), sv s] w (YDoes w0 w gy G tk (yRemove fl s)) := by
  obtain ⟨gf, gt, F, T, cs, hc, rfl, hlen, hin, rfl⟩ := h.ex
  have HC := Lib.hid hc
  have hlen1 : cs.length ≤ 1000 := by omega
  have HIN := Lib.hid hin
  have HD := Lib.hid h
  cases hh : hasN (filesOf cs) s with
  | false =>
    have HY : Hid (yRemove (filesOf cs) s = (7, filesOf cs)) := by unfold Hid yRemove; rw [hh]; rfl
    have HF := Lib.hid (yFind_no s HC.out hlen1 hh)
    clear hc h hin hh
    go_enter Try.func46, Try.ntmps46
    go_wp2_with fail
    (with_reducible refine HF.out.mono ?_)
    rintro e w1 ⟨rfl, hu1⟩
    have HU1 := Lib.hid (hu1.alloc (.cells #[.string ⟨#[]⟩, .slice none 0 0] 91))
    clear hu1
    go_wp2_with fail
    go_ret
    exact ⟨by rw [HY.out]; rfl, by rw [HY.out]; exact HD.out.out0 HU1.out⟩
  | true =>
    have HF := Lib.hid (yFind_yes s _ HC.out hlen1 hh rfl)
    have hlt : findN (filesOf cs) s < cs.length := by unfold hasN at hh; have := of_decide_eq_true hh; rwa [files_len] at this
    have hat := findN_at (filesOf cs) s (by rw [files_len]; exact hlt)
    rw [nth_files cs _ hlt] at hat
    have hmem : nth cs (findN (filesOf cs) s) ∈ cs := nth_mem _ hlt
    have hino : inoN (filesOf cs) s = (nth cs (findN (filesOf cs) s)).1 := by unfold inoN; rw [nth_files cs _ hlt]
    have hby : bytesN (filesOf cs) s = (nth cs (findN (filesOf cs) s)).2.2 := by unfold bytesN; rw [nth_files cs _ hlt]
    generalize nth cs (findN (filesOf cs) s) = c0 at *
    obtain ⟨x, ⟨nm, sl⟩, bs⟩ := c0
    have hat : nm = s := hat
    subst hat
    have hino : inoN (filesOf cs) nm = x := hino
    have hby : bytesN (filesOf cs) nm = bs := hby
    have hx := hin _ hmem
    have hx1 : (1 : Int) ≤ x := hx.1
    have hx2 : x ≤ 12 := hx.2.1
    have hbl : bs.length ≤ 65536 := hx.2.2
    have HX : Hid (I64 x) := ⟨by omega, by omega⟩
    have hx0 : (x == 0) = false := by rw [beq_eq_false_iff_ne]; omega
    have HMEM := Lib.hid hmem
    have ho := hc.own _ hmem
    have HO : Hid (Own bv w0.heap.size 5 w (slv sl) bs) := ho
    have hsn : sl.n = bs.length := by
      rcases ho.2 with ⟨he, h0⟩ | ⟨g', cap', cur, he, -⟩
      · injection he with e1 e2 e3; rw [e2]; exact h0.symm
      · injection he with e1 e2 e3
    obtain ⟨sa, sn, sk⟩ := sl
    have hsn : sn = bs.length := hsn
    subst hsn
    have HY : Hid (yRemove (filesOf cs) nm = (0, tDel ltY (filesOf cs) x)) := by unfold Hid yRemove; rw [hh, hino]; simp
    clear hc h hin hh hlt hmem ho hx
    go_enter Try.func46, Try.ntmps46
    go_wp2_with fail
    (with_reducible refine HF.out.mono ?_)
    rintro e w1 ⟨rfl, hu1⟩
    have HU1 := Lib.hid (hu1.alloc (.cells #[sv nm, .slice sa bs.length sk] 91))
    have y0 := (HC.out.upd0 HU1.out).p0
    clear hu1
    go_wp2_with fail
    (with_reducible refine ((HC.out.upd0 HU1.out).del hlen1 x HX.out).mono ?_)
    rintro e w4 ⟨⟨r, rfl⟩, F', hc4, hu4, hf4⟩
    have HC4 := Lib.hid hc4
    have HU4 := Lib.hid hu4
    have HF4 := Lib.hid hf4
    clear hc4 hu4 hf4
    go_wp2_with fail
    go_ret
    refine ⟨by rw [HY.out]; rfl, ?_⟩
    rw [HY.out]
    have hsz := HU1.out.size
    refine YOut.of HC4.out (mapY_del (fun v : (ByteArray × Sl) × List UInt8 => (v.1.1, v.2)) cs x).symm ?_ ?_ (HU1.out.trans HU4.out (by simp) (fun y hy => .inl (foot_F hy))) (fun y hy => (HF4.out y hy).imp foot_F (fun q => by omega)) (fun y hy => .inl (foot_T hy)) ?_
    · have := tDel_len (lt := ltY) cs x; omega
    · intro c hcm; exact HIN.out c (tDel_mem cs x c hcm)
    · intro c hcm y hy; exact .inl (foot_c (tDel_mem cs x c hcm) hy)
set_option maxRecDepth 20000 in
set_option maxHeartbeats 1000000 in
theorem yCut_any (s : ByteArray) (n : Int) (hn : I64 n) (h : YD w0 w gy G fl tk) :
    Calls Try.prog 23 #[.pointer (some ⟨gy, 0, none⟩), sv s, .int .i64 n] w (YDoes w0 w gy G tk (yCut fl s n)) := by
  obtain ⟨gf, gt, F, T, cs, hc, rfl, hlen, hin, rfl⟩ := h.ex
  have HC := Lib.hid hc
  have hlen1 : cs.length ≤ 1000 := by omega
  have HIN := Lib.hid hin
  have HD := Lib.hid h
  cases hh : hasN (filesOf cs) s with
  | false =>
    have HY : Hid (yCut (filesOf cs) s n = (7, filesOf cs)) := by unfold Hid yCut; rw [hh]; rfl
    have HF := Lib.hid (yFind_no s HC.out hlen1 hh)
    clear hc h hin hh
    go_enter Try.func23, Try.ntmps23
    go_wp2_with fail
    (with_reducible refine HF.out.mono ?_)
    rintro e w1 ⟨rfl, hu1⟩
    have HU1 := Lib.hid (hu1.alloc (.cells #[.string ⟨#[]⟩, .slice none 0 0] 91))
    clear hu1
    go_wp2_with fail
    go_ret
    exact ⟨by rw [HY.out]; rfl, by rw [HY.out]; exact HD.out.out0 HU1.out⟩
  | true =>
    have HF := Lib.hid (yFind_yes s _ HC.out hlen1 hh rfl)
    have hlt : findN (filesOf cs) s < cs.length := by unfold hasN at hh; have := of_decide_eq_true hh; rwa [files_len] at this
    have hat := findN_at (filesOf cs) s (by rw [files_len]; exact hlt)
    rw [nth_files cs _ hlt] at hat
    have hmem : nth cs (findN (filesOf cs) s) ∈ cs := nth_mem _ hlt
    have hino : inoN (filesOf cs) s = (nth cs (findN (filesOf cs) s)).1 := by unfold inoN; rw [nth_files cs _ hlt]
    have hby : bytesN (filesOf cs) s = (nth cs (findN (filesOf cs) s)).2.2 := by unfold bytesN; rw [nth_files cs _ hlt]
    generalize nth cs (findN (filesOf cs) s) = c0 at *
    obtain ⟨x, ⟨nm, sl⟩, bs⟩ := c0
    have hat : nm = s := hat
    subst hat
    have hino : inoN (filesOf cs) nm = x := hino
    have hby : bytesN (filesOf cs) nm = bs := hby
    have hx := hin _ hmem
    have hx1 : (1 : Int) ≤ x := hx.1
    have hx2 : x ≤ 12 := hx.2.1
    have hbl : bs.length ≤ 65536 := hx.2.2
    have HX : Hid (I64 x) := ⟨by omega, by omega⟩
    have hx0 : (x == 0) = false := by rw [beq_eq_false_iff_ne]; omega
    have HMEM := Lib.hid hmem
    have ho := hc.own _ hmem
    have HO : Hid (Own bv w0.heap.size 5 w (slv sl) bs) := ho
    have hsn : sl.n = bs.length := by
      rcases ho.2 with ⟨he, h0⟩ | ⟨g', cap', cur, he, -⟩
      · injection he with e1 e2 e3; rw [e2]; exact h0.symm
      · injection he with e1 e2 e3
    obtain ⟨sa, sn, sk⟩ := sl
    have hsn : sn = bs.length := hsn
    subst hsn
    by_cases hbad : n < 0 ∨ (bs.length : Int) < n
    · have HY : Hid (yCut (filesOf cs) nm n = (1, filesOf cs)) := by unfold Hid yCut; rw [hh, hby, if_pos rfl, if_pos hbad]
      have hd : n < 0 ∨ (¬ n < 0 ∧ (bs.length : Int) < n) := by omega
      clear hc h hin hh hlt hmem ho hx hbad
      rcases hd with hd | ⟨hd, hd2⟩
      all_goals
        go_enter Try.func23, Try.ntmps23
        go_wp2_with fail
        (with_reducible refine HF.out.mono ?_)
        rintro e w1 ⟨rfl, hu1⟩
        have HU1 := Lib.hid (hu1.alloc (.cells #[sv nm, .slice sa bs.length sk] 91))
        clear hu1
        go_wp2_with fail
        go_ret
        exact ⟨by rw [HY.out]; rfl, by rw [HY.out]; exact HD.out.out0 HU1.out⟩
    · obtain ⟨k, rfl⟩ := Int.eq_ofNat_of_zero_le (show 0 ≤ n by omega)
      have HY : Hid (yCut (filesOf cs) nm (k : Int) = (0, tSet ltY (filesOf cs) x (nm, bs.take k))) := by unfold Hid yCut; rw [hh, hby, hino, if_pos rfl, if_neg hbad]; rfl
      have hkl : k ≤ bs.length := by omega
      have q1 : ¬ (k : Int) < 0 := by omega
      have q2 : ¬ (bs.length : Int) < k := by omega
      have hsk : bs.length ≤ sk := by
        obtain ⟨a', c', he, h1, -⟩ := HO.out.rd
        injection he with e1 e2 e3
        have e3 : sk = c' := e3
        omega
      have hkk : k ≤ sk := by omega
      have HOC : Hid (Own bv w0.heap.size 5 w (slv ⟨sa, k, sk⟩) (bs.take k)) := HO.out.cut k hkl
      have hcut := fun W => run_cut_h (P := Try.prog) (size := 1) Try.underlying27 (by kernel_rfl) sa bs.length sk k hkk W
      clear hc h hin hh hlt hmem ho hx hbad
      go_enter Try.func23, Try.ntmps23
      go_wp2_with fail
      (with_reducible refine HF.out.mono ?_)
      rintro e w1 ⟨rfl, hu1⟩
      have hu3 := hu1.alloc (.cells #[sv nm, .slice sa k sk] 91)
      have hb3 := Blk.new w1 91 [sv nm, .slice sa k sk]
      change Blk (w1.alloc (.cells #[sv nm, .slice sa k sk] 91)) _ _ _ at hb3
      clear hu1
      go_wp2_with fail
      generalize w1.alloc (.cells #[sv nm, .slice sa k sk] 91) = w3 at *
      have e0 := hb3.cell 0
      have e1 := hb3.cell 1
      simp only [List.getElem?_cons_zero, List.getElem?_cons_succ] at e0 e1
      have y0 := (HC.out.upd0 hu3).p0
      have HU3 := Lib.hid hu3
      clear hu3 hb3
      go_still_tail 6, (by kernel_rfl)
      change wpList _ _ _ _ _ w3.drew
      have HAPD : Hid (∀ d ∈ cs, d.1 ≠ x → Ap (blk (slv ⟨sa, k, sk⟩)) (blk (slv d.2.1.2))) := fun d hd hne => by
        have := HC.out.ap _ HMEM.out d hd (fun e => hne e.symm)
        rwa [show blk (slv (x, (nm, (⟨sa, bs.length, sk⟩ : Sl)), bs).2.1.2) = blk (slv ⟨sa, k, sk⟩) from blk_slice _ _ _ _ _] at this
      go_wp2_with fail
      (with_reducible refine ((HC.out.upd0 HU3.out.drew).set hlen1 x HX.out nm ⟨sa, k, sk⟩ (bs.take k) (HOC.out.upd HU3.out.drew (by simp)) HAPD.out).mono ?_)
      rintro e w4 ⟨⟨r, rfl⟩, F', hc4, hu4, hf4⟩
      have HC4 := Lib.hid hc4
      have HU4 := Lib.hid hu4
      have HF4 := Lib.hid hf4
      clear hc4 hu4 hf4
      go_wp2_with fail
      go_ret
      refine ⟨by rw [HY.out]; rfl, ?_⟩
      rw [HY.out]
      have hsz := HU3.out.size
      refine YOut.of HC4.out (mapY_set (fun v : (ByteArray × Sl) × List UInt8 => (v.1.1, v.2)) cs x ((nm, ⟨sa, k, sk⟩), bs.take k)).symm ?_ ?_ (HU3.out.drew.trans HU4.out (by simp) (fun y hy => .inl (foot_F hy))) (fun y hy => (HF4.out y hy).imp foot_F (fun q => by simp at q; omega)) (fun y hy => .inl (foot_T hy)) ?_
      · rw [tSet_in cs x _ (isIn_mem HC.out.ris _ HMEM.out), List.length_set]; exact hlen
      · intro c hcm
        rcases tSet_mem cs _ _ c hcm with rfl | q
        · exact ⟨hx1, hx2, by simp; omega⟩
        · exact HIN.out c q
      · intro c hcm y hy
        rcases tSet_mem cs _ _ c hcm with rfl | q
        · exact .inl (foot_c HMEM.out (by rw [show blk (slv (x, (nm, (⟨sa, k, sk⟩ : Sl)), bs.take k).2.1.2) = blk (slv ⟨sa, bs.length, sk⟩) from blk_slice _ _ _ _ _] at hy; exact hy))
        · exact .inl (foot_c q hy)
end
end Go.Proofs.Ytmhdhnipljonlaa
