/- Chapter 21: Append. -/
import Derived.Test.YtmhdhnipljonlaaYardCreate
namespace Go.Proofs.Ytmhdhnipljonlaa
open Go.RowKit
set_option linter.unusedSimpArgs false
set_option linter.unusedVariables false
section
variable {w0 w w2 : World} {gy gf gt : Nat} {F T : List Nat} {cs : CL} {tk : List (Int × Int)}
/-- Set on the table of files, the bytes of the key's own slice written ahead of it. -/
theorem YC.setG (h : YC w0 w gy gf gt F T cs tk) (hlen : cs.length ≤ 1000) (c0 : Int × (ByteArray × Sl) × List UInt8) (hc0 : c0 ∈ cs) (hu : Upd (blk (slv c0.2.1.2)) w w2) (k : Int) (hk : I64 k) (hck : c0.1 = k) (nm : ByteArray) (sl : Sl) (p : List UInt8) (ho : Own bv w0.heap.size 5 w2 (slv sl) p) (hap : ∀ x ∈ blk (slv sl), x ∈ blk (slv c0.2.1.2) ∨ w.heap.size ≤ x) :
    Calls Try.prog 53 #[.pointer (some ⟨gf, 0, none⟩), iv k, fv (nm, sl)] w2 fun e w' => (∃ r, e = .returned (.bool r)) ∧ (∃ F', YC w0 w' gy gf gt F' T (tSet ltY cs k ((nm, sl), p)) tk ∧ Upd F w2 w' ∧ (∀ x ∈ F', x ∈ F ∨ w2.heap.size ≤ x)) := by
  have hS : ∀ x ∈ blk (slv c0.2.1.2), w0.heap.size ≤ x := fun x hx => ((h.own c0 hc0).ge x hx).1
  have hf2 := h.files.upd hu (if_own h.files (h.own c0 hc0)) hS
  have ht2 := h.taken.upd hu (ij_own h.taken (h.own c0 hc0)) hS
  have hy2 := h.yard.upd hu (gy_own h.yard (h.own c0 hc0))
  have ho2 : ∀ d ∈ cs, d.1 ≠ k → Own bv w0.heap.size 5 w2 (slv d.2.1.2) d.2.2 := fun d hd hne => (h.own d hd).upd hu (h.ap d hd c0 hc0 (by rw [hck]; exact hne))
  have hap2 : ∀ d ∈ cs, d.1 ≠ k → Ap (blk (slv sl)) (blk (slv d.2.1.2)) := fun d hd hne x hx hxd => by
    rcases hap x hx with q | q
    · exact h.ap c0 hc0 d hd (by rw [hck]; exact hne.symm) x q hxd
    · have := ((h.own d hd).ge x hxd).2; omega
  refine (txIF_Set k (nm, sl) _ _ hf2 (by rw [rows_len]; omega) hk rfl rfl).mono ?_
  rintro e w' ⟨rfl, F', hf, hu', hfr⟩
  have hrow : tSet ltIF (rowsOf cs) k (nm, sl) = rowsOf (tSet ltY cs k ((nm, sl), p)) := mapY_set (·.1) cs k ((nm, sl), p)
  rw [hrow] at hf
  have hgF : gy ∉ F := h.gy_F
  refine ⟨⟨_, rfl⟩, F', ⟨hy2.upd hu' hgF, h.gyb, hf, ht2.upd hu' (if_ij hf2 ht2).symm (fun x hx => (hf2.ge x hx).1), ?_, ?_⟩, hu', hfr⟩
  · intro c hc
    rcases tSet_memk h.ris k _ c hc with rfl | ⟨q, qk⟩
    · exact ho.upd hu' (if_own hf2 ho).symm
    · exact (ho2 c q qk).upd hu' (if_own hf2 (ho2 c q qk)).symm
  · intro c hc d hd hne
    rcases tSet_memk h.ris k _ c hc with rfl | ⟨q, qk⟩ <;> rcases tSet_memk h.ris k _ d hd with rfl | ⟨r, rk⟩
    · exact absurd rfl hne
    · exact hap2 d r rk
    · exact (hap2 c q qk).symm
    · exact h.ap c q d r hne
end
section
variable {w0 w : World} {gy : Nat} {G : List Nat} {fl : FL} {tk : List (Int × Int)}
set_option maxRecDepth 20000 in
set_option maxHeartbeats 1000000 in
theorem yAppend_any (s : ByteArray) (vp : Value) (p : List UInt8) (hp : Bytes w vp p) (hpl : p.length ≤ 70368744177664) (h : YD w0 w gy G fl tk) :
    Calls Try.prog 16 #[.pointer (some ⟨gy, 0, none⟩), sv s, vp] w (YDoes w0 w gy G tk (yAppend fl s p)) := by
  obtain ⟨gf, gt, F, T, cs, hc, rfl, hlen, hin, rfl⟩ := h.ex
  have HC := Lib.hid hc
  have hlen1 : cs.length ≤ 1000 := by omega
  have HIN := Lib.hid hin
  have HD := Lib.hid h
  have HP := Lib.hid hp
  obtain ⟨ap, cp, rfl, -, -, -⟩ := hp
  cases hh : hasN (filesOf cs) s with
  | false =>
    have HY : Hid (yAppend (filesOf cs) s p = (7, filesOf cs)) := by unfold Hid yAppend; rw [hh]; rfl
    have HF := Lib.hid (yFind_no s HC.out hlen1 hh)
    clear hc h hin hh
    go_enter Try.func16, Try.ntmps16
    go_wp2_with fail
    (with_reducible refine HF.out.mono ?_)
    rintro e w1 ⟨rfl, hu1⟩
    have HU1 := Lib.hid (hu1.alloc (.cells #[.string ⟨#[]⟩, .slice none 0 0] 91))
    clear hu1
    go_wp2_with fail
    go_ret
    exact ⟨by rw [HY.out]; rfl, by rw [HY.out]; exact HD.out.out0 HU1.out⟩
  | true =>
    have HF := Lib.hid (yFind_yes s _ HC.out hlen1 hh rfl)
    have hlt : findN (filesOf cs) s < cs.length := by unfold hasN at hh; have := of_decide_eq_true hh; rwa [files_len] at this
    have hat := findN_at (filesOf cs) s (by rw [files_len]; exact hlt)
    rw [nth_files cs _ hlt] at hat
    have hmem : nth cs (findN (filesOf cs) s) ∈ cs := nth_mem _ hlt
    have hino : inoN (filesOf cs) s = (nth cs (findN (filesOf cs) s)).1 := by unfold inoN; rw [nth_files cs _ hlt]
    have hby : bytesN (filesOf cs) s = (nth cs (findN (filesOf cs) s)).2.2 := by unfold bytesN; rw [nth_files cs _ hlt]
    generalize nth cs (findN (filesOf cs) s) = c0 at *
    obtain ⟨x, ⟨nm, sl⟩, bs⟩ := c0
    have hat : nm = s := hat
    subst hat
    have hino : inoN (filesOf cs) nm = x := hino
    have hby : bytesN (filesOf cs) nm = bs := hby
    have hx := hin _ hmem
    have hx1 : (1 : Int) ≤ x := hx.1
    have hx2 : x ≤ 12 := hx.2.1
    have hbl : bs.length ≤ 65536 := hx.2.2
    have hwr : IntKind.i64.wrap (65536 - (bs.length : Int)) = 65536 - (bs.length : Int) := by rw [IntKind.wrap_i64]; omega
    have HX : Hid (I64 x) := ⟨by omega, by omega⟩
    have hx0 : (x == 0) = false := by rw [beq_eq_false_iff_ne]; omega
    have HMEM := Lib.hid hmem
    have ho := hc.own _ hmem
    have HO : Hid (Own bv w0.heap.size 5 w (slv sl) bs) := ho
    have hsn : sl.n = bs.length := by
      rcases ho.2 with ⟨he, h0⟩ | ⟨g', cap', cur, he, -⟩
      · injection he with e1 e2 e3; rw [e2]; exact h0.symm
      · injection he with e1 e2 e3
    obtain ⟨sa, sn, sk⟩ := sl
    have hsn : sn = bs.length := hsn
    subst hsn
    by_cases hfull : 65536 < bs.length + p.length
    · have HY : Hid (yAppend (filesOf cs) nm p = (9, filesOf cs)) := by unfold Hid yAppend; rw [hh, hby]; simp [hfull]
      clear hc h hin hh hlt hmem ho hx
      go_enter Try.func16, Try.ntmps16
      go_wp2_with fail
      (with_reducible refine HF.out.mono ?_)
      rintro e w1 ⟨rfl, hu1⟩
      have HU1 := Lib.hid (hu1.alloc (.cells #[sv nm, .slice sa bs.length sk] 91))
      clear hu1
      go_wp2_with fail
      go_ret
      exact ⟨by rw [HY.out]; rfl, by rw [HY.out]; exact HD.out.out0 HU1.out⟩
    · have HY : Hid (yAppend (filesOf cs) nm p = (0, tSet ltY (filesOf cs) x (nm, bs ++ p))) := by unfold Hid yAppend; rw [hh, hby, hino]; simp [hfull]
      have q : ¬ 65536 - (bs.length : Int) < p.length := by omega
      clear hc h hin hh hlt hmem ho hx
      go_enter Try.func16, Try.ntmps16
      go_wp2_with fail
      (with_reducible refine HF.out.mono ?_)
      rintro e w1 ⟨rfl, hu1⟩
      have HUa := Lib.hid (hu1.alloc (.cells #[sv nm, .slice sa bs.length sk] 91))
      have HRUN := Lib.hid (fun ty => run_app (P := Try.prog) (ty := ty) bv_one Try.underlying27 infoByte rfl (.slice sa bs.length sk) (.slice ap p.length cp) bs p (HO.out.upd HUa.out (by simp)) (HP.out.upd0 HUa.out) (by omega) (by unfold maxLen; omega) (by have := HUa.out.size; have := HC.out.old.size; omega))
      have HBF := Lib.hid (Blk.new w1 91 [sv nm, .slice sa bs.length sk])
      have hs1 := hu1.size
      have HNB : Hid (w1.heap.size ∉ blk (.slice sa bs.length sk)) := fun hx => by have := (HO.out.ge _ hx).2; omega
      clear hu1
      go_wp2_with (at_builtin; go_must (refine wpList_app_of rfl _ _ rfl (.slice sa bs.length sk) (.slice ap p.length cp) rfl rfl (HRUN.out _) ?_; rintro v2 w2 ⟨ho2, hu2, hk2⟩; have HO2 := Lib.hid ho2; have HU2 := Lib.hid hu2; have HK2 := Lib.hid hk2; have hb2 := HBF.out.upd hu2 HNB.out; have d1 := hb2.cell 1; have f1 := hb2.frozen 1; have HB2 := Lib.hid hb2; obtain ⟨a2, c2, rfl, -⟩ := ho2.rd; clear ho2 hu2 hk2 hb2))
      have hu3 : Upd (blk (.slice sa bs.length sk)) w (w2.setCell ⟨w1.heap.size, 1, none⟩ (.slice a2 (bs ++ p).length c2)) := (HUa.out.trans (T := blk (.slice sa bs.length sk)) HU2.out (by simp) (fun x hx => .inl hx)).setCell _ _ (.inr hs1)
      have hnv : w1.heap.size ∉ blk (.slice a2 (bs ++ p).length c2) := fun hx => by
        rcases HK2.out _ hx with q | q
        · exact HNB.out q
        · simp at q; omega
      have ho3 : Own bv w0.heap.size 5 (w2.setCell ⟨w1.heap.size, 1, none⟩ (.slice a2 (bs ++ p).length c2)) (.slice a2 (bs ++ p).length c2) (bs ++ p) := HO2.out.upd ((Upd.refl [w1.heap.size] w2).setCell _ _ (.inl (by simp))) (fun x hx h => hnv (by simp at h; rw [← h]; exact hx))
      have hb3 : Blk (w2.setCell ⟨w1.heap.size, 1, none⟩ (.slice a2 (bs ++ p).length c2)) w1.heap.size 91 [sv nm, .slice a2 (bs ++ p).length c2] := HB2.out.set_ 1 _
      have hap3 : ∀ y ∈ blk (.slice a2 (bs ++ p).length c2), y ∈ blk (.slice sa bs.length sk) ∨ w.heap.size ≤ y := fun y hy => (HK2.out y hy).imp id (fun q => by have := HUa.out.size; omega)
      have hlen2 : (bs ++ p).length = bs.length + p.length := List.length_append
      rw [hlen2] at hu3 ho3 hb3 hap3
      clear d1 f1 HB2 HO2 HU2 HK2 HRUN HUa HBF hnv hlen2
      generalize w2.setCell ⟨w1.heap.size, 1, none⟩ (.slice a2 (bs.length + p.length) c2) = w3 at *
      have e0 := hb3.cell 0
      have e1 := hb3.cell 1
      simp only [List.getElem?_cons_zero, List.getElem?_cons_succ] at e0 e1
      have y0 := hu3.cell HC.out.p0 (gy_own HC.out.yard HO.out)
      have HU3 := Lib.hid hu3
      have HO3 := Lib.hid ho3
      have HAP3 := Lib.hid hap3
      clear hu3 ho3 hb3 hap3
      go_still_tail 6, (by kernel_rfl)
      change wpList _ _ _ _ _ w3.drew
      go_wp2_with fail
      (with_reducible refine (HC.out.setG hlen1 _ HMEM.out HU3.out.drew x HX.out rfl nm ⟨a2, bs.length + p.length, c2⟩ (bs ++ p) (HO3.out.upd (Upd.refl [] _).drew (by simp)) HAP3.out).mono ?_)
      rintro e w4 ⟨⟨r, rfl⟩, F', hc4, hu4, hf4⟩
      have HC4 := Lib.hid hc4
      have HU4 := Lib.hid hu4
      have HF4 := Lib.hid hf4
      clear hc4 hu4 hf4
      go_wp2_with fail
      go_ret
      refine ⟨by rw [HY.out]; rfl, ?_⟩
      rw [HY.out]
      have hsz := HU3.out.size
      refine YOut.of HC4.out (mapY_set (fun v : (ByteArray × Sl) × List UInt8 => (v.1.1, v.2)) cs x ((nm, ⟨a2, bs.length + p.length, c2⟩), bs ++ p)).symm ?_ ?_ (HU3.out.drew.trans HU4.out (fun y hy => foot_c HMEM.out hy) (fun y hy => .inl (foot_F hy))) (fun y hy => (HF4.out y hy).imp foot_F (fun q => by simp at q; omega)) (fun y hy => .inl (foot_T hy)) ?_
      · have hin2 : isIn ltY cs x = true := by
          obtain ⟨i, hi, he⟩ := List.mem_iff_getElem.1 HMEM.out
          have := isIn_at intOrd HC.out.ris i hi
          rwa [nth_get cs i hi, he] at this
        rw [tSet_in cs x _ hin2, List.length_set]; exact hlen
      · intro c hcm
        rcases tSet_mem cs _ _ c hcm with rfl | q
        · exact ⟨hx1, hx2, by simp; omega⟩
        · exact HIN.out c q
      · intro c hcm y hy
        rcases tSet_mem cs _ _ c hcm with rfl | q
        · exact (HAP3.out y hy).imp (fun q => foot_c HMEM.out q) id
        · exact .inl (foot_c q hy)
end
end Go.Proofs.Ytmhdhnipljonlaa
