/- Texts of the proof, joined: Bytes as a record: the document's walk. -/
import Derived.Test.YtmhojaiajhdlcaaGreatMp3
import Derived.Test.YtmhojaiajhdlcaaGreatMp10
namespace Go.Proofs.YtmhojaiajhdlcaaGreat
open Go.RowKit
set_option linter.unusedSimpArgs false
set_option linter.unusedVariables false
/-- While a record is read: the reader, the record so far, the result's block. -/
structure GY (w0 W : World) (g : Nat) (v : Value) (B : List UInt8) (s : RSt) (gx : Nat) (xs : List Value) : Prop where
  rdr : RdrAt 170 (w0.heap.size + 1) W g v B s
  x : Blk W gx 27 xs
  lt : g < gx
  ltv : ∀ y ∈ blk v, y < gx
  res : Blk W w0.heap.size 27 [.int .i64 0, .int .i64 0, .int .i64 0, .string ⟨#[]⟩, .int .i64 0, .int .i64 0, .int .i64 0, .int .i64 0, .int .i64 0, .int .i64 0, .int .i64 0, .int .i64 0, .int .i64 0, .int .i64 0, .int .i64 0]
  old : Upd [] w0 W
section
variable {w0 W : World} {g : Nat} {v : Value} {B : List UInt8} {s : RSt} {gx : Nat} {xs : List Value}
theorem GY.start {w2 : World} (hr : RdrAt 170 (w0.heap.size + 1) w2 g v B (0, 0)) (hu : Upd [] (w0.alloc (.cells #[.int .i64 0, .int .i64 0, .int .i64 0, .string ⟨#[]⟩, .int .i64 0, .int .i64 0, .int .i64 0, .int .i64 0, .int .i64 0, .int .i64 0, .int .i64 0, .int .i64 0, .int .i64 0, .int .i64 0, .int .i64 0] 27)) w2) : GY w0 (w2.alloc (.cells #[.int .i64 0, .int .i64 0, .int .i64 0, .string ⟨#[]⟩, .int .i64 0, .int .i64 0, .int .i64 0, .int .i64 0, .int .i64 0, .int .i64 0, .int .i64 0, .int .i64 0, .int .i64 0, .int .i64 0, .int .i64 0] 27)) g v B (0, 0) w2.heap.size [.int .i64 0, .int .i64 0, .int .i64 0, .string ⟨#[]⟩, .int .i64 0, .int .i64 0, .int .i64 0, .int .i64 0, .int .i64 0, .int .i64 0, .int .i64 0, .int .i64 0, .int .i64 0, .int .i64 0, .int .i64 0] := by
  have hua : Upd [] w2 (w2.alloc (.cells #[.int .i64 0, .int .i64 0, .int .i64 0, .string ⟨#[]⟩, .int .i64 0, .int .i64 0, .int .i64 0, .int .i64 0, .int .i64 0, .int .i64 0, .int .i64 0, .int .i64 0, .int .i64 0, .int .i64 0, .int .i64 0] 27)) := (Upd.refl [] w2).alloc _
  exact ⟨hr.upd hua, Blk.new w2 _ [.int .i64 0, .int .i64 0, .int .i64 0, .string ⟨#[]⟩, .int .i64 0, .int .i64 0, .int .i64 0, .int .i64 0, .int .i64 0, .int .i64 0, .int .i64 0, .int .i64 0, .int .i64 0, .int .i64 0, .int .i64 0], hr.cells.lt, fun y hy => (hr.own.ge y hy).2, ((Blk.new w0 27 [.int .i64 0, .int .i64 0, .int .i64 0, .string ⟨#[]⟩, .int .i64 0, .int .i64 0, .int .i64 0, .int .i64 0, .int .i64 0, .int .i64 0, .int .i64 0, .int .i64 0, .int .i64 0, .int .i64 0, .int .i64 0]).upd hu (by simp)).upd hua (by simp), (((Upd.refl [] w0).alloc _).seq hu).seq hua⟩
theorem GY.set (h : GY w0 W g v B s gx xs) (i : Nat) (u : Value) : GY w0 (W.setCell ⟨gx, i, none⟩ u) g v B s gx (xs.set i u) := by
  have hu : Upd [gx] W (W.setCell ⟨gx, i, none⟩ u) := (Upd.refl [gx] W).setCell _ _ (.inl (by simp))
  have hlt := h.lt
  have hgb := h.rdr.gb
  exact ⟨⟨h.rdr.cells.upd hu (by simp; omega), h.rdr.own.upd hu (fun y hy hy' => by simp at hy'; subst hy'; exact absurd (h.ltv _ hy) (Nat.lt_irrefl _)), h.rdr.gb, h.rdr.at_, h.rdr.er, h.rdr.sz⟩, h.x.set_ i u, hlt, h.ltv, h.res.upd hu (by simp; omega), h.old.trans hu (by simp) (fun y hy => .inr (by simp at hy; subst hy; omega))⟩
theorem GY.rd {W' : World} {s' : RSt} (h : GY w0 W g v B s gx xs) (hr : RdrAt 170 (w0.heap.size + 1) W' g v B s') (hu : Upd [g] W W') : GY w0 W' g v B s' gx xs := by
  have hlt := h.lt
  have hgb := h.rdr.gb
  exact ⟨hr, h.x.upd hu (by simp; omega), hlt, h.ltv, h.res.upd hu (by simp; omega), h.old.trans hu (by simp) (fun y hy => .inr (by simp at hy; subst hy; omega))⟩
theorem gy_num {n : Nat} {s' : RSt} (h : GY w0 W g v B s gx xs) (hp : rdNum B s = (n, s')) :
    Calls Tryz.prog 54 #[.pointer (some ⟨g, 0, none⟩)] W fun e w' => e = .returned (.int .i64 (n : Int)) ∧ GY w0 w' g v B s' gx xs := by
  refine (dNum_any W h.rdr).mono ?_
  rw [hp]
  rintro e w' ⟨rfl, hr, hu⟩
  exact ⟨rfl, h.rd hr hu⟩
theorem gy_text {t : List UInt8} {s' : RSt} (h : GY w0 W g v B s gx xs) (hp : rdText B 32 s = (t, s')) :
    Calls Tryz.prog 55 #[.pointer (some ⟨g, 0, none⟩), .int .i64 32] W fun e w' => e = .returned (.string (strOf t)) ∧ GY w0 w' g v B s' gx xs := by
  refine (dText_any W 32 ⟨by omega, by omega⟩ h.rdr).mono ?_
  rw [hp]
  rintro e w' ⟨rfl, hr, hu⟩
  exact ⟨rfl, h.rd hr hu⟩
theorem gy_end (h : GY w0 W g v B s gx xs) :
    Calls Tryz.prog 56 #[.pointer (some ⟨g, 0, none⟩)] W fun e w' => e = .returned (.int .i64 ((rdEnd B s).2 : Int)) ∧ GY w0 w' g v B (rdEnd B s) gx xs := by
  refine (dEnd_any W h.rdr).mono ?_
  rintro e w' ⟨rfl, hr, hu⟩
  exact ⟨rfl, h.rd hr hu⟩
end
set_option maxRecDepth 20000 in
set_option maxHeartbeats 8000000 in
theorem rfGet_any (w : World) (u : Value) (B : List UInt8) (h : Bytes w u B) (hz : B.length ≤ 140737488351232) :
    Calls Tryz.prog 11 #[u] w fun e w' => e = .returned (.tuple #[recVal (getRec B).1, .bool (getRec B).2]) ∧ Upd [] w w' := by
  have hu0 : Upd [] w (w.alloc (.cells #[.int .i64 0, .int .i64 0, .int .i64 0, .string ⟨#[]⟩, .int .i64 0, .int .i64 0, .int .i64 0, .int .i64 0, .int .i64 0, .int .i64 0, .int .i64 0, .int .i64 0, .int .i64 0, .int .i64 0, .int .i64 0] 27)) := (Upd.refl [] w).alloc _
  have H := Lib.hid (h.upd0 hu0)
  obtain ⟨ua, uc, rfl, -⟩ := h
  obtain ⟨na, sa, hA⟩ : ∃ n s, rdA B = (n, s) := ⟨_, _, rfl⟩
  obtain ⟨nb_, sb, hB⟩ : ∃ n s, rdB B = (n, s) := ⟨_, _, rfl⟩
  obtain ⟨nc, sc, hC⟩ : ∃ n s, rdC B = (n, s) := ⟨_, _, rfl⟩
  obtain ⟨tx, st, hT⟩ : ∃ n s, rdT B = (n, s) := ⟨_, _, rfl⟩
  obtain ⟨nk, sk, hK⟩ : ∃ n s, rdK B = (n, s) := ⟨_, _, rfl⟩
  have QA : Hid (rdNum B (0, 0) = (na, sa)) := hA
  have QB : Hid (rdNum B sa = (nb_, sb)) := by have := hB; unfold rdB at this; rw [hA] at this; exact this
  have QC : Hid (rdNum B sb = (nc, sc)) := by have := hC; unfold rdC at this; rw [hB] at this; exact this
  have QT : Hid (rdText B 32 sc = (tx, st)) := by have := hT; unfold rdT at this; rw [hC] at this; exact this
  have QK : Hid (rdNum B st = (nk, sk)) := by have := hK; unfold rdK at this; rw [hT] at this; exact this
  have QX : Hid (rdX B = rdCaps B 10 sk) := by unfold Hid rdX; rw [hK]
  have QR : Hid (∀ (l : List Int) (hl : l.length = 10), (rdX B).1 = l → rawRec B = ⟨⟨na, nb_, nc, strOf tx⟩, nk, ⟨l, hl⟩⟩) := fun l hl e => by
    unfold rawRec
    rw [hA, hB, hC, hT, hK]
    exact Rec.ext' rfl rfl (Subtype.ext e)
  clear hA hB hC hT hK hu0
  go_enter Tryz.func11, Tryz.ntmps11
  go_wp2_with fail
  (with_reducible refine (dRead_any _ _ B H.out hz).mono ?_)
  rintro e w2 ⟨g, v, rfl, hr, hu2⟩
  have hr2 : RdrAt 170 (w.heap.size + 1) w2 g v B (0, 0) := by simpa using hr
  have HG0 := Lib.hid (GY.start hr2 hu2)
  clear hr hr2 hu2 H
  go_wp2_with fail
  (with_reducible refine (gy_num HG0.out QA.out).mono ?_)
  rintro e w3 ⟨rfl, h3⟩
  generalize w2.heap.size = gx at *
  have H3 := Lib.hid (h3.set 0 (.int .i64 (na : Int)))
  have f0 := h3.x.frozen 0
  have g0 := h3.x.cell 0
  simp only [List.getElem?_cons_zero, List.getElem?_cons_succ, List.set_cons_zero, List.set_cons_succ] at g0
  clear h3 HG0
  go_wp2_with fail
  (with_reducible refine (gy_num H3.out QB.out).mono ?_)
  rintro e w4 ⟨rfl, h4⟩
  have H4 := Lib.hid (h4.set 1 (.int .i64 (nb_ : Int)))
  have f1 := h4.x.frozen 1
  have g1 := h4.x.cell 1
  simp only [List.getElem?_cons_zero, List.getElem?_cons_succ, List.set_cons_zero, List.set_cons_succ] at g1
  clear h4 H3 f0 g0
  go_wp2_with fail
  (with_reducible refine (gy_num H4.out QC.out).mono ?_)
  rintro e w5 ⟨rfl, h5⟩
  have H5 := Lib.hid (h5.set 2 (.int .i64 (nc : Int)))
  have f2 := h5.x.frozen 2
  have g2 := h5.x.cell 2
  simp only [List.getElem?_cons_zero, List.getElem?_cons_succ, List.set_cons_zero, List.set_cons_succ] at g2
  clear h5 H4 f1 g1
  go_wp2_with fail
  (with_reducible refine (gy_text H5.out QT.out).mono ?_)
  rintro e w6 ⟨rfl, h6⟩
  have H6 := Lib.hid (h6.set 3 (.string (strOf tx)))
  have f3 := h6.x.frozen 3
  have g3 := h6.x.cell 3
  simp only [List.getElem?_cons_zero, List.getElem?_cons_succ, List.set_cons_zero, List.set_cons_succ] at g3
  clear h6 H5 f2 g2
  go_wp2_with fail
  (with_reducible refine (gy_num H6.out QK.out).mono ?_)
  rintro e w7 ⟨rfl, h7⟩
  have H7 := Lib.hid (h7.set 4 (.int .i64 (nk : Int)))
  have f4 := h7.x.frozen 4
  have g4 := h7.x.cell 4
  simp only [List.getElem?_cons_zero, List.getElem?_cons_succ, List.set_cons_zero, List.set_cons_succ] at g4
  clear h7 H6 f3 g3
  go_wp2_with fail
  go_loopw [6] (fun i wr => ∃ k : Nat, k ≤ 10 ∧ i = .int .i64 k ∧ Hid (GY w wr g v B (rdCaps B k sk).2 gx (gsCells na nb_ nc tx nk (rdCaps B k sk).1))) (fun i _ => 10 - (intOf i).toNat)
  case atStart => exact ⟨0, Nat.zero_le _, rfl, H7.out⟩
  case round =>
    obtain ⟨k, hk, rfl, hg⟩ := hrel
    clear H7 f4 g4
    by_cases hlt : k < 10
    · have q0 : (0 : Int) ≤ k := by omega
      have q1 : (k : Int) < 10 := by omega
      obtain ⟨d, s', hd⟩ : ∃ n s, rdNum B (rdCaps B k sk).2 = (n, s) := ⟨_, _, rfl⟩
      have HD := Lib.hid hd
      have hlen := rdCaps_len B k sk
      have HS : Hid (rdCaps B (k + 1) sk = ((rdCaps B k sk).1 ++ [(d : Int) - 1], s')) := by
        unfold Hid
        show ((rdCaps B k sk).1 ++ [((rdNum B (rdCaps B k sk).2).1 : Int) - 1], (rdNum B (rdCaps B k sk).2).2) = _
        rw [hd]
      have hdl : d < 9223372036854775808 := by
        have h1 := rdNum_le B (rdCaps B k sk).2 hg.out.rdr.at_ hg.out.rdr.er
        rw [hd] at h1; exact h1.1
      have HC : Hid ((gsCells na nb_ nc tx nk (rdCaps B k sk).1).set (5 + k) (.int .i64 ((d : Int) - 1)) = gsCells na nb_ nc tx nk ((rdCaps B k sk).1 ++ [(d : Int) - 1])) := by
        have := gsCells_set na nb_ nc tx nk (rdCaps B k sk).1 ((d : Int) - 1) (by rw [hlen]; exact hlt)
        rw [hlen] at this; exact this
      have hwr : IntKind.i64.wrap ((d : Int) - 1) = (d : Int) - 1 := by rw [IntKind.wrap_i64]; omega
      clear hd hlen hdl
      go_wp2_with fail
      (with_reducible refine (gy_num hg.out HD.out).mono ?_)
      rintro e w8 ⟨rfl, h8⟩
      have f5 := h8.x.frozen (5 + k)
      obtain ⟨u5, g5⟩ : ∃ u, w8.cell? ⟨gx, 5 + k, none⟩ = some u := by
        rw [h8.x.cell]
        exact ⟨_, List.getElem?_eq_getElem (by have := rdCaps_len B k sk; simp [this]; omega)⟩
      have H8 := Lib.hid (h8.set (5 + k) (.int .i64 ((d : Int) - 1)))
      rw [HC.out] at H8
      clear h8 hg
      go_wp2_with fail
      go_roundw
      case rel => exact ⟨k + 1, by omega, by go_num, by unfold Hid; rw [HS.out]; exact H8.out⟩
      case measure => simp [intOf]; omega
    · obtain rfl : k = 10 := by omega
      obtain ⟨l, sx, hX⟩ : ∃ l s, rdCaps B 10 sk = (l, s) := ⟨_, _, rfl⟩
      have hl : l.length = 10 := by have := rdCaps_len B 10 sk; rw [hX] at this; exact this
      have QX2 : Hid (rdX B = (l, sx)) := by unfold Hid; rw [QX.out, hX]
      rw [hX] at hg
      obtain ⟨x0, x1, x2, x3, x4, x5, x6, x7, x8, x9, rfl⟩ := ten hl
      have HR : Hid (rawRec B = mkRec na nb_ nc (strOf tx) nk x0 x1 x2 x3 x4 x5 x6 x7 x8 x9) := QR.out _ rfl (by rw [QX2.out])
      have HG : Hid (GY w wr g v B sx gx [.int .i64 (na : Int), .int .i64 (nb_ : Int), .int .i64 (nc : Int), .string (strOf tx), .int .i64 (nk : Int), .int .i64 x0, .int .i64 x1, .int .i64 x2, .int .i64 x3, .int .i64 x4, .int .i64 x5, .int .i64 x6, .int .i64 x7, .int .i64 x8, .int .i64 x9]) := hg.out
      have HE : Hid (getRec B = if (rdEnd B sx).2 = 0 ∧ recOk (mkRec na nb_ nc (strOf tx) nk x0 x1 x2 x3 x4 x5 x6 x7 x8 x9) = true then (mkRec na nb_ nc (strOf tx) nk x0 x1 x2 x3 x4 x5 x6 x7 x8 x9, true) else (rz, false)) := by
        unfold Hid getRec; rw [HR.out, QX2.out]
      clear hX hl hg
      go_wp2_with fail
      (with_reducible refine (gy_end HG.out).mono ?_)
      rintro e w9 ⟨rfl, h9⟩
      have H9 := Lib.hid h9
      obtain ⟨er, her⟩ : ∃ er, (rdEnd B sx).2 = er := ⟨_, rfl⟩
      have HER := Lib.hid her
      rw [her]
      clear h9 HG her
      by_cases hz0 : er = 0
      · subst hz0
        have d0 := H9.out.x.cell 0
        have d1 := H9.out.x.cell 1
        have d2 := H9.out.x.cell 2
        have d3 := H9.out.x.cell 3
        have d4 := H9.out.x.cell 4
        have d5 := H9.out.x.cell 5
        have d6 := H9.out.x.cell 6
        have d7 := H9.out.x.cell 7
        have d8 := H9.out.x.cell 8
        have d9 := H9.out.x.cell 9
        have d10 := H9.out.x.cell 10
        have d11 := H9.out.x.cell 11
        have d12 := H9.out.x.cell 12
        have d13 := H9.out.x.cell 13
        have d14 := H9.out.x.cell 14
        simp only [List.getElem?_cons_zero, List.getElem?_cons_succ] at d0 d1 d2 d3 d4 d5 d6 d7 d8 d9 d10 d11 d12 d13 d14
        cases hok : recOk (mkRec na nb_ nc (strOf tx) nk x0 x1 x2 x3 x4 x5 x6 x7 x8 x9) with
        | true =>
          have HGR : Hid (getRec B = (mkRec na nb_ nc (strOf tx) nk x0 x1 x2 x3 x4 x5 x6 x7 x8 x9, true)) := by unfold Hid; rw [HE.out, if_pos ⟨HER.out, hok⟩]
          have HOK := Lib.hid hok
          clear hok
          go_wp2_with fail
          (with_reducible refine (rfRight_c _ na nb_ nc (strOf tx) nk x0 x1 x2 x3 x4 x5 x6 x7 x8 x9).mono ?_)
          rw [HOK.out]
          rintro e w10 ⟨rfl, hu10⟩
          have d0 := (H9.out.x.upd hu10 (by simp)).cell 0
          have d1 := (H9.out.x.upd hu10 (by simp)).cell 1
          have d2 := (H9.out.x.upd hu10 (by simp)).cell 2
          have d3 := (H9.out.x.upd hu10 (by simp)).cell 3
          have d4 := (H9.out.x.upd hu10 (by simp)).cell 4
          have d5 := (H9.out.x.upd hu10 (by simp)).cell 5
          have d6 := (H9.out.x.upd hu10 (by simp)).cell 6
          have d7 := (H9.out.x.upd hu10 (by simp)).cell 7
          have d8 := (H9.out.x.upd hu10 (by simp)).cell 8
          have d9 := (H9.out.x.upd hu10 (by simp)).cell 9
          have d10 := (H9.out.x.upd hu10 (by simp)).cell 10
          have d11 := (H9.out.x.upd hu10 (by simp)).cell 11
          have d12 := (H9.out.x.upd hu10 (by simp)).cell 12
          have d13 := (H9.out.x.upd hu10 (by simp)).cell 13
          have d14 := (H9.out.x.upd hu10 (by simp)).cell 14
          simp only [List.getElem?_cons_zero, List.getElem?_cons_succ] at d0 d1 d2 d3 d4 d5 d6 d7 d8 d9 d10 d11 d12 d13 d14
          have HRES := Lib.hid (H9.out.res.upd hu10 (by simp))
          have HOLD := Lib.hid (H9.out.old.seq hu10)
          have hgx : w.heap.size < gx := by have := H9.out.lt; have := H9.out.rdr.gb; omega
          clear hu10 H9
          go_wp2_with (first | ((refine wpList_store_row rfl 27 (.tmp 2) (.tmp 47) rfl w.heap.size #[.int .i64 (na : Int), .int .i64 (nb_ : Int), .int .i64 (nc : Int), .string (strOf tx), .int .i64 (nk : Int), .int .i64 x0, .int .i64 x1, .int .i64 x2, .int .i64 x3, .int .i64 x4, .int .i64 x5, .int .i64 x6, .int .i64 x7, .int .i64 x8, .int .i64 x9] rfl rfl 27 #[.int .i64 0, .int .i64 0, .int .i64 0, .string ⟨#[]⟩, .int .i64 0, .int .i64 0, .int .i64 0, .int .i64 0, .int .i64 0, .int .i64 0, .int .i64 0, .int .i64 0, .int .i64 0, .int .i64 0, .int .i64 0] HRES.out (by show _ = some 15; exact infoRec) rfl (by simp [Value.oneCell']) ?_)) | fail)
          have hU := HOLD.out.trans (T := []) (upd_row _ w.heap.size #[.int .i64 (na : Int), .int .i64 (nb_ : Int), .int .i64 (nc : Int), .string (strOf tx), .int .i64 (nk : Int), .int .i64 x0, .int .i64 x1, .int .i64 x2, .int .i64 x3, .int .i64 x4, .int .i64 x5, .int .i64 x6, .int .i64 x7, .int .i64 x8, .int .i64 x9]) (by simp) (fun y hy => .inr (by simp at hy; omega))
          have HB := Lib.hid (blk_row HRES.out [.int .i64 (na : Int), .int .i64 (nb_ : Int), .int .i64 (nc : Int), .string (strOf tx), .int .i64 (nk : Int), .int .i64 x0, .int .i64 x1, .int .i64 x2, .int .i64 x3, .int .i64 x4, .int .i64 x5, .int .i64 x6, .int .i64 x7, .int .i64 x8, .int .i64 x9])
          have e0 := HB.out.cell 0
          have e1 := HB.out.cell 1
          have e2 := HB.out.cell 2
          have e3 := HB.out.cell 3
          have e4 := HB.out.cell 4
          have e5 := HB.out.cell 5
          have e6 := HB.out.cell 6
          have e7 := HB.out.cell 7
          have e8 := HB.out.cell 8
          have e9 := HB.out.cell 9
          have e10 := HB.out.cell 10
          have e11 := HB.out.cell 11
          have e12 := HB.out.cell 12
          have e13 := HB.out.cell 13
          have e14 := HB.out.cell 14
          simp only [List.getElem?_cons_zero, List.getElem?_cons_succ] at e0 e1 e2 e3 e4 e5 e6 e7 e8 e9 e10 e11 e12 e13 e14
          clear HB HRES HOLD
          generalize World.setRow _ _ _ = W at *
          rw [HGR.out]
          exact bodyPost_ret (v := .tuple #[mkVal na nb_ nc (strOf tx) nk x0 x1 x2 x3 x4 x5 x6 x7 x8 x9, .bool true]) (by simp [results, Tryz.results11, go_sem, e0, e1, e2, e3, e4, e5, e6, e7, e8, e9, e10, e11, e12, e13, e14]; try rfl) rfl ⟨rfl, hU⟩
        | false =>
          have HGR : Hid (getRec B = (rz, false)) := by unfold Hid; rw [HE.out, if_neg (fun q => by rw [hok] at q; exact absurd q.2 (by simp))]
          have HOK := Lib.hid hok
          clear hok
          go_wp2_with fail
          (with_reducible refine (rfRight_c _ na nb_ nc (strOf tx) nk x0 x1 x2 x3 x4 x5 x6 x7 x8 x9).mono ?_)
          rw [HOK.out]
          rintro e w10 ⟨rfl, hu10⟩
          have d0 := (H9.out.x.upd hu10 (by simp)).cell 0
          have d1 := (H9.out.x.upd hu10 (by simp)).cell 1
          have d2 := (H9.out.x.upd hu10 (by simp)).cell 2
          have d3 := (H9.out.x.upd hu10 (by simp)).cell 3
          have d4 := (H9.out.x.upd hu10 (by simp)).cell 4
          have d5 := (H9.out.x.upd hu10 (by simp)).cell 5
          have d6 := (H9.out.x.upd hu10 (by simp)).cell 6
          have d7 := (H9.out.x.upd hu10 (by simp)).cell 7
          have d8 := (H9.out.x.upd hu10 (by simp)).cell 8
          have d9 := (H9.out.x.upd hu10 (by simp)).cell 9
          have d10 := (H9.out.x.upd hu10 (by simp)).cell 10
          have d11 := (H9.out.x.upd hu10 (by simp)).cell 11
          have d12 := (H9.out.x.upd hu10 (by simp)).cell 12
          have d13 := (H9.out.x.upd hu10 (by simp)).cell 13
          have d14 := (H9.out.x.upd hu10 (by simp)).cell 14
          simp only [List.getElem?_cons_zero, List.getElem?_cons_succ] at d0 d1 d2 d3 d4 d5 d6 d7 d8 d9 d10 d11 d12 d13 d14
          have HRES := Lib.hid (H9.out.res.upd hu10 (by simp))
          have HOLD := Lib.hid (H9.out.old.seq hu10)
          have hgx : w.heap.size < gx := by have := H9.out.lt; have := H9.out.rdr.gb; omega
          clear hu10 H9
          go_wp2_with (first | ((refine wpList_store_row rfl 27 (.tmp 2) (.tmp 46) rfl w.heap.size #[.int .i64 0, .int .i64 0, .int .i64 0, .string ⟨#[]⟩, .int .i64 0, .int .i64 0, .int .i64 0, .int .i64 0, .int .i64 0, .int .i64 0, .int .i64 0, .int .i64 0, .int .i64 0, .int .i64 0, .int .i64 0] rfl rfl 27 #[.int .i64 0, .int .i64 0, .int .i64 0, .string ⟨#[]⟩, .int .i64 0, .int .i64 0, .int .i64 0, .int .i64 0, .int .i64 0, .int .i64 0, .int .i64 0, .int .i64 0, .int .i64 0, .int .i64 0, .int .i64 0] HRES.out (by show _ = some 15; exact infoRec) rfl (by simp [Value.oneCell']) ?_)) | fail)
          have hU := HOLD.out.trans (T := []) (upd_row _ w.heap.size #[.int .i64 0, .int .i64 0, .int .i64 0, .string ⟨#[]⟩, .int .i64 0, .int .i64 0, .int .i64 0, .int .i64 0, .int .i64 0, .int .i64 0, .int .i64 0, .int .i64 0, .int .i64 0, .int .i64 0, .int .i64 0]) (by simp) (fun y hy => .inr (by simp at hy; omega))
          have HB := Lib.hid (blk_row HRES.out [.int .i64 0, .int .i64 0, .int .i64 0, .string ⟨#[]⟩, .int .i64 0, .int .i64 0, .int .i64 0, .int .i64 0, .int .i64 0, .int .i64 0, .int .i64 0, .int .i64 0, .int .i64 0, .int .i64 0, .int .i64 0])
          have e0 := HB.out.cell 0
          have e1 := HB.out.cell 1
          have e2 := HB.out.cell 2
          have e3 := HB.out.cell 3
          have e4 := HB.out.cell 4
          have e5 := HB.out.cell 5
          have e6 := HB.out.cell 6
          have e7 := HB.out.cell 7
          have e8 := HB.out.cell 8
          have e9 := HB.out.cell 9
          have e10 := HB.out.cell 10
          have e11 := HB.out.cell 11
          have e12 := HB.out.cell 12
          have e13 := HB.out.cell 13
          have e14 := HB.out.cell 14
          simp only [List.getElem?_cons_zero, List.getElem?_cons_succ] at e0 e1 e2 e3 e4 e5 e6 e7 e8 e9 e10 e11 e12 e13 e14
          clear HB HRES HOLD
          generalize World.setRow _ _ _ = W at *
          rw [HGR.out]
          exact bodyPost_ret (v := .tuple #[mkVal 0 0 0 ⟨#[]⟩ 0 0 0 0 0 0 0 0 0 0 0, .bool false]) (by simp [results, Tryz.results11, go_sem, e0, e1, e2, e3, e4, e5, e6, e7, e8, e9, e10, e11, e12, e13, e14]; try rfl) rfl ⟨rfl, hU⟩
      · have HGR : Hid (getRec B = (rz, false)) := by unfold Hid; rw [HE.out, if_neg (fun q => hz0 (by rw [← HER.out]; exact q.1))]
        have ez : ((er : Int) != 0) = true := by rw [bne_iff_ne]; omega
        have w10_ : Hid (GY w w9 g v B (rdEnd B sx) gx [.int .i64 (na : Int), .int .i64 (nb_ : Int), .int .i64 (nc : Int), .string (strOf tx), .int .i64 (nk : Int), .int .i64 x0, .int .i64 x1, .int .i64 x2, .int .i64 x3, .int .i64 x4, .int .i64 x5, .int .i64 x6, .int .i64 x7, .int .i64 x8, .int .i64 x9]) := H9
        obtain ⟨w10, hw10⟩ : ∃ W, w9 = W := ⟨_, rfl⟩
        have hu10 : Upd [] w9 w10 := by rw [hw10]; exact Upd.refl _ _
        subst hw10
        have d0 := (H9.out.x.upd hu10 (by simp)).cell 0
        have d1 := (H9.out.x.upd hu10 (by simp)).cell 1
        have d2 := (H9.out.x.upd hu10 (by simp)).cell 2
        have d3 := (H9.out.x.upd hu10 (by simp)).cell 3
        have d4 := (H9.out.x.upd hu10 (by simp)).cell 4
        have d5 := (H9.out.x.upd hu10 (by simp)).cell 5
        have d6 := (H9.out.x.upd hu10 (by simp)).cell 6
        have d7 := (H9.out.x.upd hu10 (by simp)).cell 7
        have d8 := (H9.out.x.upd hu10 (by simp)).cell 8
        have d9 := (H9.out.x.upd hu10 (by simp)).cell 9
        have d10 := (H9.out.x.upd hu10 (by simp)).cell 10
        have d11 := (H9.out.x.upd hu10 (by simp)).cell 11
        have d12 := (H9.out.x.upd hu10 (by simp)).cell 12
        have d13 := (H9.out.x.upd hu10 (by simp)).cell 13
        have d14 := (H9.out.x.upd hu10 (by simp)).cell 14
        simp only [List.getElem?_cons_zero, List.getElem?_cons_succ] at d0 d1 d2 d3 d4 d5 d6 d7 d8 d9 d10 d11 d12 d13 d14
        have HRES := Lib.hid (H9.out.res.upd hu10 (by simp))
        have HOLD := Lib.hid (H9.out.old.seq hu10)
        have hgx : w.heap.size < gx := by have := H9.out.lt; have := H9.out.rdr.gb; omega
        clear hu10 H9
        clear hz0
        go_wp2_with (first | ((refine wpList_store_row rfl 27 (.tmp 2) (.tmp 46) rfl w.heap.size #[.int .i64 0, .int .i64 0, .int .i64 0, .string ⟨#[]⟩, .int .i64 0, .int .i64 0, .int .i64 0, .int .i64 0, .int .i64 0, .int .i64 0, .int .i64 0, .int .i64 0, .int .i64 0, .int .i64 0, .int .i64 0] rfl rfl 27 #[.int .i64 0, .int .i64 0, .int .i64 0, .string ⟨#[]⟩, .int .i64 0, .int .i64 0, .int .i64 0, .int .i64 0, .int .i64 0, .int .i64 0, .int .i64 0, .int .i64 0, .int .i64 0, .int .i64 0, .int .i64 0] HRES.out (by show _ = some 15; exact infoRec) rfl (by simp [Value.oneCell']) ?_)) | fail)
        have hU := HOLD.out.trans (T := []) (upd_row _ w.heap.size #[.int .i64 0, .int .i64 0, .int .i64 0, .string ⟨#[]⟩, .int .i64 0, .int .i64 0, .int .i64 0, .int .i64 0, .int .i64 0, .int .i64 0, .int .i64 0, .int .i64 0, .int .i64 0, .int .i64 0, .int .i64 0]) (by simp) (fun y hy => .inr (by simp at hy; omega))
        have HB := Lib.hid (blk_row HRES.out [.int .i64 0, .int .i64 0, .int .i64 0, .string ⟨#[]⟩, .int .i64 0, .int .i64 0, .int .i64 0, .int .i64 0, .int .i64 0, .int .i64 0, .int .i64 0, .int .i64 0, .int .i64 0, .int .i64 0, .int .i64 0])
        have e0 := HB.out.cell 0
        have e1 := HB.out.cell 1
        have e2 := HB.out.cell 2
        have e3 := HB.out.cell 3
        have e4 := HB.out.cell 4
        have e5 := HB.out.cell 5
        have e6 := HB.out.cell 6
        have e7 := HB.out.cell 7
        have e8 := HB.out.cell 8
        have e9 := HB.out.cell 9
        have e10 := HB.out.cell 10
        have e11 := HB.out.cell 11
        have e12 := HB.out.cell 12
        have e13 := HB.out.cell 13
        have e14 := HB.out.cell 14
        simp only [List.getElem?_cons_zero, List.getElem?_cons_succ] at e0 e1 e2 e3 e4 e5 e6 e7 e8 e9 e10 e11 e12 e13 e14
        clear HB HRES HOLD
        generalize World.setRow _ _ _ = W at *
        rw [HGR.out]
        exact bodyPost_ret (v := .tuple #[mkVal 0 0 0 ⟨#[]⟩ 0 0 0 0 0 0 0 0 0 0 0, .bool false]) (by simp [results, Tryz.results11, go_sem, e0, e1, e2, e3, e4, e5, e6, e7, e8, e9, e10, e11, e12, e13, e14]; try rfl) rfl ⟨rfl, hU⟩
end Go.Proofs.YtmhojaiajhdlcaaGreat
