/- Texts of the proof, joined: Bytes as a record: the program's walk. append onto a list of the call's own, at the run, at a step of a region that draws, and at a plain list. The document's Parse of the empty text. The document's trees of the empty node. The document's Compile of the empty node. A rule's name: the document's look at it. Slices' values. Footprints that share no block. -/
import Derived.Test.YtmhojaiajhdlcaaGreatMb2
import Derived.Test.YtmhojaiajhdlcaaGreatRows
import Derived.Deep.RegionLaw
import Derived.Laws.IdiomStrings
import Derived.Deep.CutBlock
import Derived.Deep.DeepCutAuto
import Derived.Test.YtmhojaiajhdlcaaGreatMb1
namespace Go.Proofs.YtmhojaiajhdlcaaGreat
open Go.RowKit
set_option linter.unusedSimpArgs false
set_option linter.unusedVariables false
theorem infoRec : (Tryz.prog.info? 27).map (·.size) = some 15 := by kernel_rfl
/-- A block written whole. -/
theorem blk_row {w : World} {b : Nat} {e : TypeId} {xs : List Value} (h : Blk w b e xs) (ys : List Value) : Blk (w.setRow b ys.toArray) b e ys := setRow_heap w b xs.toArray ys.toArray e _ h
theorem upd_row (w : World) (b : Nat) (C : Array Value) : Upd [b] w (w.setRow b C) := ⟨rfl, rfl, rfl, by simp, fun k _ hk => setRow_other w b k _ (by simpa using hk)⟩
/-- While a record is read: the reader, the record so far, the result's block. -/
structure GS (w0 W : World) (g : Nat) (v : Value) (B : List UInt8) (s : RSt) (gx : Nat) (xs : List Value) : Prop where
  rdr : RdrAt 165 (w0.heap.size + 1) W g v B s
  x : Blk W gx 27 xs
  lt : g < gx
  ltv : ∀ y ∈ blk v, y < gx
  res : Blk W w0.heap.size 27 [.int .i64 0, .int .i64 0, .int .i64 0, .string ⟨#[]⟩, .int .i64 0, .int .i64 0, .int .i64 0, .int .i64 0, .int .i64 0, .int .i64 0, .int .i64 0, .int .i64 0, .int .i64 0, .int .i64 0, .int .i64 0]
  old : Upd [] w0 W
section
variable {w0 W : World} {g : Nat} {v : Value} {B : List UInt8} {s : RSt} {gx : Nat} {xs : List Value}
theorem GS.start {w2 : World} (hr : RdrAt 165 (w0.heap.size + 1) w2 g v B (0, 0)) (hu : Upd [] (w0.alloc (.cells #[.int .i64 0, .int .i64 0, .int .i64 0, .string ⟨#[]⟩, .int .i64 0, .int .i64 0, .int .i64 0, .int .i64 0, .int .i64 0, .int .i64 0, .int .i64 0, .int .i64 0, .int .i64 0, .int .i64 0, .int .i64 0] 27)) w2) : GS w0 (w2.alloc (.cells #[.int .i64 0, .int .i64 0, .int .i64 0, .string ⟨#[]⟩, .int .i64 0, .int .i64 0, .int .i64 0, .int .i64 0, .int .i64 0, .int .i64 0, .int .i64 0, .int .i64 0, .int .i64 0, .int .i64 0, .int .i64 0] 27)) g v B (0, 0) w2.heap.size [.int .i64 0, .int .i64 0, .int .i64 0, .string ⟨#[]⟩, .int .i64 0, .int .i64 0, .int .i64 0, .int .i64 0, .int .i64 0, .int .i64 0, .int .i64 0, .int .i64 0, .int .i64 0, .int .i64 0, .int .i64 0] := by
  have hua : Upd [] w2 (w2.alloc (.cells #[.int .i64 0, .int .i64 0, .int .i64 0, .string ⟨#[]⟩, .int .i64 0, .int .i64 0, .int .i64 0, .int .i64 0, .int .i64 0, .int .i64 0, .int .i64 0, .int .i64 0, .int .i64 0, .int .i64 0, .int .i64 0] 27)) := (Upd.refl [] w2).alloc _
  exact ⟨hr.upd hua, Blk.new w2 _ [.int .i64 0, .int .i64 0, .int .i64 0, .string ⟨#[]⟩, .int .i64 0, .int .i64 0, .int .i64 0, .int .i64 0, .int .i64 0, .int .i64 0, .int .i64 0, .int .i64 0, .int .i64 0, .int .i64 0, .int .i64 0], hr.cells.lt, fun y hy => (hr.own.ge y hy).2, ((Blk.new w0 27 [.int .i64 0, .int .i64 0, .int .i64 0, .string ⟨#[]⟩, .int .i64 0, .int .i64 0, .int .i64 0, .int .i64 0, .int .i64 0, .int .i64 0, .int .i64 0, .int .i64 0, .int .i64 0, .int .i64 0, .int .i64 0]).upd hu (by simp)).upd hua (by simp), (((Upd.refl [] w0).alloc _).seq hu).seq hua⟩
theorem GS.set (h : GS w0 W g v B s gx xs) (i : Nat) (u : Value) : GS w0 (W.setCell ⟨gx, i, none⟩ u) g v B s gx (xs.set i u) := by
  have hu : Upd [gx] W (W.setCell ⟨gx, i, none⟩ u) := (Upd.refl [gx] W).setCell _ _ (.inl (by simp))
  have hlt := h.lt
  have hgb := h.rdr.gb
  exact ⟨⟨h.rdr.cells.upd hu (by simp; omega), h.rdr.own.upd hu (fun y hy hy' => by simp at hy'; subst hy'; exact absurd (h.ltv _ hy) (Nat.lt_irrefl _)), h.rdr.gb, h.rdr.at_, h.rdr.er, h.rdr.sz⟩, h.x.set_ i u, hlt, h.ltv, h.res.upd hu (by simp; omega), h.old.trans hu (by simp) (fun y hy => .inr (by simp at hy; subst hy; omega))⟩
theorem GS.rd {W' : World} {s' : RSt} (h : GS w0 W g v B s gx xs) (hr : RdrAt 165 (w0.heap.size + 1) W' g v B s') (hu : Upd [g] W W') : GS w0 W' g v B s' gx xs := by
  have hlt := h.lt
  have hgb := h.rdr.gb
  exact ⟨hr, h.x.upd hu (by simp; omega), hlt, h.ltv, h.res.upd hu (by simp; omega), h.old.trans hu (by simp) (fun y hy => .inr (by simp at hy; subst hy; omega))⟩
theorem gs_num {n : Nat} {s' : RSt} (h : GS w0 W g v B s gx xs) (hp : rdNum B s = (n, s')) :
    Calls Tryz.prog 50 #[.pointer (some ⟨g, 0, none⟩)] W fun e w' => e = .returned (.int .i64 (n : Int)) ∧ GS w0 w' g v B s' gx xs := by
  refine (rNum_any W h.rdr).mono ?_
  rw [hp]
  rintro e w' ⟨rfl, hr, hu⟩
  exact ⟨rfl, h.rd hr hu⟩
theorem gs_text {t : List UInt8} {s' : RSt} (h : GS w0 W g v B s gx xs) (hp : rdText B 32 s = (t, s')) :
    Calls Tryz.prog 51 #[.pointer (some ⟨g, 0, none⟩), .int .i64 32] W fun e w' => e = .returned (.string (strOf t)) ∧ GS w0 w' g v B s' gx xs := by
  refine (rText_any W 32 ⟨by omega, by omega⟩ h.rdr).mono ?_
  rw [hp]
  rintro e w' ⟨rfl, hr, hu⟩
  exact ⟨rfl, h.rd hr hu⟩
theorem gs_end (h : GS w0 W g v B s gx xs) :
    Calls Tryz.prog 52 #[.pointer (some ⟨g, 0, none⟩)] W fun e w' => e = .returned (.int .i64 ((rdEnd B s).2 : Int)) ∧ GS w0 w' g v B (rdEnd B s) gx xs := by
  refine (rEnd_any W h.rdr).mono ?_
  rintro e w' ⟨rfl, hr, hu⟩
  exact ⟨rfl, h.rd hr hu⟩
end
/-- The record so far, while its places are read. -/
abbrev gsCells (na nb_ nc : Nat) (t : List UInt8) (nk : Nat) (l : List Int) : List Value := .int .i64 na :: .int .i64 nb_ :: .int .i64 nc :: .string (strOf t) :: .int .i64 nk :: (l.map iv ++ List.replicate (10 - l.length) (.int .i64 0))
theorem gsCells_set (na nb_ nc : Nat) (t : List UInt8) (nk : Nat) (l : List Int) (d : Int) (h : l.length < 10) : (gsCells na nb_ nc t nk l).set (5 + l.length) (.int .i64 d) = gsCells na nb_ nc t nk (l ++ [d]) := by
  obtain ⟨m, hm⟩ : ∃ m, 10 - l.length = m + 1 := ⟨9 - l.length, by omega⟩
  have hm2 : 10 - (l ++ [d]).length = m := by rw [List.length_append, List.length_singleton]; omega
  unfold gsCells
  rw [hm, hm2, show 5 + l.length = l.length + 5 by omega]
  simp only [List.set_cons_succ]
  rw [List.set_append_right _ _ (by simp)]
  simp [List.replicate_succ]
set_option maxRecDepth 20000 in
set_option maxHeartbeats 8000000 in
theorem ledGet_any (w : World) (u : Value) (B : List UInt8) (h : Bytes w u B) (hz : B.length ≤ 140737488351232) :
    Calls Tryz.prog 10 #[u] w fun e w' => e = .returned (.tuple #[recVal (getRec B).1, .bool (getRec B).2]) ∧ Upd [] w w' := by
  have hu0 : Upd [] w (w.alloc (.cells #[.int .i64 0, .int .i64 0, .int .i64 0, .string ⟨#[]⟩, .int .i64 0, .int .i64 0, .int .i64 0, .int .i64 0, .int .i64 0, .int .i64 0, .int .i64 0, .int .i64 0, .int .i64 0, .int .i64 0, .int .i64 0] 27)) := (Upd.refl [] w).alloc _
  have H := Lib.hid (h.upd0 hu0)
  obtain ⟨ua, uc, rfl, -⟩ := h
  obtain ⟨na, sa, hA⟩ : ∃ n s, rdA B = (n, s) := ⟨_, _, rfl⟩
  obtain ⟨nb_, sb, hB⟩ : ∃ n s, rdB B = (n, s) := ⟨_, _, rfl⟩
  obtain ⟨nc, sc, hC⟩ : ∃ n s, rdC B = (n, s) := ⟨_, _, rfl⟩
  obtain ⟨tx, st, hT⟩ : ∃ n s, rdT B = (n, s) := ⟨_, _, rfl⟩
  obtain ⟨nk, sk, hK⟩ : ∃ n s, rdK B = (n, s) := ⟨_, _, rfl⟩
  have QA : Hid (rdNum B (0, 0) = (na, sa)) := hA
  have QB : Hid (rdNum B sa = (nb_, sb)) := by have := hB; unfold rdB at this; rw [hA] at this; exact this
  have QC : Hid (rdNum B sb = (nc, sc)) := by have := hC; unfold rdC at this; rw [hB] at this; exact this
  have QT : Hid (rdText B 32 sc = (tx, st)) := by have := hT; unfold rdT at this; rw [hC] at this; exact this
  have QK : Hid (rdNum B st = (nk, sk)) := by have := hK; unfold rdK at this; rw [hT] at this; exact this
  have QX : Hid (rdX B = rdCaps B 10 sk) := by unfold Hid rdX; rw [hK]
  have QR : Hid (∀ (l : List Int) (hl : l.length = 10), (rdX B).1 = l → rawRec B = ⟨⟨na, nb_, nc, strOf tx⟩, nk, ⟨l, hl⟩⟩) := fun l hl e => by
    unfold rawRec
    rw [hA, hB, hC, hT, hK]
    exact Rec.ext' rfl rfl (Subtype.ext e)
  clear hA hB hC hT hK hu0
  go_enter Tryz.func10, Tryz.ntmps10
  go_wp2_with fail
  (with_reducible refine (rRead_any _ _ B H.out hz).mono ?_)
  rintro e w2 ⟨g, v, rfl, hr, hu2⟩
  have hr2 : RdrAt 165 (w.heap.size + 1) w2 g v B (0, 0) := by simpa using hr
  have HG0 := Lib.hid (GS.start hr2 hu2)
  clear hr hr2 hu2 H
  go_wp2_with fail
  (with_reducible refine (gs_num HG0.out QA.out).mono ?_)
  rintro e w3 ⟨rfl, h3⟩
  generalize w2.heap.size = gx at *
  have H3 := Lib.hid (h3.set 0 (.int .i64 (na : Int)))
  have f0 := h3.x.frozen 0
  have g0 := h3.x.cell 0
  simp only [List.getElem?_cons_zero, List.getElem?_cons_succ, List.set_cons_zero, List.set_cons_succ] at g0
  clear h3 HG0
  go_wp2_with fail
  (with_reducible refine (gs_num H3.out QB.out).mono ?_)
  rintro e w4 ⟨rfl, h4⟩
  have H4 := Lib.hid (h4.set 1 (.int .i64 (nb_ : Int)))
  have f1 := h4.x.frozen 1
  have g1 := h4.x.cell 1
  simp only [List.getElem?_cons_zero, List.getElem?_cons_succ, List.set_cons_zero, List.set_cons_succ] at g1
  clear h4 H3 f0 g0
  go_wp2_with fail
  (with_reducible refine (gs_num H4.out QC.out).mono ?_)
  rintro e w5 ⟨rfl, h5⟩
  have H5 := Lib.hid (h5.set 2 (.int .i64 (nc : Int)))
  have f2 := h5.x.frozen 2
  have g2 := h5.x.cell 2
  simp only [List.getElem?_cons_zero, List.getElem?_cons_succ, List.set_cons_zero, List.set_cons_succ] at g2
  clear h5 H4 f1 g1
  go_wp2_with fail
  (with_reducible refine (gs_text H5.out QT.out).mono ?_)
  rintro e w6 ⟨rfl, h6⟩
  have H6 := Lib.hid (h6.set 3 (.string (strOf tx)))
  have f3 := h6.x.frozen 3
  have g3 := h6.x.cell 3
  simp only [List.getElem?_cons_zero, List.getElem?_cons_succ, List.set_cons_zero, List.set_cons_succ] at g3
  clear h6 H5 f2 g2
  go_wp2_with fail
  (with_reducible refine (gs_num H6.out QK.out).mono ?_)
  rintro e w7 ⟨rfl, h7⟩
  have H7 := Lib.hid (h7.set 4 (.int .i64 (nk : Int)))
  have f4 := h7.x.frozen 4
  have g4 := h7.x.cell 4
  simp only [List.getElem?_cons_zero, List.getElem?_cons_succ, List.set_cons_zero, List.set_cons_succ] at g4
  clear h7 H6 f3 g3
  go_wp2_with fail
  go_loopw [28] (fun i wr => ∃ k : Nat, k ≤ 10 ∧ i = .int .i64 k ∧ Hid (GS w wr g v B (rdCaps B k sk).2 gx (gsCells na nb_ nc tx nk (rdCaps B k sk).1))) (fun i _ => 10 - (intOf i).toNat)
  case atStart => exact ⟨0, Nat.zero_le _, rfl, H7.out⟩
  case round =>
    obtain ⟨k, hk, rfl, hg⟩ := hrel
    clear H7 f4 g4
    by_cases hlt : k < 10
    · have q0 : (0 : Int) ≤ k := by omega
      have q1 : (k : Int) < 10 := by omega
      obtain ⟨d, s', hd⟩ : ∃ n s, rdNum B (rdCaps B k sk).2 = (n, s) := ⟨_, _, rfl⟩
      have HD := Lib.hid hd
      have hlen := rdCaps_len B k sk
      have HS : Hid (rdCaps B (k + 1) sk = ((rdCaps B k sk).1 ++ [(d : Int) - 1], s')) := by
        unfold Hid
        show ((rdCaps B k sk).1 ++ [((rdNum B (rdCaps B k sk).2).1 : Int) - 1], (rdNum B (rdCaps B k sk).2).2) = _
        rw [hd]
      have hdl : d < 9223372036854775808 := by
        have h1 := rdNum_le B (rdCaps B k sk).2 hg.out.rdr.at_ hg.out.rdr.er
        rw [hd] at h1; exact h1.1
      have HC : Hid ((gsCells na nb_ nc tx nk (rdCaps B k sk).1).set (5 + k) (.int .i64 ((d : Int) - 1)) = gsCells na nb_ nc tx nk ((rdCaps B k sk).1 ++ [(d : Int) - 1])) := by
        have := gsCells_set na nb_ nc tx nk (rdCaps B k sk).1 ((d : Int) - 1) (by rw [hlen]; exact hlt)
        rw [hlen] at this; exact this
      have hwr : IntKind.i64.wrap ((d : Int) - 1) = (d : Int) - 1 := by rw [IntKind.wrap_i64]; omega
      clear hd hlen hdl
      go_wp2_with fail
      (with_reducible refine (gs_num hg.out HD.out).mono ?_)
      rintro e w8 ⟨rfl, h8⟩
      have f5 := h8.x.frozen (5 + k)
      obtain ⟨u5, g5⟩ : ∃ u, w8.cell? ⟨gx, 5 + k, none⟩ = some u := by
        rw [h8.x.cell]
        exact ⟨_, List.getElem?_eq_getElem (by have := rdCaps_len B k sk; simp [this]; omega)⟩
      have H8 := Lib.hid (h8.set (5 + k) (.int .i64 ((d : Int) - 1)))
      rw [HC.out] at H8
      clear h8 hg
      go_wp2_with fail
      go_roundw
      case rel => exact ⟨k + 1, by omega, by go_num, by unfold Hid; rw [HS.out]; exact H8.out⟩
      case measure => simp [intOf]; omega
    · obtain rfl : k = 10 := by omega
      obtain ⟨l, sx, hX⟩ : ∃ l s, rdCaps B 10 sk = (l, s) := ⟨_, _, rfl⟩
      have hl : l.length = 10 := by have := rdCaps_len B 10 sk; rw [hX] at this; exact this
      have QX2 : Hid (rdX B = (l, sx)) := by unfold Hid; rw [QX.out, hX]
      rw [hX] at hg
      obtain ⟨x0, x1, x2, x3, x4, x5, x6, x7, x8, x9, rfl⟩ := ten hl
      have HR : Hid (rawRec B = mkRec na nb_ nc (strOf tx) nk x0 x1 x2 x3 x4 x5 x6 x7 x8 x9) := QR.out _ rfl (by rw [QX2.out])
      have HG : Hid (GS w wr g v B sx gx [.int .i64 (na : Int), .int .i64 (nb_ : Int), .int .i64 (nc : Int), .string (strOf tx), .int .i64 (nk : Int), .int .i64 x0, .int .i64 x1, .int .i64 x2, .int .i64 x3, .int .i64 x4, .int .i64 x5, .int .i64 x6, .int .i64 x7, .int .i64 x8, .int .i64 x9]) := hg.out
      have HE : Hid (getRec B = if (rdEnd B sx).2 = 0 ∧ recOk (mkRec na nb_ nc (strOf tx) nk x0 x1 x2 x3 x4 x5 x6 x7 x8 x9) = true then (mkRec na nb_ nc (strOf tx) nk x0 x1 x2 x3 x4 x5 x6 x7 x8 x9, true) else (rz, false)) := by
        unfold Hid getRec; rw [HR.out, QX2.out]
      clear hX hl hg
      go_wp2_with fail
      (with_reducible refine (gs_end HG.out).mono ?_)
      rintro e w9 ⟨rfl, h9⟩
      have H9 := Lib.hid h9
      obtain ⟨er, her⟩ : ∃ er, (rdEnd B sx).2 = er := ⟨_, rfl⟩
      have HER := Lib.hid her
      rw [her]
      clear h9 HG her
      by_cases hz0 : er = 0
      · subst hz0
        have d0 := H9.out.x.cell 0
        have d1 := H9.out.x.cell 1
        have d2 := H9.out.x.cell 2
        have d3 := H9.out.x.cell 3
        have d4 := H9.out.x.cell 4
        have d5 := H9.out.x.cell 5
        have d6 := H9.out.x.cell 6
        have d7 := H9.out.x.cell 7
        have d8 := H9.out.x.cell 8
        have d9 := H9.out.x.cell 9
        have d10 := H9.out.x.cell 10
        have d11 := H9.out.x.cell 11
        have d12 := H9.out.x.cell 12
        have d13 := H9.out.x.cell 13
        have d14 := H9.out.x.cell 14
        simp only [List.getElem?_cons_zero, List.getElem?_cons_succ] at d0 d1 d2 d3 d4 d5 d6 d7 d8 d9 d10 d11 d12 d13 d14
        cases hok : recOk (mkRec na nb_ nc (strOf tx) nk x0 x1 x2 x3 x4 x5 x6 x7 x8 x9) with
        | true =>
          have HGR : Hid (getRec B = (mkRec na nb_ nc (strOf tx) nk x0 x1 x2 x3 x4 x5 x6 x7 x8 x9, true)) := by unfold Hid; rw [HE.out, if_pos ⟨HER.out, hok⟩]
          have HOK := Lib.hid hok
          clear hok
          go_wp2_with fail
          (with_reducible refine (ledRight_c _ na nb_ nc (strOf tx) nk x0 x1 x2 x3 x4 x5 x6 x7 x8 x9).mono ?_)
          rw [HOK.out]
          rintro e w10 ⟨rfl, hu10⟩
          have d0 := (H9.out.x.upd hu10 (by simp)).cell 0
          have d1 := (H9.out.x.upd hu10 (by simp)).cell 1
          have d2 := (H9.out.x.upd hu10 (by simp)).cell 2
          have d3 := (H9.out.x.upd hu10 (by simp)).cell 3
          have d4 := (H9.out.x.upd hu10 (by simp)).cell 4
          have d5 := (H9.out.x.upd hu10 (by simp)).cell 5
          have d6 := (H9.out.x.upd hu10 (by simp)).cell 6
          have d7 := (H9.out.x.upd hu10 (by simp)).cell 7
          have d8 := (H9.out.x.upd hu10 (by simp)).cell 8
          have d9 := (H9.out.x.upd hu10 (by simp)).cell 9
          have d10 := (H9.out.x.upd hu10 (by simp)).cell 10
          have d11 := (H9.out.x.upd hu10 (by simp)).cell 11
          have d12 := (H9.out.x.upd hu10 (by simp)).cell 12
          have d13 := (H9.out.x.upd hu10 (by simp)).cell 13
          have d14 := (H9.out.x.upd hu10 (by simp)).cell 14
          simp only [List.getElem?_cons_zero, List.getElem?_cons_succ] at d0 d1 d2 d3 d4 d5 d6 d7 d8 d9 d10 d11 d12 d13 d14
          have HRES := Lib.hid (H9.out.res.upd hu10 (by simp))
          have HOLD := Lib.hid (H9.out.old.seq hu10)
          have hgx : w.heap.size < gx := by have := H9.out.lt; have := H9.out.rdr.gb; omega
          clear hu10 H9
          go_wp2_with (first | ((refine wpList_store_row rfl 27 (.tmp 2) (.tmp 47) rfl w.heap.size #[.int .i64 (na : Int), .int .i64 (nb_ : Int), .int .i64 (nc : Int), .string (strOf tx), .int .i64 (nk : Int), .int .i64 x0, .int .i64 x1, .int .i64 x2, .int .i64 x3, .int .i64 x4, .int .i64 x5, .int .i64 x6, .int .i64 x7, .int .i64 x8, .int .i64 x9] rfl rfl 27 #[.int .i64 0, .int .i64 0, .int .i64 0, .string ⟨#[]⟩, .int .i64 0, .int .i64 0, .int .i64 0, .int .i64 0, .int .i64 0, .int .i64 0, .int .i64 0, .int .i64 0, .int .i64 0, .int .i64 0, .int .i64 0] HRES.out (by show _ = some 15; exact infoRec) rfl (by simp [Value.oneCell']) ?_)) | fail)
          have hU := HOLD.out.trans (T := []) (upd_row _ w.heap.size #[.int .i64 (na : Int), .int .i64 (nb_ : Int), .int .i64 (nc : Int), .string (strOf tx), .int .i64 (nk : Int), .int .i64 x0, .int .i64 x1, .int .i64 x2, .int .i64 x3, .int .i64 x4, .int .i64 x5, .int .i64 x6, .int .i64 x7, .int .i64 x8, .int .i64 x9]) (by simp) (fun y hy => .inr (by simp at hy; omega))
          have HB := Lib.hid (blk_row HRES.out [.int .i64 (na : Int), .int .i64 (nb_ : Int), .int .i64 (nc : Int), .string (strOf tx), .int .i64 (nk : Int), .int .i64 x0, .int .i64 x1, .int .i64 x2, .int .i64 x3, .int .i64 x4, .int .i64 x5, .int .i64 x6, .int .i64 x7, .int .i64 x8, .int .i64 x9])
          have e0 := HB.out.cell 0
          have e1 := HB.out.cell 1
          have e2 := HB.out.cell 2
          have e3 := HB.out.cell 3
          have e4 := HB.out.cell 4
          have e5 := HB.out.cell 5
          have e6 := HB.out.cell 6
          have e7 := HB.out.cell 7
          have e8 := HB.out.cell 8
          have e9 := HB.out.cell 9
          have e10 := HB.out.cell 10
          have e11 := HB.out.cell 11
          have e12 := HB.out.cell 12
          have e13 := HB.out.cell 13
          have e14 := HB.out.cell 14
          simp only [List.getElem?_cons_zero, List.getElem?_cons_succ] at e0 e1 e2 e3 e4 e5 e6 e7 e8 e9 e10 e11 e12 e13 e14
          clear HB HRES HOLD
          generalize World.setRow _ _ _ = W at *
          rw [HGR.out]
          exact bodyPost_ret (v := .tuple #[mkVal na nb_ nc (strOf tx) nk x0 x1 x2 x3 x4 x5 x6 x7 x8 x9, .bool true]) (by simp [results, Tryz.results10, go_sem, e0, e1, e2, e3, e4, e5, e6, e7, e8, e9, e10, e11, e12, e13, e14]; try rfl) rfl ⟨rfl, hU⟩
        | false =>
          have HGR : Hid (getRec B = (rz, false)) := by unfold Hid; rw [HE.out, if_neg (fun q => by rw [hok] at q; exact absurd q.2 (by simp))]
          have HOK := Lib.hid hok
          clear hok
          go_wp2_with fail
          (with_reducible refine (ledRight_c _ na nb_ nc (strOf tx) nk x0 x1 x2 x3 x4 x5 x6 x7 x8 x9).mono ?_)
          rw [HOK.out]
          rintro e w10 ⟨rfl, hu10⟩
          have d0 := (H9.out.x.upd hu10 (by simp)).cell 0
          have d1 := (H9.out.x.upd hu10 (by simp)).cell 1
          have d2 := (H9.out.x.upd hu10 (by simp)).cell 2
          have d3 := (H9.out.x.upd hu10 (by simp)).cell 3
          have d4 := (H9.out.x.upd hu10 (by simp)).cell 4
          have d5 := (H9.out.x.upd hu10 (by simp)).cell 5
          have d6 := (H9.out.x.upd hu10 (by simp)).cell 6
          have d7 := (H9.out.x.upd hu10 (by simp)).cell 7
          have d8 := (H9.out.x.upd hu10 (by simp)).cell 8
          have d9 := (H9.out.x.upd hu10 (by simp)).cell 9
          have d10 := (H9.out.x.upd hu10 (by simp)).cell 10
          have d11 := (H9.out.x.upd hu10 (by simp)).cell 11
          have d12 := (H9.out.x.upd hu10 (by simp)).cell 12
          have d13 := (H9.out.x.upd hu10 (by simp)).cell 13
          have d14 := (H9.out.x.upd hu10 (by simp)).cell 14
          simp only [List.getElem?_cons_zero, List.getElem?_cons_succ] at d0 d1 d2 d3 d4 d5 d6 d7 d8 d9 d10 d11 d12 d13 d14
          have HRES := Lib.hid (H9.out.res.upd hu10 (by simp))
          have HOLD := Lib.hid (H9.out.old.seq hu10)
          have hgx : w.heap.size < gx := by have := H9.out.lt; have := H9.out.rdr.gb; omega
          clear hu10 H9
          go_wp2_with (first | ((refine wpList_store_row rfl 27 (.tmp 2) (.tmp 46) rfl w.heap.size #[.int .i64 0, .int .i64 0, .int .i64 0, .string ⟨#[]⟩, .int .i64 0, .int .i64 0, .int .i64 0, .int .i64 0, .int .i64 0, .int .i64 0, .int .i64 0, .int .i64 0, .int .i64 0, .int .i64 0, .int .i64 0] rfl rfl 27 #[.int .i64 0, .int .i64 0, .int .i64 0, .string ⟨#[]⟩, .int .i64 0, .int .i64 0, .int .i64 0, .int .i64 0, .int .i64 0, .int .i64 0, .int .i64 0, .int .i64 0, .int .i64 0, .int .i64 0, .int .i64 0] HRES.out (by show _ = some 15; exact infoRec) rfl (by simp [Value.oneCell']) ?_)) | fail)
          have hU := HOLD.out.trans (T := []) (upd_row _ w.heap.size #[.int .i64 0, .int .i64 0, .int .i64 0, .string ⟨#[]⟩, .int .i64 0, .int .i64 0, .int .i64 0, .int .i64 0, .int .i64 0, .int .i64 0, .int .i64 0, .int .i64 0, .int .i64 0, .int .i64 0, .int .i64 0]) (by simp) (fun y hy => .inr (by simp at hy; omega))
          have HB := Lib.hid (blk_row HRES.out [.int .i64 0, .int .i64 0, .int .i64 0, .string ⟨#[]⟩, .int .i64 0, .int .i64 0, .int .i64 0, .int .i64 0, .int .i64 0, .int .i64 0, .int .i64 0, .int .i64 0, .int .i64 0, .int .i64 0, .int .i64 0])
          have e0 := HB.out.cell 0
          have e1 := HB.out.cell 1
          have e2 := HB.out.cell 2
          have e3 := HB.out.cell 3
          have e4 := HB.out.cell 4
          have e5 := HB.out.cell 5
          have e6 := HB.out.cell 6
          have e7 := HB.out.cell 7
          have e8 := HB.out.cell 8
          have e9 := HB.out.cell 9
          have e10 := HB.out.cell 10
          have e11 := HB.out.cell 11
          have e12 := HB.out.cell 12
          have e13 := HB.out.cell 13
          have e14 := HB.out.cell 14
          simp only [List.getElem?_cons_zero, List.getElem?_cons_succ] at e0 e1 e2 e3 e4 e5 e6 e7 e8 e9 e10 e11 e12 e13 e14
          clear HB HRES HOLD
          generalize World.setRow _ _ _ = W at *
          rw [HGR.out]
          exact bodyPost_ret (v := .tuple #[mkVal 0 0 0 ⟨#[]⟩ 0 0 0 0 0 0 0 0 0 0 0, .bool false]) (by simp [results, Tryz.results10, go_sem, e0, e1, e2, e3, e4, e5, e6, e7, e8, e9, e10, e11, e12, e13, e14]; try rfl) rfl ⟨rfl, hU⟩
      · have HGR : Hid (getRec B = (rz, false)) := by unfold Hid; rw [HE.out, if_neg (fun q => hz0 (by rw [← HER.out]; exact q.1))]
        have ez : ((er : Int) != 0) = true := by rw [bne_iff_ne]; omega
        have w10_ : Hid (GS w w9 g v B (rdEnd B sx) gx [.int .i64 (na : Int), .int .i64 (nb_ : Int), .int .i64 (nc : Int), .string (strOf tx), .int .i64 (nk : Int), .int .i64 x0, .int .i64 x1, .int .i64 x2, .int .i64 x3, .int .i64 x4, .int .i64 x5, .int .i64 x6, .int .i64 x7, .int .i64 x8, .int .i64 x9]) := H9
        obtain ⟨w10, hw10⟩ : ∃ W, w9 = W := ⟨_, rfl⟩
        have hu10 : Upd [] w9 w10 := by rw [hw10]; exact Upd.refl _ _
        subst hw10
        have d0 := (H9.out.x.upd hu10 (by simp)).cell 0
        have d1 := (H9.out.x.upd hu10 (by simp)).cell 1
        have d2 := (H9.out.x.upd hu10 (by simp)).cell 2
        have d3 := (H9.out.x.upd hu10 (by simp)).cell 3
        have d4 := (H9.out.x.upd hu10 (by simp)).cell 4
        have d5 := (H9.out.x.upd hu10 (by simp)).cell 5
        have d6 := (H9.out.x.upd hu10 (by simp)).cell 6
        have d7 := (H9.out.x.upd hu10 (by simp)).cell 7
        have d8 := (H9.out.x.upd hu10 (by simp)).cell 8
        have d9 := (H9.out.x.upd hu10 (by simp)).cell 9
        have d10 := (H9.out.x.upd hu10 (by simp)).cell 10
        have d11 := (H9.out.x.upd hu10 (by simp)).cell 11
        have d12 := (H9.out.x.upd hu10 (by simp)).cell 12
        have d13 := (H9.out.x.upd hu10 (by simp)).cell 13
        have d14 := (H9.out.x.upd hu10 (by simp)).cell 14
        simp only [List.getElem?_cons_zero, List.getElem?_cons_succ] at d0 d1 d2 d3 d4 d5 d6 d7 d8 d9 d10 d11 d12 d13 d14
        have HRES := Lib.hid (H9.out.res.upd hu10 (by simp))
        have HOLD := Lib.hid (H9.out.old.seq hu10)
        have hgx : w.heap.size < gx := by have := H9.out.lt; have := H9.out.rdr.gb; omega
        clear hu10 H9
        clear hz0
        go_wp2_with (first | ((refine wpList_store_row rfl 27 (.tmp 2) (.tmp 46) rfl w.heap.size #[.int .i64 0, .int .i64 0, .int .i64 0, .string ⟨#[]⟩, .int .i64 0, .int .i64 0, .int .i64 0, .int .i64 0, .int .i64 0, .int .i64 0, .int .i64 0, .int .i64 0, .int .i64 0, .int .i64 0, .int .i64 0] rfl rfl 27 #[.int .i64 0, .int .i64 0, .int .i64 0, .string ⟨#[]⟩, .int .i64 0, .int .i64 0, .int .i64 0, .int .i64 0, .int .i64 0, .int .i64 0, .int .i64 0, .int .i64 0, .int .i64 0, .int .i64 0, .int .i64 0] HRES.out (by show _ = some 15; exact infoRec) rfl (by simp [Value.oneCell']) ?_)) | fail)
        have hU := HOLD.out.trans (T := []) (upd_row _ w.heap.size #[.int .i64 0, .int .i64 0, .int .i64 0, .string ⟨#[]⟩, .int .i64 0, .int .i64 0, .int .i64 0, .int .i64 0, .int .i64 0, .int .i64 0, .int .i64 0, .int .i64 0, .int .i64 0, .int .i64 0, .int .i64 0]) (by simp) (fun y hy => .inr (by simp at hy; omega))
        have HB := Lib.hid (blk_row HRES.out [.int .i64 0, .int .i64 0, .int .i64 0, .string ⟨#[]⟩, .int .i64 0, .int .i64 0, .int .i64 0, .int .i64 0, .int .i64 0, .int .i64 0, .int .i64 0, .int .i64 0, .int .i64 0, .int .i64 0, .int .i64 0])
        have e0 := HB.out.cell 0
        have e1 := HB.out.cell 1
        have e2 := HB.out.cell 2
        have e3 := HB.out.cell 3
        have e4 := HB.out.cell 4
        have e5 := HB.out.cell 5
        have e6 := HB.out.cell 6
        have e7 := HB.out.cell 7
        have e8 := HB.out.cell 8
        have e9 := HB.out.cell 9
        have e10 := HB.out.cell 10
        have e11 := HB.out.cell 11
        have e12 := HB.out.cell 12
        have e13 := HB.out.cell 13
        have e14 := HB.out.cell 14
        simp only [List.getElem?_cons_zero, List.getElem?_cons_succ] at e0 e1 e2 e3 e4 e5 e6 e7 e8 e9 e10 e11 e12 e13 e14
        clear HB HRES HOLD
        generalize World.setRow _ _ _ = W at *
        rw [HGR.out]
        exact bodyPost_ret (v := .tuple #[mkVal 0 0 0 ⟨#[]⟩ 0 0 0 0 0 0 0 0 0 0 0, .bool false]) (by simp [results, Tryz.results10, go_sem, e0, e1, e2, e3, e4, e5, e6, e7, e8, e9, e10, e11, e12, e13, e14]; try rfl) rfl ⟨rfl, hU⟩
end Go.Proofs.YtmhojaiajhdlcaaGreat
namespace Go.Proofs.YtmhojaiajhdlcaaGreat
open Go.RowKit
set_option linter.unusedSimpArgs false
set_option linter.unusedVariables false
theorem flatMap_at {α : Type} [Inhabited α] {sz : Nat} {c : α → List Value} (hsz : ∀ x, (c x).length = sz) (hpos : 0 < sz) (l : List α) (k : Nat) (u : Value) (h : (l.flatMap c)[k]? = some u) :
    k / sz < l.length ∧ (c (nth l (k / sz)))[k % sz]? = some u := by
  have hk := (List.getElem?_eq_some_iff.1 h).1
  rw [flatMap_len hsz] at hk
  have h1 : k / sz < l.length := Nat.div_lt_of_lt_mul (by rw [Nat.mul_comm]; exact hk)
  refine ⟨h1, ?_⟩
  have h2 := flatMap_get hsz l (k / sz) (k % sz) h1 (Nat.mod_lt _ hpos)
  rw [Nat.mul_comm, Nat.div_add_mod] at h2
  rw [← h2, h]
theorem madeCells_flat {α : Type} [Inhabited α] {sz : Nat} {c : α → List Value} (hsz : ∀ x, (c x).length = sz) (hpos : 0 < sz) (z : Array Value) (x : α) (hz : z.toList = c x) (n : Nat) : madeCells z (n * sz) = ((List.replicate n x).flatMap c).toArray := by
  have hzs : z.size = sz := by rw [← Array.length_toList, hz, hsz]
  apply Array.toList_inj.1
  apply List.ext_getElem?
  intro j
  have hrep : ((List.replicate n x).flatMap c).length = n * sz := by rw [flatMap_len hsz, List.length_replicate]
  by_cases hj : j < n * sz
  · have h1 : j / sz < (List.replicate n x).length := by rw [List.length_replicate]; exact Nat.div_lt_of_lt_mul (by rw [Nat.mul_comm]; exact hj)
    have h2 := flatMap_get hsz (List.replicate n x) (j / sz) (j % sz) h1 (Nat.mod_lt _ hpos)
    rw [Nat.mul_comm, Nat.div_add_mod] at h2
    show (madeCells z (n * sz)).toList[j]? = ((List.replicate n x).flatMap c)[j]?
    rw [h2, nth_replicate n x _ (by simpa using h1), ← hz]
    have hm : j % sz < z.size := by rw [hzs]; exact Nat.mod_lt _ hpos
    simp only [madeCells, Array.toList_map, Array.toList_range, List.getElem?_map, List.getElem?_range hj, Option.map_some, hzs]
    rw [getElem!_pos z _ hm]; simp [hm]
  · rw [List.getElem?_eq_none (by simp [madeCells]; omega), List.getElem?_eq_none (by simp only [hrep]; omega)]
theorem blk_slice (ao : Option Addr) (n k n' k' : Nat) : blk (.slice ao n k) = blk (.slice ao n' k') := by cases ao <;> rfl
theorem cells_new {W : World} {C : Array Value} {cs : List Value} {e : TypeId} {fr : Nat × Nat} {g : Nat} (hg : g = W.heap.size) (hC : C = cs.toArray) : ∀ i u, cs[i]? = some u → (W.alloc (.cells C e fr)).cell? ⟨g, i, none⟩ = some u := by
  intro i u h
  subst hg; subst hC
  rw [cell_of_row _ W.heap.size i _ e fr (heap_alloc_new W _)]
  simpa using h
theorem Blk.fresh {w W : World} {C : Array Value} {xs : List Value} {e : TypeId} {g : Nat} (hg : g = w.heap.size) (hC : C = xs.toArray) (hu : Upd [] (w.alloc (.cells C e)) W) : Blk W g e xs := by
  subst hg; subst hC; exact (Blk.new w e xs).upd hu (by simp)
section
variable {P : Program} {ops : Array Oper} {rest : List Oper} {o : Oper} {a : Act} {w w' : World} {Q : Exit → Act → World → Prop} {K : Act → World → Prop} {E : Prop}
theorem run_appN {α : Type} [Inhabited α] {sz : Nat} {c : α → List Value} (hsz : ∀ x, (c x).length = sz) (hpos : 0 < sz) (hone : ∀ x, ∀ u ∈ c x, u.oneCell' = true) {t ty e : TypeId}
    {z : Value} {bytes base : Nat} (ht : P.underlying t = some (.slice e)) (hi : (P.info? e).map (fun i => (i.zero, i.size, i.bytes)) = some (some z, sz, bytes)) (hz : z.cells.size = sz)
    (v u : Value) (l m : List α) (hv : OwnN sz c base e w v l) (hu : RdN sz c w u m) (hb : (l.length + m.length) * bytes ≤ 140737488355328) (hl : l.length + m.length ≤ maxLen) (hbase : base ≤ w.heap.size) :
    ∃ v' w', (Builtin.append_ #[t, t] ty #[v, u]).run P w = .ok v' w' ∧ OwnN sz c base e w' v' (l ++ m) ∧ Upd (blk v) w w' ∧ (∀ x ∈ blk v', x ∈ blk v ∨ w.heap.size ≤ x) := by
  obtain ⟨i, h1, h2, h3, h4⟩ := info_parts hi
  obtain ⟨A, cap, rfl, hle, hcm, hcell0⟩ := hu
  by_cases hne : m = []
  · subst hne
    have hsz' : (P.info? e).map (·.size) = some sz := by simp [h1, h3]
    obtain ⟨ao, n, k, rfl, hnk⟩ : ∃ ao n k, v = .slice ao n k ∧ n ≤ k := by
      rcases hv.2 with ⟨rfl, _⟩ | ⟨g, cap', cur, rfl, _, _, q, _⟩
      · exact ⟨none, 0, 0, rfl, Nat.le_refl _⟩
      · exact ⟨_, _, _, rfl, q⟩
    exact ⟨_, w, run_app_nothing ht hsz' ao A n k cap hnk, by rw [List.append_nil]; exact hv, Upd.refl _ _, fun x hx => .inl hx⟩
  · obtain ⟨b, off, rfl, hcell⟩ := hcell0 hne
    have hnews : ∀ j u, (m.flatMap c)[j]? = some u → w.cell? ((⟨b, off, none⟩ : Addr).add j) = some u := fun j u hj => by
      rw [add_none]
      obtain ⟨q1, q2⟩ := flatMap_at hsz hpos m j u hj
      have q3 := hcell (j / sz) q1 (j % sz) (Nat.mod_lt _ hpos)
      rw [Nat.mul_comm (j / sz) sz, Nat.div_add_mod] at q3
      rw [q3, q2]
    obtain ⟨v', w', hr, g1, g2, _, g3⟩ := run_append_own_at (P := P) w base t ty e i z sz bytes ht h1 h2 h3 h4 hz hpos v l.length (l.flatMap c) hv ⟨b, off, none⟩ m.length cap (m.flatMap c) (flatMap_len hsz m) hnews
      (fun u hu => by obtain ⟨x, _, hx⟩ := List.mem_flatMap.1 hu; exact hone x u hx) hl hb hbase
    have hown : OwnN sz c base e w' v' (l ++ m) := by
      unfold OwnN; rw [List.length_append, List.flatMap_append]; exact g1
    refine ⟨v', w', hr, hown, by rw [blk_own]; exact Upd.of_grown g2, ?_⟩
    intro x hx
    rw [blk_own] at hx
    rcases g3 with g3 | g3
    · rw [g3, ← blk_own] at hx; exact .inl hx
    · rw [g3] at hx; simp at hx; exact .inr (by omega)
theorem wp_app_of (s x : Operand) {t : TypeId} (ho : o.op = .call { callee := .builtin .append, args := #[s, x], argTypes := #[t, t] }) (v u : Value) (hs : a.eval s = v) (hx : a.eval x = u)
    {R : Value → World → Prop} (hr : ∃ v' w', (Builtin.append_ #[t, t] o.type #[v, u]).run P w = .ok v' w' ∧ R v' w') (h : ∀ v' w', R v' w' → K (a.put o.dst v') w') : o.wp P a w K Q := by
  obtain ⟨v', w', hr, hR⟩ := hr
  unfold Oper.wp execOp
  simp only [ho, resolve, invoke, builtin, Sem.run_bind, Sem.run_pure, Result.andThen_ok, List.map_toArray, List.map_cons, List.map_nil, hs, hx, hr]
  exact h v' w' hR
theorem wpList_app_of (hgd : o.guard = none) (s x : Operand) {t : TypeId} (ho : o.op = .call { callee := .builtin .append, args := #[s, x], argTypes := #[t, t] }) (v u : Value) (hs : a.eval s = v) (hx : a.eval x = u)
    {R : Value → World → Prop} (hr : ∃ v' w', (Builtin.append_ #[t, t] o.type #[v, u]).run P w = .ok v' w' ∧ R v' w') (h : ∀ v' w', R v' w' → wpList P ops Q rest (a.put o.dst v') w') : wpList P ops Q (o :: rest) a w :=
  wpList_plain hgd fun K hK => wp_app_of s x ho v u hs hx hr fun v' w' hR => hK _ _ (h v' w' hR)
theorem step_app_of (hgd : o.guard = none) (s x : Operand) {t : TypeId} (ho : o.op = .call { callee := .builtin .append, args := #[s, x], argTypes := #[t, t] }) (v u : Value) (hs : a.eval s = v) (hx : a.eval x = u)
    {R : Value → World → Prop} (hr : ∃ v' w', (Builtin.append_ #[t, t] o.type #[v, u]).run P w = .ok v' w' ∧ R v' w') (h : ∀ v' w', R v' w' → K (a.put o.dst v') w') :
    if Region.wanted o (yielded ops a.tmps) = true then Oper.wp P o a w K Q else E := by
  have hw : Region.wanted o (yielded ops a.tmps) = true := by simp [Region.wanted, hgd]
  rw [if_pos hw]
  exact wp_app_of s x ho v u hs hx hr h
end
end Go.Proofs.YtmhojaiajhdlcaaGreat
namespace Go.Proofs.YtmhojaiajhdlcaaGreat
open Go.RowKit
set_option linter.unusedSimpArgs false
set_option linter.unusedVariables false
/-- A slice that has one node: the empty one. -/
structure N1 (w : World) (g : Nat) : Prop where
  b : Blk w g 233 [.int .i64 1, .slice none 0 0, .int .i64 0, .int .i64 0, .bool false, .int .i64 0, .int .i64 0]
theorem N1.upd0 {w w' : World} {g : Nat} (h : N1 w g) (hu : Upd [] w w') : N1 w' g := ⟨h.b.upd hu (by simp)⟩
/-- The parser, at the empty text. -/
structure PZ (w : World) (g : Nat) (av : Value) : Prop where
  b : Blk w g 223 [.slice none 0 0, av, .int .i64 0, .int .i64 0, .int .i64 0, .int .i64 0]
theorem PZ.upd0 {w w' : World} {g : Nat} {av : Value} (h : PZ w g av) (hu : Upd [] w w') : PZ w' g av := ⟨h.b.upd hu (by simp)⟩
set_option maxRecDepth 20000 in
set_option maxHeartbeats 2000000 in
theorem rfIs_any {w : World} {g : Nat} {av : Value} (h : PZ w g av) (c : Int) : Calls Tryz.prog 152 #[.pointer (some ⟨g, 0, none⟩), .int .i32 c] w fun e w' => e = .returned (.bool false) ∧ Upd [] w w' := by
  have c0 : w.cell? ⟨g, 0, none⟩ = some (.slice none 0 0) := h.b.cell 0
  have c2 : w.cell? ⟨g, 2, none⟩ = some (.int .i64 0) := h.b.cell 2
  clear h
  go_enter Tryz.func152, Tryz.ntmps152
  go_wp2_with fail
  go_quiet (fail)
  go_wp2_with fail
  go_ret
  exact ⟨rfl, by repeat (first | exact Upd.refl _ _ | apply Upd.drew | apply Upd.drewN)⟩
set_option maxRecDepth 20000 in
set_option maxHeartbeats 2000000 in
theorem rfJoin0_any (w : World) (op : Int) : Calls Tryz.prog 153 #[.int .i64 op, .slice none 0 0] w fun e w' => ∃ g, e = .returned (.slice (some ⟨g, 0, none⟩) 1 1) ∧ N1 w' g ∧ Upd [] w w' := by
  have hb := Blk.new w 233 [.int .i64 1, .slice none 0 0, .int .i64 0, .int .i64 0, .bool false, .int .i64 0, .int .i64 0]
  have hu : Upd [] w (w.alloc (.cells #[.int .i64 1, .slice none 0 0, .int .i64 0, .int .i64 0, .bool false, .int .i64 0, .int .i64 0] 233)) := (Upd.refl [] w).alloc _
  have HB := Lib.hid hb
  have HU := Lib.hid hu
  clear hb hu
  go_enter Tryz.func153, Tryz.ntmps153
  go_wp2_with fail
  go_ret
  exact ⟨_, rfl, ⟨HB.out⟩, HU.out⟩
set_option maxRecDepth 20000 in
set_option maxHeartbeats 2000000 in
theorem rfJoin1_any (w : World) (op : Int) (v : Value) (g k : Nat) (h : w.cell? ⟨g, 0, none⟩ = some v) : Calls Tryz.prog 153 #[.int .i64 op, .slice (some ⟨g, 0, none⟩) 1 k] w fun e w' => e = .returned v ∧ w = w' := by
  go_enter Tryz.func153, Tryz.ntmps153
  go_wp2_with fail
  go_ret
  exact ⟨rfl, rfl⟩
set_option maxRecDepth 20000 in
set_option maxHeartbeats 2000000 in
theorem rfCat_any {w : World} {g : Nat} {av : Value} (h : PZ w g av) (d : Int) : Calls Tryz.prog 151 #[.pointer (some ⟨g, 0, none⟩), .int .i64 d] w fun e w' => ∃ g', e = .returned (.slice (some ⟨g', 0, none⟩) 1 1) ∧ N1 w' g' ∧ Upd [] w w' := by
  have c0 : w.cell? ⟨g, 0, none⟩ = some (.slice none 0 0) := h.b.cell 0
  have c2 : w.cell? ⟨g, 2, none⟩ = some (.int .i64 0) := h.b.cell 2
  have c4 : w.cell? ⟨g, 4, none⟩ = some (.int .i64 0) := h.b.cell 4
  clear h
  go_enter Tryz.func151, Tryz.ntmps151
  go_wp2_with fail
  go_loopw [5] (fun v wr => v = .slice none 0 0 ∧ Hid (Upd [] w wr)) (fun _ _ => 1)
  case atStart => exact ⟨rfl, Upd.refl _ _⟩
  case round =>
    obtain ⟨rfl, hu⟩ := hrel
    have d0 : wr.cell? ⟨g, 0, none⟩ = some (.slice none 0 0) := hu.out.cell c0 (by simp)
    have d2 : wr.cell? ⟨g, 2, none⟩ = some (.int .i64 0) := hu.out.cell c2 (by simp)
    have d4 : wr.cell? ⟨g, 4, none⟩ = some (.int .i64 0) := hu.out.cell c4 (by simp)
    go_wp2_with fail
    go_quiet (fail)
    go_wp2_with fail
    (with_reducible refine (rfJoin0_any _ 3).mono ?_)
    rintro e w2 ⟨g2, rfl, hn, hu2⟩
    have HN := Lib.hid hn
    have HU2 : Hid (Upd [] w w2) := hu.out.seq (Upd.seq (by repeat (first | exact Upd.refl _ _ | apply Upd.drew | apply Upd.drewN)) hu2)
    clear hn hu2 hu d0 d2 d4
    go_wp2_with fail
    go_ret
    exact ⟨_, rfl, HN.out, HU2.out⟩
set_option maxRecDepth 20000 in
set_option maxHeartbeats 2000000 in
theorem rfAlt_any {w : World} {g : Nat} {av : Value} (h : PZ w g av) (d : Int) : Calls Tryz.prog 137 #[.pointer (some ⟨g, 0, none⟩), .int .i64 d] w fun e w' => ∃ g', e = .returned (.slice (some ⟨g', 0, none⟩) 1 1) ∧ N1 w' g' ∧ Upd [] w w' := by
  have H := Lib.hid h
  clear h
  go_enter Tryz.func137, Tryz.ntmps137
  go_wp2_with fail
  (with_reducible refine (rfCat_any H.out d).mono ?_)
  rintro e w1 ⟨g1, rfl, hn, hu1⟩
  have hu2 : Upd [] w1 (w1.alloc (.cells #[.slice (some ⟨g1, 0, none⟩) 1 1] 203)) := (Upd.refl [] w1).alloc _
  have HB : Hid (Blk (w1.alloc (.cells #[.slice (some ⟨g1, 0, none⟩) 1 1] 203)) w1.heap.size 203 [.slice (some ⟨g1, 0, none⟩) 1 1]) := Blk.new w1 _ [.slice (some ⟨g1, 0, none⟩) 1 1]
  have HN := Lib.hid (hn.upd0 hu2)
  have HU := Lib.hid (Upd.seq hu1 hu2)
  clear hn hu1 hu2
  go_wp2_with fail
  generalize w1.alloc (.cells #[.slice (some ⟨g1, 0, none⟩) 1 1] 203) = w2 at *
  generalize w1.heap.size = g2 at *
  go_loopw [5] (fun v wr => v = .slice (some ⟨g2, 0, none⟩) 1 1 ∧ Hid (Upd [] w2 wr)) (fun _ _ => 1)
  case atStart => exact ⟨rfl, Upd.refl _ _⟩
  case round =>
    obtain ⟨rfl, hu⟩ := hrel
    have HP : Hid (PZ wr g av) := H.out.upd0 (Upd.seq HU.out hu.out)
    have d4 : wr.cell? ⟨g, 4, none⟩ = some (.int .i64 0) := HP.out.b.cell 4
    go_wp2_with fail
    (with_reducible refine (rfIs_any HP.out 124).mono ?_)
    rintro e w3 ⟨rfl, hu3⟩
    have e2 : w3.cell? ⟨g2, 0, none⟩ = some (.slice (some ⟨g1, 0, none⟩) 1 1) := (Upd.seq hu.out hu3).cell (HB.out.cell 0) (by simp)
    have HN3 := Lib.hid (HN.out.upd0 (Upd.seq hu.out hu3))
    have HU3 := Lib.hid (Upd.seq HU.out (Upd.seq hu.out hu3))
    clear hu hu3 HP d4
    go_wp2_with fail
    (with_reducible refine (rfJoin1_any _ 4 _ g2 1 e2).mono ?_)
    rintro e w4 ⟨rfl, rfl⟩
    go_wp2_with fail
    go_ret
    exact ⟨_, rfl, HN3.out, HU3.out⟩
theorem undIntsP : Tryz.prog.underlying 90 = some (.slice 3) := by kernel_rfl
theorem infoIntP : (Tryz.prog.info? 3).map (fun i => (i.zero, i.size, i.bytes)) = some (some (.int .i64 0), 1, 8) := by kernel_rfl
abbrev ivs (x : Int) : List Value := [.int .i64 x]
theorem app_int0 (W : World) (g : Nat) (hg : W.cell? ⟨g, 0, none⟩ = some (.int .i64 0)) : ∃ v' w', (Builtin.append_ #[90, 90] 90 #[.slice none 0 0, .slice (some ⟨g, 0, none⟩) 1 1]).run Tryz.prog W = .ok v' w' ∧ (∃ a k, v' = .slice a 1 k) ∧ Upd [] W w' := by
  obtain ⟨v', w', h1, h2, h3, h4⟩ := run_appN (P := Tryz.prog) (c := ivs) (sz := 1) (w := W) (ty := 90) (base := W.heap.size) (fun x => rfl) (by omega) (fun x u hu => by simp [ivs] at hu; rw [hu]; rfl) undIntsP infoIntP rfl (.slice none 0 0) (.slice (some ⟨g, 0, none⟩) 1 1) [] [0] (OwnN.nil _ _ _)
    ⟨_, 1, rfl, by simp, by simp [maxLen], fun _ => ⟨g, 0, rfl, fun j hj i hi => by
      have hj0 : j = 0 := by simpa using hj
      have hi0 : i = 0 := by omega
      subst hj0; subst hi0
      exact hg⟩⟩ (by simp) (by simp [maxLen]) (Nat.le_refl _)
  obtain ⟨a, k, rfl, -⟩ := OwnN.rd (c := ivs) (sz := 1) (fun x => rfl) h2
  exact ⟨_, w', h1, ⟨a, k, rfl⟩, h3⟩
set_option maxRecDepth 20000 in
theorem rfAll_any (w : World) (a : Option Addr) (k : Nat) : Calls Tryz.prog 136 #[.slice a 0 k] w fun e w' => e = .returned (.slice none 0 0) ∧ w = w' := by
  go_enter Tryz.func136, Tryz.ntmps136
  go_wp2_with fail
  go_loopw [0, 3] (fun b v wr => b = .slice a 0 k ∧ v = .slice none 0 0 ∧ w = wr) (fun _ _ _ => 1)
  case atStart => exact ⟨rfl, rfl, rfl⟩
  case round =>
    obtain ⟨rfl, rfl, rfl⟩ := hrel
    go_wp2_with fail
    first | go_ret | go_ret2
    exact ⟨rfl, rfl⟩
theorem conv_empty : ∃ (f : World → Nat) (F : World → World), (∀ W, (convert 9 28 (.string ⟨#[]⟩)).run Tryz.prog W = .ok (.slice (some ⟨W.heap.size, 0, none⟩) 0 (f W)) (F W)) ∧ ∀ W, Upd [] W (F W) :=
  ⟨_, _, fun W => run_bytes_of_string W 9 28 5 ⟨#[]⟩ Tryz.underlying9 Tryz.underlying28 Tryz.underlying5, fun W => ((Upd.refl [] W).drew).alloc _⟩
set_option maxRecDepth 20000 in
set_option maxHeartbeats 2000000 in
theorem rfParse_any (w : World) : Calls Tryz.prog 126 #[.string ⟨#[]⟩] w fun e w' => ∃ g, e = .returned (.tuple #[.slice (some ⟨g, 0, none⟩) 1 1, .int .i64 0, .int .i64 0]) ∧ N1 w' g ∧ Upd [] w w' := by
  obtain ⟨f, F, hcv, hF⟩ := conv_empty
  have HF := Lib.hid hF
  clear hF
  go_enter Tryz.func126, Tryz.ntmps126
  go_wp2_with fail
  (with_reducible refine (rfAll_any _ _ _).mono ?_)
  rintro e w1 ⟨rfl, rfl⟩
  have HP0 : Hid (PZ (w.alloc (.cells #[.slice none 0 0, .slice none 0 0, .int .i64 0, .int .i64 0, .int .i64 0, .int .i64 0] 223)) w.heap.size (.slice none 0 0)) := ⟨Blk.new w 223 [.slice none 0 0, .slice none 0 0, .int .i64 0, .int .i64 0, .int .i64 0, .int .i64 0]⟩
  have HP1 := Lib.hid (HP0.out.upd0 (HF.out _))
  have HU1 : Hid (Upd [] w (F (w.alloc (.cells #[.slice none 0 0, .slice none 0 0, .int .i64 0, .int .i64 0, .int .i64 0, .int .i64 0] 223)))) := ((Upd.refl [] w).alloc _).seq (HF.out _)
  have HGE : Hid (w.heap.size ≤ w.heap.size) := Nat.le_refl _
  clear HP0 hcv HF
  generalize F (w.alloc (.cells #[.slice none 0 0, .slice none 0 0, .int .i64 0, .int .i64 0, .int .i64 0, .int .i64 0] 223)) = w2 at *
  obtain ⟨gp, hgp⟩ : ∃ g, w.heap.size = g := ⟨_, rfl⟩
  have HGE : Hid (w.heap.size ≤ gp) := by unfold Hid; omega
  rw [hgp] at HP1 ⊢
  clear hgp
  go_wp2_with fail
  go_loopw [6, 8] (fun va vi wr => va = .int .i64 0 ∧ vi = .int .i64 0 ∧ w2 = wr) (fun _ _ _ => 1)
  case atStart => exact ⟨rfl, rfl, rfl⟩
  case round =>
    obtain ⟨rfl, rfl, rfl⟩ := hrel
    have c1 : w2.cell? ⟨gp, 1, none⟩ = some (.slice none 0 0) := HP1.out.b.cell 1
    have hu3 : Upd [] w2 (w2.alloc (.cells #[.int .i64 0] 3)) := (Upd.refl [] w2).alloc _
    have HA := Lib.hid (app_int0 (w2.alloc (.cells #[.int .i64 0] 3)) w2.heap.size (by simp))
    have HP3 := Lib.hid (HP1.out.upd0 hu3)
    have HU3 := Lib.hid (HU1.out.seq hu3)
    clear hu3 HP1 HU1
    go_wp2_with (at_builtin; go_must (refine wpList_app_of rfl _ _ rfl (.slice none 0 0) (.slice (some ⟨w2.heap.size, 0, none⟩) 1 1) rfl rfl HA.out ?_; rintro v4 w4 ⟨⟨a4, k4, rfl⟩, hu4⟩; have HU4 := Lib.hid hu4; have HP4 := Lib.hid (HP3.out.upd0 hu4); have c4 := HP4.out.b.cell 1; have f4 := HP4.out.b.frozen 1; clear hu4 HP3 c1; dsimp only))
    have hst := HP4.out.b.set_ 1 (.slice a4 1 k4)
    have HP5 : Hid (PZ (w4.setCell ⟨gp, 1, none⟩ (.slice a4 1 k4)) gp (.slice a4 1 k4)) := ⟨hst⟩
    have HU5 : Hid (Upd [] w (w4.setCell ⟨gp, 1, none⟩ (.slice a4 1 k4))) := (HU3.out.seq HU4.out).setCell _ _ (.inr HGE.out)
    clear hst HP4 HU3 HU4 HA c4 f4
    generalize w4.setCell ⟨gp, 1, none⟩ (.slice a4 1 k4) = w5 at *
    (with_reducible refine (rfAlt_any HP5.out 0).mono ?_)
    rintro e w6 ⟨g6, rfl, hn6, hu6⟩
    have HN6 := Lib.hid hn6
    have HU6 := Lib.hid (HU5.out.seq hu6)
    have HP6 := Lib.hid (HP5.out.upd0 hu6)
    have c0 : w6.cell? ⟨gp, 0, none⟩ = some (.slice none 0 0) := HP6.out.b.cell 0
    have c2 : w6.cell? ⟨gp, 2, none⟩ = some (.int .i64 0) := HP6.out.b.cell 2
    have c4 : w6.cell? ⟨gp, 4, none⟩ = some (.int .i64 0) := HP6.out.b.cell 4
    clear hn6 hu6 HP5 HU5 HP6
    go_wp2_with fail
    go_quiet (fail)
    go_wp2_with fail
    go_ret3
    exact ⟨_, rfl, HN6.out.upd0 (by repeat (first | exact Upd.refl _ _ | apply Upd.drew | apply Upd.drewN)), HU6.out.seq (by repeat (first | exact Upd.refl _ _ | apply Upd.drew | apply Upd.drewN))⟩
end Go.Proofs.YtmhojaiajhdlcaaGreat
namespace Go.Proofs.YtmhojaiajhdlcaaGreat
open Go.RowKit
set_option linter.unusedSimpArgs false
set_option linter.unusedVariables false
theorem infoTree : (Tryz.prog.info? 236).map (·.size) = some 8 := by kernel_rfl
set_option maxRecDepth 20000 in
set_option maxHeartbeats 4000000 in
theorem rfWalk_any {w : World} {g : Nat} (h : N1 w g) : Calls Tryz.prog 164 #[.slice (some ⟨g, 0, none⟩) 1 1, .int .i64 0, .int .i64 0] w fun e w' => e = .returned (.int .i64 1) ∧ Upd [] w w' := by
  have c0 : w.cell? ⟨g, 0, none⟩ = some (.int .i64 1) := h.b.cell 0
  have c1 : w.cell? ⟨g, 1, none⟩ = some (.slice none 0 0) := h.b.cell 1
  have c2 : w.cell? ⟨g, 2, none⟩ = some (.int .i64 0) := h.b.cell 2
  have c3 : w.cell? ⟨g, 3, none⟩ = some (.int .i64 0) := h.b.cell 3
  have c4 : w.cell? ⟨g, 4, none⟩ = some (.bool false) := h.b.cell 4
  have c5 : w.cell? ⟨g, 5, none⟩ = some (.int .i64 0) := h.b.cell 5
  have c6 : w.cell? ⟨g, 6, none⟩ = some (.int .i64 0) := h.b.cell 6
  clear h
  go_enter Tryz.func164, Tryz.ntmps164
  go_wp2_with fail
  go_loopw [1, 10] (fun a i wr => a = .int .i64 1 ∧ i = .int .i64 0 ∧ Hid (Upd [] w wr)) (fun _ _ _ => 1)
  case atStart => exact ⟨rfl, rfl, by (repeat (first | exact Upd.refl _ _ | apply Upd.drew | apply Upd.drewN | apply Upd.alloc))⟩
  case round =>
    obtain ⟨rfl, rfl, hu⟩ := hrel
    go_wp2_with fail
    go_ret
    exact ⟨rfl, hu.out⟩
set_option maxRecDepth 20000 in
theorem rfEnd_any {w : World} {g : Nat} (h : N1 w g) : Calls Tryz.prog 154 #[.slice (some ⟨g, 0, none⟩) 1 1, .int .i64 0] w fun e w' => e = .returned (.int .i64 1) ∧ Upd [] w w' := by
  have H := Lib.hid h
  clear h
  go_enter Tryz.func154, Tryz.ntmps154
  go_wp2_with fail
  (with_reducible refine (rfWalk_any H.out).mono ?_)
  rintro e w1 ⟨rfl, hu1⟩
  have HU := Lib.hid hu1
  clear hu1
  go_wp2_with fail
  go_ret
  exact ⟨rfl, HU.out⟩
set_option maxRecDepth 20000 in
set_option maxHeartbeats 4000000 in
theorem rfRight_any {w : World} {g : Nat} (h : N1 w g) : Calls Tryz.prog 140 #[.slice (some ⟨g, 0, none⟩) 1 1] w fun e w' => e = .returned (.bool true) ∧ Upd [] w w' := by
  have H := Lib.hid h
  clear h
  go_enter Tryz.func140, Tryz.ntmps140
  go_wp2_with fail
  (with_reducible refine (rfEnd_any H.out).mono ?_)
  rintro e w1 ⟨rfl, hu1⟩
  have HU := Lib.hid hu1
  have c0 : w1.cell? ⟨g, 0, none⟩ = some (.int .i64 1) := (H.out.upd0 hu1).b.cell 0
  clear hu1
  go_wp2_with fail
  go_loopw [3, 4] (fun n i wr => ∃ k : Nat, k ≤ 1 ∧ n = .int .i64 1 ∧ i = .int .i64 k ∧ Hid (Upd [] w1 wr)) (fun _ i _ => 1 - (intOf i).toNat)
  case atStart => exact ⟨0, by omega, rfl, rfl, Upd.refl _ _⟩
  case round =>
    obtain ⟨k, hk, rfl, rfl, hu⟩ := hrel
    have d0 : wr.cell? ⟨g, 0, none⟩ = some (.int .i64 1) := hu.out.cell c0 (by simp)
    by_cases hk0 : k = 0
    · subst hk0
      go_wp2_with fail
      go_roundw
      case rel => exact ⟨1, by omega, rfl, by go_num, hu⟩
      case measure => simp [intOf]
    · obtain rfl : k = 1 := by omega
      go_wp2_with fail
      go_ret
      exact ⟨rfl, HU.out.seq hu.out⟩
set_option maxRecDepth 20000 in
set_option maxHeartbeats 4000000 in
theorem rfRead_any {w : World} {g : Nat} (h : N1 w g) : Calls Tryz.prog 141 #[.slice (some ⟨g, 0, none⟩) 1 1, .int .i64 0] w fun e w' => e = .returned (.tuple #[.agg #[.int .i64 1, .slice none 0 0, .int .i64 0, .int .i64 0, .bool false, .int .i64 0, .int .i64 0, .slice none 0 0], .int .i64 1]) ∧ Upd [] w w' := by
  have c0 : w.cell? ⟨g, 0, none⟩ = some (.int .i64 1) := h.b.cell 0
  have c1 : w.cell? ⟨g, 1, none⟩ = some (.slice none 0 0) := h.b.cell 1
  have c2 : w.cell? ⟨g, 2, none⟩ = some (.int .i64 0) := h.b.cell 2
  have c3 : w.cell? ⟨g, 3, none⟩ = some (.int .i64 0) := h.b.cell 3
  have c4 : w.cell? ⟨g, 4, none⟩ = some (.bool false) := h.b.cell 4
  have c5 : w.cell? ⟨g, 5, none⟩ = some (.int .i64 0) := h.b.cell 5
  have c6 : w.cell? ⟨g, 6, none⟩ = some (.int .i64 0) := h.b.cell 6
  have hg : g < w.heap.size := h.b.lt
  clear h
  have hb6 : Blk ((w.alloc (.cells #[.int .i64 0, .slice none 0 0, .int .i64 0, .int .i64 0, .bool false, .int .i64 0, .int .i64 0, .slice none 0 0] 236)).alloc (.cells #[.int .i64 1, .slice none 0 0, .int .i64 0, .int .i64 0, .bool false, .int .i64 0, .int .i64 0, .slice none 0 0] 236)) (w.heap.size + 1) 236 [.int .i64 1, .slice none 0 0, .int .i64 0, .int .i64 0, .bool false, .int .i64 0, .int .i64 0, .slice none 0 0] := by
    have := Blk.new (w.alloc (.cells #[.int .i64 0, .slice none 0 0, .int .i64 0, .int .i64 0, .bool false, .int .i64 0, .int .i64 0, .slice none 0 0] 236)) 236 [.int .i64 1, .slice none 0 0, .int .i64 0, .int .i64 0, .bool false, .int .i64 0, .int .i64 0, .slice none 0 0]
    simpa using this
  have HB6 := Lib.hid hb6
  have hb4 : Blk ((w.alloc (.cells #[.int .i64 0, .slice none 0 0, .int .i64 0, .int .i64 0, .bool false, .int .i64 0, .int .i64 0, .slice none 0 0] 236)).alloc (.cells #[.int .i64 1, .slice none 0 0, .int .i64 0, .int .i64 0, .bool false, .int .i64 0, .int .i64 0, .slice none 0 0] 236)) w.heap.size 236 [.int .i64 0, .slice none 0 0, .int .i64 0, .int .i64 0, .bool false, .int .i64 0, .int .i64 0, .slice none 0 0] := (Blk.new w 236 [.int .i64 0, .slice none 0 0, .int .i64 0, .int .i64 0, .bool false, .int .i64 0, .int .i64 0, .slice none 0 0]).upd ((Upd.refl [] _).alloc _) (by simp)
  have HB4 := Lib.hid hb4
  have HU0 : Hid (Upd [] w ((w.alloc (.cells #[.int .i64 0, .slice none 0 0, .int .i64 0, .int .i64 0, .bool false, .int .i64 0, .int .i64 0, .slice none 0 0] 236)).alloc (.cells #[.int .i64 1, .slice none 0 0, .int .i64 0, .int .i64 0, .bool false, .int .i64 0, .int .i64 0, .slice none 0 0] 236))) := ((Upd.refl [] w).alloc _).alloc _
  clear hb6 hb4
  go_enter Tryz.func141, Tryz.ntmps141
  go_wp2_with fail
  obtain ⟨gR, hgR⟩ : ∃ x, w.heap.size = x := ⟨_, rfl⟩
  obtain ⟨gT, hgT⟩ : ∃ x, gR + 1 = x := ⟨_, rfl⟩
  have HGR : Hid (w.heap.size ≤ gR ∧ gR ≠ gT) := by unfold Hid; omega
  rw [hgR, hgT] at HB6
  rw [hgR] at HB4
  rw [hgR, hgT]
  clear hgR hgT hg c0 c1 c2 c3 c4 c5 c6
  generalize (w.alloc (.cells #[.int .i64 0, .slice none 0 0, .int .i64 0, .int .i64 0, .bool false, .int .i64 0, .int .i64 0, .slice none 0 0] 236)).alloc (.cells #[.int .i64 1, .slice none 0 0, .int .i64 0, .int .i64 0, .bool false, .int .i64 0, .int .i64 0, .slice none 0 0] 236) = W at *
  go_loopw [1, 7] (fun a i wr => a = .int .i64 1 ∧ i = .int .i64 0 ∧ W = wr) (fun _ _ _ => 1)
  case atStart => exact ⟨rfl, rfl, rfl⟩
  case round =>
    obtain ⟨rfl, rfl, rfl⟩ := hrel
    have t0 : W.cell? ⟨gT, 0, none⟩ = some (.int .i64 1) := HB6.out.cell 0
    have t1 : W.cell? ⟨gT, 1, none⟩ = some (.slice none 0 0) := HB6.out.cell 1
    have t2 : W.cell? ⟨gT, 2, none⟩ = some (.int .i64 0) := HB6.out.cell 2
    have t3 : W.cell? ⟨gT, 3, none⟩ = some (.int .i64 0) := HB6.out.cell 3
    have t4 : W.cell? ⟨gT, 4, none⟩ = some (.bool false) := HB6.out.cell 4
    have t5 : W.cell? ⟨gT, 5, none⟩ = some (.int .i64 0) := HB6.out.cell 5
    have t6 : W.cell? ⟨gT, 6, none⟩ = some (.int .i64 0) := HB6.out.cell 6
    have t7 : W.cell? ⟨gT, 7, none⟩ = some (.slice none 0 0) := HB6.out.cell 7
    go_wp2_with (first | ((refine wpList_store_row rfl 236 (.tmp 4) (.tmp 37) rfl gR #[.int .i64 1, .slice none 0 0, .int .i64 0, .int .i64 0, .bool false, .int .i64 0, .int .i64 0, .slice none 0 0] rfl rfl 236 #[.int .i64 0, .slice none 0 0, .int .i64 0, .int .i64 0, .bool false, .int .i64 0, .int .i64 0, .slice none 0 0] HB4.out (by show _ = some 8; exact infoTree) rfl (by simp [Value.oneCell']) ?_)) | fail)
    have hU := HU0.out.trans (T := []) (upd_row _ gR #[.int .i64 1, .slice none 0 0, .int .i64 0, .int .i64 0, .bool false, .int .i64 0, .int .i64 0, .slice none 0 0]) (by simp) (fun y hy => .inr (by simp at hy; have := HGR.out.1; omega))
    have HB := Lib.hid (blk_row HB4.out [.int .i64 1, .slice none 0 0, .int .i64 0, .int .i64 0, .bool false, .int .i64 0, .int .i64 0, .slice none 0 0])
    have e0 : (World.setRow W gR #[.int .i64 1, .slice none 0 0, .int .i64 0, .int .i64 0, .bool false, .int .i64 0, .int .i64 0, .slice none 0 0]).cell? ⟨gR, 0, none⟩ = some (.int .i64 1) := HB.out.cell 0
    have e1 : (World.setRow W gR #[.int .i64 1, .slice none 0 0, .int .i64 0, .int .i64 0, .bool false, .int .i64 0, .int .i64 0, .slice none 0 0]).cell? ⟨gR, 1, none⟩ = some (.slice none 0 0) := HB.out.cell 1
    have e2 : (World.setRow W gR #[.int .i64 1, .slice none 0 0, .int .i64 0, .int .i64 0, .bool false, .int .i64 0, .int .i64 0, .slice none 0 0]).cell? ⟨gR, 2, none⟩ = some (.int .i64 0) := HB.out.cell 2
    have e3 : (World.setRow W gR #[.int .i64 1, .slice none 0 0, .int .i64 0, .int .i64 0, .bool false, .int .i64 0, .int .i64 0, .slice none 0 0]).cell? ⟨gR, 3, none⟩ = some (.int .i64 0) := HB.out.cell 3
    have e4 : (World.setRow W gR #[.int .i64 1, .slice none 0 0, .int .i64 0, .int .i64 0, .bool false, .int .i64 0, .int .i64 0, .slice none 0 0]).cell? ⟨gR, 4, none⟩ = some (.bool false) := HB.out.cell 4
    have e5 : (World.setRow W gR #[.int .i64 1, .slice none 0 0, .int .i64 0, .int .i64 0, .bool false, .int .i64 0, .int .i64 0, .slice none 0 0]).cell? ⟨gR, 5, none⟩ = some (.int .i64 0) := HB.out.cell 5
    have e6 : (World.setRow W gR #[.int .i64 1, .slice none 0 0, .int .i64 0, .int .i64 0, .bool false, .int .i64 0, .int .i64 0, .slice none 0 0]).cell? ⟨gR, 6, none⟩ = some (.int .i64 0) := HB.out.cell 6
    have e7 : (World.setRow W gR #[.int .i64 1, .slice none 0 0, .int .i64 0, .int .i64 0, .bool false, .int .i64 0, .int .i64 0, .slice none 0 0]).cell? ⟨gR, 7, none⟩ = some (.slice none 0 0) := HB.out.cell 7
    clear HB HB4 HU0
    generalize World.setRow _ _ _ = W2 at *
    exact bodyPost_ret (v := .tuple #[.agg #[.int .i64 1, .slice none 0 0, .int .i64 0, .int .i64 0, .bool false, .int .i64 0, .int .i64 0, .slice none 0 0], .int .i64 1]) (by simp [results, Tryz.results141, go_sem, e0, e1, e2, e3, e4, e5, e6, e7]; try rfl) rfl ⟨rfl, hU⟩
set_option maxRecDepth 20000 in
set_option maxHeartbeats 4000000 in
theorem rfSimple0_any (w : World) : Calls Tryz.prog 143 #[.agg #[.int .i64 1, .slice none 0 0, .int .i64 0, .int .i64 0, .bool false, .int .i64 0, .int .i64 0, .slice none 0 0]] w fun e w' => e = .returned (.agg #[.int .i64 1, .slice none 0 0, .int .i64 0, .int .i64 0, .bool false, .int .i64 0, .int .i64 0, .slice none 0 0]) ∧ Upd [] w w' := by
  have hb1 : Blk ((w.alloc (.cells #[.int .i64 1, .slice none 0 0, .int .i64 0, .int .i64 0, .bool false, .int .i64 0, .int .i64 0, .slice none 0 0] 236)).alloc (.cells #[.int .i64 0, .slice none 0 0, .int .i64 0, .int .i64 0, .bool false, .int .i64 0, .int .i64 0, .slice none 0 0] 236)) w.heap.size 236 [.int .i64 1, .slice none 0 0, .int .i64 0, .int .i64 0, .bool false, .int .i64 0, .int .i64 0, .slice none 0 0] := (Blk.new w 236 [.int .i64 1, .slice none 0 0, .int .i64 0, .int .i64 0, .bool false, .int .i64 0, .int .i64 0, .slice none 0 0]).upd ((Upd.refl [] _).alloc _) (by simp)
  have hb2 : Blk ((w.alloc (.cells #[.int .i64 1, .slice none 0 0, .int .i64 0, .int .i64 0, .bool false, .int .i64 0, .int .i64 0, .slice none 0 0] 236)).alloc (.cells #[.int .i64 0, .slice none 0 0, .int .i64 0, .int .i64 0, .bool false, .int .i64 0, .int .i64 0, .slice none 0 0] 236)) (w.heap.size + 1) 236 [.int .i64 0, .slice none 0 0, .int .i64 0, .int .i64 0, .bool false, .int .i64 0, .int .i64 0, .slice none 0 0] := by
    have := Blk.new (w.alloc (.cells #[.int .i64 1, .slice none 0 0, .int .i64 0, .int .i64 0, .bool false, .int .i64 0, .int .i64 0, .slice none 0 0] 236)) 236 [.int .i64 0, .slice none 0 0, .int .i64 0, .int .i64 0, .bool false, .int .i64 0, .int .i64 0, .slice none 0 0]
    simpa using this
  have HB1 := Lib.hid hb1
  have HB2 := Lib.hid hb2
  have HU0 : Hid (Upd [] w ((w.alloc (.cells #[.int .i64 1, .slice none 0 0, .int .i64 0, .int .i64 0, .bool false, .int .i64 0, .int .i64 0, .slice none 0 0] 236)).alloc (.cells #[.int .i64 0, .slice none 0 0, .int .i64 0, .int .i64 0, .bool false, .int .i64 0, .int .i64 0, .slice none 0 0] 236))) := ((Upd.refl [] w).alloc _).alloc _
  clear hb1 hb2
  go_enter Tryz.func143, Tryz.ntmps143
  go_wp2_with fail
  obtain ⟨gT, hgT⟩ : ∃ x, w.heap.size = x := ⟨_, rfl⟩
  obtain ⟨gR, hgR⟩ : ∃ x, gT + 1 = x := ⟨_, rfl⟩
  have HGR : Hid (w.heap.size ≤ gR) := by unfold Hid; omega
  rw [hgT] at HB1
  rw [hgT, hgR] at HB2
  rw [hgT, hgR]
  clear hgR hgT
  generalize (w.alloc (.cells #[.int .i64 1, .slice none 0 0, .int .i64 0, .int .i64 0, .bool false, .int .i64 0, .int .i64 0, .slice none 0 0] 236)).alloc (.cells #[.int .i64 0, .slice none 0 0, .int .i64 0, .int .i64 0, .bool false, .int .i64 0, .int .i64 0, .slice none 0 0] 236) = W at *
  go_loopw [3] (fun i wr => i = .int .i64 0 ∧ W = wr) (fun _ _ => 1)
  case atStart => exact ⟨rfl, rfl⟩
  case round =>
    obtain ⟨rfl, rfl⟩ := hrel
    have t0 : W.cell? ⟨gT, 0, none⟩ = some (.int .i64 1) := HB1.out.cell 0
    have t1 : W.cell? ⟨gT, 1, none⟩ = some (.slice none 0 0) := HB1.out.cell 1
    have t2 : W.cell? ⟨gT, 2, none⟩ = some (.int .i64 0) := HB1.out.cell 2
    have t3 : W.cell? ⟨gT, 3, none⟩ = some (.int .i64 0) := HB1.out.cell 3
    have t4 : W.cell? ⟨gT, 4, none⟩ = some (.bool false) := HB1.out.cell 4
    have t5 : W.cell? ⟨gT, 5, none⟩ = some (.int .i64 0) := HB1.out.cell 5
    have t6 : W.cell? ⟨gT, 6, none⟩ = some (.int .i64 0) := HB1.out.cell 6
    have t7 : W.cell? ⟨gT, 7, none⟩ = some (.slice none 0 0) := HB1.out.cell 7
    go_wp2_with (first | ((refine wpList_store_row rfl 236 (.tmp 2) (.tmp 36) rfl gR #[.int .i64 1, .slice none 0 0, .int .i64 0, .int .i64 0, .bool false, .int .i64 0, .int .i64 0, .slice none 0 0] rfl rfl 236 #[.int .i64 0, .slice none 0 0, .int .i64 0, .int .i64 0, .bool false, .int .i64 0, .int .i64 0, .slice none 0 0] HB2.out (by show _ = some 8; exact infoTree) rfl (by simp [Value.oneCell']) ?_)) | fail)
    have hU := HU0.out.trans (T := []) (upd_row _ gR #[.int .i64 1, .slice none 0 0, .int .i64 0, .int .i64 0, .bool false, .int .i64 0, .int .i64 0, .slice none 0 0]) (by simp) (fun y hy => .inr (by simp at hy; have := HGR.out; omega))
    have HB := Lib.hid (blk_row HB2.out [.int .i64 1, .slice none 0 0, .int .i64 0, .int .i64 0, .bool false, .int .i64 0, .int .i64 0, .slice none 0 0])
    have e0 : (World.setRow W gR #[.int .i64 1, .slice none 0 0, .int .i64 0, .int .i64 0, .bool false, .int .i64 0, .int .i64 0, .slice none 0 0]).cell? ⟨gR, 0, none⟩ = some (.int .i64 1) := HB.out.cell 0
    have e1 : (World.setRow W gR #[.int .i64 1, .slice none 0 0, .int .i64 0, .int .i64 0, .bool false, .int .i64 0, .int .i64 0, .slice none 0 0]).cell? ⟨gR, 1, none⟩ = some (.slice none 0 0) := HB.out.cell 1
    have e2 : (World.setRow W gR #[.int .i64 1, .slice none 0 0, .int .i64 0, .int .i64 0, .bool false, .int .i64 0, .int .i64 0, .slice none 0 0]).cell? ⟨gR, 2, none⟩ = some (.int .i64 0) := HB.out.cell 2
    have e3 : (World.setRow W gR #[.int .i64 1, .slice none 0 0, .int .i64 0, .int .i64 0, .bool false, .int .i64 0, .int .i64 0, .slice none 0 0]).cell? ⟨gR, 3, none⟩ = some (.int .i64 0) := HB.out.cell 3
    have e4 : (World.setRow W gR #[.int .i64 1, .slice none 0 0, .int .i64 0, .int .i64 0, .bool false, .int .i64 0, .int .i64 0, .slice none 0 0]).cell? ⟨gR, 4, none⟩ = some (.bool false) := HB.out.cell 4
    have e5 : (World.setRow W gR #[.int .i64 1, .slice none 0 0, .int .i64 0, .int .i64 0, .bool false, .int .i64 0, .int .i64 0, .slice none 0 0]).cell? ⟨gR, 5, none⟩ = some (.int .i64 0) := HB.out.cell 5
    have e6 : (World.setRow W gR #[.int .i64 1, .slice none 0 0, .int .i64 0, .int .i64 0, .bool false, .int .i64 0, .int .i64 0, .slice none 0 0]).cell? ⟨gR, 6, none⟩ = some (.int .i64 0) := HB.out.cell 6
    have e7 : (World.setRow W gR #[.int .i64 1, .slice none 0 0, .int .i64 0, .int .i64 0, .bool false, .int .i64 0, .int .i64 0, .slice none 0 0]).cell? ⟨gR, 7, none⟩ = some (.slice none 0 0) := HB.out.cell 7
    clear HB HB2 HU0
    generalize World.setRow _ _ _ = W2 at *
    exact bodyPost_ret (v := .agg #[.int .i64 1, .slice none 0 0, .int .i64 0, .int .i64 0, .bool false, .int .i64 0, .int .i64 0, .slice none 0 0]) (by simp [results, Tryz.results143, go_sem, e0, e1, e2, e3, e4, e5, e6, e7]; try rfl) rfl ⟨rfl, hU⟩
set_option maxRecDepth 20000 in
set_option maxHeartbeats 4000000 in
theorem rfList_any (w : World) : Calls Tryz.prog 142 #[.agg #[.int .i64 1, .slice none 0 0, .int .i64 0, .int .i64 0, .bool false, .int .i64 0, .int .i64 0, .slice none 0 0]] w fun e w' => ∃ g, e = .returned (.slice (some ⟨g, 0, none⟩) 1 1) ∧ N1 w' g ∧ Upd [] w w' := by
  have hb1 : Blk (w.alloc (.cells #[.int .i64 1, .slice none 0 0, .int .i64 0, .int .i64 0, .bool false, .int .i64 0, .int .i64 0, .slice none 0 0] 236)) w.heap.size 236 [.int .i64 1, .slice none 0 0, .int .i64 0, .int .i64 0, .bool false, .int .i64 0, .int .i64 0, .slice none 0 0] := Blk.new w 236 [.int .i64 1, .slice none 0 0, .int .i64 0, .int .i64 0, .bool false, .int .i64 0, .int .i64 0, .slice none 0 0]
  have HB1 := Lib.hid hb1
  have HU0 : Hid (Upd [] w (w.alloc (.cells #[.int .i64 1, .slice none 0 0, .int .i64 0, .int .i64 0, .bool false, .int .i64 0, .int .i64 0, .slice none 0 0] 236))) := (Upd.refl [] w).alloc _
  clear hb1
  go_enter Tryz.func142, Tryz.ntmps142
  have HB2 : Hid (Blk ((w.alloc (.cells #[.int .i64 1, .slice none 0 0, .int .i64 0, .int .i64 0, .bool false, .int .i64 0, .int .i64 0, .slice none 0 0] 236)).alloc (.cells #[.int .i64 1, .slice none 0 0, .int .i64 0, .int .i64 0, .bool false, .int .i64 0, .int .i64 0] 233)) (w.heap.size + 1) 233 [.int .i64 1, .slice none 0 0, .int .i64 0, .int .i64 0, .bool false, .int .i64 0, .int .i64 0]) := by
    have := Blk.new (w.alloc (.cells #[.int .i64 1, .slice none 0 0, .int .i64 0, .int .i64 0, .bool false, .int .i64 0, .int .i64 0, .slice none 0 0] 236)) 233 [.int .i64 1, .slice none 0 0, .int .i64 0, .int .i64 0, .bool false, .int .i64 0, .int .i64 0]
    unfold Hid
    simpa using this
  have HB3 : Hid (Blk ((w.alloc (.cells #[.int .i64 1, .slice none 0 0, .int .i64 0, .int .i64 0, .bool false, .int .i64 0, .int .i64 0, .slice none 0 0] 236)).alloc (.cells #[.int .i64 1, .slice none 0 0, .int .i64 0, .int .i64 0, .bool false, .int .i64 0, .int .i64 0] 233)) w.heap.size 236 [.int .i64 1, .slice none 0 0, .int .i64 0, .int .i64 0, .bool false, .int .i64 0, .int .i64 0, .slice none 0 0]) := HB1.out.upd ((Upd.refl [] _).alloc _) (by simp)
  have HU2 : Hid (Upd [] w ((w.alloc (.cells #[.int .i64 1, .slice none 0 0, .int .i64 0, .int .i64 0, .bool false, .int .i64 0, .int .i64 0, .slice none 0 0] 236)).alloc (.cells #[.int .i64 1, .slice none 0 0, .int .i64 0, .int .i64 0, .bool false, .int .i64 0, .int .i64 0] 233))) := HU0.out.alloc _
  clear HB1 HU0
  go_wp2_with fail
  obtain ⟨gT, hgT⟩ : ∃ x, w.heap.size = x := ⟨_, rfl⟩
  obtain ⟨gR, hgR⟩ : ∃ x, gT + 1 = x := ⟨_, rfl⟩
  rw [hgT] at HB3
  rw [hgT, hgR] at HB2
  rw [hgT, hgR]
  clear hgR hgT
  generalize (w.alloc (.cells #[.int .i64 1, .slice none 0 0, .int .i64 0, .int .i64 0, .bool false, .int .i64 0, .int .i64 0, .slice none 0 0] 236)).alloc (.cells #[.int .i64 1, .slice none 0 0, .int .i64 0, .int .i64 0, .bool false, .int .i64 0, .int .i64 0] 233) = W at *
  go_loopw [3, 4] (fun v i wr => v = .slice (some ⟨gR, 0, none⟩) 1 1 ∧ i = .int .i64 0 ∧ W = wr) (fun _ _ _ => 1)
  case atStart => exact ⟨rfl, rfl, rfl⟩
  case round =>
    obtain ⟨rfl, rfl, rfl⟩ := hrel
    have t0 : W.cell? ⟨gT, 0, none⟩ = some (.int .i64 1) := HB3.out.cell 0
    have t1 : W.cell? ⟨gT, 1, none⟩ = some (.slice none 0 0) := HB3.out.cell 1
    have t2 : W.cell? ⟨gT, 2, none⟩ = some (.int .i64 0) := HB3.out.cell 2
    have t3 : W.cell? ⟨gT, 3, none⟩ = some (.int .i64 0) := HB3.out.cell 3
    have t4 : W.cell? ⟨gT, 4, none⟩ = some (.bool false) := HB3.out.cell 4
    have t5 : W.cell? ⟨gT, 5, none⟩ = some (.int .i64 0) := HB3.out.cell 5
    have t6 : W.cell? ⟨gT, 6, none⟩ = some (.int .i64 0) := HB3.out.cell 6
    have t7 : W.cell? ⟨gT, 7, none⟩ = some (.slice none 0 0) := HB3.out.cell 7
    go_wp2_with fail
    go_ret
    exact ⟨_, rfl, ⟨HB2.out⟩, HU2.out⟩
set_option maxRecDepth 20000 in
set_option maxHeartbeats 4000000 in
theorem rfSimple_any {w : World} {g : Nat} (h : N1 w g) : Calls Tryz.prog 127 #[.slice (some ⟨g, 0, none⟩) 1 1] w fun e w' => ∃ g', e = .returned (.slice (some ⟨g', 0, none⟩) 1 1) ∧ N1 w' g' ∧ Upd [] w w' := by
  have H := Lib.hid h
  clear h
  go_enter Tryz.func127, Tryz.ntmps127
  go_wp2_with fail
  (with_reducible refine (rfRight_any H.out).mono ?_)
  rintro e w1 ⟨rfl, hu1⟩
  have H1 := Lib.hid (H.out.upd0 hu1)
  have HU1 := Lib.hid hu1
  clear hu1 H
  go_wp2_with fail
  (with_reducible refine (rfRead_any H1.out).mono ?_)
  rintro e w2 ⟨rfl, hu2⟩
  have HU2 := Lib.hid (HU1.out.seq hu2)
  clear hu2 H1 HU1
  go_wp2_with fail
  (with_reducible refine (rfSimple0_any _).mono ?_)
  rintro e w3 ⟨rfl, hu3⟩
  have HU3 := Lib.hid ((HU2.out.alloc (.cells #[.int .i64 1, .slice none 0 0, .int .i64 0, .int .i64 0, .bool false, .int .i64 0, .int .i64 0, .slice none 0 0] 236)).seq hu3)
  clear hu3 HU2
  go_wp2_with fail
  (with_reducible refine (rfList_any _).mono ?_)
  rintro e w4 ⟨g4, rfl, hn4, hu4⟩
  have HN4 := Lib.hid hn4
  have HU4 := Lib.hid (HU3.out.seq hu4)
  clear hn4 hu4 HU3
  go_wp2_with fail
  go_ret
  exact ⟨_, rfl, HN4.out, HU4.out⟩
end Go.Proofs.YtmhojaiajhdlcaaGreat
namespace Go.Proofs.YtmhojaiajhdlcaaGreat
open Go.RowKit
set_option linter.unusedSimpArgs false
set_option linter.unusedVariables false
abbrev insCells (p : Int × Int) : List Value := [.int .i64 p.1, .int .i64 p.2, .int .i64 0, .slice none 0 0]
theorem infoIns : (Tryz.prog.info? 246).map (fun i => (i.zero, i.size, i.bytes)) = some (some (.agg #[.int .i64 0, .int .i64 0, .int .i64 0, .slice none 0 0]), 4, 48) := by kernel_rfl
theorem infoProg : (Tryz.prog.info? 209).map (·.size) = some 2 := by kernel_rfl
theorem undIns : Tryz.prog.underlying 207 = some (.slice 246) := by kernel_rfl
theorem insCells_len (p : Int × Int) : (insCells p).length = 4 := rfl
theorem insCells_one : ∀ p, ∀ u ∈ insCells p, u.oneCell' = true := by
  intro p u hu
  simp only [List.mem_cons, List.not_mem_nil, or_false] at hu
  rcases hu with rfl | rfl | rfl | rfl <;> rfl
/-- The coder: its code. -/
structure CZ (w0 w : World) (gc : Nat) (v : Value) (l : List (Int × Int)) : Prop where
  b : Blk w gc 243 [v, .bool false]
  row : OwnN 4 insCells w0.heap.size 246 w v l
  ge : w0.heap.size ≤ gc
  old : Upd [] w0 w
section
variable {w0 w w' : World} {gc : Nat} {v : Value} {l : List (Int × Int)}
theorem CZ.gcv (h : CZ w0 w gc v l) : gc ∉ blk v := fun hx => by
  obtain ⟨C, f, h1⟩ := h.row.typ gc hx
  have h2 : w.heap[gc]? = some (.cells _ _ _) := h.b
  rw [h1] at h2
  injection h2 with h2; injection h2 with _ h2
  exact absurd h2 (by decide)
theorem CZ.upd0 (h : CZ w0 w gc v l) (hu : Upd [] w w') : CZ w0 w' gc v l := ⟨h.b.upd hu (by simp), h.row.upd hu (by simp), h.ge, h.old.seq hu⟩
theorem CZ.upd1 (h : CZ w0 w gc v l) {g : Nat} {t : TypeId} {xs : List Value} (hb : Blk w g t xs) (h1 : t ≠ 243) (h2 : t ≠ 246) (hg : w0.heap.size ≤ g) (hu : Upd [g] w w') : CZ w0 w' gc v l :=
  ⟨h.b.upd hu (fun q => by
      simp at q; subst q
      have e1 : w.heap[gc]? = some (.cells _ _ _) := h.b
      have e2 : w.heap[gc]? = some (.cells _ _ _) := hb
      rw [e1] at e2
      injection e2 with e2; injection e2 with _ e2
      exact h1 e2.symm),
    h.row.upd hu (fun x hx q => by
      simp at q; subst q
      obtain ⟨C, f, e1⟩ := h.row.typ x hx
      have e2 : w.heap[x]? = some (.cells _ _ _) := hb
      rw [e1] at e2
      injection e2 with e2; injection e2 with _ e2
      exact h2 e2.symm), h.ge, h.old.trans hu (by simp) (fun x hx => .inr (by simp at hx; subst hx; exact hg))⟩
/-- A block of another type stands by. -/
theorem CZ.ap (h : CZ w0 w gc v l) {g : Nat} {t : TypeId} {xs : List Value} (hb : Blk w g t xs) (h1 : t ≠ 243) (h2 : t ≠ 246) : g ∉ gc :: blk v := fun q => by
  rcases List.mem_cons.1 q with rfl | q
  · have e1 : w.heap[g]? = some (.cells _ _ _) := h.b
    have e2 : w.heap[g]? = some (.cells _ _ _) := hb
    rw [e1] at e2
    injection e2 with e2; injection e2 with _ e2
    exact h1 e2.symm
  · obtain ⟨C, f, e1⟩ := h.row.typ g q
    have e2 : w.heap[g]? = some (.cells _ _ _) := hb
    rw [e1] at e2
    injection e2 with e2; injection e2 with _ e2
    exact h2 e2.symm
set_option maxRecDepth 20000 in
set_option maxHeartbeats 4000000 in
theorem rfPut_any (h : CZ w0 w gc v l) (hl : l.length ≤ 100) (op x : Int) : Calls Tryz.prog 144 #[.pointer (some ⟨gc, 0, none⟩), .agg #[.int .i64 op, .int .i64 x, .int .i64 0, .slice none 0 0]] w fun e w' => e = .returned (.int .i64 (l.length : Int)) ∧ ∃ v', CZ w0 w' gc v' (l ++ [(op, x)]) ∧ Upd (gc :: blk v) w w' := by
  obtain ⟨ao, co, rfl, hlc, hcm, -⟩ := h.row.rd insCells_len
  have hu1 : Upd [] w (w.alloc (.cells #[.int .i64 op, .int .i64 x, .int .i64 0, .slice none 0 0] 246)) := (Upd.refl [] w).alloc _
  have HB1 : Hid (Blk (w.alloc (.cells #[.int .i64 op, .int .i64 x, .int .i64 0, .slice none 0 0] 246)) w.heap.size 246 [.int .i64 op, .int .i64 x, .int .i64 0, .slice none 0 0]) := Blk.new w _ [.int .i64 op, .int .i64 x, .int .i64 0, .slice none 0 0]
  have H1 := Lib.hid (h.upd0 hu1)
  have HU1 := Lib.hid hu1
  have HL := Lib.hid hl
  have hco : co ≤ 9223372036854775807 := by unfold maxLen at hcm; omega
  have p1 : ¬ (400 : Int) ≤ l.length := by omega
  have HGC : Hid (gc < w.heap.size) := h.b.lt
  clear h hu1 hcm
  have gc0 : (w.alloc (.cells #[.int .i64 op, .int .i64 x, .int .i64 0, .slice none 0 0] 246)).cell? ⟨gc, 0, none⟩ = some (.slice ao l.length co) := H1.out.b.cell 0
  have gw0 : w.cell? ⟨gc, 0, none⟩ = some (.slice ao l.length co) := by rw [← gc0]; exact (World.cell?_alloc_lt _ _ _ HGC.out).symm
  have hgc : gc < w.heap.size := HGC.out
  go_enter Tryz.func144, Tryz.ntmps144
  go_wp2_with fail
  have HSZ : Hid (w.heap.size + 1 = (w.alloc (.cells #[.int .i64 op, .int .i64 x, .int .i64 0, .slice none 0 0] 246)).heap.size) := by unfold Hid; simp
  have hx1 : w.heap.size < (w.alloc (.cells #[.int .i64 op, .int .i64 x, .int .i64 0, .slice none 0 0] 246)).heap.size := HB1.out.lt
  clear gw0
  generalize w.alloc (.cells #[.int .i64 op, .int .i64 x, .int .i64 0, .slice none 0 0] 246) = w1 at *
  have f0 := H1.out.b.frozen 0
  have hg1 : gc < w1.heap.size := H1.out.b.lt
  have e0 : w1.cell? ⟨w.heap.size, 0, none⟩ = some (.int .i64 op) := HB1.out.cell 0
  have e1 : w1.cell? ⟨w.heap.size, 1, none⟩ = some (.int .i64 x) := HB1.out.cell 1
  have e2 : w1.cell? ⟨w.heap.size, 2, none⟩ = some (.int .i64 0) := HB1.out.cell 2
  have e3 : w1.cell? ⟨w.heap.size, 3, none⟩ = some (.slice none 0 0) := HB1.out.cell 3
  have hu2 : Upd [] w1 (w1.drew.alloc (.cells #[.int .i64 op, .int .i64 x, .int .i64 0, .slice none 0 0] 246)) := (Upd.refl [] w1).drew.alloc _
  have hnb : Blk (w1.drew.alloc (.cells #[.int .i64 op, .int .i64 x, .int .i64 0, .slice none 0 0] 246)) w1.heap.size 246 [.int .i64 op, .int .i64 x, .int .i64 0, .slice none 0 0] := Blk.new w1.drew _ _
  have HRD : RdN 4 insCells (w1.drew.alloc (.cells #[.int .i64 op, .int .i64 x, .int .i64 0, .slice none 0 0] 246)) (.slice (some ⟨w1.heap.size, 0, none⟩) 1 1) [(op, x)] := by
    refine ⟨_, 1, rfl, by simp, by simp [maxLen], fun _ => ⟨w1.heap.size, 0, rfl, fun j hj i hi => ?_⟩⟩
    have hj0 : j = 0 := by simpa using hj
    subst hj0
    rw [Nat.zero_mul, Nat.zero_add, Nat.zero_add, hnb.cell]; rfl
  have HRUN := Lib.hid (fun ty => run_appN (P := Tryz.prog) (ty := ty) insCells_len (by decide) insCells_one undIns infoIns rfl _ _ l [(op, x)] (H1.out.row.upd hu2 (by simp)) HRD (by have := HL.out; simp; omega) (by have := HL.out; simp [maxLen]; omega) (H1.out.old.seq hu2).size)
  have HC2 := Lib.hid (H1.out.upd0 hu2)
  have HU2 := Lib.hid hu2
  clear hu2 hnb HRD
  go_region_law (first | ((with_reducible refine step_app_of rfl (.tmp 18) (.tmp 20) rfl (.slice ao l.length co) (.slice (some ⟨w1.heap.size, 0, none⟩) 1 1) rfl rfl (HRUN.out _) ?_); (rintro v4 w4 ⟨ho4, hu4, hk4⟩; obtain ⟨a4, k4, rfl, -⟩ := OwnN.rd insCells_len ho4; have ht4 := HC2.out.b.upd hu4 HC2.out.gcv; have gc4 := ht4.cell 0; have f4 := ht4.frozen 0; have HT4 := Lib.hid ht4; have HO4 := Lib.hid ho4; have HU4 := Lib.hid hu4; have HK4 := Lib.hid hk4; clear ho4 hu4 hk4 ht4; dsimp only)))
  all_goals
    have hset : Upd [gc] w4 (w4.setCell ⟨gc, 0, none⟩ (.slice a4 (l.length + 1) k4)) := (Upd.refl [gc] w4).setCell _ _ (.inl (by simp))
    have hall4 : Upd (blk (Value.slice ao l.length co)) w1 w4 := HU2.out.trans HU4.out (by simp) (fun x hx => .inl hx)
    have ht5 : Blk (w4.setCell ⟨gc, 0, none⟩ (.slice a4 (l.length + 1) k4)) gc 243 [.slice a4 (l.length + 1) k4, .bool false] := HT4.out.set_ 0 _
    have ho5 : OwnN 4 insCells w0.heap.size 246 (w4.setCell ⟨gc, 0, none⟩ (.slice a4 (l.length + 1) k4)) (.slice a4 (l.length + 1) k4) (l ++ [(op, x)]) := by
      have ho4 := HO4.out
      rw [List.length_append, List.length_singleton] at ho4
      refine ho4.upd hset (fun x hx hx' => ?_)
      simp at hx'
      subst hx'
      obtain ⟨C, f, h1⟩ := ho4.typ x hx
      have h2 : w4.heap[x]? = some (.cells _ _ _) := HT4.out
      rw [h1] at h2
      injection h2 with h2; injection h2 with _ h2
      exact absurd h2 (by decide)
    have hu5 : Upd (gc :: blk (Value.slice ao l.length co)) w (w4.setCell ⟨gc, 0, none⟩ (.slice a4 (l.length + 1) k4)) := (HU1.out.mono (by simp)).trans (hall4.trans hset (T := gc :: blk (Value.slice ao l.length co)) (fun x hx => List.mem_cons_of_mem _ hx) (fun x hx => .inl (by simp at hx; subst hx; exact List.mem_cons_self))) (fun x hx => hx) (fun x hx => .inl hx)
    have hold5 : Upd [] w0 (w4.setCell ⟨gc, 0, none⟩ (.slice a4 (l.length + 1) k4)) := (H1.out.old.trans (T := []) hall4 (by simp) (fun x hx => .inr (H1.out.row.ge x hx).1)).trans hset (by simp) (fun x hx => .inr (by simp at hx; subst hx; exact H1.out.ge))
    have HCZ : Hid (CZ w0 (w4.setCell ⟨gc, 0, none⟩ (.slice a4 (l.length + 1) k4)) gc (.slice a4 (l.length + 1) k4) (l ++ [(op, x)])) := ⟨ht5, ho5, H1.out.ge, hold5⟩
    have HU5 := Lib.hid hu5
    have c5 : (w4.setCell ⟨gc, 0, none⟩ (.slice a4 (l.length + 1) k4)).cell? ⟨gc, 0, none⟩ = some (.slice a4 (l.length + 1) k4) := ht5.cell 0
    have hm5 : (-9223372036854775808 : Int) ≤ (l.length : Int) ∧ (l.length : Int) < 1000 := by have := HL.out; omega
    clear hset hall4 ht5 ho5 hu5 hold5 HT4 HO4 HU4 HK4 gc4 f4 HC2 HU2 HRUN H1 HU1 HB1 e0 e1 e2 e3 f0 gc0 hg1 hx1 HSZ
    generalize w4.setCell ⟨gc, 0, none⟩ (.slice a4 (l.length + 1) k4) = w5 at *
    go_wp2_with fail
    go_ret
    exact ⟨by simp, _, HCZ.out, HU5.out⟩
set_option maxRecDepth 20000 in
set_option maxHeartbeats 4000000 in
theorem rfNode_any (h : CZ w0 w gc v l) : Calls Tryz.prog 145 #[.pointer (some ⟨gc, 0, none⟩), .agg #[.int .i64 1, .slice none 0 0, .int .i64 0, .int .i64 0, .bool false, .int .i64 0, .int .i64 0, .slice none 0 0]] w fun e w' => e = .returned (.tuple #[]) ∧ Upd [] w w' := by
  have hu1 : Upd [] w (w.alloc (.cells #[.int .i64 1, .slice none 0 0, .int .i64 0, .int .i64 0, .bool false, .int .i64 0, .int .i64 0, .slice none 0 0] 236)) := (Upd.refl [] w).alloc _
  have HU1 := Lib.hid hu1
  have b1 : w.cell? ⟨gc, 1, none⟩ = some (.bool false) := h.b.cell 1
  have hgc : gc < w.heap.size := h.b.lt
  clear h hu1
  go_enter Tryz.func145, Tryz.ntmps145
  go_wp2_with fail
  go_end0
  exact ⟨rfl, HU1.out⟩
structure CS (w wr : World) (gR gc gp : Nat) (sv cv : Value) (l : List (Int × Int)) : Prop where
  r : Blk wr gR 209 [.slice none 0 0, .slice none 0 0]
  p : Blk wr gp 209 [.slice none 0 0, sv]
  c : CZ w wr gc cv l
  geR : w.heap.size ≤ gR
  geP : w.heap.size ≤ gp
  ne : gR ≠ gp
theorem CS.upd0 {wr wr' : World} {gR gp : Nat} {sv cv : Value} (h : CS w wr gR gc gp sv cv l) (hu : Upd [] wr wr') : CS w wr' gR gc gp sv cv l := ⟨h.r.upd hu (by simp), h.p.upd hu (by simp), h.c.upd0 hu, h.geR, h.geP, h.ne⟩
theorem CS.put {wr wr' : World} {gR gp : Nat} {sv cv cv' : Value} {l' : List (Int × Int)} (h : CS w wr gR gc gp sv cv l) (hc : CZ w wr' gc cv' l') (hu : Upd (gc :: blk cv) wr wr') : CS w wr' gR gc gp sv cv' l' :=
  ⟨h.r.upd hu (h.c.ap h.r (by decide) (by decide)), h.p.upd hu (h.c.ap h.p (by decide) (by decide)), hc, h.geR, h.geP, h.ne⟩
set_option maxRecDepth 20000 in
set_option maxHeartbeats 8000000 in
theorem rfCompile_any {gk gn kk : Nat} (hk : w.cell? ⟨gk, 0, none⟩ = some (.slice (some ⟨gn, 0, none⟩) 1 1)) (hn : N1 w gn) : Calls Tryz.prog 128 #[.slice (some ⟨gk, 0, none⟩) 1 kk] w fun e w' => (∃ a n c b m d, e = .returned (.tuple #[.agg #[.slice a n c, .slice b m d], .int .i64 0, .int .i64 0])) ∧ Upd [] w w' := by
  have HK : Hid (∀ W, Upd [] w W → W.cell? ⟨gk, 0, none⟩ = some (.slice (some ⟨gn, 0, none⟩) 1 1)) := fun W hu => hu.cell hk (by simp)
  have HN := Lib.hid hn
  have HS : Hid (CS w (((w.alloc (.cells #[.slice none 0 0, .slice none 0 0] 209)).alloc (.cells #[.slice none 0 0, .bool false] 243)).alloc (.cells #[.slice none 0 0, .slice none 0 0] 209)) w.heap.size (w.heap.size + 1) (w.heap.size + 1 + 1) (.slice none 0 0) (.slice none 0 0) []) := by
    have u1 : Upd [] w (w.alloc (.cells #[.slice none 0 0, .slice none 0 0] 209)) := (Upd.refl [] w).alloc _
    have u2 : Upd [] (w.alloc (.cells #[.slice none 0 0, .slice none 0 0] 209)) ((w.alloc (.cells #[.slice none 0 0, .slice none 0 0] 209)).alloc (.cells #[.slice none 0 0, .bool false] 243)) := (Upd.refl [] _).alloc _
    have u3 : Upd [] ((w.alloc (.cells #[.slice none 0 0, .slice none 0 0] 209)).alloc (.cells #[.slice none 0 0, .bool false] 243)) (((w.alloc (.cells #[.slice none 0 0, .slice none 0 0] 209)).alloc (.cells #[.slice none 0 0, .bool false] 243)).alloc (.cells #[.slice none 0 0, .slice none 0 0] 209)) := (Upd.refl [] _).alloc _
    have b1 : Blk (w.alloc (.cells #[.slice none 0 0, .slice none 0 0] 209)) w.heap.size 209 [.slice none 0 0, .slice none 0 0] := Blk.new w _ [.slice none 0 0, .slice none 0 0]
    have b2 : Blk ((w.alloc (.cells #[.slice none 0 0, .slice none 0 0] 209)).alloc (.cells #[.slice none 0 0, .bool false] 243)) (w.heap.size + 1) 243 [.slice none 0 0, .bool false] := by
      have := Blk.new (w.alloc (.cells #[.slice none 0 0, .slice none 0 0] 209)) 243 [.slice none 0 0, .bool false]
      simpa using this
    have b3 : Blk (((w.alloc (.cells #[.slice none 0 0, .slice none 0 0] 209)).alloc (.cells #[.slice none 0 0, .bool false] 243)).alloc (.cells #[.slice none 0 0, .slice none 0 0] 209)) (w.heap.size + 1 + 1) 209 [.slice none 0 0, .slice none 0 0] := by
      have := Blk.new ((w.alloc (.cells #[.slice none 0 0, .slice none 0 0] 209)).alloc (.cells #[.slice none 0 0, .bool false] 243)) 209 [.slice none 0 0, .slice none 0 0]
      simpa using this
    exact ⟨b1.upd (u2.seq u3) (by simp), b3, ⟨b2.upd u3 (by simp), OwnN.nil _ _ _, by omega, u1.seq (u2.seq u3)⟩, Nat.le_refl _, by omega, by omega⟩
  clear hk hn
  go_enter Tryz.func128, Tryz.ntmps128
  go_wp2_with fail
  obtain ⟨gR, hgR⟩ : ∃ g, w.heap.size = g := ⟨_, rfl⟩
  obtain ⟨gc, hgc⟩ : ∃ g, gR + 1 = g := ⟨_, rfl⟩
  obtain ⟨gp, hgp⟩ : ∃ g, gc + 1 = g := ⟨_, rfl⟩
  rw [hgR, hgc, hgp] at HS
  rw [hgR, hgc, hgp]
  clear hgR hgc hgp
  generalize ((w.alloc (.cells #[.slice none 0 0, .slice none 0 0] 209)).alloc (.cells #[.slice none 0 0, .bool false] 243)).alloc (.cells #[.slice none 0 0, .slice none 0 0] 209) = w3 at *
  go_loopw [7] (fun i wr => ∃ (k : Nat) (sa : Option Addr) (sn sk : Nat) (ca : Option Addr) (cn ck : Nat) (l : List (Int × Int)), k ≤ 1 ∧ i = .int .i64 k ∧ Hid (k = 0 → sa = none ∧ sn = 0 ∧ sk = 0 ∧ ca = none ∧ cn = 0 ∧ ck = 0 ∧ l = []) ∧ Hid (CS w wr gR gc gp (.slice sa sn sk) (.slice ca cn ck) l)) (fun i _ => 1 - (intOf i).toNat)
  case atStart => exact ⟨0, none, 0, 0, none, 0, 0, [], by omega, rfl, fun _ => ⟨rfl, rfl, rfl, rfl, rfl, rfl, rfl⟩, HS⟩
  case round =>
    clear HS
    obtain ⟨k, sa, sn, sk, ca, cn, ck, l, hk, rfl, hz, hs⟩ := hrel
    by_cases hk0 : k = 0
    · obtain ⟨rfl, rfl, rfl, rfl, rfl, rfl, rfl⟩ := hz.out hk0
      subst hk0
      have ck0 := HK.out wr hs.out.c.old
      have HN1 := Lib.hid (HN.out.upd0 hs.out.c.old)
      go_wp2_with fail
      (with_reducible refine (rfRight_any HN1.out).mono ?_)
      rintro e w4 ⟨rfl, hu4⟩
      have HS4 := Lib.hid (hs.out.upd0 hu4)
      have HN4 := Lib.hid (HN1.out.upd0 hu4)
      clear hs hu4 HN1 ck0
      have cp1 : w4.cell? ⟨gp, 1, none⟩ = some (.slice none 0 0) := HS4.out.p.cell 1
      have cc0 : w4.cell? ⟨gc, 0, none⟩ = some (.slice none 0 0) := HS4.out.c.b.cell 0
      have fp1 := HS4.out.p.frozen 1
      have hgp4 : gp < w4.heap.size := HS4.out.p.lt
      have hgc4 : gc < w4.heap.size := HS4.out.c.b.lt
      have hu5 : Upd [] w4 (w4.alloc (.cells #[.int .i64 0] 3)).drew := ((Upd.refl [] w4).alloc _).drew
      have HA := Lib.hid (app_int0 (w4.alloc (.cells #[.int .i64 0] 3)).drew w4.heap.size (((Blk.new w4 3 [.int .i64 0]).upd (Upd.refl [] _).drew (by simp)).cell 0))
      have HS5 := Lib.hid (HS4.out.upd0 hu5)
      clear hu5
      go_wp2_with fail
      go_region_law (first | ((with_reducible refine step_app_of rfl (.tmp 31) (.tmp 37) rfl (.slice none 0 0) (.slice (some ⟨w4.heap.size, 0, none⟩) 1 1) rfl rfl HA.out ?_); (rintro v6 w6 ⟨⟨a6, k6, rfl⟩, hu6⟩; have hs6 := HS5.out.upd0 hu6; have cp6 := hs6.p.cell 1; have fp6 := hs6.p.frozen 1; have HS6 := Lib.hid hs6; clear hu6 hs6; dsimp only)))
      all_goals
        have hset : Upd [gp] w6 (w6.setCell ⟨gp, 1, none⟩ (.slice a6 1 k6)) := (Upd.refl [gp] w6).setCell _ _ (.inl (by simp))
        have hs7 : CS w (w6.setCell ⟨gp, 1, none⟩ (.slice a6 1 k6)) gR gc gp (.slice a6 1 k6) (.slice none 0 0) [] :=
          ⟨HS6.out.r.upd hset (by simp; exact HS6.out.ne), HS6.out.p.set_ 1 _, HS6.out.c.upd1 HS6.out.p (by decide) (by decide) HS6.out.geP hset, HS6.out.geR, HS6.out.geP, HS6.out.ne⟩
        have HS7 := Lib.hid hs7
        have ck7 := HK.out _ hs7.c.old
        have HN7 := Lib.hid (HN.out.upd0 hs7.c.old)
        clear hset hs7 HS6 HS5 HS4 HA cp6 fp6 cp1 cc0 fp1 hgp4 hgc4 HN4
        generalize w6.setCell ⟨gp, 1, none⟩ (.slice a6 1 k6) = w7 at *
        go_wp2_with fail
        (with_reducible refine (rfRead_any HN7.out).mono ?_)
        rintro e w8 ⟨rfl, hu8⟩
        have hu9 : Upd [] w8 (w8.alloc (.cells #[.int .i64 1, .slice none 0 0, .int .i64 0, .int .i64 0, .bool false, .int .i64 0, .int .i64 0, .slice none 0 0] 236)) := (Upd.refl [] w8).alloc _
        have HT9 : Hid (Blk (w8.alloc (.cells #[.int .i64 1, .slice none 0 0, .int .i64 0, .int .i64 0, .bool false, .int .i64 0, .int .i64 0, .slice none 0 0] 236)) w8.heap.size 236 [.int .i64 1, .slice none 0 0, .int .i64 0, .int .i64 0, .bool false, .int .i64 0, .int .i64 0, .slice none 0 0]) := Blk.new w8 _ [.int .i64 1, .slice none 0 0, .int .i64 0, .int .i64 0, .bool false, .int .i64 0, .int .i64 0, .slice none 0 0]
        have HS9 := Lib.hid (HS7.out.upd0 (Upd.seq hu8 hu9))
        clear hu8 hu9 HS7 HN7 ck7
        go_wp2_with fail
        generalize w8.alloc (.cells #[.int .i64 1, .slice none 0 0, .int .i64 0, .int .i64 0, .bool false, .int .i64 0, .int .i64 0, .slice none 0 0] 236) = w9 at *
        generalize w8.heap.size = gt at *
        (with_reducible refine (rfPut_any HS9.out.c (by simp) 4 0).mono ?_)
        rintro e w10 ⟨rfl, cv10, hc10, hu10⟩
        have HS10 := Lib.hid (HS9.out.put hc10 hu10)
        have HT10 := Lib.hid (HT9.out.upd hu10 (HS9.out.c.ap HT9.out (by decide) (by decide)))
        have d0 : w10.cell? ⟨gt, 0, none⟩ = some (.int .i64 1) := HT10.out.cell 0
        have d1 : w10.cell? ⟨gt, 1, none⟩ = some (.slice none 0 0) := HT10.out.cell 1
        have d2 : w10.cell? ⟨gt, 2, none⟩ = some (.int .i64 0) := HT10.out.cell 2
        have d3 : w10.cell? ⟨gt, 3, none⟩ = some (.int .i64 0) := HT10.out.cell 3
        have d4 : w10.cell? ⟨gt, 4, none⟩ = some (.bool false) := HT10.out.cell 4
        have d5 : w10.cell? ⟨gt, 5, none⟩ = some (.int .i64 0) := HT10.out.cell 5
        have d6 : w10.cell? ⟨gt, 6, none⟩ = some (.int .i64 0) := HT10.out.cell 6
        have d7 : w10.cell? ⟨gt, 7, none⟩ = some (.slice none 0 0) := HT10.out.cell 7
        clear hc10 hu10 HS9 HT9
        go_wp2_with fail
        (with_reducible refine (rfNode_any HS10.out.c).mono ?_)
        rintro e w11 ⟨rfl, hu11⟩
        have HS11 := Lib.hid (HS10.out.upd0 hu11)
        clear hu11 HS10 HT10 d0 d1 d2 d3 d4 d5 d6 d7
        go_wp2_with fail
        (with_reducible refine (rfPut_any HS11.out.c (by simp) 4 1).mono ?_)
        rintro e w12 ⟨rfl, cv12, hc12, hu12⟩
        have HS12 := Lib.hid (HS11.out.put hc12 hu12)
        clear hc12 hu12 HS11
        go_wp2_with fail
        (with_reducible refine (rfPut_any HS12.out.c (by simp) 7 0).mono ?_)
        rintro e w13 ⟨rfl, cv13, hc13, hu13⟩
        obtain ⟨a13, k13, rfl, -⟩ := hc13.row.rd insCells_len
        have hs13 := HS12.out.put hc13 hu13
        have big : w13.cell? ⟨gc, 1, none⟩ = some (.bool false) := hs13.c.b.cell 1
        have HS13 := Lib.hid hs13
        clear hc13 hu13 HS12 hs13
        go_wp2_with fail
        go_roundw
        case rel => exact ⟨1, a6, 1, k6, _, _, _, _, by omega, by go_num, fun q => absurd q (by omega), HS13⟩
        case measure => simp [intOf]
    · obtain rfl : k = 1 := by omega
      have cc0 : wr.cell? ⟨gc, 0, none⟩ = some (.slice ca cn ck) := hs.out.c.b.cell 0
      have cp0 : wr.cell? ⟨gp, 0, none⟩ = some (.slice none 0 0) := hs.out.p.cell 0
      have fp0 := hs.out.p.frozen 0
      go_upto_region 19 with fail
      have hset : Upd [gp] wr (wr.setCell ⟨gp, 0, none⟩ (.slice ca cn ck)) := (Upd.refl [gp] wr).setCell _ _ (.inl (by simp))
      have HP8 : Hid (Blk (wr.setCell ⟨gp, 0, none⟩ (.slice ca cn ck)) gp 209 [.slice ca cn ck, .slice sa sn sk]) := hs.out.p.set_ 0 _
      have HR8 : Hid (Blk (wr.setCell ⟨gp, 0, none⟩ (.slice ca cn ck)) gR 209 [.slice none 0 0, .slice none 0 0]) := hs.out.r.upd hset (by simp; exact hs.out.ne)
      have HU8 : Hid (Upd [] w (wr.setCell ⟨gp, 0, none⟩ (.slice ca cn ck))) := hs.out.c.old.trans hset (by simp) (fun x hx => .inr (by simp at hx; subst hx; exact hs.out.geP))
      have HGR := Lib.hid hs.out.geR
      clear hset hs cc0 cp0 fp0 hz
      generalize wr.setCell ⟨gp, 0, none⟩ (.slice ca cn ck) = w18 at *
      have d0 : w18.cell? ⟨gp, 0, none⟩ = some (.slice ca cn ck) := HP8.out.cell 0
      have d1 : w18.cell? ⟨gp, 1, none⟩ = some (.slice sa sn sk) := HP8.out.cell 1
      go_wp2_with (first | ((refine wpList_store_row rfl 209 (.tmp 2) (.tmp 72) rfl gR #[.slice ca cn ck, .slice sa sn sk] rfl rfl 209 #[.slice none 0 0, .slice none 0 0] HR8.out (by show _ = some 2; exact infoProg) rfl (by simp [Value.oneCell']) ?_)) | fail)
      have hU := HU8.out.trans (T := []) (upd_row _ gR #[.slice ca cn ck, .slice sa sn sk]) (by simp) (fun y hy => .inr (by simp at hy; have := HGR.out; omega))
      have HB := Lib.hid (blk_row HR8.out [.slice ca cn ck, .slice sa sn sk])
      have e0 : (World.setRow w18 gR #[.slice ca cn ck, .slice sa sn sk]).cell? ⟨gR, 0, none⟩ = some (.slice ca cn ck) := HB.out.cell 0
      have e1 : (World.setRow w18 gR #[.slice ca cn ck, .slice sa sn sk]).cell? ⟨gR, 1, none⟩ = some (.slice sa sn sk) := HB.out.cell 1
      clear HB HR8 HU8 HP8
      generalize World.setRow _ _ _ = W2 at *
      exact bodyPost_ret (v := .tuple #[.agg #[.slice ca cn ck, .slice sa sn sk], .int .i64 0, .int .i64 0]) (by simp [results, Tryz.results128, go_sem, e0, e1]; try rfl) rfl ⟨⟨_, _, _, _, _, _, rfl⟩, hU⟩
end
end Go.Proofs.YtmhojaiajhdlcaaGreat
namespace Go.Proofs.YtmhojaiajhdlcaaGreat
open Go.RowKit
set_option linter.unusedSimpArgs false
set_option linter.unusedVariables false
set_option maxRecDepth 20000 in
set_option maxHeartbeats 2000000 in
theorem rfName_any (w : World) (s : ByteArray) :
    Calls Tryz.prog 125 #[sv s] w fun e w' => e = .returned (.bool (ruleOk s)) ∧ w = w' := by
  by_cases h1 : s.size < 1
  · have HN : Hid (ruleOk s = false) := by unfold Hid ruleOk; simp; omega
    obtain rfl : s = ⟨#[]⟩ := str_inj _ _ (by rw [strList_eq, strList_eq]; exact List.eq_nil_of_length_eq_zero (by rw [Array.length_toList]; show s.size = 0; omega))
    go_enter Tryz.func125, Tryz.ntmps125
    go_wp2_with fail
    go_ret
    exact ⟨by rw [HN.out]; rfl, rfl⟩
  · have q : (s.toList == ([] : List UInt8)) = false := by
      rw [beq_eq_false_iff_ne, strList_eq]
      intro q
      have := congrArg List.length q
      rw [Array.length_toList] at this
      have : s.size = 0 := this
      omega
    by_cases h2 : s.size ≤ 32
    · have q' : ¬ (32 : Int) < s.size := by omega
      go_enter Tryz.func125, Tryz.ntmps125
      go_wp2_with fail
      go_loopw [3] (fun i wr => ∃ k : Nat, k ≤ s.size ∧ i = .int .i64 k ∧ w = wr ∧ Hid (∀ j (h : j < s.size), j < k → ruleCh s[j] = true)) (fun i _ => s.size - (intOf i).toNat)
      case atStart => exact ⟨0, Nat.zero_le _, rfl, rfl, fun j _ h => absurd h (by omega)⟩
      case round =>
        obtain ⟨k, hk, rfl, rfl, hh⟩ := hrel
        by_cases hlt : k < s.size
        · have q0 : (0 : Int) ≤ k := by omega
          have q1 : (k : Int) < s.size := by omega
          have HT : Hid (ruleCh s[k] = true → ∀ j (h : j < s.size), j < k + 1 → ruleCh s[j] = true) := fun hb j hj hjk => by
            rcases Nat.lt_or_eq_of_le (Nat.le_of_lt_succ hjk) with h | h
            · exact hh.out j hj h
            · subst h; exact hb
          have HF : Hid (ruleCh s[k] = false → ruleOk s = false) := fun hb => by
            unfold ruleOk
            exact decide_eq_false (fun h => by have := h.2.2 k hlt; rw [hb] at this; exact absurd this (by simp))
          obtain ⟨d, hd⟩ : ∃ d : Int, ((s[k]).toNat : Int) = d := ⟨_, rfl⟩
          have HC : Hid (ruleCh s[k] = decide ((97 ≤ d ∧ d ≤ 122) ∨ (65 ≤ d ∧ d ≤ 90) ∨ (48 ≤ d ∧ d ≤ 57) ∨ d = 45 ∨ d = 95 ∨ d = 46)) := by
            unfold Hid ruleCh
            rw [← hd]
            exact decide_eq_decide.2 (by omega)
          have hd0 : 0 ≤ d := by omega
          rcases (show (97 ≤ d ∧ d ≤ 122) ∨ (122 < d) ∨ (65 ≤ d ∧ d ≤ 90) ∨ (d = 95) ∨ ((90 < d ∧ d < 97) ∧ d ≠ 95) ∨ (48 ≤ d ∧ d ≤ 57) ∨ (57 < d ∧ d < 65) ∨ (d = 45) ∨ (d = 46) ∨ (d < 48 ∧ d ≠ 45 ∧ d ≠ 46) by omega) with hc | hc | hc | hc | hc | hc | hc | hc | hc | hc
          · have f0 : ¬ d < (97 : Int) := by omega
            have f1 : ¬ d < (65 : Int) := by omega
            have f2 : ¬ d < (48 : Int) := by omega
            have f3 : ¬ (122 : Int) < d := by omega
            have f4 : (90 : Int) < d := by omega
            have f5 : (57 : Int) < d := by omega
            have f6 : (d != (45 : Int)) = true := by rw [bne_iff_ne]; omega
            have f7 : (d != (95 : Int)) = true := by rw [bne_iff_ne]; omega
            have f8 : (d != (46 : Int)) = true := by rw [bne_iff_ne]; omega
            have HO := Lib.hid (HT.out (by rw [HC.out]; exact decide_eq_true (by omega)))
            clear hc HT HF hh
            go_wp2_with fail
            go_roundw
            case rel => exact ⟨k + 1, by omega, by go_num, by first | trivial | rfl, HO⟩
            case measure => simp [intOf]; omega
          · have f0 : ¬ d < (97 : Int) := by omega
            have f1 : ¬ d < (65 : Int) := by omega
            have f2 : ¬ d < (48 : Int) := by omega
            have f3 : (122 : Int) < d := by omega
            have f4 : (90 : Int) < d := by omega
            have f5 : (57 : Int) < d := by omega
            have f6 : (d != (45 : Int)) = true := by rw [bne_iff_ne]; omega
            have f7 : (d != (95 : Int)) = true := by rw [bne_iff_ne]; omega
            have f8 : (d != (46 : Int)) = true := by rw [bne_iff_ne]; omega
            have HO := Lib.hid (HF.out (by rw [HC.out]; exact decide_eq_false (by omega)))
            clear hc HT HF hh
            go_wp2_with fail
            go_ret
            exact ⟨by rw [HO.out]; rfl, rfl⟩
          · have f0 : d < (97 : Int) := by omega
            have f1 : ¬ d < (65 : Int) := by omega
            have f2 : ¬ d < (48 : Int) := by omega
            have f3 : ¬ (122 : Int) < d := by omega
            have f4 : ¬ (90 : Int) < d := by omega
            have f5 : (57 : Int) < d := by omega
            have f6 : (d != (45 : Int)) = true := by rw [bne_iff_ne]; omega
            have f7 : (d != (95 : Int)) = true := by rw [bne_iff_ne]; omega
            have f8 : (d != (46 : Int)) = true := by rw [bne_iff_ne]; omega
            have HO := Lib.hid (HT.out (by rw [HC.out]; exact decide_eq_true (by omega)))
            clear hc HT HF hh
            go_wp2_with fail
            go_roundw
            case rel => exact ⟨k + 1, by omega, by go_num, by first | trivial | rfl, HO⟩
            case measure => simp [intOf]; omega
          · have f0 : d < (97 : Int) := by omega
            have f1 : ¬ d < (65 : Int) := by omega
            have f2 : ¬ d < (48 : Int) := by omega
            have f3 : ¬ (122 : Int) < d := by omega
            have f4 : (90 : Int) < d := by omega
            have f5 : (57 : Int) < d := by omega
            have f6 : (d != (45 : Int)) = true := by rw [bne_iff_ne]; omega
            have f7 : (d != (95 : Int)) = false := by rw [bne_eq_false_iff_eq]; omega
            have f8 : (d != (46 : Int)) = true := by rw [bne_iff_ne]; omega
            have HO := Lib.hid (HT.out (by rw [HC.out]; exact decide_eq_true (by omega)))
            clear hc HT HF hh
            go_wp2_with fail
            go_roundw
            case rel => exact ⟨k + 1, by omega, by go_num, by first | trivial | rfl, HO⟩
            case measure => simp [intOf]; omega
          · have f0 : d < (97 : Int) := by omega
            have f1 : ¬ d < (65 : Int) := by omega
            have f2 : ¬ d < (48 : Int) := by omega
            have f3 : ¬ (122 : Int) < d := by omega
            have f4 : (90 : Int) < d := by omega
            have f5 : (57 : Int) < d := by omega
            have f6 : (d != (45 : Int)) = true := by rw [bne_iff_ne]; omega
            have f7 : (d != (95 : Int)) = true := by rw [bne_iff_ne]; omega
            have f8 : (d != (46 : Int)) = true := by rw [bne_iff_ne]; omega
            have HO := Lib.hid (HF.out (by rw [HC.out]; exact decide_eq_false (by omega)))
            clear hc HT HF hh
            go_wp2_with fail
            go_ret
            exact ⟨by rw [HO.out]; rfl, rfl⟩
          · have f0 : d < (97 : Int) := by omega
            have f1 : d < (65 : Int) := by omega
            have f2 : ¬ d < (48 : Int) := by omega
            have f3 : ¬ (122 : Int) < d := by omega
            have f4 : ¬ (90 : Int) < d := by omega
            have f5 : ¬ (57 : Int) < d := by omega
            have f6 : (d != (45 : Int)) = true := by rw [bne_iff_ne]; omega
            have f7 : (d != (95 : Int)) = true := by rw [bne_iff_ne]; omega
            have f8 : (d != (46 : Int)) = true := by rw [bne_iff_ne]; omega
            have HO := Lib.hid (HT.out (by rw [HC.out]; exact decide_eq_true (by omega)))
            clear hc HT HF hh
            go_wp2_with fail
            go_roundw
            case rel => exact ⟨k + 1, by omega, by go_num, by first | trivial | rfl, HO⟩
            case measure => simp [intOf]; omega
          · have f0 : d < (97 : Int) := by omega
            have f1 : d < (65 : Int) := by omega
            have f2 : ¬ d < (48 : Int) := by omega
            have f3 : ¬ (122 : Int) < d := by omega
            have f4 : ¬ (90 : Int) < d := by omega
            have f5 : (57 : Int) < d := by omega
            have f6 : (d != (45 : Int)) = true := by rw [bne_iff_ne]; omega
            have f7 : (d != (95 : Int)) = true := by rw [bne_iff_ne]; omega
            have f8 : (d != (46 : Int)) = true := by rw [bne_iff_ne]; omega
            have HO := Lib.hid (HF.out (by rw [HC.out]; exact decide_eq_false (by omega)))
            clear hc HT HF hh
            go_wp2_with fail
            go_ret
            exact ⟨by rw [HO.out]; rfl, rfl⟩
          · have f0 : d < (97 : Int) := by omega
            have f1 : d < (65 : Int) := by omega
            have f2 : d < (48 : Int) := by omega
            have f3 : ¬ (122 : Int) < d := by omega
            have f4 : ¬ (90 : Int) < d := by omega
            have f5 : ¬ (57 : Int) < d := by omega
            have f6 : (d != (45 : Int)) = false := by rw [bne_eq_false_iff_eq]; omega
            have f7 : (d != (95 : Int)) = true := by rw [bne_iff_ne]; omega
            have f8 : (d != (46 : Int)) = true := by rw [bne_iff_ne]; omega
            have HO := Lib.hid (HT.out (by rw [HC.out]; exact decide_eq_true (by omega)))
            clear hc HT HF hh
            go_wp2_with fail
            go_roundw
            case rel => exact ⟨k + 1, by omega, by go_num, by first | trivial | rfl, HO⟩
            case measure => simp [intOf]; omega
          · have f0 : d < (97 : Int) := by omega
            have f1 : d < (65 : Int) := by omega
            have f2 : d < (48 : Int) := by omega
            have f3 : ¬ (122 : Int) < d := by omega
            have f4 : ¬ (90 : Int) < d := by omega
            have f5 : ¬ (57 : Int) < d := by omega
            have f6 : (d != (45 : Int)) = true := by rw [bne_iff_ne]; omega
            have f7 : (d != (95 : Int)) = true := by rw [bne_iff_ne]; omega
            have f8 : (d != (46 : Int)) = false := by rw [bne_eq_false_iff_eq]; omega
            have HO := Lib.hid (HT.out (by rw [HC.out]; exact decide_eq_true (by omega)))
            clear hc HT HF hh
            go_wp2_with fail
            go_roundw
            case rel => exact ⟨k + 1, by omega, by go_num, by first | trivial | rfl, HO⟩
            case measure => simp [intOf]; omega
          · have f0 : d < (97 : Int) := by omega
            have f1 : d < (65 : Int) := by omega
            have f2 : d < (48 : Int) := by omega
            have f3 : ¬ (122 : Int) < d := by omega
            have f4 : ¬ (90 : Int) < d := by omega
            have f5 : ¬ (57 : Int) < d := by omega
            have f6 : (d != (45 : Int)) = true := by rw [bne_iff_ne]; omega
            have f7 : (d != (95 : Int)) = true := by rw [bne_iff_ne]; omega
            have f8 : (d != (46 : Int)) = true := by rw [bne_iff_ne]; omega
            have HO := Lib.hid (HF.out (by rw [HC.out]; exact decide_eq_false (by omega)))
            clear hc HT HF hh
            go_wp2_with fail
            go_ret
            exact ⟨by rw [HO.out]; rfl, rfl⟩
        · obtain rfl : k = s.size := by omega
          have HN : Hid (ruleOk s = true) := by
            unfold Hid ruleOk
            exact decide_eq_true ⟨by omega, by omega, fun j hj => hh.out j hj hj⟩
          go_wp2_with fail
          go_ret
          exact ⟨by rw [HN.out]; rfl, rfl⟩
    · have HN : Hid (ruleOk s = false) := by unfold Hid ruleOk; exact decide_eq_false (fun h => h2 h.2.1)
      have q' : (32 : Int) < s.size := by omega
      go_enter Tryz.func125, Tryz.ntmps125
      go_wp2_with fail
      go_ret
      exact ⟨by rw [HN.out]; rfl, rfl⟩
end Go.Proofs.YtmhojaiajhdlcaaGreat
namespace Go.Proofs.YtmhojaiajhdlcaaGreat
/-- A slice's value. -/
structure Sl where
  a : Option Addr
  n : Nat
  k : Nat
instance : Inhabited Sl := ⟨⟨none, 0, 0⟩⟩
abbrev slv (s : Sl) : Value := .slice s.a s.n s.k
theorem slv_one (s : Sl) : (slv s).oneCell' = true := rfl
end Go.Proofs.YtmhojaiajhdlcaaGreat
namespace Go.Proofs.YtmhojaiajhdlcaaGreat
open Go.RowKit
set_option linter.unusedSimpArgs false
set_option linter.unusedVariables false
def Ap (F G : List Nat) : Prop := ∀ x ∈ F, x ∉ G
theorem Ap.symm {F G : List Nat} (h : Ap F G) : Ap G F := fun x hx hF => h x hF hx
theorem Ap.nil {G : List Nat} : Ap [] G := fun x hx => by simp at hx
theorem Ap.new {F G : List Nat} {n : Nat} (hf : ∀ y ∈ F, n ≤ y) (hg : ∀ x ∈ G, x < n) : Ap F G := fun x hx hG => by have := hf x hx; have := hg x hG; omega
theorem Ap.next {F F' G : List Nat} {n : Nat} (h : Ap F G) (hf : ∀ y ∈ F', y ∈ F ∨ n ≤ y) (hg : ∀ x ∈ G, x < n) : Ap F' G := fun x hx hG => by
  rcases hf x hx with q | q
  · exact h x q hG
  · have := hg x hG; omega
end Go.Proofs.YtmhojaiajhdlcaaGreat
