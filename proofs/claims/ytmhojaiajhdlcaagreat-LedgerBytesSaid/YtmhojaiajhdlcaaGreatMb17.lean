/- Texts of the proof, joined: The walk of LedgerBytes: a part. -/
import Derived.Test.YtmhojaiajhdlcaaGreatMb14
import Derived.Deep.CutBlock
import Derived.Deep.DeepCutAuto
namespace Go.Proofs.YtmhojaiajhdlcaaGreat
open Go.RowKit
set_option linter.unusedSimpArgs false
set_option linter.unusedVariables false
set_option maxRecDepth 20000 in
set_option maxHeartbeats 8000000 in
theorem lb9_F {w w9 : World} {g2 g7 : Nat} {ba : Option Addr} {bk : Nat} {B E : List UInt8} {xok : Bool} {q0 q3 q4 q5 q9 q10 q11 q12 q13 q14 q15 q16 q17 q18 q19 q20 q21 q22 q23 q24 q25 q26 q27 q28 q29 q30 q31 q32 q33 q34 q35 q36 q37 q38 q39 q40 q41 q42 q43 q44 q45 q46 q47 q48 q49 q50 q51 q52 q53 q54 q55 q56 q57 q58 q59 q60 q61 q62 q63 q64 q65 q66 q67 q68 q69 q70 q71 q72 q73 q74 q75 q76 q77 q78 q79 : Value} {Q : Exit → Act → World → Prop} (ino gen at_ : Int) (rule : ByteArray) (kind c0 c1 c2 c3 c4 c5 c6 c7 c8 c9 : Int) (hok : recOk (mkRec ino gen at_ rule kind c0 c1 c2 c3 c4 c5 c6 c7 c8 c9) = false) (xino xgen xat : Int) (xrule : ByteArray) (xkind x0 x1 x2 x3 x4 x5 x6 x7 x8 x9 : Int)
    (h2 : Blk w9 g2 27 [.int .i64 ino, .int .i64 gen, .int .i64 at_, .string rule, .int .i64 kind, .int .i64 c0, .int .i64 c1, .int .i64 c2, .int .i64 c3, .int .i64 c4, .int .i64 c5, .int .i64 c6, .int .i64 c7, .int .i64 c8, .int .i64 c9]) (h7 : Blk w9 g7 27 [.int .i64 xino, .int .i64 xgen, .int .i64 xat, .string xrule, .int .i64 xkind, .int .i64 x0, .int .i64 x1, .int .i64 x2, .int .i64 x3, .int .i64 x4, .int .i64 x5, .int .i64 x6, .int .i64 x7, .int .i64 x8, .int .i64 x9]) (hby : Bytes w9 (.slice ba B.length bk) B) (huw : Upd [] w w9) (henc : xok = true → recOk (mkRec xino xgen xat xrule xkind x0 x1 x2 x3 x4 x5 x6 x7 x8 x9) = true ∧ encRec (mkRec xino xgen xat xrule xkind x0 x1 x2 x3 x4 x5 x6 x7 x8 x9) = B)
    (hE : (if recOk (mkRec ino gen at_ rule kind c0 c1 c2 c3 c4 c5 c6 c7 c8 c9) then encRec (mkRec ino gen at_ rule kind c0 c1 c2 c3 c4 c5 c6 c7 c8 c9) else []) = E) (hEl : E.length ≤ 140737488351232) (zino zgen zat : Int) (zrule : ByteArray) (zkind z0 z1 z2 z3 z4 z5 z6 z7 z8 z9 : Int) (hzg : getRec E = (mkRec zino zgen zat zrule zkind z0 z1 z2 z3 z4 z5 z6 z7 z8 z9, false))
    (hQ : ∀ (y0 y1 y2 y3 y5 y6 y7 y8 y9 y10 y11 y12 y13 y14 y15 y16 y17 y18 y19 y20 y21 y22 y23 y24 y25 y26 y27 y28 y29 y30 y31 y32 y33 y34 y35 y36 y37 y38 y39 y40 y41 y42 y43 y44 y45 y46 y47 y48 y49 y50 y51 y52 y53 y54 y55 y56 y57 y58 y59 y60 y61 y62 y63 y64 y65 y66 y67 y68 y69 y70 y71 y72 y73 y74 y75 y76 y77 y78 y79 : Value) (w' : World), Upd [] w w' → Q .ret ⟨#[y0, y1, y2, y3, .bool true, y5, y6, y7, y8, y9, y10, y11, y12, y13, y14, y15, y16, y17, y18, y19, y20, y21, y22, y23, y24, y25, y26, y27, y28, y29, y30, y31, y32, y33, y34, y35, y36, y37, y38, y39, y40, y41, y42, y43, y44, y45, y46, y47, y48, y49, y50, y51, y52, y53, y54, y55, y56, y57, y58, y59, y60, y61, y62, y63, y64, y65, y66, y67, y68, y69, y70, y71, y72, y73, y74, y75, y76, y77, y78, y79], []⟩ w') {K : Act → World → Prop} (hK : ∀ a w, Code.wp Tryz.prog rest9 Q a w → K a w) : Code.wp Tryz.prog reg9 (Exit.then K Q) ⟨#[q0, .slice ba B.length bk, .pointer (some ⟨g2, 0, none⟩), q3, q4, q5, .bool false, .pointer (some ⟨g7, 0, none⟩), .bool xok, q9, q10, q11, q12, q13, q14, q15, q16, q17, q18, q19, q20, q21, q22, q23, q24, q25, q26, q27, q28, q29, q30, q31, q32, q33, q34, q35, q36, q37, q38, q39, q40, q41, q42, q43, q44, q45, q46, q47, q48, q49, q50, q51, q52, q53, q54, q55, q56, q57, q58, q59, q60, q61, q62, q63, q64, q65, q66, q67, q68, q69, q70, q71, q72, q73, q74, q75, q76, q77, q78, q79], []⟩ w9 := by
  conv => arg 2; whnf
  change ∀ a w, Code.wp _ (Code.seq _ _) Q a w → K a w at hK
  have HQ := Lib.hid hQ
  have H2W := Lib.hid h2
  have H7W := Lib.hid h7
  have HBW := Lib.hid hby
  have HUW := Lib.hid huw
  have HENC := Lib.hid henc
  have HE := Lib.hid hE
  have HEL := Lib.hid hEl
  have HZG := Lib.hid hzg
  have hqr := recEq_same ino gen at_ rule kind c0 c1 c2 c3 c4 c5 c6 c7 c8 c9
  have h2c0 : ∀ W, Upd [] w9 W → W.cell? ⟨g2, 0, none⟩ = some (.int .i64 ino) := fun W hu => hu.cell (H2W.out.cell 0) (by simp)
  have h2c1 : ∀ W, Upd [] w9 W → W.cell? ⟨g2, 1, none⟩ = some (.int .i64 gen) := fun W hu => hu.cell (H2W.out.cell 1) (by simp)
  have h2c2 : ∀ W, Upd [] w9 W → W.cell? ⟨g2, 2, none⟩ = some (.int .i64 at_) := fun W hu => hu.cell (H2W.out.cell 2) (by simp)
  have h2c3 : ∀ W, Upd [] w9 W → W.cell? ⟨g2, 3, none⟩ = some (.string rule) := fun W hu => hu.cell (H2W.out.cell 3) (by simp)
  have h2c4 : ∀ W, Upd [] w9 W → W.cell? ⟨g2, 4, none⟩ = some (.int .i64 kind) := fun W hu => hu.cell (H2W.out.cell 4) (by simp)
  have h2c5 : ∀ W, Upd [] w9 W → W.cell? ⟨g2, 5, none⟩ = some (.int .i64 c0) := fun W hu => hu.cell (H2W.out.cell 5) (by simp)
  have h2c6 : ∀ W, Upd [] w9 W → W.cell? ⟨g2, 6, none⟩ = some (.int .i64 c1) := fun W hu => hu.cell (H2W.out.cell 6) (by simp)
  have h2c7 : ∀ W, Upd [] w9 W → W.cell? ⟨g2, 7, none⟩ = some (.int .i64 c2) := fun W hu => hu.cell (H2W.out.cell 7) (by simp)
  have h2c8 : ∀ W, Upd [] w9 W → W.cell? ⟨g2, 8, none⟩ = some (.int .i64 c3) := fun W hu => hu.cell (H2W.out.cell 8) (by simp)
  have h2c9 : ∀ W, Upd [] w9 W → W.cell? ⟨g2, 9, none⟩ = some (.int .i64 c4) := fun W hu => hu.cell (H2W.out.cell 9) (by simp)
  have h2c10 : ∀ W, Upd [] w9 W → W.cell? ⟨g2, 10, none⟩ = some (.int .i64 c5) := fun W hu => hu.cell (H2W.out.cell 10) (by simp)
  have h2c11 : ∀ W, Upd [] w9 W → W.cell? ⟨g2, 11, none⟩ = some (.int .i64 c6) := fun W hu => hu.cell (H2W.out.cell 11) (by simp)
  have h2c12 : ∀ W, Upd [] w9 W → W.cell? ⟨g2, 12, none⟩ = some (.int .i64 c7) := fun W hu => hu.cell (H2W.out.cell 12) (by simp)
  have h2c13 : ∀ W, Upd [] w9 W → W.cell? ⟨g2, 13, none⟩ = some (.int .i64 c8) := fun W hu => hu.cell (H2W.out.cell 13) (by simp)
  have h2c14 : ∀ W, Upd [] w9 W → W.cell? ⟨g2, 14, none⟩ = some (.int .i64 c9) := fun W hu => hu.cell (H2W.out.cell 14) (by simp)
  have h7c0 : ∀ W, Upd [] w9 W → W.cell? ⟨g7, 0, none⟩ = some (.int .i64 xino) := fun W hu => hu.cell (H7W.out.cell 0) (by simp)
  have h7c1 : ∀ W, Upd [] w9 W → W.cell? ⟨g7, 1, none⟩ = some (.int .i64 xgen) := fun W hu => hu.cell (H7W.out.cell 1) (by simp)
  have h7c2 : ∀ W, Upd [] w9 W → W.cell? ⟨g7, 2, none⟩ = some (.int .i64 xat) := fun W hu => hu.cell (H7W.out.cell 2) (by simp)
  have h7c3 : ∀ W, Upd [] w9 W → W.cell? ⟨g7, 3, none⟩ = some (.string xrule) := fun W hu => hu.cell (H7W.out.cell 3) (by simp)
  have h7c4 : ∀ W, Upd [] w9 W → W.cell? ⟨g7, 4, none⟩ = some (.int .i64 xkind) := fun W hu => hu.cell (H7W.out.cell 4) (by simp)
  have h7c5 : ∀ W, Upd [] w9 W → W.cell? ⟨g7, 5, none⟩ = some (.int .i64 x0) := fun W hu => hu.cell (H7W.out.cell 5) (by simp)
  have h7c6 : ∀ W, Upd [] w9 W → W.cell? ⟨g7, 6, none⟩ = some (.int .i64 x1) := fun W hu => hu.cell (H7W.out.cell 6) (by simp)
  have h7c7 : ∀ W, Upd [] w9 W → W.cell? ⟨g7, 7, none⟩ = some (.int .i64 x2) := fun W hu => hu.cell (H7W.out.cell 7) (by simp)
  have h7c8 : ∀ W, Upd [] w9 W → W.cell? ⟨g7, 8, none⟩ = some (.int .i64 x3) := fun W hu => hu.cell (H7W.out.cell 8) (by simp)
  have h7c9 : ∀ W, Upd [] w9 W → W.cell? ⟨g7, 9, none⟩ = some (.int .i64 x4) := fun W hu => hu.cell (H7W.out.cell 9) (by simp)
  have h7c10 : ∀ W, Upd [] w9 W → W.cell? ⟨g7, 10, none⟩ = some (.int .i64 x5) := fun W hu => hu.cell (H7W.out.cell 10) (by simp)
  have h7c11 : ∀ W, Upd [] w9 W → W.cell? ⟨g7, 11, none⟩ = some (.int .i64 x6) := fun W hu => hu.cell (H7W.out.cell 11) (by simp)
  have h7c12 : ∀ W, Upd [] w9 W → W.cell? ⟨g7, 12, none⟩ = some (.int .i64 x7) := fun W hu => hu.cell (H7W.out.cell 12) (by simp)
  have h7c13 : ∀ W, Upd [] w9 W → W.cell? ⟨g7, 13, none⟩ = some (.int .i64 x8) := fun W hu => hu.cell (H7W.out.cell 13) (by simp)
  have h7c14 : ∀ W, Upd [] w9 W → W.cell? ⟨g7, 14, none⟩ = some (.int .i64 x9) := fun W hu => hu.cell (H7W.out.cell 14) (by simp)
  have a9 := Upd.refl [] w9
  clear hQ h2 h7 hby huw henc hE hEl hzg hok
  go_wp2_with fail
  (with_reducible refine (put_sl ino gen at_ rule kind c0 c1 c2 c3 c4 c5 c6 c7 c8 c9 HE.out).mono ?_)
  rintro e w10 ⟨qa, qk, rfl, hq10, hu10⟩
  have a10 := hu10
  clear hu10 a9
  go_wp2_with fail
  (with_reducible refine (ledGet_c w10 _ E zino zgen zat zrule zkind z0 z1 z2 z3 z4 z5 z6 z7 z8 z9 false hq10.out HEL.out HZG.out).mono ?_)
  rintro e w11 ⟨rfl, hu11⟩
  have a12 : Upd [] w9 (w11.alloc (.cells #[.int .i64 zino, .int .i64 zgen, .int .i64 zat, .string zrule, .int .i64 zkind, .int .i64 z0, .int .i64 z1, .int .i64 z2, .int .i64 z3, .int .i64 z4, .int .i64 z5, .int .i64 z6, .int .i64 z7, .int .i64 z8, .int .i64 z9] 27)) := a10.seq (hu11.alloc _)
  have HB11 : Hid (Blk (w11.alloc (.cells #[.int .i64 zino, .int .i64 zgen, .int .i64 zat, .string zrule, .int .i64 zkind, .int .i64 z0, .int .i64 z1, .int .i64 z2, .int .i64 z3, .int .i64 z4, .int .i64 z5, .int .i64 z6, .int .i64 z7, .int .i64 z8, .int .i64 z9] 27)) w11.heap.size 27 [.int .i64 zino, .int .i64 zgen, .int .i64 zat, .string zrule, .int .i64 zkind, .int .i64 z0, .int .i64 z1, .int .i64 z2, .int .i64 z3, .int .i64 z4, .int .i64 z5, .int .i64 z6, .int .i64 z7, .int .i64 z8, .int .i64 z9]) := Blk.new w11 _ [.int .i64 zino, .int .i64 zgen, .int .i64 zat, .string zrule, .int .i64 zkind, .int .i64 z0, .int .i64 z1, .int .i64 z2, .int .i64 z3, .int .i64 z4, .int .i64 z5, .int .i64 z6, .int .i64 z7, .int .i64 z8, .int .i64 z9]
  clear hu11 a10 hq10
  go_upto_region 10 with fail
  generalize w11.alloc (.cells #[.int .i64 zino, .int .i64 zgen, .int .i64 zat, .string zrule, .int .i64 zkind, .int .i64 z0, .int .i64 z1, .int .i64 z2, .int .i64 z3, .int .i64 z4, .int .i64 z5, .int .i64 z6, .int .i64 z7, .int .i64 z8, .int .i64 z9] 27) = w12 at *
  generalize w11.heap.size = g11 at *
  have p2c0 := h2c0 w12 a12
  have p2c1 := h2c1 w12 a12
  have p2c2 := h2c2 w12 a12
  have p2c3 := h2c3 w12 a12
  have p2c4 := h2c4 w12 a12
  have p2c5 := h2c5 w12 a12
  have p2c6 := h2c6 w12 a12
  have p2c7 := h2c7 w12 a12
  have p2c8 := h2c8 w12 a12
  have p2c9 := h2c9 w12 a12
  have p2c10 := h2c10 w12 a12
  have p2c11 := h2c11 w12 a12
  have p2c12 := h2c12 w12 a12
  have p2c13 := h2c13 w12 a12
  have p2c14 := h2c14 w12 a12
  have p7c0 := h7c0 w12 a12
  have p7c1 := h7c1 w12 a12
  have p7c2 := h7c2 w12 a12
  have p7c3 := h7c3 w12 a12
  have p7c4 := h7c4 w12 a12
  have p7c5 := h7c5 w12 a12
  have p7c6 := h7c6 w12 a12
  have p7c7 := h7c7 w12 a12
  have p7c8 := h7c8 w12 a12
  have p7c9 := h7c9 w12 a12
  have p7c10 := h7c10 w12 a12
  have p7c11 := h7c11 w12 a12
  have p7c12 := h7c12 w12 a12
  have p7c13 := h7c13 w12 a12
  have p7c14 := h7c14 w12 a12
  have p1c0 : w12.cell? ⟨g11, 0, none⟩ = some (.int .i64 zino) := HB11.out.cell 0
  have p1c1 : w12.cell? ⟨g11, 1, none⟩ = some (.int .i64 zgen) := HB11.out.cell 1
  have p1c2 : w12.cell? ⟨g11, 2, none⟩ = some (.int .i64 zat) := HB11.out.cell 2
  have p1c3 : w12.cell? ⟨g11, 3, none⟩ = some (.string zrule) := HB11.out.cell 3
  have p1c4 : w12.cell? ⟨g11, 4, none⟩ = some (.int .i64 zkind) := HB11.out.cell 4
  have p1c5 : w12.cell? ⟨g11, 5, none⟩ = some (.int .i64 z0) := HB11.out.cell 5
  have p1c6 : w12.cell? ⟨g11, 6, none⟩ = some (.int .i64 z1) := HB11.out.cell 6
  have p1c7 : w12.cell? ⟨g11, 7, none⟩ = some (.int .i64 z2) := HB11.out.cell 7
  have p1c8 : w12.cell? ⟨g11, 8, none⟩ = some (.int .i64 z3) := HB11.out.cell 8
  have p1c9 : w12.cell? ⟨g11, 9, none⟩ = some (.int .i64 z4) := HB11.out.cell 9
  have p1c10 : w12.cell? ⟨g11, 10, none⟩ = some (.int .i64 z5) := HB11.out.cell 10
  have p1c11 : w12.cell? ⟨g11, 11, none⟩ = some (.int .i64 z6) := HB11.out.cell 11
  have p1c12 : w12.cell? ⟨g11, 12, none⟩ = some (.int .i64 z7) := HB11.out.cell 12
  have p1c13 : w12.cell? ⟨g11, 13, none⟩ = some (.int .i64 z8) := HB11.out.cell 13
  have p1c14 : w12.cell? ⟨g11, 14, none⟩ = some (.int .i64 z9) := HB11.out.cell 14
  clear h2c0 h2c1 h2c2 h2c3 h2c4 h2c5 h2c6 h2c7 h2c8 h2c9 h2c10 h2c11 h2c12 h2c13 h2c14 h7c0 h7c1 h7c2 h7c3 h7c4 h7c5 h7c6 h7c7 h7c8 h7c9 h7c10 h7c11 h7c12 h7c13 h7c14
  cases xok with
  | true =>
    obtain ⟨hxo, hxe⟩ := HENC.out rfl
    have HXE : Hid ((if recOk (mkRec xino xgen xat xrule xkind x0 x1 x2 x3 x4 x5 x6 x7 x8 x9) then encRec (mkRec xino xgen xat xrule xkind x0 x1 x2 x3 x4 x5 x6 x7 x8 x9) else []) = B) := by unfold Hid; rw [if_pos hxo, hxe]
    clear hxo hxe
    go_wp2_with fail
    (with_reducible refine (put_sl xino xgen xat xrule xkind x0 x1 x2 x3 x4 x5 x6 x7 x8 x9 HXE.out).mono ?_)
    rintro e w13 ⟨sa, sk, rfl, hs13, hu13⟩
    have HB13 := Lib.hid (HBW.out.upd0 (a12.seq hu13))
    have HU13 := Lib.hid (HUW.out.seq (a12.seq hu13))
    clear hu13 a12
    go_wp2_with fail
    (with_reducible refine (same_sl hs13.out HB13.out).mono ?_)
    rintro e w14 ⟨rfl, hu14⟩
    have HU14 := Lib.hid (HU13.out.seq hu14)
    clear hu14
    go_wp2_with fail
    (with_reducible refine (ledgerRuns_any w14).mono ?_)
    rintro e w15 ⟨rfl, hu15⟩
    have HU15 := Lib.hid (HU14.out.seq hu15)
    clear hu15
    go_wp2_with fail
    exact HQ.out _ _ _ _ _ _ _ _ _ _ _ _ _ _ _ _ _ _ _ _ _ _ _ _ _ _ _ _ _ _ _ _ _ _ _ _ _ _ _ _ _ _ _ _ _ _ _ _ _ _ _ _ _ _ _ _ _ _ _ _ _ _ _ _ _ _ _ _ _ _ _ _ _ _ _ _ _ _ _ _ HU15.out
  | false =>
    have HU13 := Lib.hid (HUW.out.seq a12)
    go_wp2_with fail
    (with_reducible refine (ledgerRuns_any _).mono ?_)
    rintro e w15 ⟨rfl, hu15⟩
    have HU15 := Lib.hid (HU13.out.seq hu15)
    clear hu15 a12
    go_wp2_with fail
    exact HQ.out _ _ _ _ _ _ _ _ _ _ _ _ _ _ _ _ _ _ _ _ _ _ _ _ _ _ _ _ _ _ _ _ _ _ _ _ _ _ _ _ _ _ _ _ _ _ _ _ _ _ _ _ _ _ _ _ _ _ _ _ _ _ _ _ _ _ _ _ _ _ _ _ _ _ _ _ _ _ _ _ HU15.out
end Go.Proofs.YtmhojaiajhdlcaaGreat
