/- Texts of the proof, joined: The walk of LedgerBytes: a part. -/
import Derived.Test.YtmhojaiajhdlcaaGreatMb17
import Derived.Deep.CutBlock
import Derived.Deep.DeepCutAuto
namespace Go.Proofs.YtmhojaiajhdlcaaGreat
open Go.RowKit
set_option linter.unusedSimpArgs false
set_option linter.unusedVariables false
set_option maxRecDepth 20000 in
set_option maxHeartbeats 8000000 in
theorem ledBytes_F (w : World) (ino gen at_ : Int) (rule : ByteArray) (kind c0 c1 c2 c3 c4 c5 c6 c7 c8 c9 : Int) (hok : recOk (mkRec ino gen at_ rule kind c0 c1 c2 c3 c4 c5 c6 c7 c8 c9) = false) (vb : Value) (B : List UInt8) (hb : Bytes w vb B) (hz : B.length ≤ 140737488351232) :
    Calls Tryz.prog 3 #[mkVal ino gen at_ rule kind c0 c1 c2 c3 c4 c5 c6 c7 c8 c9, vb] w fun e w' => e = .returned (.bool true) ∧ Upd [] w w' := by
  obtain ⟨ba, bk, rfl, -⟩ := id hb
  obtain ⟨xino, xgen, xat, xrule, xkind, x0, x1, x2, x3, x4, x5, x6, x7, x8, x9, xok, hX⟩ := pair_rec (getRec B)
  have HX := Lib.hid hX
  have HBY := Lib.hid hb
  have HZ := Lib.hid hz
  have HOK := Lib.hid hok
  have HENC : Hid (xok = true → recOk (mkRec xino xgen xat xrule xkind x0 x1 x2 x3 x4 x5 x6 x7 x8 x9) = true ∧ encRec (mkRec xino xgen xat xrule xkind x0 x1 x2 x3 x4 x5 x6 x7 x8 x9) = B) := fun q => by
    have := enc_get (B := B) (by rw [hX]; exact q)
    rw [hX] at this; exact this
  obtain ⟨E, hE⟩ : ∃ E, (if recOk (mkRec ino gen at_ rule kind c0 c1 c2 c3 c4 c5 c6 c7 c8 c9) then encRec (mkRec ino gen at_ rule kind c0 c1 c2 c3 c4 c5 c6 c7 c8 c9) else []) = E := ⟨_, rfl⟩
  have HE := Lib.hid hE
  have hqx := recEq_same xino xgen xat xrule xkind x0 x1 x2 x3 x4 x5 x6 x7 x8 x9
  have hqr := recEq_same ino gen at_ rule kind c0 c1 c2 c3 c4 c5 c6 c7 c8 c9
  have HB2 : Hid (Blk (w.alloc (.cells #[.int .i64 ino, .int .i64 gen, .int .i64 at_, .string rule, .int .i64 kind, .int .i64 c0, .int .i64 c1, .int .i64 c2, .int .i64 c3, .int .i64 c4, .int .i64 c5, .int .i64 c6, .int .i64 c7, .int .i64 c8, .int .i64 c9] 27)) w.heap.size 27 [.int .i64 ino, .int .i64 gen, .int .i64 at_, .string rule, .int .i64 kind, .int .i64 c0, .int .i64 c1, .int .i64 c2, .int .i64 c3, .int .i64 c4, .int .i64 c5, .int .i64 c6, .int .i64 c7, .int .i64 c8, .int .i64 c9]) := Blk.new w _ [.int .i64 ino, .int .i64 gen, .int .i64 at_, .string rule, .int .i64 kind, .int .i64 c0, .int .i64 c1, .int .i64 c2, .int .i64 c3, .int .i64 c4, .int .i64 c5, .int .i64 c6, .int .i64 c7, .int .i64 c8, .int .i64 c9]
  have HU0 : Hid (Upd [] w (w.alloc (.cells #[.int .i64 ino, .int .i64 gen, .int .i64 at_, .string rule, .int .i64 kind, .int .i64 c0, .int .i64 c1, .int .i64 c2, .int .i64 c3, .int .i64 c4, .int .i64 c5, .int .i64 c6, .int .i64 c7, .int .i64 c8, .int .i64 c9] 27))) := (Upd.refl [] w).alloc _
  have HE0 : Hid (E = []) := by unfold Hid; rw [← hE, if_neg (by rw [hok]; simp)]
  have HEL : Hid (E.length ≤ 140737488351232) := by unfold Hid; rw [HE0.out]; simp
  obtain ⟨zino, zgen, zat, zrule, zkind, z0, z1, z2, z3, z4, z5, z6, z7, z8, z9, zok, hzg⟩ := pair_rec (getRec E)
  obtain rfl : zok = false := by
    have h1 := get_nil_no
    rw [← HE0.out, hzg] at h1
    exact h1
  have HZG := Lib.hid hzg
  clear hzg hX hb hz hok hE
  go_enter Tryz.func3, Tryz.ntmps3
  go_wp2_with fail
  generalize w.alloc (.cells #[.int .i64 ino, .int .i64 gen, .int .i64 at_, .string rule, .int .i64 kind, .int .i64 c0, .int .i64 c1, .int .i64 c2, .int .i64 c3, .int .i64 c4, .int .i64 c5, .int .i64 c6, .int .i64 c7, .int .i64 c8, .int .i64 c9] 27) = w0 at *
  generalize w.heap.size = g2 at *
  (with_reducible refine (rfRight_c w0 ino gen at_ rule kind c0 c1 c2 c3 c4 c5 c6 c7 c8 c9).mono ?_)
  rw [HOK.out]
  rintro e w1 ⟨rfl, a1⟩
  have h2c0 : ∀ W, Upd [] w0 W → W.cell? ⟨g2, 0, none⟩ = some (.int .i64 ino) := fun W hu => hu.cell (HB2.out.cell 0) (by simp)
  have h2c1 : ∀ W, Upd [] w0 W → W.cell? ⟨g2, 1, none⟩ = some (.int .i64 gen) := fun W hu => hu.cell (HB2.out.cell 1) (by simp)
  have h2c2 : ∀ W, Upd [] w0 W → W.cell? ⟨g2, 2, none⟩ = some (.int .i64 at_) := fun W hu => hu.cell (HB2.out.cell 2) (by simp)
  have h2c3 : ∀ W, Upd [] w0 W → W.cell? ⟨g2, 3, none⟩ = some (.string rule) := fun W hu => hu.cell (HB2.out.cell 3) (by simp)
  have h2c4 : ∀ W, Upd [] w0 W → W.cell? ⟨g2, 4, none⟩ = some (.int .i64 kind) := fun W hu => hu.cell (HB2.out.cell 4) (by simp)
  have h2c5 : ∀ W, Upd [] w0 W → W.cell? ⟨g2, 5, none⟩ = some (.int .i64 c0) := fun W hu => hu.cell (HB2.out.cell 5) (by simp)
  have h2c6 : ∀ W, Upd [] w0 W → W.cell? ⟨g2, 6, none⟩ = some (.int .i64 c1) := fun W hu => hu.cell (HB2.out.cell 6) (by simp)
  have h2c7 : ∀ W, Upd [] w0 W → W.cell? ⟨g2, 7, none⟩ = some (.int .i64 c2) := fun W hu => hu.cell (HB2.out.cell 7) (by simp)
  have h2c8 : ∀ W, Upd [] w0 W → W.cell? ⟨g2, 8, none⟩ = some (.int .i64 c3) := fun W hu => hu.cell (HB2.out.cell 8) (by simp)
  have h2c9 : ∀ W, Upd [] w0 W → W.cell? ⟨g2, 9, none⟩ = some (.int .i64 c4) := fun W hu => hu.cell (HB2.out.cell 9) (by simp)
  have h2c10 : ∀ W, Upd [] w0 W → W.cell? ⟨g2, 10, none⟩ = some (.int .i64 c5) := fun W hu => hu.cell (HB2.out.cell 10) (by simp)
  have h2c11 : ∀ W, Upd [] w0 W → W.cell? ⟨g2, 11, none⟩ = some (.int .i64 c6) := fun W hu => hu.cell (HB2.out.cell 11) (by simp)
  have h2c12 : ∀ W, Upd [] w0 W → W.cell? ⟨g2, 12, none⟩ = some (.int .i64 c7) := fun W hu => hu.cell (HB2.out.cell 12) (by simp)
  have h2c13 : ∀ W, Upd [] w0 W → W.cell? ⟨g2, 13, none⟩ = some (.int .i64 c8) := fun W hu => hu.cell (HB2.out.cell 13) (by simp)
  have h2c14 : ∀ W, Upd [] w0 W → W.cell? ⟨g2, 14, none⟩ = some (.int .i64 c9) := fun W hu => hu.cell (HB2.out.cell 14) (by simp)
  have HWANT : Hid (∀ W, Upd [] w0 W → Bytes W (.slice none 0 0) E) := fun W _ => by rw [HE0.out]; exact Rd.nil W
  obtain ⟨w2, hw2⟩ : ∃ W, w1 = W := ⟨_, rfl⟩
  rw [hw2] at a1 ⊢
  have a2 := a1
  clear hw2 a1
  go_wp2_with fail
  (with_reducible refine (ledGet_c w2 _ B xino xgen xat xrule xkind x0 x1 x2 x3 x4 x5 x6 x7 x8 x9 xok (HBY.out.upd0 (HU0.out.seq a2)) HZ.out HX.out).mono ?_)
  rintro e w3 ⟨rfl, hu3⟩
  have a4 : Upd [] w0 (w3.alloc (.cells #[.int .i64 xino, .int .i64 xgen, .int .i64 xat, .string xrule, .int .i64 xkind, .int .i64 x0, .int .i64 x1, .int .i64 x2, .int .i64 x3, .int .i64 x4, .int .i64 x5, .int .i64 x6, .int .i64 x7, .int .i64 x8, .int .i64 x9] 27)) := a2.seq (hu3.alloc _)
  have HB7 : Hid (Blk (w3.alloc (.cells #[.int .i64 xino, .int .i64 xgen, .int .i64 xat, .string xrule, .int .i64 xkind, .int .i64 x0, .int .i64 x1, .int .i64 x2, .int .i64 x3, .int .i64 x4, .int .i64 x5, .int .i64 x6, .int .i64 x7, .int .i64 x8, .int .i64 x9] 27)) w3.heap.size 27 [.int .i64 xino, .int .i64 xgen, .int .i64 xat, .string xrule, .int .i64 xkind, .int .i64 x0, .int .i64 x1, .int .i64 x2, .int .i64 x3, .int .i64 x4, .int .i64 x5, .int .i64 x6, .int .i64 x7, .int .i64 x8, .int .i64 x9]) := Blk.new w3 _ [.int .i64 xino, .int .i64 xgen, .int .i64 xat, .string xrule, .int .i64 xkind, .int .i64 x0, .int .i64 x1, .int .i64 x2, .int .i64 x3, .int .i64 x4, .int .i64 x5, .int .i64 x6, .int .i64 x7, .int .i64 x8, .int .i64 x9]
  clear hu3 a2
  go_wp2_with fail
  generalize w3.alloc (.cells #[.int .i64 xino, .int .i64 xgen, .int .i64 xat, .string xrule, .int .i64 xkind, .int .i64 x0, .int .i64 x1, .int .i64 x2, .int .i64 x3, .int .i64 x4, .int .i64 x5, .int .i64 x6, .int .i64 x7, .int .i64 x8, .int .i64 x9] 27) = w4 at *
  generalize w3.heap.size = g7 at *
  have h7c0 : ∀ W, Upd [] w4 W → W.cell? ⟨g7, 0, none⟩ = some (.int .i64 xino) := fun W hu => hu.cell (HB7.out.cell 0) (by simp)
  have h7c1 : ∀ W, Upd [] w4 W → W.cell? ⟨g7, 1, none⟩ = some (.int .i64 xgen) := fun W hu => hu.cell (HB7.out.cell 1) (by simp)
  have h7c2 : ∀ W, Upd [] w4 W → W.cell? ⟨g7, 2, none⟩ = some (.int .i64 xat) := fun W hu => hu.cell (HB7.out.cell 2) (by simp)
  have h7c3 : ∀ W, Upd [] w4 W → W.cell? ⟨g7, 3, none⟩ = some (.string xrule) := fun W hu => hu.cell (HB7.out.cell 3) (by simp)
  have h7c4 : ∀ W, Upd [] w4 W → W.cell? ⟨g7, 4, none⟩ = some (.int .i64 xkind) := fun W hu => hu.cell (HB7.out.cell 4) (by simp)
  have h7c5 : ∀ W, Upd [] w4 W → W.cell? ⟨g7, 5, none⟩ = some (.int .i64 x0) := fun W hu => hu.cell (HB7.out.cell 5) (by simp)
  have h7c6 : ∀ W, Upd [] w4 W → W.cell? ⟨g7, 6, none⟩ = some (.int .i64 x1) := fun W hu => hu.cell (HB7.out.cell 6) (by simp)
  have h7c7 : ∀ W, Upd [] w4 W → W.cell? ⟨g7, 7, none⟩ = some (.int .i64 x2) := fun W hu => hu.cell (HB7.out.cell 7) (by simp)
  have h7c8 : ∀ W, Upd [] w4 W → W.cell? ⟨g7, 8, none⟩ = some (.int .i64 x3) := fun W hu => hu.cell (HB7.out.cell 8) (by simp)
  have h7c9 : ∀ W, Upd [] w4 W → W.cell? ⟨g7, 9, none⟩ = some (.int .i64 x4) := fun W hu => hu.cell (HB7.out.cell 9) (by simp)
  have h7c10 : ∀ W, Upd [] w4 W → W.cell? ⟨g7, 10, none⟩ = some (.int .i64 x5) := fun W hu => hu.cell (HB7.out.cell 10) (by simp)
  have h7c11 : ∀ W, Upd [] w4 W → W.cell? ⟨g7, 11, none⟩ = some (.int .i64 x6) := fun W hu => hu.cell (HB7.out.cell 11) (by simp)
  have h7c12 : ∀ W, Upd [] w4 W → W.cell? ⟨g7, 12, none⟩ = some (.int .i64 x7) := fun W hu => hu.cell (HB7.out.cell 12) (by simp)
  have h7c13 : ∀ W, Upd [] w4 W → W.cell? ⟨g7, 13, none⟩ = some (.int .i64 x8) := fun W hu => hu.cell (HB7.out.cell 13) (by simp)
  have h7c14 : ∀ W, Upd [] w4 W → W.cell? ⟨g7, 14, none⟩ = some (.int .i64 x9) := fun W hu => hu.cell (HB7.out.cell 14) (by simp)
  (with_reducible refine (rfGet_c w4 _ B xino xgen xat xrule xkind x0 x1 x2 x3 x4 x5 x6 x7 x8 x9 xok (HBY.out.upd0 (HU0.out.seq a4)) HZ.out HX.out).mono ?_)
  rintro e w5 ⟨rfl, hu5⟩
  have a6 : Upd [] w0 (w5.alloc (.cells #[.int .i64 xino, .int .i64 xgen, .int .i64 xat, .string xrule, .int .i64 xkind, .int .i64 x0, .int .i64 x1, .int .i64 x2, .int .i64 x3, .int .i64 x4, .int .i64 x5, .int .i64 x6, .int .i64 x7, .int .i64 x8, .int .i64 x9] 27)) := a4.seq (hu5.alloc _)
  have b6 : Upd [] w4 (w5.alloc (.cells #[.int .i64 xino, .int .i64 xgen, .int .i64 xat, .string xrule, .int .i64 xkind, .int .i64 x0, .int .i64 x1, .int .i64 x2, .int .i64 x3, .int .i64 x4, .int .i64 x5, .int .i64 x6, .int .i64 x7, .int .i64 x8, .int .i64 x9] 27)) := hu5.alloc _
  have HB9 : Hid (Blk (w5.alloc (.cells #[.int .i64 xino, .int .i64 xgen, .int .i64 xat, .string xrule, .int .i64 xkind, .int .i64 x0, .int .i64 x1, .int .i64 x2, .int .i64 x3, .int .i64 x4, .int .i64 x5, .int .i64 x6, .int .i64 x7, .int .i64 x8, .int .i64 x9] 27)) w5.heap.size 27 [.int .i64 xino, .int .i64 xgen, .int .i64 xat, .string xrule, .int .i64 xkind, .int .i64 x0, .int .i64 x1, .int .i64 x2, .int .i64 x3, .int .i64 x4, .int .i64 x5, .int .i64 x6, .int .i64 x7, .int .i64 x8, .int .i64 x9]) := Blk.new w5 _ [.int .i64 xino, .int .i64 xgen, .int .i64 xat, .string xrule, .int .i64 xkind, .int .i64 x0, .int .i64 x1, .int .i64 x2, .int .i64 x3, .int .i64 x4, .int .i64 x5, .int .i64 x6, .int .i64 x7, .int .i64 x8, .int .i64 x9]
  clear hu5 a4
  go_wp2_with fail
  generalize w5.alloc (.cells #[.int .i64 xino, .int .i64 xgen, .int .i64 xat, .string xrule, .int .i64 xkind, .int .i64 x0, .int .i64 x1, .int .i64 x2, .int .i64 x3, .int .i64 x4, .int .i64 x5, .int .i64 x6, .int .i64 x7, .int .i64 x8, .int .i64 x9] 27) = w6 at *
  generalize w5.heap.size = g9 at *
  have h9c0 : ∀ W, Upd [] w6 W → W.cell? ⟨g9, 0, none⟩ = some (.int .i64 xino) := fun W hu => hu.cell (HB9.out.cell 0) (by simp)
  have h9c1 : ∀ W, Upd [] w6 W → W.cell? ⟨g9, 1, none⟩ = some (.int .i64 xgen) := fun W hu => hu.cell (HB9.out.cell 1) (by simp)
  have h9c2 : ∀ W, Upd [] w6 W → W.cell? ⟨g9, 2, none⟩ = some (.int .i64 xat) := fun W hu => hu.cell (HB9.out.cell 2) (by simp)
  have h9c3 : ∀ W, Upd [] w6 W → W.cell? ⟨g9, 3, none⟩ = some (.string xrule) := fun W hu => hu.cell (HB9.out.cell 3) (by simp)
  have h9c4 : ∀ W, Upd [] w6 W → W.cell? ⟨g9, 4, none⟩ = some (.int .i64 xkind) := fun W hu => hu.cell (HB9.out.cell 4) (by simp)
  have h9c5 : ∀ W, Upd [] w6 W → W.cell? ⟨g9, 5, none⟩ = some (.int .i64 x0) := fun W hu => hu.cell (HB9.out.cell 5) (by simp)
  have h9c6 : ∀ W, Upd [] w6 W → W.cell? ⟨g9, 6, none⟩ = some (.int .i64 x1) := fun W hu => hu.cell (HB9.out.cell 6) (by simp)
  have h9c7 : ∀ W, Upd [] w6 W → W.cell? ⟨g9, 7, none⟩ = some (.int .i64 x2) := fun W hu => hu.cell (HB9.out.cell 7) (by simp)
  have h9c8 : ∀ W, Upd [] w6 W → W.cell? ⟨g9, 8, none⟩ = some (.int .i64 x3) := fun W hu => hu.cell (HB9.out.cell 8) (by simp)
  have h9c9 : ∀ W, Upd [] w6 W → W.cell? ⟨g9, 9, none⟩ = some (.int .i64 x4) := fun W hu => hu.cell (HB9.out.cell 9) (by simp)
  have h9c10 : ∀ W, Upd [] w6 W → W.cell? ⟨g9, 10, none⟩ = some (.int .i64 x5) := fun W hu => hu.cell (HB9.out.cell 10) (by simp)
  have h9c11 : ∀ W, Upd [] w6 W → W.cell? ⟨g9, 11, none⟩ = some (.int .i64 x6) := fun W hu => hu.cell (HB9.out.cell 11) (by simp)
  have h9c12 : ∀ W, Upd [] w6 W → W.cell? ⟨g9, 12, none⟩ = some (.int .i64 x7) := fun W hu => hu.cell (HB9.out.cell 12) (by simp)
  have h9c13 : ∀ W, Upd [] w6 W → W.cell? ⟨g9, 13, none⟩ = some (.int .i64 x8) := fun W hu => hu.cell (HB9.out.cell 13) (by simp)
  have h9c14 : ∀ W, Upd [] w6 W → W.cell? ⟨g9, 14, none⟩ = some (.int .i64 x9) := fun W hu => hu.cell (HB9.out.cell 14) (by simp)
  (with_reducible refine (ledRight_c w6 ino gen at_ rule kind c0 c1 c2 c3 c4 c5 c6 c7 c8 c9).mono ?_)
  rw [HOK.out]
  rintro e w7 ⟨rfl, d7⟩
  have a7 := a6.seq d7
  have b7 := b6.seq d7
  clear a6 b6
  go_wp2_with fail
  (with_reducible refine (put_sl ino gen at_ rule kind c0 c1 c2 c3 c4 c5 c6 c7 c8 c9 HE.out).mono ?_)
  rintro e w8 ⟨pa, pk, rfl, hp8, hu8⟩
  have HW8 := Lib.hid (HWANT.out w8 (a7.seq hu8))
  have d8 := d7.seq hu8
  have a8 := a7.seq hu8
  have b8 := b7.seq hu8
  clear hu8 a7 b7 d7
  go_wp2_with fail
  (with_reducible refine (same_sl hp8.out HW8.out).mono ?_)
  rintro e w9 ⟨rfl, hu9⟩
  have a9 := a8.seq hu9
  have b9 := b8.seq hu9
  have d9 := d8.seq hu9
  have hxx : (xok != xok) = false := by simp
  clear hu9 a8 b8 d8 hp8 HW8
  go_upto_region 9 with fail
  have HBW := Lib.hid (HBY.out.upd0 (HU0.out.seq a9))
  have H2W := Lib.hid (HB2.out.upd a9 (by simp))
  have H7W := Lib.hid (HB7.out.upd b9 (by simp))
  have HUW := Lib.hid (HU0.out.seq a9)
  clear HB9 h9c0 h9c1 h9c2 h9c3 h9c4 h9c5 h9c6 h9c7 h9c8 h9c9 h9c10 h9c11 h9c12 h9c13 h9c14 h7c0 h7c1 h7c2 h7c3 h7c4 h7c5 h7c6 h7c7 h7c8 h7c9 h7c10 h7c11 h7c12 h7c13 h7c14 h2c0 h2c1 h2c2 h2c3 h2c4 h2c5 h2c6 h2c7 h2c8 h2c9 h2c10 h2c11 h2c12 h2c13 h2c14 HBY HB2 HB7 HU0 a9 b9 d9 hqx hqr HWANT
  refine lb9_F ino gen at_ rule kind c0 c1 c2 c3 c4 c5 c6 c7 c8 c9 HOK.out xino xgen xat xrule xkind x0 x1 x2 x3 x4 x5 x6 x7 x8 x9 H2W.out H7W.out HBW.out HUW.out HENC.out HE.out HEL.out zino zgen zat zrule zkind z0 z1 z2 z3 z4 z5 z6 z7 z8 z9 HZG.out ?_ (by assumption)
  intro y0 y1 y2 y3 y5 y6 y7 y8 y9 y10 y11 y12 y13 y14 y15 y16 y17 y18 y19 y20 y21 y22 y23 y24 y25 y26 y27 y28 y29 y30 y31 y32 y33 y34 y35 y36 y37 y38 y39 y40 y41 y42 y43 y44 y45 y46 y47 y48 y49 y50 y51 y52 y53 y54 y55 y56 y57 y58 y59 y60 y61 y62 y63 y64 y65 y66 y67 y68 y69 y70 y71 y72 y73 y74 y75 y76 y77 y78 y79 w' hu
  go_ret
  exact ⟨rfl, hu⟩

end Go.Proofs.YtmhojaiajhdlcaaGreat
