/- The walk of YardRuns. -/
import Derived.Test.YtmhdhnipljonlaaSameAF
import Derived.Test.YtmhdhnipljonlaaYardRename
import Derived.Test.YtmhdhnipljonlaaConvStr
namespace Go.Proofs.Ytmhdhnipljonlaa
open Go.RowKit
set_option linter.unusedSimpArgs false
set_option linter.unusedVariables false
theorem i64_s (n : Int) (h : -10000 ≤ n) (h2 : n ≤ 10000) : I64 n := ⟨by omega, by omega⟩
theorem yTakenD {w0 w : World} {gy : Nat} {G : List Nat} {fl : FL} {tk : List (Int × Int)} (k v : Int) (hk : I64 k) (h : YD w0 w gy G fl tk) (htl : tk.length ≤ 50000) (hv : (tGet ltY (0 : Int) tk k).1 = v) :
    Calls Try.prog 22 #[.pointer (some ⟨gy, 0, none⟩), iv k] w fun e w' => e = .returned (iv v) ∧ Upd [] w w' := by
  obtain ⟨gf, gt, F, T, cs, hc, -⟩ := h.ex
  subst hv
  exact yTaken_any k _ (tGet ltY (0 : Int) tk k).2 hc (by omega) hk rfl
abbrev sA : ByteArray := ⟨#[97]⟩
abbrev sB : ByteArray := ⟨#[98]⟩
abbrev xyz : List UInt8 := [120, 121, 122]
abbrev fl3 : FL := [(1, (sB, xyz))]
abbrev fl4 : FL := [(1, (sB, xyz)), (2, (sA, []))]
theorem c_xyz (u : World) (C : Array Value) (g n c : Nat) (hg : g = u.heap.size) :
    (convert 27 27 (.slice (some ⟨g, 0, none⟩) n c)).run Try.prog (u.alloc (.cells C 5)) = .ok (.slice (some ⟨g, 0, none⟩) n c) (u.alloc (.cells C 5 (C.size, C.size + 1))) :=
  conv_lit Try.underlying27 Try.underlying5 u C g n c hg
set_option maxRecDepth 20000 in
set_option maxHeartbeats 4000000 in
theorem yardRuns_any (w : World) : Calls Try.prog 3 #[] w fun e w' => e = .returned (.bool true) ∧ Upd [] w w' := by
  have hconv := c_xyz
  go_enter Try.func3, Try.ntmps3
  go_wp2_with fail
  (with_reducible refine (yNew_any w _ (Upd.refl [] w)).mono ?_)
  rintro e w1 ⟨gy, rfl, ⟨G1, h1, -⟩, -⟩
  have H1 := Lib.hid h1
  clear h1
  go_wp2_with fail
  (with_reducible refine (yCreate_any sA H1.out).mono ?_)
  rintro e w2 ⟨rfl, G2, h2, -, -⟩
  have H2 : Hid (YD w w2 gy G2 [(1, (sA, []))] []) := h2
  rw [show (yCreate [] sA).1 = 0 by kernel_rfl]
  clear h2 H1
  go_wp2_with fail
  (with_reducible refine (yCreate_any sB H2.out).mono ?_)
  rintro e w3 ⟨rfl, G3, h3, -, -⟩
  have H3 : Hid (YD w w3 gy G3 [(1, (sA, [])), (2, (sB, []))] []) := h3
  rw [show (yCreate [(1, (sA, []))] sB).1 = 0 by kernel_rfl]
  clear h3 H2
  go_wp2_with fail
  have hp4 : Bytes (w3.alloc (.cells #[.int .u8 120, .int .u8 121, .int .u8 122] 5 (3, 4))) (.slice (some ⟨w3.heap.size, 0, none⟩) 3 3) xyz := Rd.lit xyz rfl rfl rfl (by decide) (by decide)
  have H4a := Lib.hid (H3.out.upd0 ((Upd.refl [] w3).alloc (.cells #[.int .u8 120, .int .u8 121, .int .u8 122] 5 (3, 4))))
  (with_reducible refine (yAppend_any sA _ xyz hp4 (by decide) H4a.out).mono ?_)
  rintro e w4 ⟨rfl, G4, h4, -, -⟩
  have H4 : Hid (YD w w4 gy G4 [(1, (sA, xyz)), (2, (sB, []))] []) := h4
  rw [show (yAppend [(1, (sA, [])), (2, (sB, []))] sA xyz).1 = 0 by kernel_rfl]
  clear h4 H3 H4a hp4
  go_wp2_with fail
  (with_reducible refine (yRename_any sA sB H4.out).mono ?_)
  rintro e w5 ⟨rfl, G5, h5, -, -⟩
  have H5 : Hid (YD w w5 gy G5 fl3 []) := h5
  rw [show (yRename [(1, (sA, xyz)), (2, (sB, []))] sA sB).1 = 0 by kernel_rfl]
  clear h5 H4
  go_wp2_with fail
  (with_reducible refine (yFiles_any H5.out).mono ?_)
  rintro e w6 ⟨v6, rfl, ho6, hu6⟩
  have H6 := Lib.hid ((H5.out.upd0 hu6).upd0 ((Upd.refl [] w6).alloc (.cells #[.int .i64 1, sv sB, .int .i64 3] 31)))
  have HO6 := Lib.hid (ho6.upd ((Upd.refl [] w6).alloc (.cells #[.int .i64 1, sv sB, .int .i64 3] 31)) (by simp))
  have HR6 : Hid (RdN 3 afCells (w6.alloc (.cells #[.int .i64 1, sv sB, .int .i64 3] 31)) (.slice (some ⟨w6.heap.size, 0, none⟩) 1 1) (yFiles fl3)) := by
    have hb := Blk.new w6 31 [.int .i64 1, sv sB, .int .i64 3]
    refine ⟨_, 1, rfl, by decide, by simp [maxLen], fun _ => ⟨w6.heap.size, 0, rfl, fun j hj i hi => ?_⟩⟩
    have hj0 : j = 0 := by have : (yFiles fl3).length = 1 := rfl; omega
    subst hj0
    have := hb.cell i
    rw [show 0 + (0 * 3 + i) = i by omega]; exact this
  obtain ⟨a6, c6, rfl, -⟩ := ho6.rd afCells_len
  clear ho6 hu6 H5
  go_wp2_with fail
  (with_reducible refine (sameAF_ok _ _ (yFiles fl3) _ (HO6.out.rd afCells_len) HR6.out).mono ?_)
  rintro e w7 ⟨rfl, hu7⟩
  have H7 := Lib.hid (H6.out.upd0 hu7)
  clear hu7 H6 HO6 HR6
  go_wp2_with fail
  (with_reducible refine (yCreate_any sA H7.out).mono ?_)
  rintro e w8 ⟨rfl, G8, h8, -, -⟩
  have H8 : Hid (YD w w8 gy G8 fl4 []) := h8
  rw [show (yCreate fl3 sA).1 = 0 by kernel_rfl]
  clear h8 H7
  go_wp2_with fail
  (with_reducible refine (yFindF_any sA H8.out).mono ?_)
  rintro e w9 ⟨rfl, hu9⟩
  rw [show yFindF fl4 sA = ((2, sA, 0), true) by kernel_rfl]
  have H9 := Lib.hid ((H8.out.upd0 hu9).upd0 ((Upd.refl [] w9).alloc (.cells #[.int .i64 2, sv sA, .int .i64 0] 31)))
  have hB9 := Lib.hid (Blk.new w9 31 [.int .i64 2, sv sA, .int .i64 0])
  have HN9 : Hid (w9.heap.size ∉ G8 ∧ ∀ x, w9.heap.size + 1 ≤ x → x ≠ w9.heap.size) := ⟨fun hx => by have := ((H8.out.upd0 hu9).ge _ hx).2; omega, fun x h => by omega⟩
  clear hu9 H8
  go_wp2_with fail
  (with_reducible refine (yRead_any 1 1 9 (i64_s _ (by omega) (by omega)) (i64_s _ (by omega) (by omega)) (i64_s _ (by omega) (by omega)) H9.out (by simp) (by simp)).mono ?_)
  rintro e w10 ⟨v10, rfl, ho10, G10, h10, hu10, -, hap10⟩
  have H10 : Hid (YD w w10 gy G10 fl4 [(1, 2)]) := h10
  have HO10 : Hid (Own bv _ 5 w10 v10 [121, 122]) := ho10
  have hB10 := hB9.out.upd hu10 HN9.out.1
  have D10 := Lib.hid (show w10.cell? ⟨w9.heap.size, 0, none⟩ = some (.int .i64 2) from hB10.cell 0)
  have HN10 : Hid (w9.heap.size ∉ G10) := fun hx => by
    obtain ⟨gf, gt, F, T, cs, hc, -, -, -, hG⟩ := h10.ex
    subst hG
    rcases (foot_mem _ _ _ _ _).1 hx with q | q | q | ⟨c, hcm, q⟩
    · have e1 := hB10
      rw [q] at e1
      have := ty_one e1 hc.yard
      exact absurd this (by decide)
    · obtain ⟨C, f, e, e1, e2⟩ := if_ty hc.files _ q
      have := ty_one e1 hB10
      rcases e2 with e2 | e2 <;> (rw [e2] at this; exact absurd this (by decide))
    · obtain ⟨C, f, e, e1, e2⟩ := ij_ty hc.taken _ q
      have := ty_one e1 hB10
      rcases e2 with e2 | e2 <;> (rw [e2] at this; exact absurd this (by decide))
    · obtain ⟨C, f, e1⟩ := (hc.own c hcm).typ _ q
      have := ty_one e1 hB10
      exact absurd this (by decide)
  rw [show (yRead fl4 [] 1 1 9).1.2 = 0 by kernel_rfl]
  have HAP10 := Lib.hid hap10
  obtain ⟨a10, c10, rfl, -⟩ := HO10.out.rd
  clear ho10 h10 hu10 H9 hB10 hap10
  go_wp2_with fail
  (with_reducible refine (yRead_any 3 0 1 (i64_s _ (by omega) (by omega)) (i64_s _ (by omega) (by omega)) (i64_s _ (by omega) (by omega)) H10.out (by simp) (by simp)).mono ?_)
  rintro e w11 ⟨v11, rfl, ho11, G11, h11, hu11, -, -⟩
  have H11 : Hid (YD w w11 gy G11 fl4 [(1, 2)]) := h11
  rw [show (yRead fl4 [(1, 2)] 3 0 1).1.2 = 7 by kernel_rfl]
  obtain ⟨a11, c11, rfl, -⟩ := ho11.rd
  have d11 := hu11.cell D10.out HN10.out
  have hO11 := HO10.out.upd hu11 HAP10.out
  have hcv := convb_str (P := Try.prog) Try.underlying27 Try.underlying5 Try.underlying9 w11 _ _ hO11.rd
  have hcv : (convert 27 9 (.slice a10 2 c10)).run Try.prog w11 = .ok (.string ⟨#[121, 122]⟩) w11 := hcv
  clear ho11 h11 hu11 hO11 H10
  go_wp2_with fail
  (with_reducible refine (yTakenD 1 2 (i64_s _ (by omega) (by omega)) H11.out (by simp) (by kernel_rfl)).mono ?_)
  rintro e w12 ⟨rfl, hu12⟩
  have H12 := Lib.hid (H11.out.upd0 hu12)
  clear hu12 H11
  go_wp2_with fail
  (with_reducible refine (yCut_any sB 4 (i64_s _ (by omega) (by omega)) H12.out).mono ?_)
  rintro e w13 ⟨rfl, G13, h13, -, -⟩
  have H13 := Lib.hid h13.old
  rw [show (yCut fl4 sB 4).1 = 1 by kernel_rfl]
  clear h13
  go_wp2_with fail
  go_ret
  exact ⟨rfl, H13.out⟩
end Go.Proofs.Ytmhdhnipljonlaa
