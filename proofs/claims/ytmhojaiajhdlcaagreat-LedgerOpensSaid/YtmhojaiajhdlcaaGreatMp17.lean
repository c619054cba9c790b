/- Texts of the proof, joined: The walk of LedgerRuns: the regions ahead of the last one. -/
import Derived.Test.YtmhojaiajhdlcaaGreatMp16
namespace Go.Proofs.YtmhojaiajhdlcaaGreat
open Go.RowKit
set_option linter.unusedSimpArgs false
set_option linter.unusedVariables false
section
set_option maxRecDepth 20000 in
set_option maxHeartbeats 8000000 in
theorem ledgerRuns_any (w : World) : Calls Tryz.prog 15 #[] w fun e w' => e = .returned (.bool true) ∧ Upd [] w w' := by
  have hA := encRec_len recA_ok
  have hB := encRec_len recB_ok
  have fA := frameOf_len (encRec recA)
  have fB := frameOf_len (encRec recB)
  have hz1 : (Fr ([] ++ [recA])).length ≤ 300 := by rw [Fr_snoc, Fr_nil, List.nil_append]; omega
  obtain ⟨s1, ha1, hi1, ho1⟩ := lAdd_new (all := []) (lo := 0) (B := 0) LInv.zero (.inl ⟨rfl, rfl⟩) (Nat.zero_le _) recA recA_ok rfl (Nat.zero_le _)
  obtain ⟨s2, ha2, hi2, ho2⟩ := lAdd_new hi1 ho1 (Nat.zero_le _) recB recB_ok (by decide) (by omega)
  have ha3 : lAdd ([] ++ [recA]) s1 recA = ((false, 0), [] ++ [recA], s1) := lAdd_old recA recA_ok (by decide)
  have hl0 : lOpen ⟨[], [], []⟩ = ([], ⟨[], [], []⟩) := by
    have := lopen_all [] (fun r h => by simp at h) Uniq.nil (B := 0) (lo := 0) LInv.zero (.inl ⟨rfl, rfl⟩)
    exact Prod.ext this.1 this.2
  have hl2 : lOpen s2 = ([recA, recB], s2) := by
    have := lopen_all [recA, recB] (fun r h => by
      simp only [List.mem_cons, List.not_mem_nil, or_false] at h
      rcases h with rfl | rfl
      · exact recA_ok
      · exact recB_ok) recAB hi2 ho2
    exact Prod.ext this.1 this.2
  have HS1 : Hid (s1.now.length ≤ 4999 ∧ s1.log.length ≤ 500000000) := ⟨by have := hi1.nlen; omega, by have := hi1.lg; omega⟩
  have HS2 : Hid (s2.now.length ≤ 4999 ∧ s2.log.length ≤ 500000000) := ⟨by have := hi2.nlen; omega, by have := hi2.lg; omega⟩
  have HA1 := Lib.hid ha1
  have HA2 := Lib.hid ha2
  have HA3 := Lib.hid ha3
  have HL0 := Lib.hid hl0
  have HL2 := Lib.hid hl2
  clear hA hB fA fB hz1 ha1 hi1 ho1 ha2 hi2 ho2 ha3 hl0 hl2
  go_enter Tryz.func15, Tryz.ntmps15
  go_wp2_with fail
  (with_reducible refine (dNew_any w w (Upd.refl [] w)).mono ?_)
  rintro e w1 ⟨gd, G1, rfl, h1, hu1, hf1⟩
  have H1 := Lib.hid h1
  clear h1 hu1 hf1
  go_wp2_with fail
  (with_reducible refine (ledOpen_any H1.out (by decide) (by decide)).mono ?_)
  rw [HL0.out]
  rintro e w2 ⟨gl, rfl, F2, G2, h2, hu2, -, -⟩
  have H2 := Lib.hid h2
  clear h2 hu2
  go_wp2_with fail
  (with_reducible refine (recA_any w2).mono ?_)
  rintro e w3 ⟨rfl, hu3⟩
  have H3 := Lib.hid (H2.out.upd0 hu3)
  clear hu3
  go_wp2_with fail
  (with_reducible refine (recB_any w3).mono ?_)
  rintro e w4 ⟨rfl, hu4⟩
  have H4 := Lib.hid (H3.out.upd0 hu4)
  have hbA : Blk (w4.alloc (.cells #[.int .i64 1, .int .i64 1, .int .i64 5, .string ⟨#[97]⟩, .int .i64 1, .int .i64 (-1), .int .i64 (-1), .int .i64 (-1), .int .i64 (-1), .int .i64 (-1), .int .i64 (-1), .int .i64 (-1), .int .i64 (-1), .int .i64 (-1), .int .i64 (-1)] 27)) w4.heap.size 27 [.int .i64 1, .int .i64 1, .int .i64 5, .string ⟨#[97]⟩, .int .i64 1, .int .i64 (-1), .int .i64 (-1), .int .i64 (-1), .int .i64 (-1), .int .i64 (-1), .int .i64 (-1), .int .i64 (-1), .int .i64 (-1), .int .i64 (-1), .int .i64 (-1)] := Blk.new w4 _ [.int .i64 1, .int .i64 1, .int .i64 5, .string ⟨#[97]⟩, .int .i64 1, .int .i64 (-1), .int .i64 (-1), .int .i64 (-1), .int .i64 (-1), .int .i64 (-1), .int .i64 (-1), .int .i64 (-1), .int .i64 (-1), .int .i64 (-1), .int .i64 (-1)]
  have hbB : Blk ((w4.alloc (.cells #[.int .i64 1, .int .i64 1, .int .i64 5, .string ⟨#[97]⟩, .int .i64 1, .int .i64 (-1), .int .i64 (-1), .int .i64 (-1), .int .i64 (-1), .int .i64 (-1), .int .i64 (-1), .int .i64 (-1), .int .i64 (-1), .int .i64 (-1), .int .i64 (-1)] 27)).alloc (.cells #[.int .i64 1, .int .i64 1, .int .i64 5, .string ⟨#[]⟩, .int .i64 2, .int .i64 0, .int .i64 0, .int .i64 0, .int .i64 0, .int .i64 0, .int .i64 0, .int .i64 0, .int .i64 0, .int .i64 0, .int .i64 0] 27)) (w4.heap.size + 1) 27 [.int .i64 1, .int .i64 1, .int .i64 5, .string ⟨#[]⟩, .int .i64 2, .int .i64 0, .int .i64 0, .int .i64 0, .int .i64 0, .int .i64 0, .int .i64 0, .int .i64 0, .int .i64 0, .int .i64 0, .int .i64 0] := by
    have := Blk.new (w4.alloc (.cells #[.int .i64 1, .int .i64 1, .int .i64 5, .string ⟨#[97]⟩, .int .i64 1, .int .i64 (-1), .int .i64 (-1), .int .i64 (-1), .int .i64 (-1), .int .i64 (-1), .int .i64 (-1), .int .i64 (-1), .int .i64 (-1), .int .i64 (-1), .int .i64 (-1)] 27)) 27 [.int .i64 1, .int .i64 1, .int .i64 5, .string ⟨#[]⟩, .int .i64 2, .int .i64 0, .int .i64 0, .int .i64 0, .int .i64 0, .int .i64 0, .int .i64 0, .int .i64 0, .int .i64 0, .int .i64 0, .int .i64 0]
    rwa [show (w4.alloc (.cells #[.int .i64 1, .int .i64 1, .int .i64 5, .string ⟨#[97]⟩, .int .i64 1, .int .i64 (-1), .int .i64 (-1), .int .i64 (-1), .int .i64 (-1), .int .i64 (-1), .int .i64 (-1), .int .i64 (-1), .int .i64 (-1), .int .i64 (-1), .int .i64 (-1)] 27)).heap.size = w4.heap.size + 1 by simp] at this
  have hu5 : Upd [] w4 ((w4.alloc (.cells #[.int .i64 1, .int .i64 1, .int .i64 5, .string ⟨#[97]⟩, .int .i64 1, .int .i64 (-1), .int .i64 (-1), .int .i64 (-1), .int .i64 (-1), .int .i64 (-1), .int .i64 (-1), .int .i64 (-1), .int .i64 (-1), .int .i64 (-1), .int .i64 (-1)] 27)).alloc (.cells #[.int .i64 1, .int .i64 1, .int .i64 5, .string ⟨#[]⟩, .int .i64 2, .int .i64 0, .int .i64 0, .int .i64 0, .int .i64 0, .int .i64 0, .int .i64 0, .int .i64 0, .int .i64 0, .int .i64 0, .int .i64 0] 27)) := ((Upd.refl [] w4).alloc _).alloc _
  have H5 := Lib.hid (H4.out.upd0 hu5)
  have HBA : Hid (Blk ((w4.alloc (.cells #[.int .i64 1, .int .i64 1, .int .i64 5, .string ⟨#[97]⟩, .int .i64 1, .int .i64 (-1), .int .i64 (-1), .int .i64 (-1), .int .i64 (-1), .int .i64 (-1), .int .i64 (-1), .int .i64 (-1), .int .i64 (-1), .int .i64 (-1), .int .i64 (-1)] 27)).alloc (.cells #[.int .i64 1, .int .i64 1, .int .i64 5, .string ⟨#[]⟩, .int .i64 2, .int .i64 0, .int .i64 0, .int .i64 0, .int .i64 0, .int .i64 0, .int .i64 0, .int .i64 0, .int .i64 0, .int .i64 0, .int .i64 0] 27)) w4.heap.size 27 [.int .i64 1, .int .i64 1, .int .i64 5, .string ⟨#[97]⟩, .int .i64 1, .int .i64 (-1), .int .i64 (-1), .int .i64 (-1), .int .i64 (-1), .int .i64 (-1), .int .i64 (-1), .int .i64 (-1), .int .i64 (-1), .int .i64 (-1), .int .i64 (-1)]) := hbA.upd ((Upd.refl [] _).alloc _) (by simp)
  have HBB := Lib.hid hbB
  have HAF : Hid (∀ x, x ∈ F2 ∨ x ∈ G2 → x < w4.heap.size) := fun x hx => by
    rcases hx with q | q
    · exact (H4.out.geF x q).2
    · exact (H4.out.dd.ge x q).2
  clear hu4 hbA hbB hu5 H2 H3 H4
  have R5 : Hid (RS w ((w4.alloc (.cells #[.int .i64 1, .int .i64 1, .int .i64 5, .string ⟨#[97]⟩, .int .i64 1, .int .i64 (-1), .int .i64 (-1), .int .i64 (-1), .int .i64 (-1), .int .i64 (-1), .int .i64 (-1), .int .i64 (-1), .int .i64 (-1), .int .i64 (-1), .int .i64 (-1)] 27)).alloc (.cells #[.int .i64 1, .int .i64 1, .int .i64 5, .string ⟨#[]⟩, .int .i64 2, .int .i64 0, .int .i64 0, .int .i64 0, .int .i64 0, .int .i64 0, .int .i64 0, .int .i64 0, .int .i64 0, .int .i64 0, .int .i64 0] 27)) gd gl F2 G2 [] ⟨[], [], []⟩ w4.heap.size (w4.heap.size + 1)) := ⟨H5.out, HBA.out, HBB.out, fun x hx => by
    have := HAF.out x (List.mem_append.1 hx)
    omega⟩
  clear H5 HBA HBB HAF
  go_wp2_with fail
  obtain ⟨w5, hw5⟩ : ∃ W, (w4.alloc (.cells #[.int .i64 1, .int .i64 1, .int .i64 5, .string ⟨#[97]⟩, .int .i64 1, .int .i64 (-1), .int .i64 (-1), .int .i64 (-1), .int .i64 (-1), .int .i64 (-1), .int .i64 (-1), .int .i64 (-1), .int .i64 (-1), .int .i64 (-1), .int .i64 (-1)] 27)).alloc (.cells #[.int .i64 1, .int .i64 1, .int .i64 5, .string ⟨#[]⟩, .int .i64 2, .int .i64 0, .int .i64 0, .int .i64 0, .int .i64 0, .int .i64 0, .int .i64 0, .int .i64 0, .int .i64 0, .int .i64 0, .int .i64 0] 27) = W := ⟨_, rfl⟩
  rw [hw5] at R5 ⊢
  clear hw5
  obtain ⟨gA, hgA⟩ : ∃ g, w4.heap.size = g := ⟨_, rfl⟩
  obtain ⟨gB, hgB⟩ : ∃ g, gA + 1 = g := ⟨_, rfl⟩
  rw [hgA, hgB] at R5
  rw [hgA, hgB]
  clear hgA hgB
  (with_reducible refine (rsAddA R5.out ⟨by simp, by simp, by simp⟩ HA1.out).mono ?_)
  rintro e w6 ⟨rfl, F6, G6, r6⟩
  have R6 := Lib.hid r6
  have ca0 : w6.cell? ⟨gA, 0, none⟩ = some (.int .i64 1) := r6.a.cell 0
  have ca1 : w6.cell? ⟨gA, 1, none⟩ = some (.int .i64 1) := r6.a.cell 1
  have ca2 : w6.cell? ⟨gA, 2, none⟩ = some (.int .i64 5) := r6.a.cell 2
  have ca3 : w6.cell? ⟨gA, 3, none⟩ = some (.string ⟨#[97]⟩) := r6.a.cell 3
  have ca4 : w6.cell? ⟨gA, 4, none⟩ = some (.int .i64 1) := r6.a.cell 4
  have ca5 : w6.cell? ⟨gA, 5, none⟩ = some (.int .i64 (-1)) := r6.a.cell 5
  have ca6 : w6.cell? ⟨gA, 6, none⟩ = some (.int .i64 (-1)) := r6.a.cell 6
  have ca7 : w6.cell? ⟨gA, 7, none⟩ = some (.int .i64 (-1)) := r6.a.cell 7
  have ca8 : w6.cell? ⟨gA, 8, none⟩ = some (.int .i64 (-1)) := r6.a.cell 8
  have ca9 : w6.cell? ⟨gA, 9, none⟩ = some (.int .i64 (-1)) := r6.a.cell 9
  have ca10 : w6.cell? ⟨gA, 10, none⟩ = some (.int .i64 (-1)) := r6.a.cell 10
  have ca11 : w6.cell? ⟨gA, 11, none⟩ = some (.int .i64 (-1)) := r6.a.cell 11
  have ca12 : w6.cell? ⟨gA, 12, none⟩ = some (.int .i64 (-1)) := r6.a.cell 12
  have ca13 : w6.cell? ⟨gA, 13, none⟩ = some (.int .i64 (-1)) := r6.a.cell 13
  have ca14 : w6.cell? ⟨gA, 14, none⟩ = some (.int .i64 (-1)) := r6.a.cell 14
  clear r6 R5
  go_wp2_with fail
  (with_reducible refine (rsAddA R6.out ⟨HS1.out.1, HS1.out.2, by simp⟩ HA3.out).mono ?_)
  rintro e w7 ⟨rfl, F7, G7, r7⟩
  have R7 := Lib.hid r7
  have cb0 : w7.cell? ⟨gB, 0, none⟩ = some (.int .i64 1) := r7.b.cell 0
  have cb1 : w7.cell? ⟨gB, 1, none⟩ = some (.int .i64 1) := r7.b.cell 1
  have cb2 : w7.cell? ⟨gB, 2, none⟩ = some (.int .i64 5) := r7.b.cell 2
  have cb3 : w7.cell? ⟨gB, 3, none⟩ = some (.string ⟨#[]⟩) := r7.b.cell 3
  have cb4 : w7.cell? ⟨gB, 4, none⟩ = some (.int .i64 2) := r7.b.cell 4
  have cb5 : w7.cell? ⟨gB, 5, none⟩ = some (.int .i64 0) := r7.b.cell 5
  have cb6 : w7.cell? ⟨gB, 6, none⟩ = some (.int .i64 0) := r7.b.cell 6
  have cb7 : w7.cell? ⟨gB, 7, none⟩ = some (.int .i64 0) := r7.b.cell 7
  have cb8 : w7.cell? ⟨gB, 8, none⟩ = some (.int .i64 0) := r7.b.cell 8
  have cb9 : w7.cell? ⟨gB, 9, none⟩ = some (.int .i64 0) := r7.b.cell 9
  have cb10 : w7.cell? ⟨gB, 10, none⟩ = some (.int .i64 0) := r7.b.cell 10
  have cb11 : w7.cell? ⟨gB, 11, none⟩ = some (.int .i64 0) := r7.b.cell 11
  have cb12 : w7.cell? ⟨gB, 12, none⟩ = some (.int .i64 0) := r7.b.cell 12
  have cb13 : w7.cell? ⟨gB, 13, none⟩ = some (.int .i64 0) := r7.b.cell 13
  have cb14 : w7.cell? ⟨gB, 14, none⟩ = some (.int .i64 0) := r7.b.cell 14
  clear r7 R6 ca0 ca1 ca2 ca3 ca4 ca5 ca6 ca7 ca8 ca9 ca10 ca11 ca12 ca13 ca14
  go_wp2_with fail
  (with_reducible refine (rsAddB R7.out ⟨HS1.out.1, HS1.out.2, by simp⟩ HA2.out).mono ?_)
  rintro e w8 ⟨rfl, F8, G8, r8⟩
  have R8 := Lib.hid r8
  clear r8 R7 cb0 cb1 cb2 cb3 cb4 cb5 cb6 cb7 cb8 cb9 cb10 cb11 cb12 cb13 cb14
  go_wp2_with fail
  (with_reducible refine (rsLen R8.out).mono ?_)
  rintro e w8' ⟨rfl, rfl⟩
  go_wp2_with fail
  (with_reducible refine (rsOpen R8.out ⟨by have := HS2.out; omega, by have := HS2.out; omega⟩ HL2.out).mono ?_)
  rintro e w9 ⟨gk, rfl, F9, G9, r9⟩
  have R9 := Lib.hid r9
  have ca0 : w9.cell? ⟨gA, 0, none⟩ = some (.int .i64 1) := r9.a.cell 0
  have ca1 : w9.cell? ⟨gA, 1, none⟩ = some (.int .i64 1) := r9.a.cell 1
  have ca2 : w9.cell? ⟨gA, 2, none⟩ = some (.int .i64 5) := r9.a.cell 2
  have ca3 : w9.cell? ⟨gA, 3, none⟩ = some (.string ⟨#[97]⟩) := r9.a.cell 3
  have ca4 : w9.cell? ⟨gA, 4, none⟩ = some (.int .i64 1) := r9.a.cell 4
  have ca5 : w9.cell? ⟨gA, 5, none⟩ = some (.int .i64 (-1)) := r9.a.cell 5
  have ca6 : w9.cell? ⟨gA, 6, none⟩ = some (.int .i64 (-1)) := r9.a.cell 6
  have ca7 : w9.cell? ⟨gA, 7, none⟩ = some (.int .i64 (-1)) := r9.a.cell 7
  have ca8 : w9.cell? ⟨gA, 8, none⟩ = some (.int .i64 (-1)) := r9.a.cell 8
  have ca9 : w9.cell? ⟨gA, 9, none⟩ = some (.int .i64 (-1)) := r9.a.cell 9
  have ca10 : w9.cell? ⟨gA, 10, none⟩ = some (.int .i64 (-1)) := r9.a.cell 10
  have ca11 : w9.cell? ⟨gA, 11, none⟩ = some (.int .i64 (-1)) := r9.a.cell 11
  have ca12 : w9.cell? ⟨gA, 12, none⟩ = some (.int .i64 (-1)) := r9.a.cell 12
  have ca13 : w9.cell? ⟨gA, 13, none⟩ = some (.int .i64 (-1)) := r9.a.cell 13
  have ca14 : w9.cell? ⟨gA, 14, none⟩ = some (.int .i64 (-1)) := r9.a.cell 14
  clear r9 R8
  go_wp2_with fail
  (with_reducible refine (putA w9).mono ?_)
  rintro e w10 ⟨v, rfl, hv, hu10⟩
  have R10 := Lib.hid (R9.out.upd0 hu10)
  clear hu10 R9 ca0 ca1 ca2 ca3 ca4 ca5 ca6 ca7 ca8 ca9 ca10 ca11 ca12 ca13 ca14
  go_wp2_with fail
  (with_reducible refine (getA hv).mono ?_)
  rintro e w11 ⟨rfl, hu11⟩
  have R11 := Lib.hid (R10.out.upd0 hu11)
  clear hu11 R10 hv
  have R12 : Hid (RS w (w11.alloc (.cells #[.int .i64 1, .int .i64 1, .int .i64 5, .string ⟨#[97]⟩, .int .i64 1, .int .i64 (-1), .int .i64 (-1), .int .i64 (-1), .int .i64 (-1), .int .i64 (-1), .int .i64 (-1), .int .i64 (-1), .int .i64 (-1), .int .i64 (-1), .int .i64 (-1)] 27)) gd gk F9 G9 [recA, recB] s2 gA gB) := R11.out.upd0 ((Upd.refl [] w11).alloc _)
  have HBC : Hid (Blk (w11.alloc (.cells #[.int .i64 1, .int .i64 1, .int .i64 5, .string ⟨#[97]⟩, .int .i64 1, .int .i64 (-1), .int .i64 (-1), .int .i64 (-1), .int .i64 (-1), .int .i64 (-1), .int .i64 (-1), .int .i64 (-1), .int .i64 (-1), .int .i64 (-1), .int .i64 (-1)] 27)) w11.heap.size 27 [.int .i64 1, .int .i64 1, .int .i64 5, .string ⟨#[97]⟩, .int .i64 1, .int .i64 (-1), .int .i64 (-1), .int .i64 (-1), .int .i64 (-1), .int .i64 (-1), .int .i64 (-1), .int .i64 (-1), .int .i64 (-1), .int .i64 (-1), .int .i64 (-1)]) := Blk.new w11 _ [.int .i64 1, .int .i64 1, .int .i64 5, .string ⟨#[97]⟩, .int .i64 1, .int .i64 (-1), .int .i64 (-1), .int .i64 (-1), .int .i64 (-1), .int .i64 (-1), .int .i64 (-1), .int .i64 (-1), .int .i64 (-1), .int .i64 (-1), .int .i64 (-1)]
  clear R11
  go_wp2_with fail
  obtain ⟨w12, hw12⟩ : ∃ W, w11.alloc (.cells #[.int .i64 1, .int .i64 1, .int .i64 5, .string ⟨#[97]⟩, .int .i64 1, .int .i64 (-1), .int .i64 (-1), .int .i64 (-1), .int .i64 (-1), .int .i64 (-1), .int .i64 (-1), .int .i64 (-1), .int .i64 (-1), .int .i64 (-1), .int .i64 (-1)] 27) = W := ⟨_, rfl⟩
  rw [hw12] at R12 HBC ⊢
  clear hw12
  obtain ⟨gC, hgC⟩ : ∃ g, w11.heap.size = g := ⟨_, rfl⟩
  rw [hgC] at HBC
  rw [hgC]
  clear hgC
  (with_reducible refine (ledOpenNil_any w12).mono ?_)
  rintro e w12' ⟨rfl, rfl⟩
  have HOLD := Lib.hid R12.out.ld.old
  have RX := Lib.hid (reg14_pre R12.out)
  clear R12
  go_wp2_with fail
  refine reg14 (gA := gA) (gB := gB) (gC := gC) (gk := gk) RX.out HBC.out ?_
  clear RX HBC HS1 HS2 HA1 HA2 HA3 HL0 HL2 H1
  intro y91 y92 y93 y94 y95 y96 y97 y98 y99 y100 y101 y102 y103 y104 y105 y106 y107 y108 y109 y110 y111 y112 y113 y114 y115 y116 y117 y118 y119 y120 y121 y122 y123 y124 y125 y126 w' hu
  have HF := Lib.hid hu
  clear hu
  go_wp2_with fail
  go_ret
  exact ⟨rfl, Upd.seq HOLD.out HF.out⟩
end
end Go.Proofs.YtmhojaiajhdlcaaGreat
