/- Texts of the proof, joined: Chapter 25: a record is added, the document's. -/
import Derived.Test.YtmhojaiajhdlcaaGreatMp12
import Derived.Deep.RegionHeld3
import Derived.Deep.RegionLaw
namespace Go.Proofs.YtmhojaiajhdlcaaGreat
open Go.RowKit
set_option linter.unusedSimpArgs false
set_option linter.unusedVariables false
section
variable {w0 w w' : World} {gr gk : Nat} {F G : List Nat} {rl : List Rec} {s s' : DS}
set_option maxRecDepth 20000 in
set_option maxHeartbeats 8000000 in
theorem rfAdd_c (h : RKD w0 w gr gk F G rl s) (ino gen at_ : Int) (rule : ByteArray) (kind c0 c1 c2 c3 c4 c5 c6 c7 c8 c9 : Int) (hn : s.now.length ≤ 4999) (hlg : s.log.length ≤ 500000000) (hrl : rl.length ≤ 100000000) :
    Calls Tryz.prog 32 #[.pointer (some ⟨gk, 0, none⟩), mkVal ino gen at_ rule kind c0 c1 c2 c3 c4 c5 c6 c7 c8 c9] w fun e w' => e = .returned (.tuple #[.bool (lAdd rl s (mkRec ino gen at_ rule kind c0 c1 c2 c3 c4 c5 c6 c7 c8 c9)).1.1, .int .i64 (lAdd rl s (mkRec ino gen at_ rule kind c0 c1 c2 c3 c4 c5 c6 c7 c8 c9)).1.2]) ∧ RKOut w0 w gr gk (F ++ G) (lAdd rl s (mkRec ino gen at_ rule kind c0 c1 c2 c3 c4 c5 c6 c7 c8 c9)).2.1 (lAdd rl s (mkRec ino gen at_ rule kind c0 c1 c2 c3 c4 c5 c6 c7 c8 c9)).2.2 w' := by
  have hu0 : Upd [] w (w.alloc (.cells #[.int .i64 ino, .int .i64 gen, .int .i64 at_, .string rule, .int .i64 kind, .int .i64 c0, .int .i64 c1, .int .i64 c2, .int .i64 c3, .int .i64 c4, .int .i64 c5, .int .i64 c6, .int .i64 c7, .int .i64 c8, .int .i64 c9] 27)) := (Upd.refl [] w).alloc _
  have HU0 := Lib.hid hu0
  have H0 := Lib.hid h
  have HB0 : Hid (Blk (w.alloc (.cells #[.int .i64 ino, .int .i64 gen, .int .i64 at_, .string rule, .int .i64 kind, .int .i64 c0, .int .i64 c1, .int .i64 c2, .int .i64 c3, .int .i64 c4, .int .i64 c5, .int .i64 c6, .int .i64 c7, .int .i64 c8, .int .i64 c9] 27)) w.heap.size 27 [.int .i64 ino, .int .i64 gen, .int .i64 at_, .string rule, .int .i64 kind, .int .i64 c0, .int .i64 c1, .int .i64 c2, .int .i64 c3, .int .i64 c4, .int .i64 c5, .int .i64 c6, .int .i64 c7, .int .i64 c8, .int .i64 c9]) := Blk.new w _ [.int .i64 ino, .int .i64 gen, .int .i64 at_, .string rule, .int .i64 kind, .int .i64 c0, .int .i64 c1, .int .i64 c2, .int .i64 c3, .int .i64 c4, .int .i64 c5, .int .i64 c6, .int .i64 c7, .int .i64 c8, .int .i64 c9]
  have HN := Lib.hid hn
  have HLG := Lib.hid hlg
  have HRL := Lib.hid hrl
  clear h hu0 hn hlg hrl
  cases hok : recOk (mkRec ino gen at_ rule kind c0 c1 c2 c3 c4 c5 c6 c7 c8 c9) with
  | false =>
    have HOK := Lib.hid hok
    have HE : Hid (lAdd rl s (mkRec ino gen at_ rule kind c0 c1 c2 c3 c4 c5 c6 c7 c8 c9) = ((false, 1), rl, s)) := by unfold Hid lAdd; rw [hok]; rfl
    have hb1 := HB0.out
    have d0 := hb1.cell 0
    have d1 := hb1.cell 1
    have d2 := hb1.cell 2
    have d3 := hb1.cell 3
    have d4 := hb1.cell 4
    have d5 := hb1.cell 5
    have d6 := hb1.cell 6
    have d7 := hb1.cell 7
    have d8 := hb1.cell 8
    have d9 := hb1.cell 9
    have d10 := hb1.cell 10
    have d11 := hb1.cell 11
    have d12 := hb1.cell 12
    have d13 := hb1.cell 13
    have d14 := hb1.cell 14
    simp only [List.getElem?_cons_zero, List.getElem?_cons_succ] at d0 d1 d2 d3 d4 d5 d6 d7 d8 d9 d10 d11 d12 d13 d14
    clear hok hb1
    go_enter Tryz.func32, Tryz.ntmps32
    go_wp2_with fail
    (with_reducible refine (rfRight_c _ ino gen at_ rule kind c0 c1 c2 c3 c4 c5 c6 c7 c8 c9).mono ?_)
    rw [HOK.out]
    rintro e w1 ⟨rfl, hu1⟩
    have HU1 := Lib.hid (HU0.out.seq hu1)
    clear hu1
    go_wp2_with fail
    go_ret2
    exact ⟨by rw [HE.out]; rfl, by rw [HE.out]; exact H0.out.out0 HU1.out⟩
  | true =>
    have HOK := Lib.hid hok
    cases hhas : hasK rl ⟨ino, gen, at_, rule⟩ with
    | true =>
      have HE : Hid (lAdd rl s (mkRec ino gen at_ rule kind c0 c1 c2 c3 c4 c5 c6 c7 c8 c9) = ((false, 0), rl, s)) := by unfold Hid lAdd; rw [hok, if_pos rfl]; dsimp only; rw [hhas]; rfl
      have HH := Lib.hid hhas
      have hb1 := HB0.out
      have d0 := hb1.cell 0
      have d1 := hb1.cell 1
      have d2 := hb1.cell 2
      have d3 := hb1.cell 3
      have d4 := hb1.cell 4
      have d5 := hb1.cell 5
      have d6 := hb1.cell 6
      have d7 := hb1.cell 7
      have d8 := hb1.cell 8
      have d9 := hb1.cell 9
      have d10 := hb1.cell 10
      have d11 := hb1.cell 11
      have d12 := hb1.cell 12
      have d13 := hb1.cell 13
      have d14 := hb1.cell 14
      simp only [List.getElem?_cons_zero, List.getElem?_cons_succ] at d0 d1 d2 d3 d4 d5 d6 d7 d8 d9 d10 d11 d12 d13 d14
      clear hok hhas hb1
      go_enter Tryz.func32, Tryz.ntmps32
      go_wp2_with fail
      (with_reducible refine (rfRight_c _ ino gen at_ rule kind c0 c1 c2 c3 c4 c5 c6 c7 c8 c9).mono ?_)
      rw [HOK.out]
      rintro e w1 ⟨rfl, hu1⟩
      have HU1 := Lib.hid (HU0.out.seq hu1)
      have hb1 := HB0.out.upd hu1 (by simp)
      clear d0 d1 d2 d3 d4 d5 d6 d7 d8 d9 d10 d11 d12 d13 d14
      have d0 := hb1.cell 0
      have d1 := hb1.cell 1
      have d2 := hb1.cell 2
      have d3 := hb1.cell 3
      simp only [List.getElem?_cons_zero, List.getElem?_cons_succ] at d0 d1 d2 d3
      clear hu1 hb1
      go_wp2_with fail
      obtain ⟨lv, hc, -⟩ := H0.out.rk
      (with_reducible refine (rfHas_c (hc.upd0 HU1.out) ino gen at_ rule).mono ?_)
      rw [HH.out]
      rintro e w2 ⟨rfl, hu2⟩
      have HU2 := Lib.hid (HU1.out.seq hu2)
      clear hu2 hc
      go_wp2_with fail
      go_ret2
      exact ⟨by rw [HE.out]; rfl, by rw [HE.out]; exact H0.out.out0 HU2.out⟩
    | false =>
      obtain ⟨r1, s1, hap⟩ : ∃ r s', dAppend s nmL (frameOf (encRec (mkRec ino gen at_ rule kind c0 c1 c2 c3 c4 c5 c6 c7 c8 c9))) = (r, s') := ⟨_, _, rfl⟩
      have HAP := Lib.hid hap
      have HFL : Hid ((frameOf (encRec (mkRec ino gen at_ rule kind c0 c1 c2 c3 c4 c5 c6 c7 c8 c9))).length ≤ 100000000 ∧ frameOf (encRec (mkRec ino gen at_ rule kind c0 c1 c2 c3 c4 c5 c6 c7 c8 c9)) ≠ []) := by
        have h1 := encRec_len hok
        have h2 := frameOf_len (encRec (mkRec ino gen at_ rule kind c0 c1 c2 c3 c4 c5 c6 c7 c8 c9))
        exact ⟨by omega, fun q => by rw [q] at h2; simp at h2; omega⟩
      have HFP : Hid (putF [] (encRec (mkRec ino gen at_ rule kind c0 c1 c2 c3 c4 c5 c6 c7 c8 c9)) = frameOf (encRec (mkRec ino gen at_ rule kind c0 c1 c2 c3 c4 c5 c6 c7 c8 c9))) := by unfold Hid; rw [putF_fit _ _ (fit_rec hok)]; rfl
      have HEL : Hid ((encRec (mkRec ino gen at_ rule kind c0 c1 c2 c3 c4 c5 c6 c7 c8 c9)).length ≤ 100000) := by have := encRec_len hok; unfold Hid; omega
      have HE : Hid (lAdd rl s (mkRec ino gen at_ rule kind c0 c1 c2 c3 c4 c5 c6 c7 c8 c9) = if r1 = 0 then ((true, 0), rl ++ [mkRec ino gen at_ rule kind c0 c1 c2 c3 c4 c5 c6 c7 c8 c9], s1) else ((false, r1), rl, s1)) := by
        unfold Hid lAdd; rw [hok, if_pos rfl]; dsimp only; rw [hhas, hap]; rfl
      have HH := Lib.hid hhas
      have hb1 := HB0.out
      have d0 := hb1.cell 0
      have d1 := hb1.cell 1
      have d2 := hb1.cell 2
      have d3 := hb1.cell 3
      have d4 := hb1.cell 4
      have d5 := hb1.cell 5
      have d6 := hb1.cell 6
      have d7 := hb1.cell 7
      have d8 := hb1.cell 8
      have d9 := hb1.cell 9
      have d10 := hb1.cell 10
      have d11 := hb1.cell 11
      have d12 := hb1.cell 12
      have d13 := hb1.cell 13
      have d14 := hb1.cell 14
      simp only [List.getElem?_cons_zero, List.getElem?_cons_succ] at d0 d1 d2 d3 d4 d5 d6 d7 d8 d9 d10 d11 d12 d13 d14
      clear hok hhas hap hb1
      go_enter Tryz.func32, Tryz.ntmps32
      go_wp2_with fail
      (with_reducible refine (rfRight_c _ ino gen at_ rule kind c0 c1 c2 c3 c4 c5 c6 c7 c8 c9).mono ?_)
      rw [HOK.out]
      rintro e w1 ⟨rfl, hu1⟩
      have HU1 := Lib.hid (HU0.out.seq hu1)
      have hb1 := HB0.out.upd hu1 (by simp)
      have HB1 := Lib.hid hb1
      clear d0 d1 d2 d3 d4 d5 d6 d7 d8 d9 d10 d11 d12 d13 d14
      have d0 := hb1.cell 0
      have d1 := hb1.cell 1
      have d2 := hb1.cell 2
      have d3 := hb1.cell 3
      simp only [List.getElem?_cons_zero, List.getElem?_cons_succ] at d0 d1 d2 d3
      clear hu1 hb1 HB0 HU0
      go_wp2_with fail
      obtain ⟨lv, hc, hF⟩ := H0.out.rk
      (with_reducible refine (rfHas_c (hc.upd0 HU1.out) ino gen at_ rule).mono ?_)
      rw [HH.out]
      rintro e w2 ⟨rfl, hu2⟩
      have HU2 := Lib.hid (HU1.out.seq hu2)
      have hb2 := HB1.out.upd hu2 (by simp)
      have HB2 := Lib.hid hb2
      have HL2 := Lib.hid (H0.out.upd0 HU2.out)
      have hgx : w.heap.size < w2.heap.size := hb2.lt
      have HGX : Hid (∀ x ∈ G, x < w.heap.size) := fun x hx => (H0.out.rd.ge x hx).2
      have HGF : Hid (∀ x ∈ F, x < w.heap.size) := fun x hx => (H0.out.geF x hx).2
      have HSZ : Hid (w.heap.size ≤ w2.heap.size) := HU2.out.size
      have gc0 : w2.cell? ⟨gk, 0, none⟩ = some (.pointer (some ⟨gr, 0, none⟩)) := (hc.upd0 HU2.out).top.cell 0
      clear d0 d1 d2 d3
      have d0 := hb2.cell 0
      have d1 := hb2.cell 1
      have d2 := hb2.cell 2
      have d3 := hb2.cell 3
      have d4 := hb2.cell 4
      have d5 := hb2.cell 5
      have d6 := hb2.cell 6
      have d7 := hb2.cell 7
      have d8 := hb2.cell 8
      have d9 := hb2.cell 9
      have d10 := hb2.cell 10
      have d11 := hb2.cell 11
      have d12 := hb2.cell 12
      have d13 := hb2.cell 13
      have d14 := hb2.cell 14
      simp only [List.getElem?_cons_zero, List.getElem?_cons_succ] at d0 d1 d2 d3 d4 d5 d6 d7 d8 d9 d10 d11 d12 d13 d14
      have HS : Hid (∀ W, W = w2 → W.cell? ⟨gk, 0, none⟩ = some (.pointer (some ⟨gr, 0, none⟩)) ∧ W.cell? ⟨w.heap.size, 0, none⟩ = some (.int .i64 ino) ∧ W.cell? ⟨w.heap.size, 1, none⟩ = some (.int .i64 gen) ∧ W.cell? ⟨w.heap.size, 2, none⟩ = some (.int .i64 at_) ∧ W.cell? ⟨w.heap.size, 3, none⟩ = some (.string rule) ∧ W.cell? ⟨w.heap.size, 4, none⟩ = some (.int .i64 kind) ∧ W.cell? ⟨w.heap.size, 5, none⟩ = some (.int .i64 c0) ∧ W.cell? ⟨w.heap.size, 6, none⟩ = some (.int .i64 c1) ∧ W.cell? ⟨w.heap.size, 7, none⟩ = some (.int .i64 c2) ∧ W.cell? ⟨w.heap.size, 8, none⟩ = some (.int .i64 c3) ∧ W.cell? ⟨w.heap.size, 9, none⟩ = some (.int .i64 c4) ∧ W.cell? ⟨w.heap.size, 10, none⟩ = some (.int .i64 c5) ∧ W.cell? ⟨w.heap.size, 11, none⟩ = some (.int .i64 c6) ∧ W.cell? ⟨w.heap.size, 12, none⟩ = some (.int .i64 c7) ∧ W.cell? ⟨w.heap.size, 13, none⟩ = some (.int .i64 c8) ∧ W.cell? ⟨w.heap.size, 14, none⟩ = some (.int .i64 c9)) := by
        rintro W rfl
        exact ⟨gc0, d0, d1, d2, d3, d4, d5, d6, d7, d8, d9, d10, d11, d12, d13, d14⟩
      have HGLG : Hid (gk ∉ G) := fun hx => H0.out.ap gk (by rw [hF]; exact kf_top _ _) hx
      have HKEEP : Hid (∀ (T : List Nat) W, (T = [] ∨ T = G) → Upd T w2 W → W.cell? ⟨gk, 0, none⟩ = some (.pointer (some ⟨gr, 0, none⟩)) ∧ W.cell? ⟨w.heap.size, 0, none⟩ = some (.int .i64 ino) ∧ W.cell? ⟨w.heap.size, 1, none⟩ = some (.int .i64 gen) ∧ W.cell? ⟨w.heap.size, 2, none⟩ = some (.int .i64 at_) ∧ W.cell? ⟨w.heap.size, 3, none⟩ = some (.string rule) ∧ W.cell? ⟨w.heap.size, 4, none⟩ = some (.int .i64 kind) ∧ W.cell? ⟨w.heap.size, 5, none⟩ = some (.int .i64 c0) ∧ W.cell? ⟨w.heap.size, 6, none⟩ = some (.int .i64 c1) ∧ W.cell? ⟨w.heap.size, 7, none⟩ = some (.int .i64 c2) ∧ W.cell? ⟨w.heap.size, 8, none⟩ = some (.int .i64 c3) ∧ W.cell? ⟨w.heap.size, 9, none⟩ = some (.int .i64 c4) ∧ W.cell? ⟨w.heap.size, 10, none⟩ = some (.int .i64 c5) ∧ W.cell? ⟨w.heap.size, 11, none⟩ = some (.int .i64 c6) ∧ W.cell? ⟨w.heap.size, 12, none⟩ = some (.int .i64 c7) ∧ W.cell? ⟨w.heap.size, 13, none⟩ = some (.int .i64 c8) ∧ W.cell? ⟨w.heap.size, 14, none⟩ = some (.int .i64 c9)) := by
        intro T W hT hu
        have n1 : gk ∉ T := by rcases hT with rfl | rfl; simp; exact HGLG.out
        have n2 : w.heap.size ∉ T := by
          rcases hT with rfl | rfl
          · simp
          · intro hx; have := HGX.out _ hx; omega
        obtain ⟨g0, g1⟩ := HS.out w2 rfl
        obtain ⟨e0, e1, e2, e3, e4, e5, e6, e7, e8, e9, e10, e11, e12, e13, e14⟩ := g1
        exact ⟨hu.cell g0 n1, hu.cell e0 n2, hu.cell e1 n2, hu.cell e2 n2, hu.cell e3 n2, hu.cell e4 n2, hu.cell e5 n2, hu.cell e6 n2, hu.cell e7 n2, hu.cell e8 n2, hu.cell e9 n2, hu.cell e10 n2, hu.cell e11 n2, hu.cell e12 n2, hu.cell e13 n2, hu.cell e14 n2⟩
      have HC1 : Hid (∀ W, Upd [] w2 W → Calls Tryz.prog 9 #[mkVal ino gen at_ rule kind c0 c1 c2 c3 c4 c5 c6 c7 c8 c9] W fun e w' => ∃ a n k, e = .returned (.slice a n k) ∧ Hid (Own bv w2.heap.size 5 w' (.slice a n k) (encRec (mkRec ino gen at_ rule kind c0 c1 c2 c3 c4 c5 c6 c7 c8 c9))) ∧ Upd [] w2 w') := fun W hW => by
        refine (rfPut_c W ino gen at_ rule kind c0 c1 c2 c3 c4 c5 c6 c7 c8 c9 HOK.out).mono ?_
        rintro e w' ⟨v, rfl, ho, hu⟩
        obtain ⟨a, k, rfl, -⟩ := ho.rd
        exact ⟨a, _, k, rfl, ho.base_le hW.size, hW.seq hu⟩
      have HC2 : Hid (∀ W a n k, Own bv w2.heap.size 5 W (.slice a n k) (encRec (mkRec ino gen at_ rule kind c0 c1 c2 c3 c4 c5 c6 c7 c8 c9)) → Upd [] w2 W → Calls Tryz.prog 16 #[.slice none 0 0, .slice a n k] W fun e w' => ∃ a n k, e = .returned (.slice a n k) ∧ Hid (Own bv w2.heap.size 5 w' (.slice a n k) (frameOf (encRec (mkRec ino gen at_ rule kind c0 c1 c2 c3 c4 c5 c6 c7 c8 c9)))) ∧ Upd [] w2 w') := fun W a n k ho hW => by
        refine (rFrame_any _ _ [] (encRec (mkRec ino gen at_ rule kind c0 c1 c2 c3 c4 c5 c6 c7 c8 c9)) W (Rd.nil _) ho.rd (by simp) (by have := HEL.out; omega)).mono ?_
        rw [HFP.out]
        rintro e w' ⟨v, rfl, ho2, hu⟩
        obtain ⟨a, k, rfl, -⟩ := ho2.rd
        exact ⟨a, _, k, rfl, ho2.base_le hW.size, hW.seq hu⟩
      have HC3 : Hid (∀ W a n k, Own bv w2.heap.size 5 W (.slice a n k) (frameOf (encRec (mkRec ino gen at_ rule kind c0 c1 c2 c3 c4 c5 c6 c7 c8 c9))) → Upd [] w2 W → Calls Tryz.prog 20 #[.pointer (some ⟨gr, 0, none⟩), sv nmL, .slice a n k] W fun e w' => e = .returned (.int .i64 r1) ∧ Hid (ROut w0 W gr G s1 w') ∧ Hid (Upd [] w2 W) ∧ Upd G w2 w') := fun W a n k ho hW => by
        refine (rAppend_any nmL _ _ ho.rd (fun _ x hx hg => by have := (ho.ge x hx).1; have := HGX.out x hg; have := HSZ.out; omega) (HL2.out.rd.upd0 hW) HFL.out.1 HN.out HLG.out).mono ?_
        rw [HAP.out]
        rintro e w' ⟨rfl, hd⟩
        exact ⟨rfl, hd, hW, by obtain ⟨G', k1, k2, k3⟩ := hd; exact hW.trans k2 (by simp) (fun x hx => .inl hx)⟩
      have ru := Upd.refl [] w2
      clear hu2 hb2 hc hF HB1 HU1
      go_wp2_with fail
      go_region_held3 (fun W => W.cell? ⟨gk, 0, none⟩ = some (.pointer (some ⟨gr, 0, none⟩)) ∧ W.cell? ⟨w.heap.size, 0, none⟩ = some (.int .i64 ino) ∧ W.cell? ⟨w.heap.size, 1, none⟩ = some (.int .i64 gen) ∧ W.cell? ⟨w.heap.size, 2, none⟩ = some (.int .i64 at_) ∧ W.cell? ⟨w.heap.size, 3, none⟩ = some (.string rule) ∧ W.cell? ⟨w.heap.size, 4, none⟩ = some (.int .i64 kind) ∧ W.cell? ⟨w.heap.size, 5, none⟩ = some (.int .i64 c0) ∧ W.cell? ⟨w.heap.size, 6, none⟩ = some (.int .i64 c1) ∧ W.cell? ⟨w.heap.size, 7, none⟩ = some (.int .i64 c2) ∧ W.cell? ⟨w.heap.size, 8, none⟩ = some (.int .i64 c3) ∧ W.cell? ⟨w.heap.size, 9, none⟩ = some (.int .i64 c4) ∧ W.cell? ⟨w.heap.size, 10, none⟩ = some (.int .i64 c5) ∧ W.cell? ⟨w.heap.size, 11, none⟩ = some (.int .i64 c6) ∧ W.cell? ⟨w.heap.size, 12, none⟩ = some (.int .i64 c7) ∧ W.cell? ⟨w.heap.size, 13, none⟩ = some (.int .i64 c8) ∧ W.cell? ⟨w.heap.size, 14, none⟩ = some (.int .i64 c9)) (first | go_keep | exact HKEEP.out [] _ (.inl rfl) ru | exact HKEEP.out G _ (.inr rfl) ru3)
        (first
          | (go_at_call 9; (with_reducible refine (HC1.out _ (Upd.seq ru ?_)).mono ?_); (repeat (first | exact Upd.refl _ _ | apply Upd.drew | apply Upd.drewN | apply Upd.alloc)); (rintro _ W1 ⟨a1, n1, k1, rfl, ho1, ru⟩; dsimp only))
          | (go_at_call 16; (with_reducible refine (HC2.out _ a1 n1 k1 (Own.upd (S := []) ho1.out ?_ (by simp)) (Upd.seq ru ?_)).mono ?_); (repeat (first | exact Upd.refl _ _ | apply Upd.drew | apply Upd.drewN | apply Upd.alloc)); (rintro _ W2 ⟨a2, n2, k2, rfl, ho2, ru⟩; dsimp only))
          | (go_at_call 20; (with_reducible refine (HC3.out _ a2 n2 k2 (Own.upd (S := []) ho2.out ?_ (by simp)) (Upd.seq ru ?_)).mono ?_); (repeat (first | exact Upd.refl _ _ | apply Upd.drew | apply Upd.drewN | apply Upd.alloc)); (rintro _ W3 ⟨rfl, hd3, hw3, ru3⟩; dsimp only)))
      all_goals
        obtain ⟨G3, h3, hu3, hf3⟩ := HL2.out.disk hw3.out hd3.out
        have H3 := Lib.hid h3
        have HU3 := Lib.hid hu3
        have HF3 := Lib.hid hf3
        clear hd3 hw3 ru3 ho1 ho2 ru HC1 HC2 HC3 gc0 d0 d1 d2 d3 d4 d5 d6 d7 d8 d9 d10 d11 d12 d13 d14 HL2 h3 hf3
        by_cases hz : r1 = 0
        · subst hz
          have HE2 : Hid (lAdd rl s (mkRec ino gen at_ rule kind c0 c1 c2 c3 c4 c5 c6 c7 c8 c9) = ((true, 0), rl ++ [mkRec ino gen at_ rule kind c0 c1 c2 c3 c4 c5 c6 c7 c8 c9], s1)) := by unfold Hid; rw [HE.out, if_pos rfl]
          obtain ⟨-, d0, d1, d2, d3, d4, d5, d6, d7, d8, d9, d10, d11, d12, d13, d14⟩ := HKEEP.out G W3 (.inr rfl) hu3
          have HBX : Hid (Blk W3 w.heap.size 27 [.int .i64 ino, .int .i64 gen, .int .i64 at_, .string rule, .int .i64 kind, .int .i64 c0, .int .i64 c1, .int .i64 c2, .int .i64 c3, .int .i64 c4, .int .i64 c5, .int .i64 c6, .int .i64 c7, .int .i64 c8, .int .i64 c9]) := HB2.out.upd hu3 (fun hx => by have := HGX.out _ hx; omega)
          clear hu3
          obtain ⟨lv3, hk1, hF3⟩ := H3.out.rk
          have HU2' := HU2
          clear HU2
          have HRK := Lib.hid hk1
          obtain ⟨ao, co, rfl, hlc, hcm⟩ := own_slice hk1.rows
          have hco : co ≤ 9223372036854775807 := by unfold maxLen at hcm; omega
          have gc1 : W3.cell? ⟨gk, 1, none⟩ = some (.slice ao rl.length co) := hk1.top.cell 1
          have f1 := hk1.top.frozen 1
          have hg1 : gk < W3.heap.size := hk1.top.lt
          have hx1 : w.heap.size < W3.heap.size := HBX.out.lt
          have hu2 : Upd [] W3 (W3.drew.alloc (.cells #[.int .i64 ino, .int .i64 gen, .int .i64 at_, .string rule, .int .i64 kind, .int .i64 c0, .int .i64 c1, .int .i64 c2, .int .i64 c3, .int .i64 c4, .int .i64 c5, .int .i64 c6, .int .i64 c7, .int .i64 c8, .int .i64 c9] 27)) := (Upd.refl [] W3).drew.alloc _
          have hnb : Blk (W3.drew.alloc (.cells #[.int .i64 ino, .int .i64 gen, .int .i64 at_, .string rule, .int .i64 kind, .int .i64 c0, .int .i64 c1, .int .i64 c2, .int .i64 c3, .int .i64 c4, .int .i64 c5, .int .i64 c6, .int .i64 c7, .int .i64 c8, .int .i64 c9] 27)) W3.heap.size 27 [.int .i64 ino, .int .i64 gen, .int .i64 at_, .string rule, .int .i64 kind, .int .i64 c0, .int .i64 c1, .int .i64 c2, .int .i64 c3, .int .i64 c4, .int .i64 c5, .int .i64 c6, .int .i64 c7, .int .i64 c8, .int .i64 c9] := Blk.new W3.drew _ _
          have HRD : RdN 15 recCells (W3.drew.alloc (.cells #[.int .i64 ino, .int .i64 gen, .int .i64 at_, .string rule, .int .i64 kind, .int .i64 c0, .int .i64 c1, .int .i64 c2, .int .i64 c3, .int .i64 c4, .int .i64 c5, .int .i64 c6, .int .i64 c7, .int .i64 c8, .int .i64 c9] 27)) (.slice (some ⟨W3.heap.size, 0, none⟩) 1 1) [mkRec ino gen at_ rule kind c0 c1 c2 c3 c4 c5 c6 c7 c8 c9] := by
            refine ⟨_, 1, rfl, by simp, by simp [maxLen], fun _ => ⟨W3.heap.size, 0, rfl, fun j hj i hi => ?_⟩⟩
            have hj0 : j = 0 := by simpa using hj
            subst hj0
            rw [Nat.zero_mul, Nat.zero_add, Nat.zero_add, hnb.cell]; rfl
          have HRUN := Lib.hid (fun ty => run_appN (P := Tryz.prog) (ty := ty) recCells_len (by decide) recCells_one undRec infoRec3 rfl _ _ rl [mkRec ino gen at_ rule kind c0 c1 c2 c3 c4 c5 c6 c7 c8 c9] (hk1.rows.upd hu2 (by simp)) HRD (by have := HRL.out; simp; omega) (by have := HRL.out; simp [maxLen]; omega) (hk1.old.seq hu2).size)
          have HTOP := Lib.hid (hk1.top.upd hu2 (by simp))
          have HGL := Lib.hid hk1.gll
          have HU2 := Lib.hid hu2
          clear hu2 hnb HRD hlc hcm hk1
          go_wp2_with fail
          go_region_law (first | ((with_reducible refine step_app_of rfl (.tmp 29) (.tmp 31) rfl (.slice ao rl.length co) (.slice (some ⟨W3.heap.size, 0, none⟩) 1 1) rfl rfl (HRUN.out _) ?_); (rintro v4 w4 ⟨ho4, hu4, hk4⟩; obtain ⟨a4, k4, rfl, -⟩ := own_slice ho4; have ht4 := HTOP.out.upd hu4 HGL.out; have gc4 := ht4.cell 1; have f4 := ht4.frozen 1; have HT4 := Lib.hid ht4; have HO4 := Lib.hid ho4; have HU4 := Lib.hid hu4; have HK4 := Lib.hid hk4; clear ho4 hu4 hk4 ht4; dsimp only)))
          all_goals
            have hset : Upd [gk] w4 (w4.setCell ⟨gk, 1, none⟩ (.slice a4 (rl.length + 1) k4)) := (Upd.refl [gk] w4).setCell _ _ (.inl (by simp))
            have hall4 : Upd (blk (Value.slice ao rl.length co)) W3 w4 := HU2.out.trans HU4.out (by simp) (fun x hx => .inl hx)
            have ht5 : Blk (w4.setCell ⟨gk, 1, none⟩ (.slice a4 (rl.length + 1) k4)) gk 57 [.pointer (some ⟨gr, 0, none⟩), .slice a4 (rl.length + 1) k4] := HT4.out.set_ 1 _
            have ho5 : OwnN 15 recCells w0.heap.size 27 (w4.setCell ⟨gk, 1, none⟩ (.slice a4 (rl.length + 1) k4)) (.slice a4 (rl.length + 1) k4) (rl ++ [mkRec ino gen at_ rule kind c0 c1 c2 c3 c4 c5 c6 c7 c8 c9]) := by
              have ho4 := HO4.out
              rw [List.length_append, List.length_singleton] at ho4
              refine ho4.upd hset (fun x hx hx' => ?_)
              simp at hx'
              subst hx'
              obtain ⟨C, f, h1⟩ := ho4.typ x hx
              have h2 : w4.heap[x]? = some (.cells _ _ _) := HT4.out
              rw [h1] at h2
              injection h2 with h2; injection h2 with _ h2
              exact absurd h2 (by decide)
            have hu5 : Upd (kfoot gk (Value.slice ao rl.length co)) W3 (w4.setCell ⟨gk, 1, none⟩ (.slice a4 (rl.length + 1) k4)) := hall4.trans hset (T := kfoot gk (Value.slice ao rl.length co)) (fun x hx => kf_row hx) (fun x hx => .inl (by simp at hx; subst hx; exact kf_top _ _))
            have hold5 : Upd [] w0 (w4.setCell ⟨gk, 1, none⟩ (.slice a4 (rl.length + 1) k4)) := (HRK.out.old.trans (T := []) hall4 (by simp) (fun x hx => .inr (HRK.out.rows.ge x hx).1)).trans hset (by simp) (fun x hx => .inr (by simp at hx; subst hx; exact HRK.out.glb))
            have HK5 : Hid (∀ x ∈ blk (Value.slice a4 (rl.length + 1) k4), x ∈ blk (Value.slice ao rl.length co) ∨ W3.heap.size ≤ x) := fun x hx => by
              have hx' : x ∈ blk (Value.slice a4 (rl ++ [mkRec ino gen at_ rule kind c0 c1 c2 c3 c4 c5 c6 c7 c8 c9]).length k4) := by
                cases a4 with
                | none => simp [blk] at hx
                | some q => simpa [blk] using hx
              rcases HK4.out x hx' with q | q
              · exact .inl q
              · have := HU2.out.size; exact .inr (by omega)
            have HRK5 : Hid (RK w0 (w4.setCell ⟨gk, 1, none⟩ (.slice a4 (rl.length + 1) k4)) gk gr (.slice a4 (rl.length + 1) k4) (rl ++ [mkRec ino gen at_ rule kind c0 c1 c2 c3 c4 c5 c6 c7 c8 c9])) := ⟨ht5, ho5, HRK.out.glb, hold5⟩
            have HU5 := Lib.hid hu5
            clear hset hall4 ht5 ho5 hu5 hold5 HRUN HTOP HGL HU2 HT4 HO4 HU4 HK4 gc1 f1 gc4 f4
            generalize w4.setCell ⟨gk, 1, none⟩ (.slice a4 (rl.length + 1) k4) = w5 at *
            have hge3 := HRK.out.ge
            have hsz2 := HU2'.out.size
            have hsz3 := HU3.out.size
            have hout : RKOut w0 w gr gk (F ++ G) (rl ++ [mkRec ino gen at_ rule kind c0 c1 c2 c3 c4 c5 c6 c7 c8 c9]) s1 w5 := by
              refine ⟨kfoot gk (.slice a4 (rl.length + 1) k4), G3, ⟨⟨_, HRK5.out, rfl⟩, H3.out.rd.upd HU5.out (fun x hx hf => H3.out.ap x (by rw [hF3]; exact hf) hx) (fun x hx => (hge3 x hx).1), fun x hx hg => ?_⟩, ?_, fun x hx => ?_, fun x hx => ?_⟩
              · have hd : x ∈ kfoot gk (Value.slice ao rl.length co) → False := fun q => H3.out.ap x (by rw [hF3]; exact q) hg
                rcases List.mem_cons.1 hx with q | hx
                · exact hd (by rw [q]; exact kf_top _ _)
                · rcases HK5.out x hx with q | q
                  · exact hd (kf_row q)
                  · have := (H3.out.rd.ge x hg).2; omega
              · refine (HU2'.out.trans HU3.out (T := F ++ G) (by simp) (fun x hx => .inl (List.mem_append.2 (.inr hx)))).trans HU5.out (fun x hx => hx) (fun x hx => .inl (List.mem_append.2 (.inl ?_)))
                rw [hF3]; exact hx
              · have hi : x ∈ kfoot gk (Value.slice ao rl.length co) → x ∈ F ++ G := fun q => List.mem_append.2 (.inl (by rw [hF3]; exact q))
                rcases List.mem_cons.1 hx with q | hx
                · exact .inl (hi (by rw [q]; exact kf_top _ _))
                · rcases HK5.out x hx with q | q
                  · exact .inl (hi (kf_row q))
                  · exact .inr (by omega)
              · rcases HF3.out x hx with q | q
                · exact .inl (List.mem_append.2 (.inr q))
                · exact .inr (by omega)
            have HOUT := Lib.hid hout
            clear hout
            go_wp2_with fail
            go_ret2
            exact ⟨by rw [HE2.out]; rfl, by rw [HE2.out]; exact HOUT.out⟩
        · have ez : (r1 != 0) = true := by rw [bne_iff_ne]; exact hz
          have HE2 : Hid (lAdd rl s (mkRec ino gen at_ rule kind c0 c1 c2 c3 c4 c5 c6 c7 c8 c9) = ((false, r1), rl, s1)) := by unfold Hid; rw [HE.out, if_neg hz]
          have HOUT : Hid (RKOut w0 w gr gk (F ++ G) rl s1 W3) := by
            have hsz2 := HU2.out.size
            exact H0.out.out H3.out (HU2.out.trans HU3.out (by simp) (fun x hx => .inl hx)) (fun x hx => (HF3.out x hx).imp id (fun q => by omega))
          clear hz hu3
          go_wp2_with fail
          go_ret2
          exact ⟨by rw [HE2.out]; rfl, by rw [HE2.out]; exact HOUT.out⟩
end
end Go.Proofs.YtmhojaiajhdlcaaGreat
