/- The walk of FrameTurned. -/
import Derived.Test.YthnmlifnlmdelaaFrameRuns
import Derived.Test.YthnmlifnlmdelaaFrameTurn
import Derived.Test.YthnmlifnlmdelaaWithin
namespace Go.Proofs.Ythnmlifnlmdelaa
open Go.RowKit
set_option linter.unusedSimpArgs false
set_option linter.unusedVariables false
theorem put_nil (p : List UInt8) (h : p.length ≤ 1000) : ∃ L, (∀ r ∈ L, Fit r) ∧ putF [] p = framesOf L ∧ (L.length = 1 ↔ 0 < (framesOf L).length) ∧ L.length < 2 ∧ (framesOf L).length ≤ 1008 := by
  by_cases h0 : p.length < 1
  · exact ⟨[], fun r hr => by simp at hr, if_pos (.inl h0), by simp [framesOf], by simp, by simp [framesOf]⟩
  · refine ⟨[p], fun r hr => ?_, ?_, ?_, by simp, ?_⟩
    · simp at hr; subst hr; exact ⟨by omega, by omega⟩
    · have : putF [] p = [] ++ frameOf p := if_neg (by omega)
      rw [this]; simp [framesOf]
    · simp [framesOf, frameOf_len]; omega
    · simp [framesOf, frameOf_len]; omega
set_option maxHeartbeats 4000000 in
theorem frameTurned_any (w : World) (v : Value) (p : List UInt8) (h : Bytes w v p) (hz : p.length ≤ 140737488351232) (u : Value) (q : List UInt8) (h2 : Bytes w u q) (hz2 : q.length ≤ 140737488351232) (at_ : Int) (hat : I64 at_) (x : BitVec 32) :
    Calls Try.prog 7 #[v, u, iv at_, .int .u32 (x.toNat : Int)] w fun e w' => e = .returned (.bool true) ∧ Upd [] w w' := by
  obtain ⟨hat1, hat2⟩ := hat
  have H := Lib.hid h
  have H2 := Lib.hid h2
  obtain ⟨a, cap, rfl, -, -, -⟩ := h
  obtain ⟨a2, cap2, rfl, -, -, -⟩ := h2
  by_cases hbad : 1000 < p.length ∨ 1000 < q.length ∨ q.length = 0
  · have hb : (1000 : Int) < p.length ∨ (¬ (1000 : Int) < p.length ∧ (1000 : Int) < q.length) ∨ (¬ (1000 : Int) < p.length ∧ ¬ (1000 : Int) < q.length ∧ q.length = 0) := by omega
    go_enter Try.func7, Try.ntmps7
    clear hbad
    rcases hb with hb | ⟨hb, hb2⟩ | ⟨hb, hb2, hb3⟩
    all_goals go_wp2_with fail
    all_goals with_reducible refine (frameRuns_any _).mono ?_
    all_goals rintro e w9 ⟨rfl, hu9⟩
    all_goals go_wp2_with fail
    all_goals go_ret
    all_goals exact ⟨rfl, hu9⟩
  · have hb1 : ¬ (1000 : Int) < p.length := by omega
    have hb2 : ¬ (1000 : Int) < q.length := by omega
    have hb3 : ((q.length : Int) == 0) = false := by rw [beq_eq_false_iff_ne]; omega
    obtain ⟨L, hL, hpf, hL1, hL2, hLl⟩ := put_nil p (by omega)
    have hq : Fit q := ⟨by omega, by omega⟩
    have hpq : putF (framesOf L) q = framesOf L ++ frameOf q := if_neg (by omega)
    have hBl : (framesOf L ++ frameOf q).length = (framesOf L).length + 8 + q.length := by rw [List.length_append, frameOf_len]; omega
    have hq1 : 1 ≤ q.length := by omega
    have HT := Lib.hid (fun bt h1 h2 => turn_law L hL q hq bt x h1 h2)
    have HPF := Lib.hid hpf
    have HPQ := Lib.hid hpq
    clear hpf hpq hL hbad hq
    generalize framesOf L = A at *
    generalize A ++ frameOf q = B at *
    obtain ⟨hw1, hw2⟩ := within_in at_ (8 * ((A.length : Int) + 8)) (8 * (B.length : Int) - 1) (by omega)
    have HW := Lib.hid (Int.toNat_of_nonneg (show 0 ≤ within at_ (8 * ((A.length : Int) + 8)) (8 * (B.length : Int) - 1) by omega))
    have hw3 : (within at_ (8 * ((A.length : Int) + 8)) (8 * (B.length : Int) - 1)).toNat < 8 * B.length := by omega
    have hw4 : 8 * (A.length + 8) ≤ (within at_ (8 * ((A.length : Int) + 8)) (8 * (B.length : Int) - 1)).toNat := by omega
    generalize (within at_ (8 * ((A.length : Int) + 8)) (8 * (B.length : Int) - 1)).toNat = bt at HW hw3 hw4
    have HT2 := Lib.hid (HT.out bt hw4 hw3)
    have hAB : ¬ (B.length : Int) ≤ A.length := by omega
    have hBs : B.length ≤ 3000 := by omega
    have hAs : A.length ≤ 1008 := by omega
    have HBL := Lib.hid hBl
    clear hw1 hw2 hBl HT
    go_enter Try.func7, Try.ntmps7
    go_wp2_with fail
    with_reducible refine (fPut_any _ _ [] p _ (Rd.nil _) H.out (by decide) (by omega)).mono ?_
    rintro e w1 ⟨v1, rfl, ho1, hu1⟩
    rw [HPF.out] at ho1
    obtain ⟨a1, c1, rfl, -⟩ := ho1.rd
    have HU1 := Lib.hid hu1
    have HO1 := Lib.hid ho1
    clear ho1 hu1
    go_wp2_with fail
    with_reducible refine (fPut_any _ _ A q _ HO1.out.rd (H2.out.upd0 HU1.out) (by omega) (by omega)).mono ?_
    rintro e w2 ⟨v2, rfl, ho2, hu2⟩
    rw [HPQ.out] at ho2
    have HU2 := Lib.hid (HU1.out.seq hu2)
    obtain ⟨g, k1, ys, rfl, hg, hb, hk1, hk2⟩ := ho2.form (by intro e; rw [e] at hw3; simp at hw3)
    have hg2 : w.heap.size ≤ g := Nat.le_trans HU1.out.size hg
    have HB := Lib.hid hb
    clear ho2 hu2 hb hg
    go_wp2_with fail
    with_reducible refine (within_any _ _ _ _ ⟨hat1, hat2⟩ (by omega) (by omega) (by omega)).mono ?_
    rintro e w' ⟨rfl, rfl⟩
    rw [← HW.out]
    go_wp2
    have hkx : k1 ≤ 9223372036854775807 := hk2
    clear hk2
    go_loopw [12, 13] (fun tu i wr => ∃ k : Nat, k ≤ 32 ∧ i = .int .i64 k ∧ tu = .bool (turned B.length B.length bt x k) ∧ Hid (Blk wr g 5 ((flips B bt x k).map bv ++ ys)) ∧ Hid (Upd [] w wr)) (fun _ i _ => 32 - (intOf i).toNat)
    case atStart => exact ⟨0, by omega, rfl, rfl, HB, HU2⟩
    case round =>
      obtain ⟨k, hk, rfl, rfl, hb, hu⟩ := hrel
      by_cases hlt : k < 32
      · by_cases hx : x.getLsbD k = true
        · have tx := (bit_test x k).2 hx
          have HX := Lib.hid hx
          clear hx
          by_cases hq : bt + k < 8 * B.length
          · have q1 : (bt : Int) + k < 8 * B.length := by omega
            have hcell : wr.cell? ⟨g, (bt + k) / 8, none⟩ = some (bv (nth (flips B bt x k) ((bt + k) / 8))) := by
              rw [hb.out.cell, List.getElem?_append_left (by simp [flips_length]; omega), List.getElem?_map, List.getElem?_eq_getElem (by rw [flips_length]; omega), nth_get _ _ (by rw [flips_length]; omega)]; rfl
            have hfr : wr.frozen? ⟨g, (bt + k) / 8, none⟩ = false := hb.out.frozen _
            go_wp2
            go_region
            go_wp2
            go_roundw
            case rel =>
              refine ⟨k + 1, by omega, by go_num, ?_, ?_, ?_⟩
              · exact congrArg Value.bool (turned_step _ _ _ _ _ HX.out hq (by omega)).symm
              · show Blk _ _ _ _
                rw [flips_step _ _ _ _ HX.out hq]
                exact flip_blk (bt + k) (by rw [flips_length]; exact hq) hb.out
              · exact (hu.out.setCell _ _ (.inr hg2)).drew
            case measure => simp [intOf]; omega
          · have q1 : ¬ (bt : Int) + k < 8 * B.length := by omega
            go_wp2
            go_roundw
            case rel => exact ⟨k + 1, by omega, by go_num, congrArg Value.bool (turned_stay _ _ _ _ _ (.inr hq)).symm, by rw [flips_stay _ _ _ _ (.inr hq)]; exact hb, hu⟩
            case measure => simp [intOf]; omega
        · have tx : ¬ (bits .and .u32 ((x.toNat : Int) / 2 ^ k) 1 = 1) := fun q => hx ((bit_test x k).1 q)
          have hx' : x.getLsbD k = false := by simpa using hx
          have HX := Lib.hid hx'
          clear hx hx'
          go_wp2
          go_roundw
          case rel => exact ⟨k + 1, by omega, by go_num, congrArg Value.bool (turned_stay _ _ _ _ _ (.inl HX.out)).symm, by rw [flips_stay _ _ _ _ (.inl HX.out)]; exact hb, hu⟩
          case measure => simp [intOf]; omega
      · obtain rfl : k = 32 := by omega
        have hrd : Bytes wr (.slice (some ⟨g, 0, none⟩) B.length k1) (flips B bt x 32) := hb.out.rd_pre _ _ _ (flips_length _ _ _ _).symm hk1 hkx
        have HR := Lib.hid hrd
        have hfl := flips_length B bt x 32
        clear hrd
        cases htu : turned B.length B.length bt x 32 with
        | true =>
          rw [htu] at HT2
          have HT3 : Hid (scanAll (flips B bt x 32) = (L, A.length)) := HT2.out.trans (if_pos rfl)
          go_wp2_with fail
          with_reducible refine (fScan_eq _ _ _ _ HT3.out HR.out (by omega)).mono ?_
          rintro e w4 ⟨u4, rfl, ho4, hu4⟩
          obtain ⟨a4, k4, hv4⟩ := ho4.form
          dsimp only at hv4
          subst hv4
          have HU4 := Lib.hid (hu.out.seq hu4)
          have hcs : (L.length = 1 ∧ 0 < A.length) ∨ (L.length = 0 ∧ A.length = 0) := by omega
          clear ho4 hu4 hL1 hfl hL2
          dsimp only
          rcases hcs with ⟨e1, e2⟩ | ⟨e1, e2⟩
          · have e3 : (0 : Int) < A.length := by omega
            rw [e1]
            clear e1 e2
            go_wp2_with fail
            with_reducible refine (frameRuns_any _).mono ?_
            rintro e w9 ⟨rfl, hu9⟩
            have HU9 := Lib.hid (HU4.out.seq hu9)
            clear hu9
            go_wp2_with fail
            go_ret
            exact ⟨rfl, HU9.out⟩
          · rw [e1, e2]
            clear e1 e2
            go_wp2_with fail
            with_reducible refine (frameRuns_any _).mono ?_
            rintro e w9 ⟨rfl, hu9⟩
            have HU9 := Lib.hid (HU4.out.seq hu9)
            clear hu9
            go_wp2_with fail
            go_ret
            exact ⟨rfl, HU9.out⟩
        | false =>
          rw [htu] at HT2
          have HT3 : Hid (scanAll (flips B bt x 32) = (L ++ [q], B.length)) := HT2.out.trans (if_neg (by simp))
          go_wp2_with fail
          with_reducible refine (fScan_eq _ _ _ _ HT3.out HR.out (by omega)).mono ?_
          rintro e w4 ⟨u4, rfl, ho4, hu4⟩
          have HU4 := Lib.hid (hu.out.seq hu4)
          clear ho4 hu4
          dsimp only
          go_wp2_with fail
          with_reducible refine (frameRuns_any _).mono ?_
          rintro e w9 ⟨rfl, hu9⟩
          have HU9 := Lib.hid (HU4.out.seq hu9)
          clear hu9
          go_wp2_with fail
          go_ret
          exact ⟨rfl, HU9.out⟩
end Go.Proofs.Ythnmlifnlmdelaa
