/- Chapter 23's Next, the document's. -/
import Derived.Test.YthnmlifnlmdelaaFrameNext
namespace Go.Proofs.Ythnmlifnlmdelaa
open Go.RowKit
set_option linter.unusedSimpArgs false
set_option linter.unusedVariables false
set_option maxHeartbeats 8000000 in
theorem rNext_any (v : Value) (l : List UInt8) (at_ : Int) (w : World) (h : Bytes w v l) (hz : l.length ≤ 1000000000) (hat : I64 at_) :
    Calls Try.prog 22 #[v, .int .i64 at_] w fun e w' => NextSaid w (nextF l at_) e w' := by
  have H := Lib.hid h
  obtain ⟨a, cap, rfl, hlc, hcm, hcell⟩ := h
  obtain ⟨ha1, ha2⟩ := hat
  by_cases hp : at_ < 0 ∨ (l.length : Int) < at_
  · have HF : Hid (nextF l at_ = ([], 0, 1)) := if_pos hp
    generalize nextF l at_ = r at *
    clear hcell
    go_enter Try.func22, Try.ntmps22
    rcases hp with hp | hp
    all_goals go_wp2_with fail
    all_goals go_ret3
    all_goals exact ⟨_, by rw [HF.out]; rfl, by rw [HF.out]; exact Own.nil _ _ _, Upd.refl _ _⟩
  · obtain ⟨k, rfl⟩ := Int.eq_ofNat_of_zero_le (show 0 ≤ at_ by omega)
    have HN : Hid (nextF l (k : Int) = nextR (l.drop k) k) := by unfold Hid nextF; rw [if_neg hp]; rfl
    have hk : k ≤ l.length := by omega
    have hk1 : (k : Int) ≤ l.length := by omega
    have hk2 : (l.length : Int) ≤ cap := by omega
    have hk3 : (k : Int) ≤ cap := by omega
    have HR := Lib.hid (H.out.drop k hk)
    have hrl : (l.drop k).length = l.length - k := List.length_drop
    clear hp
    have q0 : ¬ (k : Int) < 0 := by omega
    have q1 : ¬ (l.length : Int) < k := by omega
    have hnum : num4 (l.drop k) = (nth l k).toNat * 16777216 + (nth l (k + 1)).toNat * 65536 + (nth l (k + 2)).toNat * 256 + (nth l (k + 3)).toNat := by
      simp only [num4, nth_drop, Nat.add_zero]
    have hnum2 : num4 ((l.drop k).drop 4) = (nth l (k + 4)).toNat * 16777216 + (nth l (k + 5)).toNat * 65536 + (nth l (k + 6)).toNat * 256 + (nth l (k + 7)).toNat := by
      simp only [num4, nth_drop, Nat.add_zero, Nat.add_assoc]
    generalize nextF l (k : Int) = r at *
    generalize hrd : l.drop k = rl at *
    by_cases hs : rl.length < 8
    · have HG : Hid (r = ([], 0, 3)) := HN.out.trans (if_pos (by omega))
      have q2 : (l.length : Int) - k < 8 := by omega
      clear HN hrl hcell
      go_enter Try.func22, Try.ntmps22
      go_wp2_with fail
      go_ret3
      exact ⟨_, by rw [HG.out]; rfl, by rw [HG.out]; exact Own.nil _ _ _, Upd.refl _ _⟩
    · have HN := Lib.hid (HN.out.trans (if_neg (by omega)))
      have q2 : ¬ (l.length : Int) - k < 8 := by omega
      have hne : l ≠ [] := by rintro rfl; simp at hrd; subst hrd; simp at hs
      obtain ⟨b, off, rfl, hc⟩ := hcell hne
      have c0 := hc k (by omega)
      have c1 : w.cell? ⟨b, off + (k + 1), none⟩ = some (bv (nth l (k + 1))) := hc (k + 1) (by omega)
      have c2 : w.cell? ⟨b, off + (k + 2), none⟩ = some (bv (nth l (k + 2))) := hc (k + 2) (by omega)
      have c3 : w.cell? ⟨b, off + (k + 3), none⟩ = some (bv (nth l (k + 3))) := hc (k + 3) (by omega)
      have C4 := Lib.hid (show w.cell? ⟨b, off + (k + 4), none⟩ = some (bv (nth l (k + 4))) from hc (k + 4) (by omega))
      have C5 := Lib.hid (show w.cell? ⟨b, off + (k + 5), none⟩ = some (bv (nth l (k + 5))) from hc (k + 5) (by omega))
      have C6 := Lib.hid (show w.cell? ⟨b, off + (k + 6), none⟩ = some (bv (nth l (k + 6))) from hc (k + 6) (by omega))
      have C7 := Lib.hid (show w.cell? ⟨b, off + (k + 7), none⟩ = some (bv (nth l (k + 7))) from hc (k + 7) (by omega))
      have d0 : (k : Int) < l.length := by omega
      have d1 : (k : Int) + 1 < l.length := by omega
      have d2 : (k : Int) + 2 < l.length := by omega
      have d3 : (k : Int) + 3 < l.length := by omega
      have d4 : (k : Int) + 4 < l.length := by omega
      have d5 : (k : Int) + 5 < l.length := by omega
      have d6 : (k : Int) + 6 < l.length := by omega
      have d7 : (k : Int) + 7 < l.length := by omega
      have HW1 : Hid (_ = _) := num4_walk64 (nth l k) (nth l (k + 1)) (nth l (k + 2)) (nth l (k + 3))
      rw [← hnum] at HW1
      have HW2 : Hid (_ = _) := num4_walk (nth l (k + 4)) (nth l (k + 5)) (nth l (k + 6)) (nth l (k + 7))
      rw [← hnum2] at HW2
      have HT := Lib.hid (HR.out.take 4 (by omega))
      have hnd : ((l.drop k).drop 4) = rl.drop 4 := by rw [hrd]
      have hrb : rl.length ≤ 1000000000 := by omega
      have hrl2 : (rl.length : Int) = (l.length : Int) - k := by omega
      have hc4 : ∀ W, (Instr.slice 22 (.slice (some ⟨b, off, none⟩) l.length cap) (some (.int .i64 (k : Int))) (some (.int .i64 ((k : Int) + 4))) none).run Try.prog W = .ok (.slice (if cap = k then (some ⟨b, off, none⟩) else (some ⟨b, off, none⟩ : Option Addr).map (·.add (k * 1))) (k + 4 - k) (cap - k)) W := fun W => run_cut_lh (P := Try.prog) Try.underlying22 sizeByte (some ⟨b, off, none⟩) l.length cap k (k + 4) (by omega) (by omega) W (k : Int) ((k : Int) + 4) rfl (by omega)
      simp only [Nat.mul_one, Nat.add_sub_cancel_left] at hc4
      have HPN := fun (n : Nat) (hn : k + 8 + n ≤ l.length) => Lib.hid (H.out.sub (k + 8) (k + 8 + n) (by omega) hn)
      have HPE : Hid (∀ n, (l.drop (k + 8)).take n = (rl.drop 8).take n) := by intro n; rw [← hrd, List.drop_drop]
      have hc2 := fun (n : Nat) (hn : k + 8 + n ≤ l.length) (W : World) => run_cut_lh (P := Try.prog) Try.underlying22 sizeByte (some ⟨b, off, none⟩) l.length cap (k + 8) (k + 8 + n) (by omega) (by omega) W ((k : Int) + 8) ((k : Int) + 8 + (n : Int)) (by omega) (by omega)
      simp only [Nat.mul_one, Nat.add_sub_cancel_left] at hc2 HPN
      generalize (if cap = k then (some ⟨b, off, none⟩) else (some ⟨b, off, none⟩ : Option Addr).map (·.add k)) = ak at *
      generalize (if cap = k + 8 then (some ⟨b, off, none⟩) else (some ⟨b, off, none⟩ : Option Addr).map (·.add (k + 8))) = a8 at *
      generalize nth l k = x0 at *
      generalize nth l (k + 1) = x1 at *
      generalize nth l (k + 2) = x2 at *
      generalize nth l (k + 3) = x3 at *
      generalize nth l (k + 4) = x4 at *
      generalize nth l (k + 5) = x5 at *
      generalize nth l (k + 6) = x6 at *
      generalize nth l (k + 7) = x7 at *
      have hNL := num4_lt rl
      have HPE2 := Lib.hid (HPE.out (num4 rl))
      generalize num4 rl = n at *
      generalize num4 (rl.drop 4) = m at *
      have HRL := Lib.hid hrl
      clear hc hcell HPE hnum hnum2 hrd hnd hrl hcm hlc
      by_cases hf : n = 0 ∨ 262144 < n
      · have HG : Hid (r = ([], 0, 4)) := HN.out.trans (if_pos hf)
        clear HN hc2 hc4 hrl2
        go_enter Try.func22, Try.ntmps22
        go_wp2_with fail
        go_quiet (fail)
        rw [HW1.out]
        rcases hf with rfl | hf
        · go_wp2_with fail
          go_ret3
          exact ⟨_, by rw [HG.out]; rfl, by rw [HG.out]; exact Own.nil _ _ _, by first | exact (Upd.refl [] _).drewN _ | exact (Upd.refl [] _).drew⟩
        · have hf2 : ((n : Int) == 0) = false := by rw [beq_eq_false_iff_ne]; omega
          have hf3 : (262144 : Int) < n := by omega
          go_wp2_with fail
          go_ret3
          exact ⟨_, by rw [HG.out]; rfl, by rw [HG.out]; exact Own.nil _ _ _, by first | exact (Upd.refl [] _).drewN _ | exact (Upd.refl [] _).drew⟩
      · have HN := Lib.hid (HN.out.trans (if_neg hf))
        have hf2 : ((n : Int) == 0) = false := by rw [beq_eq_false_iff_ne]; omega
        have hf3 : ¬ (262144 : Int) < n := by omega
        by_cases hb : rl.length - 8 < n
        · have HG : Hid (r = ([], 0, 3)) := HN.out.trans (if_pos hb)
          have hb2 : (l.length : Int) - k - 8 < n := by omega
          clear HN hc2 hc4 hrl2
          go_enter Try.func22, Try.ntmps22
          go_wp2_with fail
          go_quiet (fail)
          rw [HW1.out]
          go_wp2_with fail
          go_ret3
          exact ⟨_, by rw [HG.out]; rfl, by rw [HG.out]; exact Own.nil _ _ _, by first | exact (Upd.refl [] _).drewN _ | exact (Upd.refl [] _).drew⟩
        · have HN := Lib.hid (HN.out.trans (if_neg hb))
          have hb2 : ¬ (l.length : Int) - k - 8 < n := by omega
          have hcut := hc2 n (by have := HRL.out; omega)
          have HP := HPN n (by have := HRL.out; omega)
          rw [HPE2.out] at HP
          clear hc2 HPN HPE2 hrl2
          go_enter Try.func22, Try.ntmps22
          go_wp2_with fail
          go_quiet (fail)
          rw [HW1.out]
          have HU0 := Lib.hid ((Upd.refl [] w).drewN nq)
          generalize w.drewN nq = w0 at *
          have c4 := HU0.out.cell C4.out (by simp)
          have c5 := HU0.out.cell C5.out (by simp)
          have c6 := HU0.out.cell C6.out (by simp)
          have c7 := HU0.out.cell C7.out (by simp)
          go_wp2_with fail
          go_quiet (fail)
          rw [HW2.out]
          have HU1 := Lib.hid (HU0.out.drewN nq)
          generalize w0.drewN nq = w1 at *
          clear c4 c5 c6 c7 C4 C5 C6 C7 HW1 HW2 HU0
          have HT1 := Lib.hid (HT.out.upd0 HU1.out)
          have HP1 := Lib.hid (HP.out.upd0 HU1.out)
          have HSE : Hid (sumOf [rl.take 4, (rl.drop 8).take n] = sumOn (sumOn 0#32 (rl.take 4)) ((rl.drop 8).take n)) := rfl
          have hpl : ((rl.drop 8).take n).length ≤ 262144 := by rw [List.length_take]; omega
          generalize (rl.drop 8).take n = pl at *
          generalize rl.take 4 = r4 at *
          by_cases hsm : (sumOf [r4, pl]).toNat = m
          · have HG : Hid (r = (pl, ((k + 8 + n : Nat) : Int), 0)) := HN.out.trans (if_neg (fun h => h hsm))
            rw [HSE.out] at hsm
            have hm2 : (((sumOn (sumOn 0#32 r4) pl).toNat : Int) != (m : Int)) = false := by rw [bne_eq_false_iff_eq]; omega
            clear HN hsm
            go_wp2_with fail
            refine (refOn_any 0#32 _ r4 _ HT1.out).mono ?_
            rintro e w2 ⟨rfl, rfl⟩
            go_wp2_with fail
            refine (refOn_any (sumOn 0#32 r4) _ pl _ HP1.out).mono ?_
            rintro e w2 ⟨rfl, rfl⟩
            have HU2 := Lib.hid (HU1.out.alloc (.cells #[] 5))
            have HP2 := Lib.hid (HP1.out.alloc (.cells #[] 5))
            have hs2 := HU1.out.size
            go_wp2_with (at_builtin; refine wpList_app bv_one rfl (.tmp 113) (.tmp 114) rfl Try.underlying22 infoByte rfl (.slice (some ⟨w1.heap.size, 0, none⟩) 0 0) _ [] pl rfl rfl (Own.room (base := w.heap.size) hs2 rfl rfl (Nat.zero_le _)) HP2.out (by simp; omega) (by unfold maxLen; simp; omega) HU2.out.size ?_; intro v3 w3 ho hu hbk; rw [List.nil_append] at ho; have HU3 : Hid (Upd [] w w3) := HU2.out.trans hu (by simp) (by simp [blk]; exact hs2); have HO3 := Lib.hid ho; clear ho hu hbk)
            go_ret3
            exact ⟨_, by rw [HG.out]; simp only [Int.natCast_add]; rfl, by rw [HG.out]; exact HO3.out, HU3.out⟩
          · have HG : Hid (r = ([], 0, 6)) := HN.out.trans (if_pos hsm)
            rw [HSE.out] at hsm
            have hm2 : (((sumOn (sumOn 0#32 r4) pl).toNat : Int) != (m : Int)) = true := by rw [bne_iff_ne]; omega
            clear HN hsm
            go_wp2_with fail
            refine (refOn_any 0#32 _ r4 _ HT1.out).mono ?_
            rintro e w2 ⟨rfl, rfl⟩
            go_wp2_with fail
            refine (refOn_any (sumOn 0#32 r4) _ pl _ HP1.out).mono ?_
            rintro e w2 ⟨rfl, rfl⟩
            go_wp2_with fail
            go_ret3
            exact ⟨_, by rw [HG.out]; rfl, by rw [HG.out]; exact Own.nil _ _ _, HU1.out⟩
end Go.Proofs.Ythnmlifnlmdelaa
