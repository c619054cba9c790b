/- Texts of the proof, joined: Chapter 23's Next, the document's. The document's Frame. Chapter 24: the document's journal is laid anew. Chapter 24: changes are kept, the document's. Chapter 2: the document's reader. Chapter 2: the document's Upto, Text, Flag, End, Read. Chapter 24: the document's changes: a payload read. -/
import Derived.Test.YtmhojaiajhdlcaaGreatMj3
import Derived.Test.YtmhojaiajhdlcaaGreatMj1
import Derived.Test.YtmhojaiajhdlcaaGreatMj10
import Derived.Test.YtmhojaiajhdlcaaGreatMj7
import Derived.Test.YtmhojaiajhdlcaaGreatMj2
import Derived.Test.YtmhojaiajhdlcaaGreatMj8
namespace Go.Proofs.YtmhojaiajhdlcaaGreat
open Go.RowKit
set_option linter.unusedSimpArgs false
set_option linter.unusedVariables false
set_option maxHeartbeats 8000000 in
theorem rNext_any (v : Value) (l : List UInt8) (at_ : Int) (w : World) (h : Bytes w v l) (hz : l.length ≤ 1000000000) (hat : I64 at_) :
    Calls Tryz.prog 76 #[v, .int .i64 at_] w fun e w' => NextSaid w (nextF l at_) e w' := by
  have H := Lib.hid h
  obtain ⟨a, cap, rfl, hlc, hcm, hcell⟩ := h
  obtain ⟨ha1, ha2⟩ := hat
  by_cases hp : at_ < 0 ∨ (l.length : Int) < at_
  · have HF : Hid (nextF l at_ = ([], 0, 1)) := if_pos hp
    generalize nextF l at_ = r at *
    clear hcell
    go_enter Tryz.func76, Tryz.ntmps76
    rcases hp with hp | hp
    all_goals go_wp2_with fail
    all_goals go_ret3
    all_goals exact ⟨_, by rw [HF.out]; rfl, by rw [HF.out]; exact Own.nil _ _ _, Upd.refl _ _⟩
  · obtain ⟨k, rfl⟩ := Int.eq_ofNat_of_zero_le (show 0 ≤ at_ by omega)
    have HN : Hid (nextF l (k : Int) = nextR (l.drop k) k) := by unfold Hid nextF; rw [if_neg hp]; rfl
    have hk : k ≤ l.length := by omega
    have hk1 : (k : Int) ≤ l.length := by omega
    have hk2 : (l.length : Int) ≤ cap := by omega
    have hk3 : (k : Int) ≤ cap := by omega
    have HR := Lib.hid (H.out.drop k hk)
    have hrl : (l.drop k).length = l.length - k := List.length_drop
    clear hp
    have q0 : ¬ (k : Int) < 0 := by omega
    have q1 : ¬ (l.length : Int) < k := by omega
    have hnum : num4 (l.drop k) = (nth l k).toNat * 16777216 + (nth l (k + 1)).toNat * 65536 + (nth l (k + 2)).toNat * 256 + (nth l (k + 3)).toNat := by
      simp only [num4, nth_drop, Nat.add_zero]
    have hnum2 : num4 ((l.drop k).drop 4) = (nth l (k + 4)).toNat * 16777216 + (nth l (k + 5)).toNat * 65536 + (nth l (k + 6)).toNat * 256 + (nth l (k + 7)).toNat := by
      simp only [num4, nth_drop, Nat.add_zero, Nat.add_assoc]
    generalize nextF l (k : Int) = r at *
    generalize hrd : l.drop k = rl at *
    by_cases hs : rl.length < 8
    · have HG : Hid (r = ([], 0, 3)) := HN.out.trans (if_pos (by omega))
      have q2 : (l.length : Int) - k < 8 := by omega
      clear HN hrl hcell
      go_enter Tryz.func76, Tryz.ntmps76
      go_wp2_with fail
      go_ret3
      exact ⟨_, by rw [HG.out]; rfl, by rw [HG.out]; exact Own.nil _ _ _, Upd.refl _ _⟩
    · have HN := Lib.hid (HN.out.trans (if_neg (by omega)))
      have q2 : ¬ (l.length : Int) - k < 8 := by omega
      have hne : l ≠ [] := by rintro rfl; simp at hrd; subst hrd; simp at hs
      obtain ⟨b, off, rfl, hc⟩ := hcell hne
      have c0 := hc k (by omega)
      have c1 : w.cell? ⟨b, off + (k + 1), none⟩ = some (bv (nth l (k + 1))) := hc (k + 1) (by omega)
      have c2 : w.cell? ⟨b, off + (k + 2), none⟩ = some (bv (nth l (k + 2))) := hc (k + 2) (by omega)
      have c3 : w.cell? ⟨b, off + (k + 3), none⟩ = some (bv (nth l (k + 3))) := hc (k + 3) (by omega)
      have C4 := Lib.hid (show w.cell? ⟨b, off + (k + 4), none⟩ = some (bv (nth l (k + 4))) from hc (k + 4) (by omega))
      have C5 := Lib.hid (show w.cell? ⟨b, off + (k + 5), none⟩ = some (bv (nth l (k + 5))) from hc (k + 5) (by omega))
      have C6 := Lib.hid (show w.cell? ⟨b, off + (k + 6), none⟩ = some (bv (nth l (k + 6))) from hc (k + 6) (by omega))
      have C7 := Lib.hid (show w.cell? ⟨b, off + (k + 7), none⟩ = some (bv (nth l (k + 7))) from hc (k + 7) (by omega))
      have d0 : (k : Int) < l.length := by omega
      have d1 : (k : Int) + 1 < l.length := by omega
      have d2 : (k : Int) + 2 < l.length := by omega
      have d3 : (k : Int) + 3 < l.length := by omega
      have d4 : (k : Int) + 4 < l.length := by omega
      have d5 : (k : Int) + 5 < l.length := by omega
      have d6 : (k : Int) + 6 < l.length := by omega
      have d7 : (k : Int) + 7 < l.length := by omega
      have HW1 : Hid (_ = _) := num4_walk64 (nth l k) (nth l (k + 1)) (nth l (k + 2)) (nth l (k + 3))
      rw [← hnum] at HW1
      have HW2 : Hid (_ = _) := num4_walk (nth l (k + 4)) (nth l (k + 5)) (nth l (k + 6)) (nth l (k + 7))
      rw [← hnum2] at HW2
      have HT := Lib.hid (HR.out.take 4 (by omega))
      have hnd : ((l.drop k).drop 4) = rl.drop 4 := by rw [hrd]
      have hrb : rl.length ≤ 1000000000 := by omega
      have hrl2 : (rl.length : Int) = (l.length : Int) - k := by omega
      have hc4 : ∀ W, (Instr.slice 28 (.slice (some ⟨b, off, none⟩) l.length cap) (some (.int .i64 (k : Int))) (some (.int .i64 ((k : Int) + 4))) none).run Tryz.prog W = .ok (.slice (if cap = k then (some ⟨b, off, none⟩) else (some ⟨b, off, none⟩ : Option Addr).map (·.add (k * 1))) (k + 4 - k) (cap - k)) W := fun W => run_cut_lh (P := Tryz.prog) Tryz.underlying28 sizeByte (some ⟨b, off, none⟩) l.length cap k (k + 4) (by omega) (by omega) W (k : Int) ((k : Int) + 4) rfl (by omega)
      simp only [Nat.mul_one, Nat.add_sub_cancel_left] at hc4
      have HPN := fun (n : Nat) (hn : k + 8 + n ≤ l.length) => Lib.hid (H.out.sub (k + 8) (k + 8 + n) (by omega) hn)
      have HPE : Hid (∀ n, (l.drop (k + 8)).take n = (rl.drop 8).take n) := by intro n; rw [← hrd, List.drop_drop]
      have hc2 := fun (n : Nat) (hn : k + 8 + n ≤ l.length) (W : World) => run_cut_lh (P := Tryz.prog) Tryz.underlying28 sizeByte (some ⟨b, off, none⟩) l.length cap (k + 8) (k + 8 + n) (by omega) (by omega) W ((k : Int) + 8) ((k : Int) + 8 + (n : Int)) (by omega) (by omega)
      simp only [Nat.mul_one, Nat.add_sub_cancel_left] at hc2 HPN
      generalize (if cap = k then (some ⟨b, off, none⟩) else (some ⟨b, off, none⟩ : Option Addr).map (·.add k)) = ak at *
      generalize (if cap = k + 8 then (some ⟨b, off, none⟩) else (some ⟨b, off, none⟩ : Option Addr).map (·.add (k + 8))) = a8 at *
      generalize nth l k = x0 at *
      generalize nth l (k + 1) = x1 at *
      generalize nth l (k + 2) = x2 at *
      generalize nth l (k + 3) = x3 at *
      generalize nth l (k + 4) = x4 at *
      generalize nth l (k + 5) = x5 at *
      generalize nth l (k + 6) = x6 at *
      generalize nth l (k + 7) = x7 at *
      have hNL := num4_lt rl
      have HPE2 := Lib.hid (HPE.out (num4 rl))
      generalize num4 rl = n at *
      generalize num4 (rl.drop 4) = m at *
      have HRL := Lib.hid hrl
      clear hc hcell HPE hnum hnum2 hrd hnd hrl hcm hlc
      by_cases hf : n = 0 ∨ 262144 < n
      · have HG : Hid (r = ([], 0, 4)) := HN.out.trans (if_pos hf)
        clear HN hc2 hc4 hrl2
        go_enter Tryz.func76, Tryz.ntmps76
        go_wp2_with fail
        go_quiet (fail)
        rw [HW1.out]
        rcases hf with rfl | hf
        · go_wp2_with fail
          go_ret3
          exact ⟨_, by rw [HG.out]; rfl, by rw [HG.out]; exact Own.nil _ _ _, by first | exact (Upd.refl [] _).drewN _ | exact (Upd.refl [] _).drew⟩
        · have hf2 : ((n : Int) == 0) = false := by rw [beq_eq_false_iff_ne]; omega
          have hf3 : (262144 : Int) < n := by omega
          go_wp2_with fail
          go_ret3
          exact ⟨_, by rw [HG.out]; rfl, by rw [HG.out]; exact Own.nil _ _ _, by first | exact (Upd.refl [] _).drewN _ | exact (Upd.refl [] _).drew⟩
      · have HN := Lib.hid (HN.out.trans (if_neg hf))
        have hf2 : ((n : Int) == 0) = false := by rw [beq_eq_false_iff_ne]; omega
        have hf3 : ¬ (262144 : Int) < n := by omega
        by_cases hb : rl.length - 8 < n
        · have HG : Hid (r = ([], 0, 3)) := HN.out.trans (if_pos hb)
          have hb2 : (l.length : Int) - k - 8 < n := by omega
          clear HN hc2 hc4 hrl2
          go_enter Tryz.func76, Tryz.ntmps76
          go_wp2_with fail
          go_quiet (fail)
          rw [HW1.out]
          go_wp2_with fail
          go_ret3
          exact ⟨_, by rw [HG.out]; rfl, by rw [HG.out]; exact Own.nil _ _ _, by first | exact (Upd.refl [] _).drewN _ | exact (Upd.refl [] _).drew⟩
        · have HN := Lib.hid (HN.out.trans (if_neg hb))
          have hb2 : ¬ (l.length : Int) - k - 8 < n := by omega
          have hcut := hc2 n (by have := HRL.out; omega)
          have HP := HPN n (by have := HRL.out; omega)
          rw [HPE2.out] at HP
          clear hc2 HPN HPE2 hrl2
          go_enter Tryz.func76, Tryz.ntmps76
          go_wp2_with fail
          go_quiet (fail)
          rw [HW1.out]
          have HU0 := Lib.hid ((Upd.refl [] w).drewN nq)
          generalize w.drewN nq = w0 at *
          have c4 := HU0.out.cell C4.out (by simp)
          have c5 := HU0.out.cell C5.out (by simp)
          have c6 := HU0.out.cell C6.out (by simp)
          have c7 := HU0.out.cell C7.out (by simp)
          go_wp2_with fail
          go_quiet (fail)
          rw [HW2.out]
          have HU1 := Lib.hid (HU0.out.drewN nq)
          generalize w0.drewN nq = w1 at *
          clear c4 c5 c6 c7 C4 C5 C6 C7 HW1 HW2 HU0
          have HT1 := Lib.hid (HT.out.upd0 HU1.out)
          have HP1 := Lib.hid (HP.out.upd0 HU1.out)
          have HSE : Hid (sumOf [rl.take 4, (rl.drop 8).take n] = sumOn (sumOn 0#32 (rl.take 4)) ((rl.drop 8).take n)) := rfl
          have hpl : ((rl.drop 8).take n).length ≤ 262144 := by rw [List.length_take]; omega
          generalize (rl.drop 8).take n = pl at *
          generalize rl.take 4 = r4 at *
          by_cases hsm : (sumOf [r4, pl]).toNat = m
          · have HG : Hid (r = (pl, ((k + 8 + n : Nat) : Int), 0)) := HN.out.trans (if_neg (fun h => h hsm))
            rw [HSE.out] at hsm
            have hm2 : (((sumOn (sumOn 0#32 r4) pl).toNat : Int) != (m : Int)) = false := by rw [bne_eq_false_iff_eq]; omega
            clear HN hsm
            go_wp2_with fail
            refine (refOn_any 0#32 _ r4 _ HT1.out).mono ?_
            rintro e w2 ⟨rfl, rfl⟩
            go_wp2_with fail
            refine (refOn_any (sumOn 0#32 r4) _ pl _ HP1.out).mono ?_
            rintro e w2 ⟨rfl, rfl⟩
            have HU2 := Lib.hid (HU1.out.alloc (.cells #[] 5))
            have HP2 := Lib.hid (HP1.out.alloc (.cells #[] 5))
            have hs2 := HU1.out.size
            go_wp2_with (at_builtin; refine wpList_app bv_one rfl (.tmp 113) (.tmp 114) rfl Tryz.underlying28 infoByte rfl (.slice (some ⟨w1.heap.size, 0, none⟩) 0 0) _ [] pl rfl rfl (Own.room (base := w.heap.size) hs2 rfl rfl (Nat.zero_le _)) HP2.out (by simp; omega) (by unfold maxLen; simp; omega) HU2.out.size ?_; intro v3 w3 ho hu hbk; rw [List.nil_append] at ho; have HU3 : Hid (Upd [] w w3) := HU2.out.trans hu (by simp) (by simp [blk]; exact hs2); have HO3 := Lib.hid ho; clear ho hu hbk)
            go_ret3
            exact ⟨_, by rw [HG.out]; simp only [Int.natCast_add]; rfl, by rw [HG.out]; exact HO3.out, HU3.out⟩
          · have HG : Hid (r = ([], 0, 6)) := HN.out.trans (if_pos hsm)
            rw [HSE.out] at hsm
            have hm2 : (((sumOn (sumOn 0#32 r4) pl).toNat : Int) != (m : Int)) = true := by rw [bne_iff_ne]; omega
            clear HN hsm
            go_wp2_with fail
            refine (refOn_any 0#32 _ r4 _ HT1.out).mono ?_
            rintro e w2 ⟨rfl, rfl⟩
            go_wp2_with fail
            refine (refOn_any (sumOn 0#32 r4) _ pl _ HP1.out).mono ?_
            rintro e w2 ⟨rfl, rfl⟩
            go_wp2_with fail
            go_ret3
            exact ⟨_, by rw [HG.out]; rfl, by rw [HG.out]; exact Own.nil _ _ _, HU1.out⟩
end Go.Proofs.YtmhojaiajhdlcaaGreat
namespace Go.Proofs.YtmhojaiajhdlcaaGreat
open Go.RowKit
set_option linter.unusedSimpArgs false
set_option linter.unusedVariables false
set_option maxHeartbeats 4000000 in
theorem rFrame_any (v u : Value) (l p : List UInt8) (w : World) (h : Bytes w v l) (h2 : Bytes w u p) (hz : l.length ≤ 1000000000) (hz2 : p.length ≤ 1000000000) :
    Calls Tryz.prog 16 #[v, u] w fun e w' => ∃ x, e = .returned x ∧ Own bv w.heap.size 5 w' x (putF l p) ∧ Upd [] w w' := by
  have H := Lib.hid h
  have H2 := Lib.hid h2
  obtain ⟨a, cap, rfl, -, -, -⟩ := h
  obtain ⟨a2, cap2, rfl, -, -, -⟩ := h2
  by_cases hp : p.length < 1 ∨ 262144 < p.length
  · have HF : Hid (putF l p = l) := if_pos hp
    go_enter Tryz.func16, Tryz.ntmps16
    rcases hp with hp | hp
    · obtain hp0 : p.length = 0 := by omega
      go_wp2_with (at_builtin; refine wpList_app bv_one rfl (.tmp 7) (.tmp 8) rfl Tryz.underlying28 infoByte rfl (.slice (some ⟨w.heap.size, 0, none⟩) 0 0) (.slice a l.length cap) [] l rfl rfl (Own.room (base := w.heap.size) (Nat.le_refl _) rfl rfl (Nat.zero_le _)) (H.out.alloc _) (by simp; omega) (by unfold maxLen; simp; omega) (by simp) ?_; intro v1 w1 ho hu hbk; rw [List.nil_append] at ho; have HU : Hid (Upd [] w w1) := ((Upd.refl [] w).alloc _).trans hu (by simp) (by simp [blk]); have HO := Lib.hid ho; clear ho hu hbk)
      go_ret
      exact ⟨_, rfl, by rw [HF.out]; exact HO.out, HU.out⟩
    · have hp1 : ((p.length : Int) == 0) = false := by rw [beq_eq_false_iff_ne]; omega
      have hp2 : (262144 : Int) < p.length := by omega
      go_wp2_with (at_builtin; refine wpList_app bv_one rfl (.tmp 7) (.tmp 8) rfl Tryz.underlying28 infoByte rfl (.slice (some ⟨w.heap.size, 0, none⟩) 0 0) (.slice a l.length cap) [] l rfl rfl (Own.room (base := w.heap.size) (Nat.le_refl _) rfl rfl (Nat.zero_le _)) (H.out.alloc _) (by simp; omega) (by unfold maxLen; simp; omega) (by simp) ?_; intro v1 w1 ho hu hbk; rw [List.nil_append] at ho; have HU : Hid (Upd [] w w1) := ((Upd.refl [] w).alloc _).trans hu (by simp) (by simp [blk]); have HO := Lib.hid ho; clear ho hu hbk)
      go_ret
      exact ⟨_, rfl, by rw [HF.out]; exact HO.out, HU.out⟩
  · have HF : Hid (putF l p = l ++ frameOf p) := if_neg hp
    have hp1 : ((p.length : Int) == 0) = false := by rw [beq_eq_false_iff_ne]; omega
    have hp2 : ¬ (262144 : Int) < p.length := by omega
    have hp3 : p.length ≤ 262144 := by omega
    go_enter Tryz.func16, Tryz.ntmps16
    go_wp2_with (at_builtin; refine wpList_app bv_one rfl (.tmp 7) (.tmp 8) rfl Tryz.underlying28 infoByte rfl (.slice (some ⟨w.heap.size, 0, none⟩) 0 0) (.slice a l.length cap) [] l rfl rfl (Own.room (base := w.heap.size) (Nat.le_refl _) rfl rfl (Nat.zero_le _)) (H.out.alloc _) (by simp; omega) (by unfold maxLen; simp; omega) (by simp) ?_; intro v1 w1 ho hu hbk; rw [List.nil_append] at ho; have HU : Hid (Upd [] w w1) := ((Upd.refl [] w).alloc _).trans hu (by simp) (by simp [blk]); have HO := Lib.hid ho; clear ho hu hbk)
    refine (rfFour_any p.length (by omega) _).mono ?_
    rintro e w2 ⟨rfl, ho2, hu2⟩
    have HO1 := Lib.hid (HO.out.upd hu2 (by simp))
    have HO2 := Lib.hid ho2
    have HU2 := Lib.hid (HU.out.seq hu2)
    have HD : Hid (∀ x ∈ blk (.slice (some ⟨w1.heap.size, 0, none⟩) 4 4), x ∉ blk v1) := fun x h1 h2 => by have := (ho2.ge x h1).1; have := (HO.out.ge x h2).2; omega
    have hs2 := HU2.out.size
    have hq : (four p.length).length = 4 := rfl
    clear ho2 hu2 HU HO
    go_wp2_with (at_builtin; refine wpList_app bv_one rfl (.tmp 22) (.tmp 23) rfl Tryz.underlying28 infoByte rfl v1 (.slice (some ⟨w1.heap.size, 0, none⟩) 4 4) l (four p.length) rfl rfl HO1.out HO2.out.rd (by simp [hq]; omega) (by unfold maxLen; simp [hq]; omega) hs2 ?_; intro v3 w3 ho hu hbk; have HU3 : Hid (Upd [] w w3) := HU2.out.trans hu (by simp) (fun x hx => .inr (HO1.out.ge x hx).1); have HO3 := Lib.hid ho; have HV3 := Lib.hid (HO2.out.upd hu HD.out); clear ho hu hbk)
    have HP := Lib.hid (H2.out.upd0 HU3.out)
    refine (refOn_any 0#32 _ _ _ HV3.out.rd).mono ?_
    rintro e w4 ⟨rfl, rfl⟩
    go_wp2_with fail
    refine (refOn_any _ _ _ _ HP.out).mono ?_
    rintro e w4 ⟨rfl, rfl⟩
    have HS : Hid ((sumOf [four p.length, p]).toNat < 4294967296) := (sumOf [four p.length, p]).isLt
    have HF2 : Hid (frameOf p = four p.length ++ (four (sumOf [four p.length, p]).toNat ++ p)) := rfl
    have HSE : sumOn (sumOn 0#32 (four p.length)) p = sumOf [four p.length, p] := rfl
    rw [HSE]
    generalize (sumOf [four p.length, p]).toNat = sm at *
    have hq4 : (l ++ four p.length).length = l.length + 4 := by rw [List.length_append, hq]
    have HLE : Hid (l ++ four p.length ++ four sm ++ p = putF l p) := by unfold Hid; rw [HF.out, HF2.out]; simp only [List.append_assoc]
    generalize l ++ four p.length = l4 at *
    clear HV3 HP HD HO1 HO2 HU2 HF2 HF HSE
    have hsm := HS.out
    go_wp2_with fail
    refine (rfFour_any sm HS.out _).mono ?_
    rintro e w5 ⟨rfl, ho5, hu5⟩
    have HO5 := Lib.hid (HO3.out.upd hu5 (by simp))
    have HR5 := Lib.hid ho5.rd
    have HU5 := Lib.hid (HU3.out.seq hu5)
    have hs5 := HU5.out.size
    have hq5 : (four sm).length = 4 := rfl
    have hq6 : (l4 ++ four sm).length = l.length + 8 := by rw [List.length_append, hq5, hq4]
    generalize four sm = fs at *
    generalize (.slice (some ⟨w3.heap.size, 0, none⟩) 4 4 : Value) = v5 at *
    clear ho5 hu5 HU3 HO3
    go_wp2_with (first
      | (at_builtin; refine wpList_app bv_one rfl (.tmp 24) (.tmp 30) rfl Tryz.underlying28 infoByte rfl v3 v5 l4 fs rfl rfl HO5.out HR5.out (by simp [hq4, hq5]; omega) (by unfold maxLen; simp [hq4, hq5]; omega) hs5 ?_; intro v6 w6 ho hu hbk; have HU6 : Hid (Upd [] w w6) := HU5.out.trans hu (by simp) (fun x hx => .inr (HO5.out.ge x hx).1); have HO6 := Lib.hid ho; have HP6 := Lib.hid (H2.out.upd0 HU6.out); have hs6 := HU6.out.size; clear ho hu hbk; generalize l4 ++ fs = l6 at *)
      | (at_builtin; refine wpList_app bv_one rfl (.tmp 32) (.tmp 33) rfl Tryz.underlying28 infoByte rfl v6 (.slice a2 p.length cap2) l6 p rfl rfl HO6.out HP6.out (by simp [hq6]; omega) (by unfold maxLen; simp [hq6]; omega) hs6 ?_; intro v7 w7 ho hu hbk; have HU7 : Hid (Upd [] w w7) := HU6.out.trans hu (by simp) (fun x hx => .inr (HO6.out.ge x hx).1); have HO7 := Lib.hid ho; clear ho hu hbk))
    go_ret
    exact ⟨_, rfl, by rw [← HLE.out]; exact HO7.out, HU7.out⟩
end Go.Proofs.YtmhojaiajhdlcaaGreat
namespace Go.Proofs.YtmhojaiajhdlcaaGreat
open Go.RowKit
set_option linter.unusedSimpArgs false
set_option linter.unusedVariables false
set_option linter.unusedSectionVars false
theorem rch_one {w : World} {C : Array Value} {g : Nat} (c : Ch) (hg : g = w.heap.size) (hC : C = (chCells c).toArray) : RdN 2 chCells (w.alloc (.cells C 137)) (.slice (some ⟨g, 0, none⟩) 1 1) [c] := by
  subst hg; subst hC
  exact chBlk_one c (Blk.new w 137 (chCells c))
theorem ne_str {y : ByteArray} (h : y ≠ s0) : (y.toList == ([] : List UInt8)) = false := by
  refine neE y (fun q => h ?_)
  exact str_inj _ _ (by rw [strList_eq, strList_eq]; exact List.eq_nil_of_length_eq_zero (by rw [Array.length_toList]; show y.size = 0; omega))
theorem jGet_mem {t : JS} (h : JT t) (i : Nat) (hne : jGet t i ≠ s0) : ((i : Int), jGet t i) ∈ t := by
  rcases get_cases (lt := ltI) s0 t (i : Int) with ⟨v, hv⟩ | hn
  · have hj : jGet t i = v := by unfold jGet; rw [hv]
    rw [hj]
    exact (get_mem intOrd s0 h.ris _ v).1 hv
  · exact absurd (by unfold jGet; rw [hn]) hne
section
variable {w0 w w' : World} {gr gk : Nat} {G : List Nat} {t t' : JS} {s s' : DS}
theorem RJD.c0 (h : RJD w0 w gr gk G t s) : w.cell? ⟨gk, 0, none⟩ = some (.pointer (some ⟨gr, 0, none⟩)) := by
  obtain ⟨hv, h1, -⟩ := h.rj
  exact h1.c0
theorem RJD.slot (h : RJD w0 w gr gk G t s) (i : Nat) (hi : i < 41) : w.cell? ⟨gk, 1 + i, none⟩ = some (.string (jGet t i)) := by
  obtain ⟨hv, h1, h2⟩ := h.rj
  rw [← h2.at_ i hi]
  exact h1.slot i hi
theorem RJD.app (h : RJD w0 w gr gk G t s) {v : Value} {p : List UInt8} (nm : ByteArray) (hp : Bytes w v p) (hap : p ≠ [] → ∀ x ∈ blk v, x ∉ G) (hpl : p.length ≤ 100000000) (hn : s.now.length ≤ 4999) (hl : s.log.length ≤ 500000000) {r : Int} (he : dAppend s nm p = (r, s')) :
    Calls Tryz.prog 20 #[.pointer (some ⟨gr, 0, none⟩), sv nm, v] w fun e w' => e = .returned (.int .i64 r) ∧ ∃ G', RJD w0 w' gr gk G' t s' ∧ Upd G w w' ∧ (∀ x ∈ G', x ∈ G ∨ w.heap.size ≤ x) := by
  refine (rAppend_any nm v p hp hap h.rd hpl hn hl).mono ?_
  rw [he]
  rintro e w' ⟨rfl, ho⟩
  exact ⟨rfl, h.disk (Upd.refl [] w) ho⟩
/-- Behind calls on the disk alone. -/
theorem rj_done {W W' : World} {G1 : List Nat} {s1 s2 : DS} (h : RJD w0 W gr gk G1 t s1) (hu : Upd (gk :: G) w W) (hg : ∀ x ∈ G1, x ∈ gk :: G ∨ w.heap.size ≤ x) (hd : ROut w0 W gr G1 s2 W') : RJOut w0 w gr gk (gk :: G) t s2 W' := by
  obtain ⟨G', k1, k2, k3⟩ := h.disk (Upd.refl [] W) hd
  have hs := hu.size
  refine ⟨G', k1, hu.trans k2 (fun x hx => hx) hg, .inl (by simp), fun x hx => ?_⟩
  rcases k3 x hx with q | q
  · exact hg x q
  · exact .inr (by omega)
set_option maxRecDepth 20000 in
set_option maxHeartbeats 8000000 in
theorem rjAnew_any (h : RJD w0 w gr gk G t s) (hn : s.now.length ≤ 4900) (hl : s.log.length ≤ 480000000) :
    Calls Tryz.prog 85 #[.pointer (some ⟨gk, 0, none⟩)] w fun e w' => e = .returned (.tuple #[]) ∧ RJOut w0 w gr gk (gk :: G) t (jAnew t s) w' := by
  have h00 := dAppend_nil h.rd.ok
  obtain ⟨e0, s0', hap0⟩ : ∃ e s', dAppend s nmN [] = (e, s') := ⟨_, _, rfl⟩
  rw [hap0] at h00
  obtain rfl : e0 = 0 := h00
  obtain ⟨e9, s9, hlay⟩ : ∃ e s', jLay t (0, s0') = (e, s') := ⟨_, _, rfl⟩
  have HLAY : Hid (jLay (tFrom t 0) (0, s0') = (e9, s9)) := by unfold Hid; rw [tFrom_zero h.jt]; exact hlay
  have HAN : Hid (jAnew t s = if e9 ≠ 0 then (dRemove s9 nmN).2 else (dRename s9 nmN nmJ).2) := by unfold Hid jAnew; rw [hap0, hlay]
  have HM0 : Hid (More 1 s s0') := by
    have := (More.zero h.rd.ok).append nmN [] (by simp) (by omega)
    rw [hap0] at this; exact this
  have HAP0 := Lib.hid hap0
  have HD := Lib.hid h
  have HN := Lib.hid hn
  have HL := Lib.hid hl
  have HJT := Lib.hid h.jt
  have HFU := Lib.hid h.full
  have c0 := h.c0
  clear h hn hl hap0 hlay
  go_enter Tryz.func85, Tryz.ntmps85
  go_wp2_with fail
  (with_reducible refine (HD.out.app nmN (Rd.nil w) (fun q => absurd rfl q) (by simp) (by have := HN.out; omega) (by have := HL.out; omega) HAP0.out).mono ?_)
  rintro e w1 ⟨rfl, G1, h1, hu1, hg1⟩
  have H1 := Lib.hid h1
  have HU1 : Hid (Upd (gk :: G) w w1) := hu1.mono (by simp +contextual)
  have HG1 : Hid (∀ x ∈ G1, x ∈ gk :: G ∨ w.heap.size ≤ x) := fun x hx => (hg1 x hx).imp (List.mem_cons_of_mem _) id
  clear h1 hu1 hg1 c0
  go_wp2_with fail
  go_loopw [2] (fun vi wr => ∃ (k : Nat) (sk : DS) (Gk : List Nat), vi = .int .i64 (k : Int) ∧ k ≤ 41 ∧ Hid (RJD w0 wr gr gk Gk t sk) ∧ Hid (Upd (gk :: G) w wr) ∧ Hid (∀ x ∈ Gk, x ∈ gk :: G ∨ w.heap.size ≤ x) ∧ Hid (jLay (tFrom t k) (0, sk) = (e9, s9)) ∧ Hid (More (k + 1) s sk)) (fun vi _ => 41 - (intOf vi).toNat)
  case atStart => exact ⟨0, s0', G1, rfl, by omega, H1, HU1, HG1, HLAY, HM0⟩
  case round =>
    clear H1 HU1 HG1 HLAY HM0 HAP0
    obtain ⟨k, sk, Gk, rfl, hk, hj, hu, hg, hlay, hm⟩ := hrel
    have hMn := hm.out.now
    have hMl := hm.out.log
    have HSZ : Hid (sk.now.length ≤ 4990 ∧ sk.log.length ≤ 495000000) := by have := HN.out; have := HL.out; unfold Hid; omega
    clear hMn hMl
    have c0 := hj.out.c0
    by_cases hlt : k < 41
    · have q1 : (k : Int) ≤ 40 := by omega
      have q0 : (0 : Int) ≤ k := by omega
      have q2 : (k : Int) < 41 := by omega
      have c1 := hj.out.slot k hlt
      have hst := tFrom_step HJT.out HFU.out k
      have hmm := jGet_mem HJT.out k
      generalize jGet t k = y at *
      by_cases hy : y = s0
      · subst hy
        have HLY : Hid (jLay (tFrom t (k + 1)) (0, sk) = (e9, s9)) := by unfold Hid; rw [← hst.1 rfl]; exact hlay.out
        have HM1 := Lib.hid hm.out.up
        clear hst hmm hlay hm
        go_wp2_with fail
        go_roundw
        case rel => exact ⟨k + 1, sk, Gk, by go_num, by omega, hj, hu, hg, HLY, HM1⟩
        case measure => simp [intOf]; omega
      · have e2 := ne_str hy
        have hok := HJT.out.ks _ (hmm hy)
        have h3 := hok.sz
        dsimp only at h3
        have hfr := hst.2 hy
        obtain ⟨e1, s1, hap⟩ : ∃ e s', dAppend sk nmN (putF [] (encChs [((k : Int), y)])) = (e, s') := ⟨_, _, rfl⟩
        have HLY : Hid (jLay (tFrom t (k + 1)) (e1, s1) = (e9, s9)) := by
          have := hlay.out
          rw [hfr, jLay_cons, hap] at this
          exact this
        have HAP := Lib.hid hap
        have hpl := putF_le (encChs [((k : Int), y)])
        have HM1 : Hid (More (k + 2) s s1) := by have := hm.out.append nmN _ hpl (by have := HSZ.out; omega); rw [hap] at this; exact this
        have HPL := Lib.hid hpl
        have HROW : Hid (∀ c ∈ [((k : Int), y)], I64 c.1 ∧ c.2.size ≤ 1000000) := by
          intro c hc
          simp at hc
          subst hc
          exact ⟨i64_mk (by dsimp only; omega) (by dsimp only; omega), by dsimp only; omega⟩
        have HEL : Hid ((encChs [((k : Int), y)]).length ≤ 1000000000) := by
          have := encCh_le (k : Int) y (i64_mk (by omega) (by omega)) (by omega)
          have h9 := encNum_len 1
          have h8 := nb_le8 1 (by omega)
          unfold Hid; rw [encChs_one, List.length_append]; omega
        clear hok h3 hap hpl hlay hm hst hmm hfr hy
        have D0 := Lib.hid c0
        have D1 := Lib.hid c1
        have HS3 : Hid (∀ x ∈ Gk, x < wr.heap.size) := fun x hx => (hj.out.rd.ge x hx).2
        have HC1 : Hid (∀ W g, RdN 2 chCells W (.slice (some ⟨g, 0, none⟩) 1 1) [((k : Int), y)] → Upd [] wr W → Calls Tryz.prog 83 #[.slice (some ⟨g, 0, none⟩) 1 1] W fun e w' => ∃ a n k', e = .returned (.slice a n k') ∧ Hid (Own bv wr.heap.size 5 w' (.slice a n k') (encChs [((k : Int), y)])) ∧ Upd [] wr w') := fun W g hr hW => by
          refine (rjPut_any _ [((k : Int), y)] W hr HROW.out (by simp)).mono ?_
          rintro e w' ⟨a, n, k', rfl, ho, hu⟩
          exact ⟨a, n, k', rfl, ho.out.base_le hW.size, hW.seq hu⟩
        have HC2 : Hid (∀ W a n k', Own bv wr.heap.size 5 W (.slice a n k') (encChs [((k : Int), y)]) → Upd [] wr W → Calls Tryz.prog 16 #[.slice none 0 0, .slice a n k'] W fun e w' => ∃ a n k', e = .returned (.slice a n k') ∧ Hid (Own bv wr.heap.size 5 w' (.slice a n k') (putF [] (encChs [((k : Int), y)]))) ∧ Upd [] wr w') := fun W a n k' ho hW => by
          refine (rFrame_any _ _ [] (encChs [((k : Int), y)]) W (Rd.nil _) ho.rd (by simp) HEL.out).mono ?_
          rintro e w' ⟨v, rfl, ho2, hu⟩
          obtain ⟨a, k2, rfl, -⟩ := ho2.rd
          exact ⟨a, _, k2, rfl, ho2.base_le hW.size, hW.seq hu⟩
        have HC3 : Hid (∀ W a n k', Own bv wr.heap.size 5 W (.slice a n k') (putF [] (encChs [((k : Int), y)])) → Upd [] wr W → Calls Tryz.prog 20 #[.pointer (some ⟨gr, 0, none⟩), sv nmN, .slice a n k'] W fun e w' => e = .returned (.int .i64 e1) ∧ Hid (∃ G', RJD w0 w' gr gk G' t s1 ∧ Upd Gk wr w' ∧ (∀ x ∈ G', x ∈ Gk ∨ wr.heap.size ≤ x)) ∧ w'.cell? ⟨gk, 0, none⟩ = some (.pointer (some ⟨gr, 0, none⟩)) ∧ w'.cell? ⟨gk, 1 + k, none⟩ = some (.string y)) := fun W a n k' ho hW => by
          refine ((hj.out.upd0 hW).app nmN ho.rd (fun _ x hx hg => by have := (ho.ge x hx).1; have := HS3.out x hg; omega) (by have := HPL.out; omega) (by have := HSZ.out; omega) (by have := HSZ.out; omega) HAP.out).mono ?_
          rintro e w' ⟨rfl, G', k1, k2, k3⟩
          have hs := hW.size
          exact ⟨rfl, ⟨G', k1, hW.trans k2 (by simp) (fun x hx => .inl hx), fun x hx => (k3 x hx).imp id (fun q => by omega)⟩, k2.cell (hW.cell D0.out (by simp)) hj.out.ap, k2.cell (hW.cell D1.out (by simp)) hj.out.ap⟩
        have ru := Upd.refl [] wr
        by_cases he : e1 = 0
        · subst he
          go_wp2_with fail
          go_region_held3 (fun W => W.cell? ⟨gk, 0, none⟩ = some (.pointer (some ⟨gr, 0, none⟩)) ∧ W.cell? ⟨gk, 1 + k, none⟩ = some (.string y)) (first | go_keep | exact ⟨ru.cell D0.out (by simp), ru.cell D1.out (by simp)⟩ | exact jc)
            (first
              | (go_at_call 83; (with_reducible refine (HC1.out _ _ ?_ (Upd.seq ru ?_)).mono ?_); (first | exact rch_one _ (by simp) rfl | exact RdN.upd0 chCells_len (rch_one _ (by simp) rfl) (by repeat (first | exact Upd.refl _ _ | apply Upd.drew | apply Upd.drewN))); (repeat (first | exact Upd.refl _ _ | apply Upd.drew | apply Upd.drewN | apply Upd.alloc)); (rintro _ W1 ⟨a1, n1, k1, rfl, ho1, ru⟩; dsimp only))
              | (go_at_call 16; (with_reducible refine (HC2.out _ a1 n1 k1 (Own.upd (S := []) ho1.out ?_ (by simp)) (Upd.seq ru ?_)).mono ?_); (repeat (first | exact Upd.refl _ _ | apply Upd.drew | apply Upd.drewN | apply Upd.alloc)); (rintro _ W2 ⟨a2, n2, k2, rfl, ho2, ru⟩; dsimp only))
              | (go_at_call 20; (with_reducible refine (HC3.out _ a2 n2 k2 (Own.upd (S := []) ho2.out ?_ (by simp)) (Upd.seq ru ?_)).mono ?_); (repeat (first | exact Upd.refl _ _ | apply Upd.drew | apply Upd.drewN | apply Upd.alloc)); (rintro _ W3 ⟨rfl, hd3, jc⟩; dsimp only)))
          all_goals
            obtain ⟨G', k1, k2, k3⟩ := hd3.out
            have HK1 := Lib.hid k1
            have HKU : Hid (Upd (gk :: G) w W3) := hu.out.trans k2 (fun x hx => hx) hg.out
            have hs3 := hu.out.size
            have HKG : Hid (∀ x ∈ G', x ∈ gk :: G ∨ w.heap.size ≤ x) := fun x hx => by
              rcases k3 x hx with q | q
              · exact hg.out x q
              · exact .inr (by omega)
            clear hd3 ho1 ho2 ru HC1 HC2 HC3 D0 D1 jc hj hu hg HS3 k1 k2 k3
            go_wp2_with fail
            go_roundw
            case rel => exact ⟨k + 1, s1, G', by go_num, by omega, HK1, HKU, HKG, HLY, HM1⟩
            case measure => simp [intOf]; omega
        · have ez : (e1 != 0) = true := by rw [bne_iff_ne]; exact he
          have hst := jLay_stop (tFrom t (k + 1)) e1 s1 he
          have HEQ : Hid (e1 = e9 ∧ s1 = s9) := by
            have := HLY.out
            rw [hst] at this
            injection this with h1 h2
            exact ⟨h1, h2⟩
          have HSZ1 : Hid (s1.now.length ≤ 5000 ∧ s1.log.length ≤ 1000000000) := by
            have h1 := HM1.out.now
            have h2 := HM1.out.log
            have h3 := HN.out
            have h4 := HL.out
            unfold Hid; omega
          have HA2 : Hid (jAnew t s = (dRemove s1 nmN).2) := by unfold Hid; rw [HAN.out, ← HEQ.out.1, ← HEQ.out.2, if_pos he]
          clear hst he
          go_wp2_with fail
          go_region_held3 (fun W => W.cell? ⟨gk, 0, none⟩ = some (.pointer (some ⟨gr, 0, none⟩)) ∧ W.cell? ⟨gk, 1 + k, none⟩ = some (.string y)) (first | go_keep | exact ⟨ru.cell D0.out (by simp), ru.cell D1.out (by simp)⟩ | exact jc)
            (first
              | (go_at_call 83; (with_reducible refine (HC1.out _ _ ?_ (Upd.seq ru ?_)).mono ?_); (first | exact rch_one _ (by simp) rfl | exact RdN.upd0 chCells_len (rch_one _ (by simp) rfl) (by repeat (first | exact Upd.refl _ _ | apply Upd.drew | apply Upd.drewN))); (repeat (first | exact Upd.refl _ _ | apply Upd.drew | apply Upd.drewN | apply Upd.alloc)); (rintro _ W1 ⟨a1, n1, k1, rfl, ho1, ru⟩; dsimp only))
              | (go_at_call 16; (with_reducible refine (HC2.out _ a1 n1 k1 (Own.upd (S := []) ho1.out ?_ (by simp)) (Upd.seq ru ?_)).mono ?_); (repeat (first | exact Upd.refl _ _ | apply Upd.drew | apply Upd.drewN | apply Upd.alloc)); (rintro _ W2 ⟨a2, n2, k2, rfl, ho2, ru⟩; dsimp only))
              | (go_at_call 20; (with_reducible refine (HC3.out _ a2 n2 k2 (Own.upd (S := []) ho2.out ?_ (by simp)) (Upd.seq ru ?_)).mono ?_); (repeat (first | exact Upd.refl _ _ | apply Upd.drew | apply Upd.drewN | apply Upd.alloc)); (rintro _ W3 ⟨rfl, hd3, jc⟩; dsimp only)))
          all_goals
            obtain ⟨G', k1, k2, k3⟩ := hd3.out
            have HK1 := Lib.hid k1
            have HKU : Hid (Upd (gk :: G) w W3) := hu.out.trans k2 (fun x hx => hx) hg.out
            have hs3 := hu.out.size
            have HKG : Hid (∀ x ∈ G', x ∈ gk :: G ∨ w.heap.size ≤ x) := fun x hx => by
              rcases k3 x hx with q | q
              · exact hg.out x q
              · exact .inr (by omega)
            have c0 := k1.c0
            clear hd3 ho1 ho2 ru HC1 HC2 HC3 D0 D1 jc hj hu hg HS3 k1 k2 k3 HEQ
            go_wp2_with fail
            (with_reducible refine (rRemove_any nmN HK1.out.rd HSZ1.out.1 HSZ1.out.2).mono ?_)
            rintro e w5 ⟨rfl, hd5⟩
            have HZ := Lib.hid (rj_done HK1.out HKU.out HKG.out hd5)
            clear hd5
            go_wp2_with fail
            ((try simp only [Exit.inBlock, Exit.then]); refine bodyPost_ret (results_none rfl _ _ _) rfl ?_)
            exact ⟨rfl, by rw [HA2.out]; exact HZ.out⟩
    · obtain rfl : k = 41 := by omega
      have HEQ : Hid ((0 : Int) = e9 ∧ sk = s9) := by
        have := hlay.out
        rw [tFrom_end HJT.out] at this
        injection this with h1 h2
        exact ⟨h1, h2⟩
      have HA2 : Hid (jAnew t s = (dRename sk nmN nmJ).2) := by unfold Hid; rw [HAN.out, ← HEQ.out.1, ← HEQ.out.2, if_neg (fun q => q rfl)]
      clear hlay hm HEQ
      go_wp2_with fail
      (with_reducible refine (rRename_any nmN nmJ hj.out.rd (by have := HSZ.out; omega) (by have := HSZ.out; omega)).mono ?_)
      rintro e w5 ⟨rfl, hd5⟩
      have HZ := Lib.hid (rj_done hj.out hu.out hg.out hd5)
      clear hd5
      go_wp2_with fail
      go_end0
      exact ⟨rfl, by rw [HA2.out]; exact HZ.out⟩
end
end Go.Proofs.YtmhojaiajhdlcaaGreat
namespace Go.Proofs.YtmhojaiajhdlcaaGreat
open Go.RowKit
set_option linter.unusedSimpArgs false
set_option linter.unusedVariables false
set_option linter.unusedSectionVars false
section
variable {w0 w w' : World} {gr gk : Nat} {G : List Nat} {t t' : JS} {s s' : DS}
theorem Full0.all : ∀ (l : List Ch) {t : JS}, JT t → Full0 t → (∀ c ∈ l, ChOk c) → Full0 (jAll t l)
  | [], t, _, h, _ => h
  | c :: l, t, hj, h, hc => Full0.all l (hj.hold1 c (hc c (by simp))) (Full0.hold1 hj.ris h c) (fun x hx => hc x (by simp [hx]))
/-- Behind the holding of changes. -/
theorem RJD.hold (h : RJD w0 w gr gk G t s) {hv : List ByteArray} {l : List Ch} (hv0 : Has t hv) (h2 : RJ w0 w' gk gr (putAll hv l)) (hu : Upd [gk] w w') (hc : ∀ c ∈ l, ChOk c) : RJD w0 w' gr gk G (jAll t l) s :=
  ⟨⟨_, h2, Has.put l h.jt hc hv0⟩, h.jt.all l hc, Full0.all l h.jt h.full hc, h.rd.upd hu (fun x hx q => h.ap (by simp at q; rw [q] at hx; exact hx)) (fun x hx => by simp at hx; rw [hx]; exact h.geK.1), h.ap⟩
set_option maxRecDepth 20000 in
set_option maxHeartbeats 8000000 in
theorem rjSet_any (u : Value) (l : List Ch) (h : RJD w0 w gr gk G t s) (hl : RdN 2 chCells w u l) (hap : ∀ x ∈ blk u, x ∉ gk :: G) (hI : ∀ c ∈ l, I64 c.1 ∧ c.2.size ≤ 1000000) (hn : s.now.length ≤ 4890) (hlg : s.log.length ≤ 470000000) :
    Calls Tryz.prog 39 #[.pointer (some ⟨gk, 0, none⟩), u] w fun e w' => e = .returned (.int .i64 (jSet t s l).1) ∧ RJOut w0 w gr gk (gk :: G) (jSet t s l).2.1 (jSet t s l).2.2 w' := by
  have HL := Lib.hid hl
  have HAP := Lib.hid hap
  have HI := Lib.hid hI
  have HD := Lib.hid h
  have HN := Lib.hid hn
  have HLG := Lib.hid hlg
  obtain ⟨ua, uk, rfl, hlc, hm, -⟩ := hl
  have hm2 : l.length ≤ 9223372036854775807 := by unfold maxLen at hm; omega
  clear h hap hI hn hlg hm hlc
  by_cases hbad : l.length < 1 ∨ 41 < l.length
  · have HE : Hid (jSet t s l = (1, t, s)) := by unfold Hid jSet; rw [if_pos hbad]
    go_enter Tryz.func39, Tryz.ntmps39
    rcases hbad with q | q
    · have q1 : (l.length : Int) = 0 := by omega
      have hl0 : l.length = 0 := by omega
      clear q
      rw [hl0]
      go_wp2_with fail
      go_ret
      exact ⟨by rw [HE.out]; rfl, by rw [HE.out]; exact HD.out.out0 (Upd.refl _ _)⟩
    · have q1 : ((l.length : Int) == 0) = false := by rw [beq_eq_false_iff_ne]; omega
      have q2 : (41 : Int) < l.length := by omega
      clear q
      go_wp2_with fail
      go_ret
      exact ⟨by rw [HE.out]; rfl, by rw [HE.out]; exact HD.out.out0 (Upd.refl _ _)⟩
  · have q1 : ((l.length : Int) == 0) = false := by rw [beq_eq_false_iff_ne]; omega
    have q2 : ¬ (41 : Int) < l.length := by omega
    have HE : Hid (jSet t s l = if chBad l = true then (1, t, s) else if 262144 < (encChs l).length then (2, t, s) else if (dAppend s nmJ (putF [] (encChs l))).1 ≠ 0 then ((dAppend s nmJ (putF [] (encChs l))).1, t, (dAppend s nmJ (putF [] (encChs l))).2) else (0, jAll t l, if 262144 < (dGet (dAppend s nmJ (putF [] (encChs l))).2.now nmJ).1.length then jAnew (jAll t l) (dAppend s nmJ (putF [] (encChs l))).2 else (dAppend s nmJ (putF [] (encChs l))).2)) := by
      unfold Hid; exact if_neg hbad
    have hl41 : l.length ≤ 41 := by omega
    have hl1 : 1 ≤ l.length := by omega
    clear hbad
    go_enter Tryz.func39, Tryz.ntmps39
    go_wp2_with fail
    go_loopw [5] (fun i wr => ∃ k : Nat, i = .int .i64 (k : Int) ∧ k ≤ l.length ∧ Hid (Upd [] w wr) ∧ Hid (∀ j, j < k → 0 ≤ (nth l j).1 ∧ (nth l j).1 ≤ 40)) (fun i _ => l.length - (intOf i).toNat)
    case atStart => exact ⟨0, rfl, Nat.zero_le _, Upd.refl _ _, fun j hj => absurd hj (by omega)⟩
    case round =>
      obtain ⟨k, rfl, hk, hu, hgood⟩ := hrel
      by_cases hlt : k < l.length
      · have hrd := HL.out.upd0 chCells_len hu.out
        obtain ⟨a9, c9, he9, -, -, hca⟩ := hrd
        injection he9 with e1 e2 e3
        subst e1; subst e3
        obtain ⟨b, off, rfl, hcb⟩ := hca (by intro e; rw [e] at hlt; simp at hlt)
        have hc0 : ∀ i, i < 2 → wr.cell? ⟨b, off + (k * 2 + i), none⟩ = (chCells (nth l k))[i]? := hcb k hlt
        have HBD : Hid (((nth l k).1 < 0 ∨ 40 < (nth l k).1) → chBad l = true) := fun q => chBad_yes k hlt q
        have HGD : Hid (0 ≤ (nth l k).1 ∧ (nth l k).1 ≤ 40 → ∀ j, j < k + 1 → 0 ≤ (nth l j).1 ∧ (nth l j).1 ≤ 40) := fun q j hj => by
          rcases Nat.lt_or_eq_of_le (Nat.le_of_lt_succ hj) with r | r
          · exact hgood.out j r
          · subst r; exact q
        generalize nth l k = x at *
        obtain ⟨ck, cd⟩ := x
        dsimp only at HBD HGD
        have c0 : wr.cell? ⟨b, off + k * 2, none⟩ = some (.int .i64 ck) := hc0 0 (by omega)
        have q3 : (0 : Int) ≤ k := by omega
        have q4 : (k : Int) < l.length := by omega
        clear hca hcb hc0 hgood
        by_cases hlo : ck < 0
        · have HE2 : Hid (jSet t s l = (1, t, s)) := by unfold Hid; rw [HE.out, if_pos (HBD.out (.inl hlo))]
          clear HBD HGD
          go_wp2_with fail
          go_ret
          exact ⟨by rw [HE2.out]; rfl, by rw [HE2.out]; exact HD.out.out0 hu.out⟩
        · by_cases hhi : 40 < ck
          · have HE2 : Hid (jSet t s l = (1, t, s)) := by unfold Hid; rw [HE.out, if_pos (HBD.out (.inr hhi))]
            clear HBD HGD
            go_wp2_with fail
            go_ret
            exact ⟨by rw [HE2.out]; rfl, by rw [HE2.out]; exact HD.out.out0 hu.out⟩
          · have HG2 := Lib.hid (HGD.out ⟨by omega, by omega⟩)
            clear HBD HGD
            go_wp2_with fail
            go_roundw
            case rel => exact ⟨k + 1, by go_num, by omega, hu, HG2⟩
            case measure => simp [intOf]; omega
      · obtain rfl : k = l.length := by omega
        have r9 : ¬ ((l.length : Nat) : Int) < l.length := by omega
        have hcb := chBad_no hgood.out
        have HIN : Hid (∀ c ∈ l, 0 ≤ c.1 ∧ c.1 ≤ 40) := fun c hc => by
          obtain ⟨j, hj, rfl⟩ := List.mem_iff_getElem.1 hc
          have := hgood.out j hj
          rwa [nth_get _ _ hj] at this
        have HE2 := Lib.hid (HE.out.trans (if_neg (by rw [hcb]; simp)))
        have HL1 := Lib.hid (HL.out.upd0 chCells_len hu.out)
        have HD1 := Lib.hid (HD.out.upd0 hu.out)
        have HSZL := Lib.hid (fun c hc => chs_size (l := l) (c := c) hc)
        clear hcb hgood HE
        go_wp2_with fail
        (with_reducible refine (rjPut_any _ l wr HL1.out HI.out (by omega)).mono ?_)
        rintro e w2 ⟨pa, pn, pk, rfl, ho2, hu2⟩
        obtain ⟨p, hp⟩ : ∃ p, encChs l = p := ⟨_, rfl⟩
        rw [hp] at ho2 HE2 HSZL
        have HP := Lib.hid hp
        obtain ⟨pa', pk', hpe, hpl1, hpl2, -⟩ := ho2.out.rd
        injection hpe with e1 e2 e3
        subst e1; subst e2; subst e3
        have hpm : pk ≤ 9223372036854775807 := by unfold maxLen at hpl2; omega
        have HO2 := Lib.hid ho2.out
        have HU2 := Lib.hid (hu.out.seq hu2)
        have HL2 := Lib.hid (HL1.out.upd0 chCells_len hu2)
        have HD2 := Lib.hid (HD1.out.upd0 hu2)
        have HGW : Hid (∀ x ∈ G, x < wr.heap.size) := fun x hx => (HD1.out.rd.ge x hx).2
        have HRW : Hid (wr.heap.size ≤ w2.heap.size) := hu2.size
        clear hp ho2 hu2 hu HL1 HD1 hpl2
        by_cases hlong : 262144 < p.length
        · have q5 : (262144 : Int) < p.length := by omega
          have HE3 : Hid (jSet t s l = (2, t, s)) := by unfold Hid; rw [HE2.out, if_pos hlong]
          clear HE2 hlong
          go_wp2_with fail
          go_ret
          exact ⟨by rw [HE3.out]; rfl, by rw [HE3.out]; exact HD.out.out0 HU2.out⟩
        · have q5 : ¬ (262144 : Int) < p.length := by omega
          have HPL : Hid (p.length ≤ 262144) := by unfold Hid; omega
          obtain ⟨e1, s1, hap⟩ : ∃ e s', dAppend s nmJ (putF [] p) = (e, s') := ⟨_, _, rfl⟩
          have HE3 := Lib.hid (HE2.out.trans (if_neg hlong))
          rw [hap] at HE3
          have HAP1 := Lib.hid hap
          have HFL := Lib.hid (putF_le p)
          have HM1 : Hid (More 1 s s1) := by have := (More.zero HD.out.rd.ok).append nmJ _ HFL.out (by have := HN.out; omega); rw [hap] at this; exact this
          have HCHK : Hid (∀ c ∈ l, ChOk c) := fun c hc => ⟨(HIN.out c hc).1, (HIN.out c hc).2, by have := HSZL.out c hc; have := HPL.out; omega⟩
          clear hap HE2 hlong
          have c0 := HD2.out.c0
          have D0 := Lib.hid c0
          have HC2 : Hid (∀ W, Upd [] w2 W → Calls Tryz.prog 16 #[.slice none 0 0, .slice pa p.length pk] W fun e w' => ∃ a n k, e = .returned (.slice a n k) ∧ Hid (Own bv w2.heap.size 5 w' (.slice a n k) (putF [] p)) ∧ Upd [] w2 w') := fun W hW => by
            refine (rFrame_any _ _ [] p W (Rd.nil _) (HO2.out.rd.upd0 hW) (by simp) (by have := HPL.out; omega)).mono ?_
            rintro e w' ⟨v, rfl, ho2, hu⟩
            obtain ⟨a, k, rfl, -⟩ := ho2.rd
            exact ⟨a, _, k, rfl, ho2.base_le hW.size, hW.seq hu⟩
          have HC3 : Hid (∀ W a n k, Own bv w2.heap.size 5 W (.slice a n k) (putF [] p) → Upd [] w2 W → Calls Tryz.prog 20 #[.pointer (some ⟨gr, 0, none⟩), sv nmJ, .slice a n k] W fun e w' => e = .returned (.int .i64 e1) ∧ Hid (∃ G', RJD w0 w' gr gk G' t s1 ∧ Upd G w2 w' ∧ (∀ x ∈ G', x ∈ G ∨ w2.heap.size ≤ x)) ∧ w'.cell? ⟨gk, 0, none⟩ = some (.pointer (some ⟨gr, 0, none⟩))) := fun W a n k ho hW => by
            refine ((HD2.out.upd0 hW).app nmJ ho.rd (fun _ x hx hg => by have := (ho.ge x hx).1; have := HGW.out x hg; have := HRW.out; omega) (by have := HFL.out; omega) (by have := HN.out; omega) (by have := HLG.out; omega) HAP1.out).mono ?_
            rintro e w' ⟨rfl, G', k1, k2, k3⟩
            have hs := hW.size
            exact ⟨rfl, ⟨G', k1, hW.trans k2 (by simp) (fun x hx => .inl hx), fun x hx => (k3 x hx).imp id (fun q => by omega)⟩, k1.c0⟩
          have ru := Upd.refl [] w2
          go_wp2_with fail
          go_region_held3 (fun W => W.cell? ⟨gk, 0, none⟩ = some (.pointer (some ⟨gr, 0, none⟩))) (first | go_keep | exact ru.cell D0.out (by simp) | exact jc0)
            (first
              | (go_at_call 16; (with_reducible refine (HC2.out _ (Upd.seq ru ?_)).mono ?_); (repeat (first | exact Upd.refl _ _ | apply Upd.drew | apply Upd.drewN | apply Upd.alloc)); (rintro _ W2 ⟨a2, n2, k2, rfl, ho2, ru⟩; dsimp only))
              | (go_at_call 20; (with_reducible refine (HC3.out _ a2 n2 k2 (Own.upd (S := []) ho2.out ?_ (by simp)) (Upd.seq ru ?_)).mono ?_); (repeat (first | exact Upd.refl _ _ | apply Upd.drew | apply Upd.drewN | apply Upd.alloc)); (rintro _ W3 ⟨rfl, hd3, jc0⟩; dsimp only)))
          all_goals
            obtain ⟨G3, k1, k2, k3⟩ := hd3.out
            have H3 := Lib.hid k1
            have HU3 : Hid (Upd (gk :: G) w W3) := (HU2.out.mono (T := gk :: G) (by simp)).trans k2 (fun x hx => hx) (fun x hx => .inl (List.mem_cons_of_mem _ hx))
            have hs2 := HU2.out.size
            have HG3 : Hid (∀ x ∈ G3, x ∈ gk :: G ∨ w.heap.size ≤ x) := fun x hx => (k3 x hx).imp (List.mem_cons_of_mem _) (fun q => by omega)
            have HL3 := Lib.hid (HL2.out.upd chCells_len k2 (fun x hx q => HAP.out x hx (List.mem_cons_of_mem _ q)))
            clear hd3 ho2 ru HC2 HC3 c0 D0 k1 k2 k3 jc0 HL2 HD2
            by_cases he : e1 = 0
            · subst he
              have HE4 := Lib.hid (HE3.out.trans (if_neg (fun q => q rfl)))
              obtain ⟨hv, hrj, hhas⟩ := H3.out.rj
              have HRJ := Lib.hid hrj
              have HHAS := Lib.hid hhas
              clear HE3 hrj hhas
              go_wp2_with fail
              (with_reducible refine (rjTake_any _ l HRJ.out HL3.out (fun q => absurd List.mem_cons_self (HAP.out gk q)) HIN.out).mono ?_)
              rintro e w5 ⟨rfl, h5, hu5⟩
              have H5 := Lib.hid (H3.out.hold HHAS.out h5 hu5 HCHK.out)
              have HU5 : Hid (Upd (gk :: G) w w5) := HU3.out.trans hu5 (fun x hx => hx) (fun x hx => .inl (by simp at hx; subst hx; simp))
              have HN5 : Hid (s1.now.length ≤ 4900 ∧ s1.log.length ≤ 480000000) := by have h1 := HM1.out.now; have h2 := HM1.out.log; have := HN.out; have := HLG.out; unfold Hid; omega
              have c0 := H5.out.c0
              clear h5 hu5 HL3 HU3 HRJ HHAS H3
              go_wp2_with fail
              (with_reducible refine (rdRead_any nmJ H5.out.rd (by have := HN5.out; omega)).mono ?_)
              rintro e w6 ⟨v6, rfl, hb6, -, hu6⟩
              have H6 := Lib.hid (H5.out.upd0 hu6)
              have HU6 : Hid (Upd (gk :: G) w w6) := HU5.out.trans hu6 (fun x hx => hx) (by simp)
              obtain ⟨a6, k6, rfl, hk61, hk62, -⟩ := hb6
              have hk63 : k6 ≤ 9223372036854775807 := by unfold maxLen at hk62; omega
              generalize (dGet s1.now nmJ).2 = okz at *
              generalize (dGet s1.now nmJ).1.length = zl at *
              clear hu6 H5 HU5 c0 hk62
              by_cases hz : 262144 < zl
              · have q6 : (262144 : Int) < zl := by omega
                have HE5 : Hid (jSet t s l = (0, jAll t l, jAnew (jAll t l) s1)) := by unfold Hid; rw [HE4.out, if_pos hz]
                clear HE4 hz
                go_wp2_with fail
                (with_reducible refine (rjAnew_any H6.out HN5.out.1 HN5.out.2).mono ?_)
                rintro e w7 ⟨rfl, ho7⟩
                have HZ := Lib.hid (RJOut.then_ HU6.out HG3.out ho7)
                clear ho7
                go_wp2_with fail
                go_ret
                exact ⟨by rw [HE5.out]; rfl, by rw [HE5.out]; exact HZ.out⟩
              · have q6 : ¬ (262144 : Int) < zl := by omega
                have HE5 : Hid (jSet t s l = (0, jAll t l, s1)) := by unfold Hid; rw [HE4.out, if_neg hz]
                clear HE4 hz
                go_wp2_with fail
                go_ret
                exact ⟨by rw [HE5.out]; rfl, by rw [HE5.out]; exact ⟨G3, H6.out, HU6.out, .inl (by simp), HG3.out⟩⟩
            · have ez : (e1 != 0) = true := by rw [bne_iff_ne]; exact he
              have HE4 : Hid (jSet t s l = (e1, t, s1)) := by unfold Hid; rw [HE3.out, if_pos he]
              clear he HE3
              go_wp2_with fail
              go_ret
              exact ⟨by rw [HE4.out]; rfl, by rw [HE4.out]; exact ⟨G3, H3.out, HU3.out, .inl (by simp), HG3.out⟩⟩
end
end Go.Proofs.YtmhojaiajhdlcaaGreat
namespace Go.Proofs.YtmhojaiajhdlcaaGreat
open Go.RowKit
set_option linter.unusedSimpArgs false
set_option linter.unusedVariables false
theorem or64i (n : Nat) (x : UInt8) (h : n * 256 + x.toNat < 9223372036854775808) : bits .or .i64 (wrap64 ((n : Int) * 256)) (wrap64 (x.toNat : Int)) = ((n * 256 + x.toNat : Nat) : Int) := by
  have hx := x.toNat_lt
  rw [wrap64_id _ (by omega) (by omega), wrap64_id _ (by omega) (by omega)]
  have h1 : (n : Int) * 256 = ((n * 256 : Nat) : Int) := by omega
  rw [h1, i64_hl _ _ 8 (by omega) (by omega) (by omega)]
theorem big8 (t : List UInt8) (h : 8 ≤ t.length) : 9223372036854775808 ≤ beN (t.take 8) ↔ 127 < (nth t 0).toNat := by
  cases t with
  | nil => simp at h
  | cons x t =>
    rw [List.take_succ_cons, beN_cons, nth_cons_zero]
    have hl : (t.take 7).length = 7 := by rw [List.length_take]; simp at h; omega
    have h1 := beN_lt (t.take 7)
    rw [hl] at h1 ⊢
    have e : (256 : Nat) ^ 7 = 72057594037927936 := by decide
    rw [e] at h1 ⊢
    have := x.toNat_lt
    omega
section
variable {base : Nat} {g : Nat} {v : Value} {B : List UInt8} {s : RSt}
set_option maxHeartbeats 4000000 in
theorem dNumBad_any (w : World) (h : RdrAt 170 base w g v B s) (hs : s.2 ≠ 0 ∨ (s.2 = 0 ∧ (B.drop s.1 = [] ∨ (∃ c t, B.drop s.1 = c :: t ∧ (8 < c.toNat ∨ t.length < c.toNat))))) :
    Calls Tryz.prog 54 #[.pointer (some ⟨g, 0, none⟩)] w fun x w' => x = .returned (.int .i64 ((rdNum B s).1 : Int)) ∧ RdrAt 170 base w' g v B (rdNum B s).2 ∧ Upd [g] w w' := by
  have H := Lib.hid h
  obtain ⟨a, k, rfl, -⟩ := h.own.rd
  have c0 : w.cell? ⟨g, 0, none⟩ = some (.slice a B.length k) := h.cells.cell 0
  have c1 : w.cell? ⟨g, 1, none⟩ = some (.int .i64 (s.1 : Int)) := h.cells.cell 1
  have c2 : w.cell? ⟨g, 2, none⟩ = some (.int .i64 (s.2 : Int)) := h.cells.cell 2
  have hat := h.at_
  have hsz := h.sz
  rcases hs with hs | ⟨hs, hb⟩
  · have hne : ((s.2 : Int) != 0) = true := by rw [bne_iff_ne]; omega
    have HR : Hid (rdNum B s = (0, s)) := by unfold Hid rdNum; rw [if_pos hs]
    clear h hs
    go_enter Tryz.func54, Tryz.ntmps54
    go_wp2_with fail
    go_ret
    exact ⟨by rw [HR.out]; rfl, by rw [HR.out]; exact H.out, Upd.refl _ _⟩
  · obtain ⟨at_, er⟩ := s
    dsimp only at *
    subst hs
    have HN : Hid (_ = _) := rdNum_0 B at_
    replace c2 : w.cell? ⟨g, 2, none⟩ = some (.int .i64 0) := c2
    have HO := Lib.hid h.own
    have hrl : B.length - at_ = (B.drop at_).length := by rw [List.length_drop]
    clear h
    rcases hb with hb | ⟨c, t, hb, hct⟩
    · have HR : Hid (rdNum B (at_, 0) = (0, at_, 3)) := HN.out.trans (by rw [hb]; simp [numAt])
      have hge : (B.length : Int) ≤ at_ := by rw [hb] at hrl; simp at hrl; omega
      clear HN hb hrl
      go_enter Tryz.func54, Tryz.ntmps54
      go_wp2_with fail
      go_quiet (fail)
      have HU := Lib.hid ((Upd.refl [] w).drewN nq)
      generalize w.drewN nq = w1 at *
      have k2 := HU.out.cell c2 (by simp)
      have f2 := (H.out.upd HU.out).cells.frozen 2
      have HS := Lib.hid ((H.out.upd HU.out).set2 (by decide) 3 (by decide))
      have HSU := Lib.hid ((Upd.up (g := g) HU.out).setCell ⟨g, 2, none⟩ (.int .i64 ((3 : Nat) : Int)) (.inl (by simp)))
      go_wp2_with fail
      go_ret
      exact ⟨by rw [HR.out]; rfl, by rw [HR.out]; exact HS.out, HSU.out⟩
    · have hn0 : nth B at_ = c := by have := nth_drop B at_ 0; rw [hb, nth_cons_zero, Nat.add_zero] at this; exact this.symm
      have hlen : B.length = at_ + (t.length + 1) := by rw [hb] at hrl; simp at hrl; omega
      obtain ⟨b, off, rfl, hc0⟩ := HO.out.rd.at_ at_ (by omega)
      rw [hn0] at hc0
      have hlt := c.toNat_lt
      have q0 : ¬ (B.length : Int) ≤ at_ := by omega
      have q1 : (at_ : Int) < B.length := by omega
      rw [hb] at HN
      have HLN := Lib.hid hlen
      clear hn0 hrl hb
      by_cases h8 : 8 < c.toNat
      · have HR : Hid (rdNum B (at_, 0) = (0, at_, 4)) := HN.out.trans (by rw [numAt_cons, if_pos h8]; simp)
        have q8 : (8 : Int) < c.toNat := by omega
        clear HN hct h8 hlen
        go_enter Tryz.func54, Tryz.ntmps54
        go_wp2_with fail
        go_quiet (fail)
        have HU := Lib.hid ((Upd.refl [] w).drewN nq)
        generalize w.drewN nq = w1 at *
        have zc0 := HU.out.cell c0 (by simp)
        have zc1 := HU.out.cell c1 (by simp)
        have zhc0 := HU.out.cell hc0 (by simp)
        go_wp2_with fail
        go_quiet (fail)
        have HU2 := Lib.hid (HU.out.drewN nq)
        generalize w1.drewN nq = w2 at *
        clear HU
        have HU := HU2
        clear HU2
        have k2 := HU.out.cell c2 (by simp)
        have f2 := (H.out.upd HU.out).cells.frozen 2
        have HS := Lib.hid ((H.out.upd HU.out).set2 (by decide) 4 (by decide))
        have HSU := Lib.hid ((Upd.up (g := g) HU.out).setCell ⟨g, 2, none⟩ (.int .i64 ((4 : Nat) : Int)) (.inl (by simp)))
        go_wp2_with fail
        go_ret
        exact ⟨by rw [HR.out]; rfl, by rw [HR.out]; exact HS.out, HSU.out⟩
      · have hsh : t.length < c.toNat := by omega
        have HR : Hid (rdNum B (at_, 0) = (0, at_, 3)) := HN.out.trans (by rw [numAt_cons, if_neg h8, if_pos hsh]; simp)
        have q8 : ¬ (8 : Int) < c.toNat := by omega
        have qs : (B.length : Int) - at_ - 1 < c.toNat := by omega
        clear HN hct h8 hsh hlen
        go_enter Tryz.func54, Tryz.ntmps54
        go_wp2_with fail
        go_quiet (fail)
        have HU := Lib.hid ((Upd.refl [] w).drewN nq)
        generalize w.drewN nq = w1 at *
        have zc0 := HU.out.cell c0 (by simp)
        have zc1 := HU.out.cell c1 (by simp)
        have zhc0 := HU.out.cell hc0 (by simp)
        go_wp2_with fail
        go_quiet (fail)
        have HU2 := Lib.hid (HU.out.drewN nq)
        generalize w1.drewN nq = w2 at *
        clear HU
        have HU := HU2
        clear HU2
        have zc0 := HU.out.cell c0 (by simp)
        have zc1 := HU.out.cell c1 (by simp)
        go_wp2_with fail
        go_quiet (fail)
        have HU3 := Lib.hid (HU.out.drewN nq)
        generalize w2.drewN nq = w3 at *
        clear HU
        have HU := HU3
        clear HU3
        have k2 := HU.out.cell c2 (by simp)
        have f2 := (H.out.upd HU.out).cells.frozen 2
        have HS := Lib.hid ((H.out.upd HU.out).set2 (by decide) 3 (by decide))
        have HSU := Lib.hid ((Upd.up (g := g) HU.out).setCell ⟨g, 2, none⟩ (.int .i64 ((3 : Nat) : Int)) (.inl (by simp)))
        go_wp2_with fail
        go_ret
        exact ⟨by rw [HR.out]; rfl, by rw [HR.out]; exact HS.out, HSU.out⟩
set_option maxHeartbeats 8000000 in
theorem dNumIn_any (w : World) (at_ : Nat) (c : UInt8) (t : List UInt8) (h : RdrAt 170 base w g v B (at_, 0)) (hb : B.drop at_ = c :: t) (h8 : ¬ 8 < c.toNat) (hsh : ¬ t.length < c.toNat) :
    Calls Tryz.prog 54 #[.pointer (some ⟨g, 0, none⟩)] w fun x w' => x = .returned (.int .i64 ((rdNum B (at_, 0)).1 : Int)) ∧ RdrAt 170 base w' g v B (rdNum B (at_, 0)).2 ∧ Upd [g] w w' := by
  have H := Lib.hid h
  obtain ⟨a, k, rfl, -⟩ := h.own.rd
  have c0 : w.cell? ⟨g, 0, none⟩ = some (.slice a B.length k) := h.cells.cell 0
  have c1 : w.cell? ⟨g, 1, none⟩ = some (.int .i64 (at_ : Int)) := h.cells.cell 1
  have c2 : w.cell? ⟨g, 2, none⟩ = some (.int .i64 0) := h.cells.cell 2
  have hat : at_ ≤ B.length := h.at_
  have hsz := h.sz
  have HN : Hid (_ = _) := rdNum_0 B at_
  have hrl : B.length - at_ = (B.drop at_).length := by rw [List.length_drop]
  have hnd : ∀ j, nth B (at_ + j) = nth (c :: t) j := fun j => by rw [← hb, nth_drop]
  have hlen : B.length = at_ + (t.length + 1) := by rw [hb] at hrl; simp at hrl; omega
  obtain ⟨b, off, rfl, hc0⟩ := h.own.rd.at_ at_ (by omega)
  have hn0 : nth B at_ = c := by have := hnd 0; rw [nth_cons_zero, Nat.add_zero] at this; exact this
  rw [hn0] at hc0
  have HT := Lib.hid (fun j (hj : j < t.length) => show w.cell? ⟨b, off + (at_ + 1 + j), none⟩ = some (bv (nth t j)) by
    obtain ⟨b', off', he, hcj⟩ := h.own.rd.at_ (at_ + (1 + j)) (by omega)
    cases he
    rw [hnd (1 + j), Nat.add_comm 1 j, nth_cons_succ] at hcj
    rwa [Nat.add_assoc, Nat.add_comm 1 j])
  have hlt := c.toNat_lt
  have q0 : ¬ (B.length : Int) ≤ at_ := by omega
  have q1 : (at_ : Int) < B.length := by omega
  have q8 : ¬ (8 : Int) < c.toNat := by omega
  have qs : ¬ (B.length : Int) - at_ - 1 < c.toNat := by omega
  rw [hb, numAt_cons, if_neg h8, if_neg hsh] at HN
  have HB7 := Lib.hid (fun j (hj : j ≤ 7) => beN_take_lt t j hj)
  have HBS := Lib.hid (fun j (hj : j < t.length) => beN_take_succ t j hj)
  have HB8 := Lib.hid (fun hq => big8 t hq)
  have HLN := Lib.hid hlen
  clear hrl hb hnd hn0 h
  generalize hcn : c.toNat = cn at *
  have hHN : Hid (rdNum B (at_, 0) = if (0 < cn ∧ nth t 0 = 0) ∨ 9223372036854775808 ≤ beN (t.take cn) then (0, at_, 4) else (beN (t.take cn), at_ + (1 + cn), 0)) := by
    unfold Hid; rw [HN.out]; split <;> simp
  have hcn8 : cn ≤ 8 := by omega
  have hcnt : cn ≤ t.length := by omega
  clear HN hlen
  have hx : (cn = 0) ∨ (0 < cn ∧ nth t 0 = 0) ∨ (0 < cn ∧ nth t 0 ≠ 0 ∧ cn = 8 ∧ 127 < (nth t 0).toNat) ∨ (0 < cn ∧ nth t 0 ≠ 0 ∧ cn = 8 ∧ ¬ 127 < (nth t 0).toNat) ∨ (0 < cn ∧ nth t 0 ≠ 0 ∧ cn ≠ 8) := by
    by_cases e0 : cn = 0
    · exact .inl e0
    · by_cases e1 : nth t 0 = 0
      · exact .inr (.inl ⟨by omega, e1⟩)
      · by_cases e2 : cn = 8
        · by_cases e3 : 127 < (nth t 0).toNat
          · exact .inr (.inr (.inl ⟨by omega, e1, e2, e3⟩))
          · exact .inr (.inr (.inr (.inl ⟨by omega, e1, e2, e3⟩)))
        · exact .inr (.inr (.inr (.inr ⟨by omega, e1, e2⟩)))
  go_enter Tryz.func54, Tryz.ntmps54
  go_wp2_with fail
  go_quiet (fail)
  have HU := Lib.hid ((Upd.refl [] w).drewN nq)
  generalize w.drewN nq = w1 at *
  have zc0 := HU.out.cell c0 (by simp)
  have zc1 := HU.out.cell c1 (by simp)
  have zhc0 := HU.out.cell hc0 (by simp)
  go_wp2_with fail
  go_quiet (fail)
  have HU2 := Lib.hid (HU.out.drewN nq)
  generalize w1.drewN nq = w2 at *
  have y0 := HU2.out.cell c0 (by simp)
  have y1 := HU2.out.cell c1 (by simp)
  go_wp2_with fail
  go_quiet (fail)
  have HU3 := Lib.hid (HU2.out.drewN nq)
  generalize w2.drewN nq = w3 at *
  have x0 := HU3.out.cell c0 (by simp)
  have x1 := HU3.out.cell c1 (by simp)
  have x2 := HU3.out.cell c2 (by simp)
  clear zc0 zc1 zhc0 y0 y1 HU HU2
  rcases hx with hx | ⟨g1, g2⟩ | ⟨g1, g2, g3, g4⟩ | ⟨g1, g2, g3, g4⟩ | ⟨g1, g2, g3⟩
  · subst hx
    go_wp2_with fail
    go_quiet (fail)
    have HU4 := Lib.hid (HU3.out.drewN nq)
    generalize w3.drewN nq = w4 at *
    clear HU3 x0 x1 x2
    go_wp2_with fail
    go_loop [4, 5] (fun u i => i = .int .i64 0 ∧ u = .int .i64 0) (fun _ _ => 0)
    case atStart => exact ⟨rfl, rfl⟩
    case round =>
      obtain ⟨rfl, rfl⟩ := hrel
      have x0 := HU4.out.cell c0 (by simp)
      have x1 := HU4.out.cell c1 (by simp)
      have HR : Hid (rdNum B (at_, 0) = (0, at_ + 1, 0)) := hHN.out.trans (if_neg (by rintro (q | q); omega; simp [beN] at q))
      have HS := Lib.hid ((H.out.upd HU4.out).set1 (by decide) (at_ + 1) (by have := HLN.out; omega))
      have HSU := Lib.hid ((Upd.up (g := g) HU4.out).setCell ⟨g, 1, none⟩ (.int .i64 ((at_ + 1 : Nat) : Int)) (.inl (by simp)))
      have f1 := (H.out.upd HU4.out).cells.frozen 1
      have hc1' : ((at_ + 1 : Nat) : Int) = (at_ : Int) + 1 := by omega
      rw [hc1'] at HS HSU
      clear hc1' hHN
      go_wp2_with fail
      go_ret
      exact ⟨by rw [HR.out]; rfl, by rw [HR.out]; exact HS.out, HSU.out⟩
  · have HR : Hid (rdNum B (at_, 0) = (0, at_, 4)) := hHN.out.trans (if_pos (.inl ⟨g1, g2⟩))
    have hcj : w3.cell? ⟨b, off + (at_ + 1), none⟩ = some (bv 0) := by have := HU3.out.cell (HT.out 0 (by omega)) (by simp); rw [g2] at this; exact this
    have q2 : (0 : Int) < cn := by omega
    have q3 : (at_ : Int) + 1 < B.length := by have := HLN.out; omega
    clear g2 hHN
    go_wp2_with fail
    go_quiet (fail)
    have HU4 := Lib.hid (HU3.out.drewN nq)
    generalize w3.drewN nq = w4 at *
    have k2 := HU4.out.cell c2 (by simp)
    have f2 := (H.out.upd HU4.out).cells.frozen 2
    have HS := Lib.hid ((H.out.upd HU4.out).set2 (by decide) 4 (by decide))
    have HSU := Lib.hid ((Upd.up (g := g) HU4.out).setCell ⟨g, 2, none⟩ (.int .i64 ((4 : Nat) : Int)) (.inl (by simp)))
    go_wp2_with fail
    go_ret
    exact ⟨by rw [HR.out]; rfl, by rw [HR.out]; exact HS.out, HSU.out⟩
  · have hcj : w3.cell? ⟨b, off + (at_ + 1), none⟩ = some (bv (nth t 0)) := HU3.out.cell (HT.out 0 (by omega)) (by simp)
    have HR : Hid (rdNum B (at_, 0) = (0, at_, 4)) := hHN.out.trans (if_pos (.inr (by rw [g3]; exact (HB8.out (by omega)).2 g4)))
    have q2 : (0 : Int) < cn := by omega
    have q3 : (at_ : Int) + 1 < B.length := by have := HLN.out; omega
    have q4 : (((nth t 0).toNat : Int) == 0) = false := by rw [beq_eq_false_iff_ne]; intro e; exact g2 (UInt8.toNat_inj.1 (show (nth t 0).toNat = 0 by omega))
    have q5 : (127 : Int) < (nth t 0).toNat := by omega
    have q6 : ((cn : Int) == 8) = true := by rw [beq_iff_eq]; omega
    generalize nth t 0 = x0' at *
    clear g2 hHN g4
    go_wp2_with fail
    go_quiet (fail)
    have HU4 := Lib.hid (HU3.out.drewN nq)
    generalize w3.drewN nq = w4 at *
    have k2 := HU4.out.cell c2 (by simp)
    have f2 := (H.out.upd HU4.out).cells.frozen 2
    have HS := Lib.hid ((H.out.upd HU4.out).set2 (by decide) 4 (by decide))
    have HSU := Lib.hid ((Upd.up (g := g) HU4.out).setCell ⟨g, 2, none⟩ (.int .i64 ((4 : Nat) : Int)) (.inl (by simp)))
    go_wp2_with fail
    go_ret
    exact ⟨by rw [HR.out]; rfl, by rw [HR.out]; exact HS.out, HSU.out⟩
  · have hcj : w3.cell? ⟨b, off + (at_ + 1), none⟩ = some (bv (nth t 0)) := HU3.out.cell (HT.out 0 (by omega)) (by simp)
    have hU : beN (t.take cn) < 9223372036854775808 := by
      rw [g3]; have := (HB8.out (by omega)).1
      rcases Nat.lt_or_ge (beN (t.take 8)) 9223372036854775808 with q | q
      · exact q
      · exact absurd (this q) g4
    have hU2 : ¬ (0 < cn ∧ nth t 0 = 0) := fun q => g2 q.2
    have q2 : (0 : Int) < cn := by omega
    have q3 : (at_ : Int) + 1 < B.length := by have := HLN.out; omega
    have q4 : (((nth t 0).toNat : Int) == 0) = false := by rw [beq_eq_false_iff_ne]; intro e; exact g2 (UInt8.toNat_inj.1 (show (nth t 0).toNat = 0 by omega))
    have q5 : ¬ (127 : Int) < (nth t 0).toNat := by omega
    have HU2 := Lib.hid hU2
    clear g2 g4 hU2
    subst g3
    go_wp2_with fail
    go_quiet (fail)
    have HU4 := Lib.hid (HU3.out.drewN nq)
    generalize w3.drewN nq = w4 at *
    clear HU3 x0 x1 x2
    go_wp2_with fail
    clear q2 q3 q4 q5 hcj g1
    go_loopw [4, 5] (fun u i wr => ∃ j : Nat, i = .int .i64 (j : Int) ∧ j ≤ 8 ∧ u = .int .i64 ((beN (t.take j) : Nat) : Int) ∧ Hid (Upd [] w wr)) (fun _ i _ => 8 - (intOf i).toNat)
    case atStart => exact ⟨0, rfl, Nat.zero_le _, rfl, HU4⟩
    case round =>
      obtain ⟨j, rfl, hj, rfl, hu⟩ := hrel
      clear HU4
      have x0 := hu.out.cell c0 (by simp)
      have x1 := hu.out.cell c1 (by simp)
      by_cases hlj : j < 8
      · have hcj := hu.out.cell (HT.out j (by omega)) (by simp)
        have hbd : beN (t.take j) * 256 + (nth t j).toNat < 9223372036854775808 := by
          rw [← HBS.out j (by omega)]
          by_cases e : j + 1 ≤ 7
          · have := HB7.out (j + 1) e; omega
          · have e2 : j + 1 = 8 := by omega
            rw [e2]; exact hU
        have HST := Lib.hid ((or64i (beN (t.take j)) (nth t j) hbd).trans (by rw [← HBS.out j (by omega)]))
        have qj : (at_ : Int) + 1 + j < B.length := by have := HLN.out; omega
        clear hbd
        generalize nth t j = x at *
        obtain ⟨n, HNE⟩ : ∃ n, Hid (beN (t.take j) = n) := ⟨_, rfl⟩
        rw [HNE.out] at HST
        rw [HNE.out]
        go_wp2_with fail
        go_quiet (fail)
        have HU5 := Lib.hid (hu.out.drewN nq)
        generalize wr.drewN nq = w5 at *
        go_wp2_with fail
        go_roundw
        case rel => exact ⟨j + 1, by go_num, by omega, congrArg _ HST.out, HU5⟩
        case measure => simp [intOf]; omega
      · have hje : j = 8 := by omega
        have HR : Hid (rdNum B (at_, 0) = (beN (t.take j), at_ + (1 + 8), 0)) := by
          rw [hje]; exact hHN.out.trans (if_neg (by rintro (q | q); exact HU2.out q; omega))
        have HS := Lib.hid ((H.out.upd hu.out).set1 (by decide) (at_ + (1 + 8)) (by have := HLN.out; omega))
        have HSU := Lib.hid ((Upd.up (g := g) hu.out).setCell ⟨g, 1, none⟩ (.int .i64 ((at_ + (1 + 8) : Nat) : Int)) (.inl (by simp)))
        have f1 := (H.out.upd hu.out).cells.frozen 1
        have hc1' : ((at_ + (1 + 8) : Nat) : Int) = (at_ : Int) + 1 + (8 : Int) := by omega
        rw [hc1'] at HS HSU
        have hjl : ¬ (j : Int) < (8 : Int) := by omega
        have hbU : beN (t.take j) < 9223372036854775808 := by rw [hje]; exact hU
        obtain ⟨n, HNE⟩ : ∃ n, Hid (beN (t.take j) = n) := ⟨_, rfl⟩
        rw [HNE.out] at HR hbU
        rw [HNE.out]
        clear hc1' hHN hje hlj hj hU
        go_wp2_with fail
        go_ret
        exact ⟨by rw [HR.out]; rfl, by rw [HR.out]; exact HS.out, HSU.out⟩
  · have hcj : w3.cell? ⟨b, off + (at_ + 1), none⟩ = some (bv (nth t 0)) := HU3.out.cell (HT.out 0 (by omega)) (by simp)
    have hU : beN (t.take cn) < 9223372036854775808 := by have := HB7.out cn (by omega); omega
    have hU2 : ¬ (0 < cn ∧ nth t 0 = 0) := fun q => g2 q.2
    have q2 : (0 : Int) < cn := by omega
    have q3 : (at_ : Int) + 1 < B.length := by have := HLN.out; omega
    have q4 : (((nth t 0).toNat : Int) == 0) = false := by rw [beq_eq_false_iff_ne]; intro e; exact g2 (UInt8.toNat_inj.1 (show (nth t 0).toNat = 0 by omega))
    have q6 : ((cn : Int) == 8) = false := by rw [beq_eq_false_iff_ne]; omega
    have HU2 := Lib.hid hU2
    clear g2 hU2
    go_wp2_with fail
    go_quiet (fail)
    have HU4 := Lib.hid (HU3.out.drewN nq)
    generalize w3.drewN nq = w4 at *
    clear HU3 x0 x1 x2
    go_wp2_with fail
    clear q2 q3 q4 q6 hcj g1 g3
    go_loopw [4, 5] (fun u i wr => ∃ j : Nat, i = .int .i64 (j : Int) ∧ j ≤ cn ∧ u = .int .i64 ((beN (t.take j) : Nat) : Int) ∧ Hid (Upd [] w wr)) (fun _ i _ => cn - (intOf i).toNat)
    case atStart => exact ⟨0, rfl, Nat.zero_le _, rfl, HU4⟩
    case round =>
      obtain ⟨j, rfl, hj, rfl, hu⟩ := hrel
      clear HU4
      have x0 := hu.out.cell c0 (by simp)
      have x1 := hu.out.cell c1 (by simp)
      by_cases hlj : j < cn
      · have hcj := hu.out.cell (HT.out j (by omega)) (by simp)
        have hbd : beN (t.take j) * 256 + (nth t j).toNat < 9223372036854775808 := by
          rw [← HBS.out j (by omega)]
          by_cases e : j + 1 ≤ 7
          · have := HB7.out (j + 1) e; omega
          · have e2 : j + 1 = cn := by omega
            rw [e2]; exact hU
        have HST := Lib.hid ((or64i (beN (t.take j)) (nth t j) hbd).trans (by rw [← HBS.out j (by omega)]))
        have qj : (at_ : Int) + 1 + j < B.length := by have := HLN.out; omega
        clear hbd
        generalize nth t j = x at *
        obtain ⟨n, HNE⟩ : ∃ n, Hid (beN (t.take j) = n) := ⟨_, rfl⟩
        rw [HNE.out] at HST
        rw [HNE.out]
        go_wp2_with fail
        go_quiet (fail)
        have HU5 := Lib.hid (hu.out.drewN nq)
        generalize wr.drewN nq = w5 at *
        go_wp2_with fail
        go_roundw
        case rel => exact ⟨j + 1, by go_num, by omega, congrArg _ HST.out, HU5⟩
        case measure => simp [intOf]; omega
      · have hje : j = cn := by omega
        have HR : Hid (rdNum B (at_, 0) = (beN (t.take j), at_ + (1 + cn), 0)) := by
          rw [hje]; exact hHN.out.trans (if_neg (by rintro (q | q); exact HU2.out q; omega))
        have HS := Lib.hid ((H.out.upd hu.out).set1 (by decide) (at_ + (1 + cn)) (by have := HLN.out; omega))
        have HSU := Lib.hid ((Upd.up (g := g) hu.out).setCell ⟨g, 1, none⟩ (.int .i64 ((at_ + (1 + cn) : Nat) : Int)) (.inl (by simp)))
        have f1 := (H.out.upd hu.out).cells.frozen 1
        have hc1' : ((at_ + (1 + cn) : Nat) : Int) = (at_ : Int) + 1 + (cn : Int) := by omega
        rw [hc1'] at HS HSU
        have hjl : ¬ (j : Int) < (cn : Int) := by omega
        have hbU : beN (t.take j) < 9223372036854775808 := by rw [hje]; exact hU
        obtain ⟨n, HNE⟩ : ∃ n, Hid (beN (t.take j) = n) := ⟨_, rfl⟩
        rw [HNE.out] at HR hbU
        rw [HNE.out]
        clear hc1' hHN hje hlj hj hU
        go_wp2_with fail
        go_ret
        exact ⟨by rw [HR.out]; rfl, by rw [HR.out]; exact HS.out, HSU.out⟩
theorem dNum_any (w : World) (h : RdrAt 170 base w g v B s) :
    Calls Tryz.prog 54 #[.pointer (some ⟨g, 0, none⟩)] w fun x w' => x = .returned (.int .i64 ((rdNum B s).1 : Int)) ∧ RdrAt 170 base w' g v B (rdNum B s).2 ∧ Upd [g] w w' := by
  by_cases hs : s.2 = 0
  · cases hr : B.drop s.1 with
    | nil => exact dNumBad_any w h (.inr ⟨hs, .inl hr⟩)
    | cons c t =>
      by_cases hb : 8 < c.toNat ∨ t.length < c.toNat
      · exact dNumBad_any w h (.inr ⟨hs, .inr ⟨c, t, hr, hb⟩⟩)
      · obtain ⟨k, e⟩ := s
        dsimp only at hs hr
        subst hs
        exact dNumIn_any w k c t h hr (fun q => hb (.inl q)) (fun q => hb (.inr q))
  · exact dNumBad_any w h (.inl hs)
end
end Go.Proofs.YtmhojaiajhdlcaaGreat
namespace Go.Proofs.YtmhojaiajhdlcaaGreat
open Go.RowKit
set_option linter.unusedSimpArgs false
set_option linter.unusedVariables false
section
variable {base : Nat} {g : Nat} {v : Value} {B : List UInt8} {s : RSt}
set_option maxHeartbeats 2000000 in
theorem dUpto_any (w : World) (most : Int) (hm : I64 most) (h : RdrAt 170 base w g v B s) :
    Calls Tryz.prog 102 #[.pointer (some ⟨g, 0, none⟩), .int .i64 most] w fun x w' => x = .returned (.int .i64 ((rdUpto B most s).1 : Int)) ∧ RdrAt 170 base w' g v B (rdUpto B most s).2 ∧ Upd [g] w w' := by
  have H := Lib.hid h
  have c1 : w.cell? ⟨g, 1, none⟩ = some (.int .i64 (s.1 : Int)) := h.cells.cell 1
  have hat := h.at_
  have hle := rdNum_le B s h.at_ h.er
  go_enter Tryz.func102, Tryz.ntmps102
  go_wp2_with fail
  with_reducible refine (dNum_any _ H.out).mono ?_
  rintro e w1 ⟨rfl, h1, hu1⟩
  have c2 := h1.cells.cell 2
  have HU1 := Lib.hid hu1
  have H1 := Lib.hid h1
  clear h1 hu1 h
  by_cases hb : (rdNum B s).2.2 = 0 ∧ most < ((rdNum B s).1 : Int)
  · have HR : Hid (rdUpto B most s = (0, s.1, 2)) := if_pos hb
    obtain ⟨hb1, hb2⟩ := hb
    generalize rdNum B s = r at *
    obtain ⟨n, at1, er1⟩ := r
    dsimp only at hb1 hb2 hle
    subst hb1
    replace c2 : w1.cell? ⟨g, 2, none⟩ = some (.int .i64 0) := c2
    dsimp only
    have sk1 := H1.out.cells.cell 1
    have sk2 := H1.out.cells.cell 2
    have sf1 := (H1.out).cells.frozen 1
    have sf2 := (H1.out).cells.frozen 2
    have HS3 := Lib.hid (((H1.out).set2 (by decide) 2 (by decide)).set1 (by decide) s.1 hat)
    have HSU3 := Lib.hid (((HU1.out).setCell ⟨g, 2, none⟩ (.int .i64 ((2 : Nat) : Int)) (.inl (by simp))).setCell ⟨g, 1, none⟩ (.int .i64 (s.1 : Int)) (.inl (by simp)))
    go_wp2_with fail
    go_ret
    exact ⟨by rw [HR.out]; rfl, by rw [HR.out]; exact HS3.out, HSU3.out⟩
  · have HR : Hid (rdUpto B most s = rdNum B s) := if_neg hb
    generalize rdNum B s = r at *
    obtain ⟨n, at1, er1⟩ := r
    dsimp only at hb hle
    replace c2 : w1.cell? ⟨g, 2, none⟩ = some (.int .i64 (er1 : Int)) := c2
    dsimp only
    by_cases he : er1 = 0
    · subst he
      have hb2 : ¬ most < (n : Int) := fun q => hb ⟨rfl, q⟩
      replace c2 : w1.cell? ⟨g, 2, none⟩ = some (.int .i64 0) := c2
      clear hb
      go_wp2_with fail
      go_ret
      exact ⟨by rw [HR.out]; rfl, by rw [HR.out]; exact H1.out, HU1.out⟩
    · have he2 : ((er1 : Int) == 0) = false := by rw [beq_eq_false_iff_ne]; omega
      clear hb he
      go_wp2_with fail
      go_ret
      exact ⟨by rw [HR.out]; rfl, by rw [HR.out]; exact H1.out, HU1.out⟩
set_option maxHeartbeats 2000000 in
theorem dEnd_any (w : World) (h : RdrAt 170 base w g v B s) :
    Calls Tryz.prog 56 #[.pointer (some ⟨g, 0, none⟩)] w fun x w' => x = .returned (.int .i64 ((rdEnd B s).2 : Int)) ∧ RdrAt 170 base w' g v B (rdEnd B s) ∧ Upd [g] w w' := by
  have H := Lib.hid h
  obtain ⟨a, k, rfl, -⟩ := h.own.rd
  have c0 : w.cell? ⟨g, 0, none⟩ = some (.slice a B.length k) := h.cells.cell 0
  have c1 : w.cell? ⟨g, 1, none⟩ = some (.int .i64 (s.1 : Int)) := h.cells.cell 1
  have c2 : w.cell? ⟨g, 2, none⟩ = some (.int .i64 (s.2 : Int)) := h.cells.cell 2
  have hat := h.at_
  obtain ⟨at_, er⟩ := s
  dsimp only at *
  clear h
  by_cases hb : er = 0 ∧ at_ < B.length
  · have HR : Hid (rdEnd B (at_, er) = (at_, 5)) := if_pos hb
    obtain ⟨rfl, hb2⟩ := hb
    replace c2 : w.cell? ⟨g, 2, none⟩ = some (.int .i64 0) := c2
    have hb3 : (at_ : Int) < B.length := by omega
    go_enter Tryz.func56, Tryz.ntmps56
    go_wp2_with fail
    go_quiet (fail)
    have HU := Lib.hid ((Upd.refl [] w).drewN nq)
    generalize w.drewN nq = w1 at *
    have d2 := HU.out.cell c2 (by simp)
    have hfr := (H.out.upd HU.out).cells.frozen 2
    have HS := Lib.hid ((H.out.upd HU.out).set2 (by decide) 5 (by decide))
    have HSU := Lib.hid ((Upd.up (g := g) HU.out).setCell ⟨g, 2, none⟩ (.int .i64 ((5 : Nat) : Int)) (.inl (by simp)))
    go_wp2_with fail
    go_ret
    exact ⟨by rw [HR.out]; rfl, by rw [HR.out]; exact HS.out, HSU.out⟩
  · have HR : Hid (rdEnd B (at_, er) = (at_, er)) := if_neg hb
    by_cases he : er = 0
    · subst he
      have hb3 : ¬ (at_ : Int) < B.length := fun q => hb ⟨rfl, by omega⟩
      replace c2 : w.cell? ⟨g, 2, none⟩ = some (.int .i64 0) := c2
      clear hb
      go_enter Tryz.func56, Tryz.ntmps56
      go_wp2_with fail
      go_quiet (fail)
      have HU := Lib.hid ((Upd.refl [] w).drewN nq)
      generalize w.drewN nq = w1 at *
      have d2 := HU.out.cell c2 (by simp)
      go_wp2_with fail
      go_ret
      exact ⟨by rw [HR.out]; rfl, by rw [HR.out]; exact H.out.upd HU.out, HU.out.up⟩
    · have he2 : ((er : Int) == 0) = false := by rw [beq_eq_false_iff_ne]; omega
      clear hb he
      go_enter Tryz.func56, Tryz.ntmps56
      go_wp2_with fail
      go_quiet (fail)
      have HU := Lib.hid ((Upd.refl [] w).drewN nq)
      generalize w.drewN nq = w1 at *
      have d2 := HU.out.cell c2 (by simp)
      go_wp2_with fail
      go_ret
      exact ⟨by rw [HR.out]; rfl, by rw [HR.out]; exact H.out.upd HU.out, HU.out.up⟩
set_option maxHeartbeats 4000000 in
theorem dText_any (w : World) (most : Int) (hm : I64 most) (h : RdrAt 170 base w g v B s) :
    Calls Tryz.prog 55 #[.pointer (some ⟨g, 0, none⟩), .int .i64 most] w fun x w' => x = .returned (.string (strOf (rdText B most s).1)) ∧ RdrAt 170 base w' g v B (rdText B most s).2 ∧ Upd [g] w w' := by
  have H := Lib.hid h
  obtain ⟨a, k, rfl, hBk, -⟩ := h.own.rd
  have c1 : w.cell? ⟨g, 1, none⟩ = some (.int .i64 (s.1 : Int)) := h.cells.cell 1
  have hat := h.at_
  have hsz := h.sz
  have hle := rdUpto_le B most s h.at_ h.er
  go_enter Tryz.func55, Tryz.ntmps55
  go_wp2_with fail
  with_reducible refine (dUpto_any _ most hm H.out).mono ?_
  rintro e w1 ⟨rfl, h1, hu1⟩
  have c2 := h1.cells.cell 2
  have c0 : w1.cell? ⟨g, 0, none⟩ = some (.slice a B.length k) := h1.cells.cell 0
  have d1 := h1.cells.cell 1
  have HU1 := Lib.hid hu1
  have H1 := Lib.hid h1
  have HT : Hid (rdText B most s = if (rdUpto B most s).2.2 ≠ 0 then ([], (rdUpto B most s).2)
    else if B.length - (rdUpto B most s).2.1 < (rdUpto B most s).1 then ([], s.1, 3)
    else ((B.drop (rdUpto B most s).2.1).take (rdUpto B most s).1, (rdUpto B most s).2.1 + (rdUpto B most s).1, 0)) := rfl
  clear h1 hu1 h
  generalize rdUpto B most s = r at *
  obtain ⟨n, at1, er1⟩ := r
  dsimp only at hle HT
  replace c2 : w1.cell? ⟨g, 2, none⟩ = some (.int .i64 (er1 : Int)) := c2
  replace d1 : w1.cell? ⟨g, 1, none⟩ = some (.int .i64 (at1 : Int)) := d1
  dsimp only
  by_cases he : er1 = 0
  · subst he
    replace c2 : w1.cell? ⟨g, 2, none⟩ = some (.int .i64 0) := c2
    have HT := Lib.hid (HT.out.trans (if_neg (by simp)))
    have hat1 : at1 ≤ B.length := hle.2.2.1
    by_cases hb : B.length - at1 < n
    · have HR := Lib.hid (HT.out.trans (if_pos hb))
      have hb2 : (B.length : Int) - at1 < n := by omega
      clear HT
      go_wp2_with fail
      go_quiet (fail)
      have HU := Lib.hid ((Upd.refl [] w1).drewN nq)
      generalize w1.drewN nq = w2 at *
      have sk1 := HU.out.cell d1 (by simp)
      have sk2 := HU.out.cell c2 (by simp)
      have sf1 := (H1.out.upd HU.out).cells.frozen 1
      have sf2 := (H1.out.upd HU.out).cells.frozen 2
      have HS3 := Lib.hid (((H1.out.upd HU.out).set2 (by decide) 3 (by decide)).set1 (by decide) s.1 hat)
      have HSU3 := Lib.hid (((HU1.out.gg (Upd.up (g := g) HU.out)).setCell ⟨g, 2, none⟩ (.int .i64 ((3 : Nat) : Int)) (.inl (by simp))).setCell ⟨g, 1, none⟩ (.int .i64 (s.1 : Int)) (.inl (by simp)))
      go_wp2_with fail
      go_ret
      exact ⟨by rw [HR.out, strOf_nil]; rfl, by rw [HR.out]; exact HS3.out, HSU3.out⟩
    · have HR := Lib.hid (HT.out.trans (if_neg hb))
      have hb2 : ¬ (B.length : Int) - at1 < n := by omega
      have hc2 := fun W => run_cut_lh (P := Tryz.prog) Tryz.underlying28 sizeByte a B.length k at1 (at1 + n) (by omega) (by omega) W (at1 : Int) ((at1 : Int) + (n : Int)) rfl (by omega)
      simp only [Nat.mul_one, Nat.add_sub_cancel_left] at hc2
      have HP := Lib.hid (H1.out.own.rd.sub at1 (at1 + n) (by omega) (by omega))
      rw [Nat.add_sub_cancel_left] at HP
      generalize (if k = at1 then a else a.map (·.add at1)) = a2 at *
      generalize (B.drop at1).take n = pl at *
      clear HT
      go_wp2_with fail
      go_quiet (fail)
      have HU := Lib.hid ((Upd.refl [] w1).drewN nq)
      generalize w1.drewN nq = w2 at *
      have d2 := HU.out.cell d1 (by simp)
      have k2 := HU.out.cell c2 (by simp)
      have e0 : ∀ x : Wx w2, x.val.cell? ⟨g, 0, none⟩ = some (.slice a B.length k) := Wx.cell (HU.out.cell c0 (by simp))
      have e1 : ∀ x : Wx w2, x.val.cell? ⟨g, 1, none⟩ = some (.int .i64 (at1 : Int)) := Wx.cell d2
      have hcv : ∀ x : Wx w2, (convert 28 9 (.slice a2 n (k - at1))).run Tryz.prog x.val = .ok (.string (strOf pl)) x.val := fun x => convb_str Tryz.underlying28 Tryz.underlying5 Tryz.underlying9 _ _ _ ((HP.out.upd0 HU.out).upd0 x.prop)
      go_wp2_with fail
      refine wp_region_wx (by kernel_rfl) (by kernel_rfl) ?_
      repeat (go_big_quiet_step (fail))
      refine wpQuiet_nil ?_
      rintro _ ⟨x, rfl⟩
      have HX := Lib.hid (HU.out.seq x.prop)
      have d3 := e1 x
      have hfr := (H1.out.upd HX.out).cells.frozen 1
      have HS := Lib.hid ((H1.out.upd HX.out).set1 (by decide) (at1 + n) (by omega))
      have HSU := Lib.hid ((HU1.out.gg (Upd.up (g := g) HX.out)).setCell ⟨g, 1, none⟩ (.int .i64 ((at1 + n : Nat) : Int)) (.inl (by simp)))
      have hc1' : ((at1 + n : Nat) : Int) = (at1 : Int) + n := by omega
      rw [hc1'] at HS HSU
      generalize x.val = w4 at *
      clear hc1' e0 e1 hcv
      go_wp2_with fail
      go_ret
      exact ⟨by rw [HR.out]; rfl, by rw [HR.out]; exact HS.out, HSU.out⟩
  · have he2 : ((er1 : Int) != 0) = true := by rw [bne_iff_ne]; omega
    have HR := Lib.hid (HT.out.trans (if_pos he))
    have he3 : ((er1 : Int) == 0) = false := by rw [beq_eq_false_iff_ne]; omega
    clear HT he
    go_wp2_with fail
    go_quiet (fail)
    have HU := Lib.hid ((Upd.refl [] w1).drewN nq)
    generalize w1.drewN nq = w2 at *
    have k2 := HU.out.cell c2 (by simp)
    go_wp2_with fail
    go_ret
    exact ⟨by rw [HR.out, strOf_nil]; rfl, by rw [HR.out]; exact H1.out.upd HU.out, HU1.out.gg HU.out.up⟩
theorem dRead_any (w : World) (u : Value) (l : List UInt8) (h : Bytes w u l) (hz : l.length ≤ 140737488351232) :
    Calls Tryz.prog 53 #[u] w fun x w' => ∃ g v, x = .returned (.pointer (some ⟨g, 0, none⟩)) ∧ RdrAt 170 w.heap.size w' g v l (0, 0) ∧ Upd [] w w' := by
  have H := Lib.hid h
  obtain ⟨a, cap, rfl, -, -, -⟩ := h
  go_enter Tryz.func53, Tryz.ntmps53
  go_wp2_with (at_builtin; refine wpList_app bv_one rfl (.tmp 3) (.tmp 4) rfl Tryz.underlying28 infoByte rfl (.slice (some ⟨w.heap.size, 0, none⟩) 0 0) (.slice a l.length cap) [] l rfl rfl (Own.room (base := w.heap.size) (Nat.le_refl _) rfl rfl (Nat.zero_le _)) (H.out.alloc _) (by simp; omega) (by unfold maxLen; simp; omega) (by simp) ?_; intro v3 w3 ho hu hbk; rw [List.nil_append] at ho; have HU3 : Hid (Upd [] w w3) := ((Upd.refl [] w).alloc _).trans hu (by simp) (by simp [blk]); have HO3 := Lib.hid ho; obtain ⟨a3, c3, rfl, -⟩ := ho.rd; clear ho hu hbk)
  go_ret
  exact ⟨_, _, rfl, ⟨Blk.new w3 _ [.slice a3 l.length c3, .int .i64 0, .int .i64 0], HO3.out.upd ((Upd.refl [] w3).alloc _) (by simp), HU3.out.size, Nat.zero_le _, Nat.zero_le _, hz⟩, HU3.out.alloc _⟩
end
end Go.Proofs.YtmhojaiajhdlcaaGreat
namespace Go.Proofs.YtmhojaiajhdlcaaGreat
open Go.RowKit
set_option linter.unusedSimpArgs false
set_option linter.unusedVariables false
set_option maxRecDepth 20000 in
set_option maxHeartbeats 8000000 in
theorem rjChanges_any (w : World) (u : Value) (B : List UInt8) (h : Bytes w u B) (hz : B.length ≤ 140737488351232) :
    Calls Tryz.prog 94 #[u] w fun e w' => ∃ a k, e = .returned (.tuple #[.slice a (chRef B).1.length k, .bool (decide ((rdEnd B (chRef B).2).2 = 0 ∧ 0 < (chRef B).1.length))]) ∧ Hid (OwnN 2 chCells w.heap.size 137 w' (.slice a (chRef B).1.length k) (chRef B).1) ∧ Upd [] w w' := by
  have H := Lib.hid h
  obtain ⟨ab, cb, rfl, -⟩ := h
  go_enter Tryz.func94, Tryz.ntmps94
  go_wp2_with fail
  (with_reducible refine (dRead_any w _ B H.out hz).mono ?_)
  rintro e w1 ⟨g, v, rfl, h1, hu1⟩
  have H1 := Lib.hid h1
  have HU1 := Lib.hid hu1
  have HG : Hid (w.heap.size ≤ g) := h1.gb
  clear h1 hu1
  go_wp2_with fail
  (with_reducible refine (dUpto_any w1 41 (i64_mk (by omega) (by omega)) H1.out).mono ?_)
  rintro e w2 ⟨rfl, h2, hu2⟩
  have H2 := Lib.hid h2
  have HU2 : Hid (Upd [] w w2) := HU1.out.trans (T := []) hu2 (by simp) (fun x hx => .inr (by simp at hx; subst hx; exact HG.out))
  clear h2 hu2 H1 HU1
  obtain ⟨n, hn⟩ : ∃ n, (rdUpto B 41 (0, 0)).1 = n := ⟨_, rfl⟩
  obtain ⟨st, hst⟩ : ∃ st, (rdUpto B 41 (0, 0)).2 = st := ⟨_, rfl⟩
  rw [hst] at H2
  rw [hn]
  have HF : Hid (chRef B = rdChs B n st) := by unfold Hid chRef; rw [hn, hst]
  have HN0 : Hid (chRef B = ([] ++ (rdChs B (n - 0) st).1, (rdChs B (n - 0) st).2)) := by unfold Hid; rw [HF.out]; rfl
  have hn41 : n ≤ 41 := by
    rw [← hn]; have := rdUpto_bd B 41 (0, 0) (Nat.zero_le _) (Nat.zero_le _); omega
  clear hst hn
  go_wp2_with fail
  go_loopw [6, 7] (fun o i wr => ∃ (j : Nat) (acc : List Ch) (z : RSt), i = .int .i64 (j : Int) ∧ j ≤ n ∧ acc.length = j ∧ Hid (OwnN 2 chCells w.heap.size 137 wr o acc) ∧ Hid (RdrAt 170 w.heap.size wr g v B z) ∧ Hid (Upd [] w wr) ∧ Hid (chRef B = (acc ++ (rdChs B (n - j) z).1, (rdChs B (n - j) z).2))) (fun _ i _ => n - (intOf i).toNat)
  case atStart => exact ⟨0, [], st, rfl, Nat.zero_le _, rfl, OwnN.nil _ _ _, H2.out, HU2.out, HN0⟩
  case round =>
    obtain ⟨j, acc, z, rfl, hj, hacc, ho, hr, hu, hrn⟩ := hrel
    obtain ⟨ao, ko, hov, -⟩ := ho.out.rd chCells_len
    subst hov
    subst hacc
    have e2 := hr.out.cells.cell 2
    replace e2 : wr.cell? ⟨g, 2, none⟩ = some (.int .i64 (z.2 : Int)) := e2
    clear HN0 H2 HU2 HF
    by_cases hlt : acc.length < n
    · have q1 : (acc.length : Int) < n := by omega
      by_cases hz : z.2 = 0
      · have hRN : Hid (chRef B = ((acc ++ [(rdCh B z).1]) ++ (rdChs B (n - (acc.length + 1)) (rdCh B z).2).1, (rdChs B (n - (acc.length + 1)) (rdCh B z).2).2)) := by
          have e : n - acc.length = (n - (acc.length + 1)) + 1 := by omega
          unfold Hid; rw [hrn.out, e, rdChs_step _ _ _ hz]; simp only [List.append_assoc, List.singleton_append]
        rw [hz] at e2
        replace e2 : wr.cell? ⟨g, 2, none⟩ = some (.int .i64 0) := e2
        obtain ⟨m, s1, hm⟩ : ∃ m s1, rdUpto B 40 z = (m, s1) := ⟨_, _, rfl⟩
        obtain ⟨t, s2, ht⟩ : ∃ t s2, rdText B 262144 s1 = (t, s2) := ⟨_, _, rfl⟩
        have HE : Hid (rdCh B z = (((m : Int), strOf t), s2)) := by unfold Hid rdCh; rw [hm]; dsimp only; rw [ht]
        rw [HE.out] at hRN
        dsimp only at hRN
        have HM := Lib.hid hm
        have HT := Lib.hid ht
        have HO := Lib.hid ho.out
        clear hrn ho hm ht HE
        go_wp2_with fail
        (with_reducible refine (dUpto_any _ 40 (i64_mk (by omega) (by omega)) hr.out).mono ?_)
        rw [HM.out]
        rintro e w2 ⟨rfl, h2, hu2⟩
        have HU2 : Hid (Upd [] w w2) := hu.out.trans hu2 (by simp) (fun x hx => .inr (by simp at hx; subst hx; exact HG.out))
        have HO2 := Lib.hid (HO.out.upd hu2 (rdrN hr.out (by decide) HO.out))
        have H2 := Lib.hid h2
        clear h2 hu2 hu hr HO e2 hz
        go_wp2_with fail
        have hua : Upd [] w2 (w2.alloc (.cells #[.int .i64 (m : Int), .string ⟨#[]⟩] 137)) := (Upd.refl [] w2).alloc _
        have HB3 : Hid (Blk (w2.alloc (.cells #[.int .i64 (m : Int), .string ⟨#[]⟩] 137)) w2.heap.size 137 [.int .i64 (m : Int), .string ⟨#[]⟩]) := Blk.new w2 _ [.int .i64 (m : Int), .string ⟨#[]⟩]
        have H3 := Lib.hid (H2.out.upd hua)
        have HO3 := Lib.hid (HO2.out.upd hua (by simp))
        have HU3 := Lib.hid (HU2.out.seq hua)
        have HGC : Hid (w.heap.size ≤ w2.heap.size ∧ g < w2.heap.size ∧ (∀ x ∈ blk (.slice ao acc.length ko), x < w2.heap.size) ∧ (∀ x ∈ blk v, x < w2.heap.size)) := ⟨HU2.out.size, H2.out.cells.lt, fun x hx => (HO2.out.ge x hx).2, fun x hx => (H2.out.own.ge x hx).2⟩
        clear hua H2 HO2 HU2
        generalize w2.alloc (.cells #[.int .i64 (m : Int), .string ⟨#[]⟩] 137) = w3 at *
        generalize w2.heap.size = gc at *
        (with_reducible refine (dText_any w3 262144 (i64_mk (by omega) (by omega)) H3.out).mono ?_)
        rw [HT.out]
        rintro e w4 ⟨rfl, h4, hu4⟩
        have hgc := HGC.out
        have HB4 := Lib.hid (HB3.out.upd hu4 (by simp; omega))
        have HO4 := Lib.hid (HO3.out.upd hu4 (rdrN H3.out (by decide) HO3.out))
        have HU4 : Hid (Upd [] w w4) := HU3.out.trans hu4 (by simp) (fun x hx => .inr (by simp at hx; subst hx; exact HG.out))
        have H4 := Lib.hid h4
        have f4 := HB4.out.frozen 1
        have c41 := HB4.out.cell 1
        have hlc := HB4.out.lt
        simp only [List.getElem?_cons_zero, List.getElem?_cons_succ] at c41
        clear h4 hu4 H3 HB3 HO3 HU3
        go_upto_region 9 with fail
        have hu5 : Upd [gc] w4 (w4.setCell ⟨gc, 1, none⟩ (.string (strOf t))) := (Upd.refl [gc] w4).setCell _ _ (.inl (by simp))
        have HB5 : Hid (Blk (w4.setCell ⟨gc, 1, none⟩ (.string (strOf t))) gc 137 [.int .i64 (m : Int), .string (strOf t)]) := HB4.out.set_ 1 _
        have H5 : Hid (RdrAt 170 w.heap.size (w4.setCell ⟨gc, 1, none⟩ (.string (strOf t))) g v B s2) := by
          have hh := H4.out
          exact ⟨hh.cells.upd hu5 (by simp; omega), hh.own.upd hu5 (fun x hx q => by simp at q; subst q; exact absurd (hgc.2.2.2 _ hx) (Nat.lt_irrefl _)), hh.gb, hh.at_, hh.er, hh.sz⟩
        have HO5 := Lib.hid (HO4.out.upd hu5 (fun x hx q => by simp at q; subst q; exact absurd (hgc.2.2.1 _ hx) (Nat.lt_irrefl _)))
        have HU5 : Hid (Upd [] w (w4.setCell ⟨gc, 1, none⟩ (.string (strOf t)))) := HU4.out.trans hu5 (by simp) (fun x hx => .inr (by simp at hx; subst hx; exact hgc.1))
        clear hu5 HB4 H4 HO4 HU4 f4 c41 hlc hgc HGC
        generalize w4.setCell ⟨gc, 1, none⟩ (.string (strOf t)) = w5 at *
        have d0 := HB5.out.cell 0
        have d1 := HB5.out.cell 1
        simp only [List.getElem?_cons_zero, List.getElem?_cons_succ] at d0 d1
        have hu6 : Upd [] w5 (w5.alloc (.cells #[.int .i64 (m : Int), .string (strOf t)] 137)) := (Upd.refl [] w5).alloc _
        have HRD : RdN 2 chCells (w5.alloc (.cells #[.int .i64 (m : Int), .string (strOf t)] 137)) (.slice (some ⟨w5.heap.size, 0, none⟩) 1 1) [((m : Int), strOf t)] := chBlk_one ((m : Int), strOf t) (Blk.new w5 _ [.int .i64 (m : Int), .string (strOf t)])
        have HRUN := Lib.hid (fun ty => run_appN (P := Tryz.prog) (ty := ty) chCells_len (by decide) chCells_one undRch infoRch rfl (.slice ao acc.length ko) _ acc [((m : Int), strOf t)] (HO5.out.upd hu6 (by simp)) HRD (by simp; omega) (by simp [maxLen]; omega) (Nat.le_trans HU5.out.size hu6.size))
        have H6 := Lib.hid (H5.out.upd hu6)
        have HU6 := Lib.hid (HU5.out.seq hu6)
        have HO6 := Lib.hid (HO5.out.upd hu6 (by simp))
        clear hu6 HRD H5 HO5 HU5
        go_wp2_with (at_builtin; go_must (refine wpList_app_of rfl (.tmp 31) (.tmp 33) rfl (.slice ao acc.length ko) (.slice (some ⟨w5.heap.size, 0, none⟩) 1 1) rfl rfl (HRUN.out _) ?_; rintro v7 w7 ⟨ho7, hu7, hk7⟩; have HO7 := Lib.hid ho7; have H7 := Lib.hid (rdrT _ H6.out (by decide) (by decide) HO6.out hu7); have HU7 : Hid (Upd [] w w7) := HU6.out.trans hu7 (by simp) (fun x hx => .inr (HO6.out.ge x hx).1); clear ho7 hu7 hk7 HRUN; dsimp only))
        go_roundw
        case rel => exact ⟨acc.length + 1, acc ++ [((m : Int), strOf t)], s2, by go_num, by omega, by simp, HO7, H7, HU7, hRN⟩
        case measure => simp [intOf]; omega
      · have hz2 : ((z.2 : Int) == 0) = false := by rw [beq_eq_false_iff_ne]; omega
        have HRR : Hid (chRef B = (acc, z)) := by unfold Hid; rw [hrn.out, rdChs_stop _ _ _ hz]; simp
        clear hrn hz
        have HO := Lib.hid ho.out
        obtain ⟨ao', ko', hov', hok1, hok2, -⟩ := ho.out.rd chCells_len
        injection hov' with e1 e2' e3
        subst e1; subst e3
        have hok3 : ko ≤ 9223372036854775807 := by unfold maxLen at hok2; omega
        clear ho hok2 e2'
        go_wp2_with fail
        (with_reducible refine (dEnd_any wr hr.out).mono ?_)
        rintro e w3 ⟨rfl, h3, hu3⟩
        have HU3 : Hid (Upd [] w w3) := hu.out.trans hu3 (by simp) (fun x hx => .inr (by simp at hx; subst hx; exact HG.out))
        have HO3 := Lib.hid (HO.out.upd hu3 (rdrN hr.out (by decide) HO.out))
        clear h3 hu3 HO
        obtain ⟨er, her⟩ : ∃ er, (rdEnd B z).2 = er := ⟨_, rfl⟩
        rw [her]
        have HER := Lib.hid her
        clear her
        by_cases he : er = 0
        · subst he
          have HE : Hid (decide ((rdEnd B z).2 = 0 ∧ 0 < acc.length) = decide (0 < acc.length)) := by unfold Hid; rw [HER.out]; simp
          go_wp2_with fail
          go_ret2
          exact ⟨ao, ko, by rw [HRR.out]; dsimp only; rw [HE.out]; rfl, by rw [HRR.out]; exact HO3.out, HU3.out⟩
        · have hz9 : ((er : Int) == 0) = false := by rw [beq_eq_false_iff_ne]; omega
          have HE : Hid (decide ((rdEnd B z).2 = 0 ∧ 0 < acc.length) = false) := by unfold Hid; rw [HER.out]; exact decide_eq_false (fun q => he q.1)
          clear he
          go_wp2_with fail
          go_ret2
          exact ⟨ao, ko, by rw [HRR.out]; dsimp only; rw [HE.out]; rfl, by rw [HRR.out]; exact HO3.out, HU3.out⟩
    · have q1 : ¬ (acc.length : Int) < n := by omega
      have hn0 : n - acc.length = 0 := by omega
      have HRR : Hid (chRef B = (acc, z)) := by unfold Hid; rw [hrn.out, hn0]; simp [rdChs]
      clear hrn hn0 hlt
      have HO := Lib.hid ho.out
      obtain ⟨ao', ko', hov', hok1, hok2, -⟩ := ho.out.rd chCells_len
      injection hov' with e1 e2' e3
      subst e1; subst e3
      have hok3 : ko ≤ 9223372036854775807 := by unfold maxLen at hok2; omega
      clear ho hok2 e2'
      go_wp2_with fail
      (with_reducible refine (dEnd_any wr hr.out).mono ?_)
      rintro e w3 ⟨rfl, h3, hu3⟩
      have HU3 : Hid (Upd [] w w3) := hu.out.trans hu3 (by simp) (fun x hx => .inr (by simp at hx; subst hx; exact HG.out))
      have HO3 := Lib.hid (HO.out.upd hu3 (rdrN hr.out (by decide) HO.out))
      clear h3 hu3 HO
      obtain ⟨er, her⟩ : ∃ er, (rdEnd B z).2 = er := ⟨_, rfl⟩
      rw [her]
      have HER := Lib.hid her
      clear her
      by_cases he : er = 0
      · subst he
        have HE : Hid (decide ((rdEnd B z).2 = 0 ∧ 0 < acc.length) = decide (0 < acc.length)) := by unfold Hid; rw [HER.out]; simp
        go_wp2_with fail
        go_ret2
        exact ⟨ao, ko, by rw [HRR.out]; dsimp only; rw [HE.out]; rfl, by rw [HRR.out]; exact HO3.out, HU3.out⟩
      · have hz9 : ((er : Int) == 0) = false := by rw [beq_eq_false_iff_ne]; omega
        have HE : Hid (decide ((rdEnd B z).2 = 0 ∧ 0 < acc.length) = false) := by unfold Hid; rw [HER.out]; exact decide_eq_false (fun q => he q.1)
        clear he
        go_wp2_with fail
        go_ret2
        exact ⟨ao, ko, by rw [HRR.out]; dsimp only; rw [HE.out]; rfl, by rw [HRR.out]; exact HO3.out, HU3.out⟩
end Go.Proofs.YtmhojaiajhdlcaaGreat
