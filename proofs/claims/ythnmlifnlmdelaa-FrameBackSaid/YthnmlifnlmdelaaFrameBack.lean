/- The walk of FrameBack. -/
import Derived.Test.YthnmlifnlmdelaaFrameRuns
import Derived.Test.YthnmlifnlmdelaaFrameLaw
import Derived.Test.YthnmlifnlmdelaaWithin
import Derived.Test.YthnmlifnlmdelaaSliceCut
import Derived.Test.YthnmlifnlmdelaaRdN
namespace Go.Proofs.Ythnmlifnlmdelaa
open Go.RowKit
set_option linter.unusedSimpArgs false
set_option linter.unusedVariables false
theorem parts_sl {w : World} {vs : List Value} {ls : List (List UInt8)} (hl : vs.length = ls.length) (hb : ∀ j, j < ls.length → Bytes w (nth vs j) (nth ls j)) : ∃ ss : List Sl, ss.length = ls.length ∧ vs = ss.map slv := by
  refine ⟨vs.map (fun v => match v with | .slice a n k => ⟨a, n, k⟩ | _ => default), by simp [hl], ?_⟩
  rw [List.map_map]
  apply List.ext_getElem (by simp)
  intro i h1 h2
  rw [List.getElem_map]
  obtain ⟨a, cap, he, -⟩ := hb i (by omega)
  rw [nth_get vs i h1] at he
  simp [he]
theorem Parts.toS {w : World} {v : Value} {ls : List (List UInt8)} (h : Parts w v ls) : PartsS w v ls := by
  obtain ⟨vs, h1, h2, h3⟩ := h
  obtain ⟨ss, h4, rfl⟩ := parts_sl h1 h3
  have hn : ∀ j, j < ss.length → nth (ss.map slv) j = slv (nth ss j) := fun j hj => nth_of _ _ _ (by rw [List.getElem?_map, List.getElem?_eq_getElem hj, nth_get ss j hj]; rfl)
  refine ⟨ss, h4, ?_, fun j hj => by rw [← hn j (by omega)]; exact h3 j hj⟩
  obtain ⟨a, cap, rfl, g1, g2, g3⟩ := h2
  refine ⟨a, cap, by simp, by simpa using g1, g2, fun hne => ?_⟩
  obtain ⟨b, off, rfl, hc⟩ := g3 (by simpa using hne)
  exact ⟨b, off, rfl, fun j hj => by have := hc j (by simpa using hj); rw [hn j hj] at this; exact this⟩
def endsOf (L : List (List UInt8)) : List Int := (List.range L.length).map fun i => (endAt L (i + 1) : Int)
theorem endsOf_len (L : List (List UInt8)) : (endsOf L).length = L.length := by simp [endsOf]
theorem endsOf_nth (L : List (List UInt8)) (j : Nat) (h : j < L.length) : nth (endsOf L) j = (endAt L (j + 1) : Int) := nth_of _ _ _ (by simp [endsOf, h])
theorem endsOf_snoc (L : List (List UInt8)) (p : List UInt8) : endsOf (L ++ [p]) = endsOf L ++ [((framesOf L ++ frameOf p).length : Int)] := by
  unfold endsOf
  rw [List.length_append, List.length_singleton, List.range_succ, List.map_append, List.map_singleton]
  congr 1
  · apply List.map_congr_left
    intro i hi
    rw [List.mem_range] at hi
    unfold endAt
    rw [List.take_append_of_le_length (by omega)]
  · rw [endAt_all _ _ (by simp), framesOf_snoc]
theorem framesOf_le (L : List (List UInt8)) (h : ∀ p ∈ L, Fit p) : (framesOf L).length ≤ L.length * 262152 := by
  induction L with
  | nil => simp [framesOf]
  | cons p L ih =>
    have h1 := ih (fun q hq => h q (by simp [hq]))
    have h2 := (h p (by simp)).2
    simp only [framesOf, List.flatMap_cons, List.length_append, frameOf_len, List.length_cons] at h1 ⊢
    omega
theorem putF_fit (b p : List UInt8) (h : Fit p) : putF b p = b ++ frameOf p := if_neg (by have := h.1; have := h.2; omega)
theorem putF_no (b p : List UInt8) (h : ¬ Fit p) : putF b p = b := if_pos (by unfold Fit at h; omega)
theorem infoInt8 : (Try.prog.info? 3).map (fun i => (i.zero, i.size, i.bytes)) = some (some (.int .i64 0), 1, 8) := by kernel_rfl
theorem sizeSl : (Try.prog.info? 22).map (·.size) = some 1 := by kernel_rfl
set_option maxHeartbeats 8000000 in
theorem frameBack_any (w : World) (v : Value) (ls : List (List UInt8)) (h : Parts w v ls) (hz : ∀ i, i < ls.length → (nth ls i).length ≤ 140737488351232) (cut : Int) (hcut : I64 cut) :
    Calls Try.prog 6 #[v, iv cut] w fun e w' => e = .returned (.bool true) ∧ Upd [] w w' := by
  obtain ⟨ss, hsl, ⟨a, cap, rfl, hlc, hm, hcell⟩, hb⟩ := h.toS
  rw [hsl]
  have hlen : ls.length ≤ 9223372036854775807 := by unfold maxLen at hm; omega
  have HC := Lib.hid hcell
  have HB := Lib.hid hb
  have HZ := Lib.hid hz
  have HSL := Lib.hid hsl
  clear hm hlc hcell hb hz h hsl
  go_enter Try.func6, Try.ntmps6
  go_wp2_with fail
  go_loopw [5, 6, 7, 8, 9] (fun b en kp i n wr => ∃ (k : Nat) (L : List (List UInt8)) (ks : List Sl), i = .int .i64 (k : Int) ∧ k ≤ ls.length ∧ k ≤ 20 ∧ L.length ≤ k ∧ ks.length = L.length ∧ Hid (∀ p ∈ L, Fit p) ∧ Hid (Own bv w.heap.size 5 wr b (framesOf L)) ∧ Hid (Own iv w.heap.size 3 wr en (endsOf L)) ∧ Hid (Own slv w.heap.size 22 wr kp ks) ∧ Hid (∀ j, j < L.length → Bytes w (slv (nth ks j)) (nth L j)) ∧ Hid (Upd [] w wr)) (fun _ _ _ i _ _ => ls.length - (intOf i).toNat)
  case atStart => exact ⟨0, [], [], rfl, Nat.zero_le _, Nat.zero_le _, Nat.le_refl _, rfl, fun p hp => by simp at hp, Own.nil _ _ _, Own.nil _ _ _, Own.nil _ _ _, fun j hj => by simp at hj, Upd.refl _ _⟩
  case round =>
    obtain ⟨k, L, ks, rfl, hk, hk20, hLk, hks, hfit, hob, hoe, hok, hbk, hu⟩ := hrel
    obtain ⟨ab, cb, rfl, -⟩ := hob.out.rd
    obtain ⟨ae, ce, rfl, -⟩ := hoe.out.rd
    obtain ⟨ak, ck, rfl, hkc, -⟩ := hok.out.rd
    rw [endsOf_len, hks]
    rw [endsOf_len] at hoe
    rw [hks] at hok hkc
    have hBL : (framesOf L).length ≤ 6000000 := by have := framesOf_le L hfit.out; omega
    by_cases hlt : k < ls.length ∧ k < 20
    · obtain ⟨hl1, hl2⟩ := hlt
      obtain ⟨pb, po, rfl, hc⟩ := HC.out (by intro h; have := HSL.out; simp [h] at this; omega)
      have HCK := Lib.hid (hc k (by have := HSL.out; omega))
      have HPK := Lib.hid ((HB.out k hl1))
      have hzk := HZ.out k hl1
      generalize nth ls k = pk at *
      generalize nth ss k = sk at *
      clear hc
      obtain ⟨sa, sn, sk⟩ := sk
      obtain ⟨_, _, he, -⟩ := HPK.out
      obtain ⟨rfl, rfl, rfl⟩ := Value.slice.inj he
      clear he
      have hck : wr.cell? ⟨pb, po + k, none⟩ = some (.slice sa pk.length sk) := hu.out.cell HCK.out (by simp)
      obtain ⟨B, HBD⟩ : ∃ B, Hid (framesOf L = B) := ⟨_, rfl⟩
      obtain ⟨E, HED⟩ : ∃ E, Hid (endsOf L = E) := ⟨_, rfl⟩
      have HSN := Lib.hid (framesOf_snoc L pk)
      have HEN := Lib.hid (endsOf_snoc L pk)
      have HEL := Lib.hid (endsOf_len L)
      rw [HBD.out] at hob hBL HEN HSN
      rw [HED.out] at hoe HEN HEL
      simp only [HBD.out]
      by_cases hf : Fit pk
      · have HPF := Lib.hid (putF_fit B pk hf)
        have hlB : (B ++ frameOf pk).length = B.length + (8 + pk.length) := by rw [List.length_append, frameOf_len]
        have hpk2 := hf.2
        have HFit : Hid (∀ p ∈ L ++ [pk], Fit p) := fun p hp => by
          rcases List.mem_append.1 hp with h | h
          · exact hfit.out p h
          · simp at h; subst h; exact hf
        have HBK : Hid (∀ j, j < (L ++ [pk]).length → Bytes w (slv (nth (ks ++ [⟨sa, pk.length, sk⟩]) j)) (nth (L ++ [pk]) j)) := fun j hj => by
          rw [List.length_append, List.length_singleton] at hj
          by_cases hlt : j < L.length
          · rw [nth_append_left _ _ _ (by omega), nth_append_left _ _ _ hlt]; exact hbk.out j hlt
          · obtain rfl : j = L.length := by omega
            rw [nth_append_right _ _ _ (by omega), nth_append_right _ _ _ (Nat.le_refl _), hks, Nat.sub_self]; exact HPK.out
        go_wp2_with fail
        refine (fPut_any _ _ B pk _ hob.out.rd (HPK.out.upd0 hu.out) (by omega) hzk).mono ?_
        rintro e w1 ⟨x1, rfl, ho1, hu1⟩
        rw [HPF.out] at ho1
        have HSN2 := Lib.hid HSN.out
        generalize B ++ frameOf pk = B2 at *
        obtain ⟨a1, c1, rfl, -⟩ := ho1.rd
        have HO1 := Lib.hid (ho1.base_le hu.out.size)
        have HE1 := Lib.hid (hoe.out.upd hu1 (by simp))
        have HK1 := Lib.hid (hok.out.upd hu1 (by simp))
        have HU1 := Lib.hid (hu.out.seq hu1)
        have hs1 := HU1.out.size
        have hlt2 : (B.length : Int) < B2.length := by omega
        have HLB := Lib.hid hlB
        have HLIT := Lib.hid (Rd.lit (w := w1) (c := iv) [(B2.length : Int)] (C := #[.int .i64 (B2.length : Int)]) (e := 3) (fr := (0, 0)) (g := w1.heap.size) (n := 1) (k := 1) rfl rfl rfl (Nat.le_refl _) (by decide))
        clear ho1 hu1 hob hoe hok hu hlB hck
        go_wp2_with (first
          | (at_builtin; refine wpList_app (fun _ => rfl) rfl (.tmp 37) (.tmp 40) rfl Try.underlying38 infoInt8 rfl (.slice ae L.length ce) (.slice (some ⟨w1.heap.size, 0, none⟩) 1 1) E [(B2.length : Int)] rfl rfl (HE1.out.upd ((Upd.refl [] w1).alloc _) (by simp)) HLIT.out (by have := HEL.out; simp; omega) (by have := HEL.out; unfold maxLen; simp; omega) (by simp; omega) ?_; intro v3 w3 ho3 hu3 hbk3; have HU3 : Hid (Upd [] w w3) := (HU1.out.alloc _).trans hu3 (by simp) (fun x hx => .inr (HE1.out.ge x hx).1); have HE3 := Lib.hid ho3; have HO3 := Lib.hid ((HO1.out.upd ((Upd.refl [] w1).alloc _) (by simp)).upd hu3 (Own.ne HO1.out HE1.out (by decide))); have HK3 := Lib.hid ((HK1.out.upd ((Upd.refl [] w1).alloc _) (by simp)).upd hu3 (Own.ne HK1.out HE1.out (by decide))); have hck3 : w3.cell? ⟨pb, po + k, none⟩ = some (.slice sa pk.length sk) := HU3.out.cell HCK.out (by simp); have HLIT3 := Lib.hid (Rd.lit (w := w3) (c := slv) [⟨sa, pk.length, sk⟩] (C := #[.slice sa pk.length sk]) (e := 22) (fr := (0, 0)) (g := w3.heap.size) (n := 1) (k := 1) rfl rfl rfl (Nat.le_refl _) (by decide)); have hs3 := HU3.out.size; clear ho3 hu3 hbk3)
          | (at_builtin; refine wpList_app slv_one rfl (.tmp 42) (.tmp 47) rfl Try.underlying27 infoSl rfl (.slice ak L.length ck) (.slice (some ⟨w3.heap.size, 0, none⟩) 1 1) ks [⟨sa, pk.length, sk⟩] rfl rfl (HK3.out.upd ((Upd.refl [] w3).alloc _) (by simp)) HLIT3.out (by simp; omega) (by unfold maxLen; simp; omega) (by simp; omega) ?_; intro v4 w4 ho4 hu4 hbk4; have HU4 : Hid (Upd [] w w4) := (HU3.out.alloc _).trans hu4 (by simp) (fun x hx => .inr (HK3.out.ge x hx).1); have HK4 := Lib.hid ho4; have HE4 := Lib.hid ((HE3.out.upd ((Upd.refl [] w3).alloc _) (by simp)).upd hu4 (Own.ne HE3.out HK3.out (by decide))); have HO4 := Lib.hid ((HO3.out.upd ((Upd.refl [] w3).alloc _) (by simp)).upd hu4 (Own.ne HO3.out HK3.out (by decide))); clear ho4 hu4 hbk4))
        go_roundw
        case rel => exact ⟨k + 1, L ++ [pk], ks ++ [⟨sa, pk.length, sk⟩], by go_num, by omega, by omega, by simp; omega, by simp [hks], HFit, by rw [HSN2.out]; exact HO4, by rw [HEN.out]; exact HE4, HK4, HBK, HU4⟩
        case measure => simp [intOf]; omega
      · have HPF := Lib.hid (putF_no B pk hf)
        clear hf HEN HSN
        go_wp2_with fail
        refine (fPut_any _ _ B pk _ hob.out.rd (HPK.out.upd0 hu.out) (by omega) hzk).mono ?_
        rintro e w1 ⟨x1, rfl, ho1, hu1⟩
        rw [HPF.out] at ho1
        obtain ⟨a1, c1, rfl, -⟩ := ho1.rd
        have HO1 := Lib.hid (ho1.base_le hu.out.size)
        have HE1 := Lib.hid (hoe.out.upd hu1 (by simp))
        have HK1 := Lib.hid (hok.out.upd hu1 (by simp))
        have HU1 := Lib.hid (hu.out.seq hu1)
        clear ho1 hu1 hob hoe hok hu
        go_wp2_with fail
        go_roundw
        case rel => exact ⟨k + 1, L, ks, by go_num, by omega, by omega, by omega, hks, hfit, by rw [HBD.out]; exact HO1, by rw [HED.out]; exact HE1, HK1, hbk, HU1⟩
        case measure => simp [intOf]; omega
    · -- THE FIRST LOOP IS LEFT
      have HSN0 := Lib.hid (scan_cut L hfit.out)
      have HSL2 := Lib.hid (hbk.out)
      have HEN := Lib.hid (fun j (hj : j < L.length) => endsOf_nth L j hj)
      have hEL := endsOf_len L
      have hLmax : L.length ≤ 20 := by omega
      have hckm : (L.length : Int) ≤ ck := by omega
      have HE0 : Hid (endAt L 0 = 0) := by unfold Hid endAt; simp [framesOf]
      obtain ⟨B, HBD⟩ : ∃ B, Hid (framesOf L = B) := ⟨_, rfl⟩
      rw [HBD.out] at hBL hob HSN0
      simp only [HBD.out]
      obtain ⟨hw1, hw2⟩ := within_in cut 0 (B.length : Int) (by omega)
      have HWK := Lib.hid (Int.toNat_of_nonneg hw1)
      have hkkB : (within cut 0 (B.length : Int)).toNat ≤ B.length := by omega
      generalize (within cut 0 (B.length : Int)).toNat = kk at HWK hkkB
      have hcbB : B.length ≤ cb := by obtain ⟨_, _, he, h1, _⟩ := hob.out.rd; obtain ⟨-, -, rfl⟩ := Value.slice.inj he; exact h1
      clear hw1 hw2 hbk HC HB HZ HSL
      have HEL := Lib.hid hEL
      have HLs := Lib.hid hks
      clear hEL hks
      have hx : ¬ (k : Int) < ls.length ∨ ((k : Int) < ls.length ∧ ¬ (k : Int) < 20) := by omega
      clear hlt
      rcases hx with hx | ⟨hx, hx2⟩
      · go_wp2_with fail
        refine (within_any _ _ _ _ hcut (by omega) (by omega) (by omega)).mono ?_
        rintro e w' ⟨rfl, rfl⟩
        rw [← HWK.out]
        go_wp2_with fail
        go_loop [11] (fun i => ∃ n : Nat, i = .int .i64 (n : Int) ∧ n ≤ L.length ∧ endAt L n ≤ kk) (fun i => L.length - (intOf i).toNat)
        case atStart => exact ⟨0, rfl, Nat.zero_le _, by rw [HE0.out]; exact Nat.zero_le _⟩
        case round =>
          obtain ⟨n, rfl, hn, hen⟩ := hrel
          have HBT := Lib.hid (hob.out.rd.take kk hkkB)
          have q4 : (kk : Int) ≤ cb := by omega
          have q5 : (n : Int) ≤ ck := by omega
          have hcn := fun W => run_cut_h (P := Try.prog) Try.underlying27 sizeSl ak L.length ck n (by omega) W
          by_cases hnl : n < L.length
          · obtain ⟨be, oe, he, hcm⟩ := hoe.out.rd.at_ n (by have := HEL.out; omega)
            rw [HEN.out n (by omega)] at hcm
            cases he
            by_cases hle : endAt L (n + 1) ≤ kk
            · have HLE := Lib.hid hle
              obtain ⟨en, HEQ⟩ : ∃ en, Hid (endAt L (n + 1) = en) := ⟨_, rfl⟩
              rw [HEQ.out] at hle hcm
              go_wp2_with fail
              go_round
              case rel => exact ⟨n + 1, by go_num, by omega, HLE.out⟩
              case measure => simp [intOf]; omega
            · have HSC := Lib.hid (HSN0.out kk n hkkB hn hen (fun _ => by omega))
              obtain ⟨en, HEQ⟩ : ∃ en, Hid (endAt L (n + 1) = en) := ⟨_, rfl⟩
              rw [HEQ.out] at hle hcm
              go_wp2_with fail
              refine (fScan_eq _ _ _ _ HSC.out HBT.out (by rw [List.length_take]; omega)).mono ?_
              rintro e w6 ⟨u6, rfl, ho6, hu6⟩
              have HU6 := Lib.hid (hu.out.seq hu6)
              obtain ⟨a6, c6, hv6⟩ := ho6.form
              have htl : (L.take n).length = n := by rw [List.length_take]; omega
              dsimp only at hv6
              rw [htl] at hv6
              subst hv6
              clear htl
              have HQ6 := Lib.hid ho6.rd
              have HKP : Hid (PartsS w6 (.slice ak n ck) (L.take n)) := by
                obtain ⟨a', cap', he, h1, h2, h3⟩ := hok.out.rd
                obtain ⟨rfl, -, rfl⟩ := Value.slice.inj he
                refine ⟨ks.take n, by have := HLs.out; rw [List.length_take, List.length_take]; omega, ?_, fun j hj => ?_⟩
                · have hh := (hok.out.rd.upd0 hu6).take n (by have := HLs.out; omega)
                  exact hh
                · rw [List.length_take] at hj
                  rw [nth_take _ _ _ (by omega), nth_take _ _ _ (by omega)]
                  exact (HSL2.out j (by omega)).upd0 HU6.out
              have hoe6 := hoe.out.upd hu6 (by simp)
              dsimp only
              rcases Nat.eq_zero_or_pos n with h0 | h0
              · subst h0
                rw [HE0.out] at *
                clear HSC hoe6
                go_wp2_with fail
                with_reducible refine (lists_ok _ _ (L.take 0) _ HQ6.out HKP.out).mono ?_
                rintro e w7 ⟨rfl, hu7⟩
                go_wp2_with fail
                refine (frameRuns_any _).mono ?_
                rintro e w9 ⟨rfl, hu9⟩
                have HU9 := Lib.hid (HU6.out.seq (hu7.seq hu9))
                clear hu9 hu7
                go_wp2_with fail
                go_ret
                exact ⟨rfl, HU9.out⟩
              · obtain ⟨m, rfl⟩ : ∃ m, n = m + 1 := ⟨n - 1, by omega⟩
                obtain ⟨be, oe, he, hcm⟩ := hoe6.rd.at_ m (by have := HEL.out; omega)
                rw [HEN.out m (by omega)] at hcm
                cases he
                have q1 : ((m + 1 : Nat) : Int) = (m : Int) + 1 := by omega
                have q2 : (0 : Int) ≤ m := by omega
                have q3 : (m : Int) < L.length := by omega
                clear hoe6 HSC
                generalize endAt L (m + 1) = en at *
                go_wp2_with fail
                with_reducible refine (lists_ok _ _ (L.take (m + 1)) _ HQ6.out HKP.out).mono ?_
                rintro e w7 ⟨rfl, hu7⟩
                go_wp2_with fail
                refine (frameRuns_any _).mono ?_
                rintro e w9 ⟨rfl, hu9⟩
                have HU9 := Lib.hid (HU6.out.seq (hu7.seq hu9))
                clear hu9 hu7
                go_wp2_with fail
                go_ret
                exact ⟨rfl, HU9.out⟩
          · have HSC := Lib.hid (HSN0.out kk n hkkB hn hen (fun h => absurd h hnl))
            go_wp2_with fail
            refine (fScan_eq _ _ _ _ HSC.out HBT.out (by rw [List.length_take]; omega)).mono ?_
            rintro e w6 ⟨u6, rfl, ho6, hu6⟩
            have HU6 := Lib.hid (hu.out.seq hu6)
            obtain ⟨a6, c6, hv6⟩ := ho6.form
            have htl : (L.take n).length = n := by rw [List.length_take]; omega
            dsimp only at hv6
            rw [htl] at hv6
            subst hv6
            clear htl
            have HQ6 := Lib.hid ho6.rd
            have HKP : Hid (PartsS w6 (.slice ak n ck) (L.take n)) := by
              obtain ⟨a', cap', he, h1, h2, h3⟩ := hok.out.rd
              obtain ⟨rfl, -, rfl⟩ := Value.slice.inj he
              refine ⟨ks.take n, by have := HLs.out; rw [List.length_take, List.length_take]; omega, ?_, fun j hj => ?_⟩
              · have hh := (hok.out.rd.upd0 hu6).take n (by have := HLs.out; omega)
                exact hh
              · rw [List.length_take] at hj
                rw [nth_take _ _ _ (by omega), nth_take _ _ _ (by omega)]
                exact (HSL2.out j (by omega)).upd0 HU6.out
            have hoe6 := hoe.out.upd hu6 (by simp)
            dsimp only
            rcases Nat.eq_zero_or_pos n with h0 | h0
            · subst h0
              rw [HE0.out] at *
              clear HSC hoe6
              go_wp2_with fail
              with_reducible refine (lists_ok _ _ (L.take 0) _ HQ6.out HKP.out).mono ?_
              rintro e w7 ⟨rfl, hu7⟩
              go_wp2_with fail
              refine (frameRuns_any _).mono ?_
              rintro e w9 ⟨rfl, hu9⟩
              have HU9 := Lib.hid (HU6.out.seq (hu7.seq hu9))
              clear hu9 hu7
              go_wp2_with fail
              go_ret
              exact ⟨rfl, HU9.out⟩
            · obtain ⟨m, rfl⟩ : ∃ m, n = m + 1 := ⟨n - 1, by omega⟩
              obtain ⟨be, oe, he, hcm⟩ := hoe6.rd.at_ m (by have := HEL.out; omega)
              rw [HEN.out m (by omega)] at hcm
              cases he
              have q1 : ((m + 1 : Nat) : Int) = (m : Int) + 1 := by omega
              have q2 : (0 : Int) ≤ m := by omega
              have q3 : (m : Int) < L.length := by omega
              clear hoe6 HSC
              generalize endAt L (m + 1) = en at *
              go_wp2_with fail
              with_reducible refine (lists_ok _ _ (L.take (m + 1)) _ HQ6.out HKP.out).mono ?_
              rintro e w7 ⟨rfl, hu7⟩
              go_wp2_with fail
              refine (frameRuns_any _).mono ?_
              rintro e w9 ⟨rfl, hu9⟩
              have HU9 := Lib.hid (HU6.out.seq (hu7.seq hu9))
              clear hu9 hu7
              go_wp2_with fail
              go_ret
              exact ⟨rfl, HU9.out⟩
      · go_wp2_with fail
        refine (within_any _ _ _ _ hcut (by omega) (by omega) (by omega)).mono ?_
        rintro e w' ⟨rfl, rfl⟩
        rw [← HWK.out]
        go_wp2_with fail
        go_loop [11] (fun i => ∃ n : Nat, i = .int .i64 (n : Int) ∧ n ≤ L.length ∧ endAt L n ≤ kk) (fun i => L.length - (intOf i).toNat)
        case atStart => exact ⟨0, rfl, Nat.zero_le _, by rw [HE0.out]; exact Nat.zero_le _⟩
        case round =>
          obtain ⟨n, rfl, hn, hen⟩ := hrel
          have HBT := Lib.hid (hob.out.rd.take kk hkkB)
          have q4 : (kk : Int) ≤ cb := by omega
          have q5 : (n : Int) ≤ ck := by omega
          have hcn := fun W => run_cut_h (P := Try.prog) Try.underlying27 sizeSl ak L.length ck n (by omega) W
          by_cases hnl : n < L.length
          · obtain ⟨be, oe, he, hcm⟩ := hoe.out.rd.at_ n (by have := HEL.out; omega)
            rw [HEN.out n (by omega)] at hcm
            cases he
            by_cases hle : endAt L (n + 1) ≤ kk
            · have HLE := Lib.hid hle
              obtain ⟨en, HEQ⟩ : ∃ en, Hid (endAt L (n + 1) = en) := ⟨_, rfl⟩
              rw [HEQ.out] at hle hcm
              go_wp2_with fail
              go_round
              case rel => exact ⟨n + 1, by go_num, by omega, HLE.out⟩
              case measure => simp [intOf]; omega
            · have HSC := Lib.hid (HSN0.out kk n hkkB hn hen (fun _ => by omega))
              obtain ⟨en, HEQ⟩ : ∃ en, Hid (endAt L (n + 1) = en) := ⟨_, rfl⟩
              rw [HEQ.out] at hle hcm
              go_wp2_with fail
              refine (fScan_eq _ _ _ _ HSC.out HBT.out (by rw [List.length_take]; omega)).mono ?_
              rintro e w6 ⟨u6, rfl, ho6, hu6⟩
              have HU6 := Lib.hid (hu.out.seq hu6)
              obtain ⟨a6, c6, hv6⟩ := ho6.form
              have htl : (L.take n).length = n := by rw [List.length_take]; omega
              dsimp only at hv6
              rw [htl] at hv6
              subst hv6
              clear htl
              have HQ6 := Lib.hid ho6.rd
              have HKP : Hid (PartsS w6 (.slice ak n ck) (L.take n)) := by
                obtain ⟨a', cap', he, h1, h2, h3⟩ := hok.out.rd
                obtain ⟨rfl, -, rfl⟩ := Value.slice.inj he
                refine ⟨ks.take n, by have := HLs.out; rw [List.length_take, List.length_take]; omega, ?_, fun j hj => ?_⟩
                · have hh := (hok.out.rd.upd0 hu6).take n (by have := HLs.out; omega)
                  exact hh
                · rw [List.length_take] at hj
                  rw [nth_take _ _ _ (by omega), nth_take _ _ _ (by omega)]
                  exact (HSL2.out j (by omega)).upd0 HU6.out
              have hoe6 := hoe.out.upd hu6 (by simp)
              dsimp only
              rcases Nat.eq_zero_or_pos n with h0 | h0
              · subst h0
                rw [HE0.out] at *
                clear HSC hoe6
                go_wp2_with fail
                with_reducible refine (lists_ok _ _ (L.take 0) _ HQ6.out HKP.out).mono ?_
                rintro e w7 ⟨rfl, hu7⟩
                go_wp2_with fail
                refine (frameRuns_any _).mono ?_
                rintro e w9 ⟨rfl, hu9⟩
                have HU9 := Lib.hid (HU6.out.seq (hu7.seq hu9))
                clear hu9 hu7
                go_wp2_with fail
                go_ret
                exact ⟨rfl, HU9.out⟩
              · obtain ⟨m, rfl⟩ : ∃ m, n = m + 1 := ⟨n - 1, by omega⟩
                obtain ⟨be, oe, he, hcm⟩ := hoe6.rd.at_ m (by have := HEL.out; omega)
                rw [HEN.out m (by omega)] at hcm
                cases he
                have q1 : ((m + 1 : Nat) : Int) = (m : Int) + 1 := by omega
                have q2 : (0 : Int) ≤ m := by omega
                have q3 : (m : Int) < L.length := by omega
                clear hoe6 HSC
                generalize endAt L (m + 1) = en at *
                go_wp2_with fail
                with_reducible refine (lists_ok _ _ (L.take (m + 1)) _ HQ6.out HKP.out).mono ?_
                rintro e w7 ⟨rfl, hu7⟩
                go_wp2_with fail
                refine (frameRuns_any _).mono ?_
                rintro e w9 ⟨rfl, hu9⟩
                have HU9 := Lib.hid (HU6.out.seq (hu7.seq hu9))
                clear hu9 hu7
                go_wp2_with fail
                go_ret
                exact ⟨rfl, HU9.out⟩
          · have HSC := Lib.hid (HSN0.out kk n hkkB hn hen (fun h => absurd h hnl))
            go_wp2_with fail
            refine (fScan_eq _ _ _ _ HSC.out HBT.out (by rw [List.length_take]; omega)).mono ?_
            rintro e w6 ⟨u6, rfl, ho6, hu6⟩
            have HU6 := Lib.hid (hu.out.seq hu6)
            obtain ⟨a6, c6, hv6⟩ := ho6.form
            have htl : (L.take n).length = n := by rw [List.length_take]; omega
            dsimp only at hv6
            rw [htl] at hv6
            subst hv6
            clear htl
            have HQ6 := Lib.hid ho6.rd
            have HKP : Hid (PartsS w6 (.slice ak n ck) (L.take n)) := by
              obtain ⟨a', cap', he, h1, h2, h3⟩ := hok.out.rd
              obtain ⟨rfl, -, rfl⟩ := Value.slice.inj he
              refine ⟨ks.take n, by have := HLs.out; rw [List.length_take, List.length_take]; omega, ?_, fun j hj => ?_⟩
              · have hh := (hok.out.rd.upd0 hu6).take n (by have := HLs.out; omega)
                exact hh
              · rw [List.length_take] at hj
                rw [nth_take _ _ _ (by omega), nth_take _ _ _ (by omega)]
                exact (HSL2.out j (by omega)).upd0 HU6.out
            have hoe6 := hoe.out.upd hu6 (by simp)
            dsimp only
            rcases Nat.eq_zero_or_pos n with h0 | h0
            · subst h0
              rw [HE0.out] at *
              clear HSC hoe6
              go_wp2_with fail
              with_reducible refine (lists_ok _ _ (L.take 0) _ HQ6.out HKP.out).mono ?_
              rintro e w7 ⟨rfl, hu7⟩
              go_wp2_with fail
              refine (frameRuns_any _).mono ?_
              rintro e w9 ⟨rfl, hu9⟩
              have HU9 := Lib.hid (HU6.out.seq (hu7.seq hu9))
              clear hu9 hu7
              go_wp2_with fail
              go_ret
              exact ⟨rfl, HU9.out⟩
            · obtain ⟨m, rfl⟩ : ∃ m, n = m + 1 := ⟨n - 1, by omega⟩
              obtain ⟨be, oe, he, hcm⟩ := hoe6.rd.at_ m (by have := HEL.out; omega)
              rw [HEN.out m (by omega)] at hcm
              cases he
              have q1 : ((m + 1 : Nat) : Int) = (m : Int) + 1 := by omega
              have q2 : (0 : Int) ≤ m := by omega
              have q3 : (m : Int) < L.length := by omega
              clear hoe6 HSC
              generalize endAt L (m + 1) = en at *
              go_wp2_with fail
              with_reducible refine (lists_ok _ _ (L.take (m + 1)) _ HQ6.out HKP.out).mono ?_
              rintro e w7 ⟨rfl, hu7⟩
              go_wp2_with fail
              refine (frameRuns_any _).mono ?_
              rintro e w9 ⟨rfl, hu9⟩
              have HU9 := Lib.hid (HU6.out.seq (hu7.seq hu9))
              clear hu9 hu7
              go_wp2_with fail
              go_ret
              exact ⟨rfl, HU9.out⟩
end Go.Proofs.Ythnmlifnlmdelaa
