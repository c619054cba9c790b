/- The walk of TableRises. -/
import Derived.Test.YtjomecimbofnfaaTabII9
import Derived.Test.YtjomecimbofnfaaTabLaw
import Derived.Test.YtjomecimbofnfaaTableRuns
import Derived.Test.YtjomecimbofnfaaQuiet
namespace Go.Proofs.Ytjomecimbofnfaa
open Go.RowKit
set_option linter.unusedSimpArgs false
set_option linter.unusedVariables false
abbrev ask4Cells (a : Int × Int × Int) : List Value := [iv a.1, iv a.2.1, iv a.2.2]
theorem i64_n (n : Nat) (h : n ≤ 1000000000) : I64 (n : Int) := ⟨by omega, by omega⟩
def Ask464 (a : Int × Int × Int) : Prop := I64 a.1 ∧ I64 a.2.1 ∧ I64 a.2.2
set_option maxRecDepth 20000 in
set_option maxHeartbeats 4000000 in
theorem tableRises_any (w : World) (v : Value) (asks : List (Int × Int × Int)) (hl : ∀ a ∈ asks, Ask464 a) (h : RdN 3 ask4Cells w v asks) (kk : Int) (hkk : I64 kk) :
    Calls Try.prog 10 #[v, .int .i64 kk] w fun e w' => e = .returned (.bool true) ∧ Upd [] w w' := by
  obtain ⟨a, cap, rfl, hlc, hcm, hcell⟩ := h
  have hm' : asks.length ≤ 9223372036854775807 := by unfold maxLen at hcm; omega
  have HC := Lib.hid hcell
  have HL := Lib.hid hl
  have HKK := Lib.hid hkk
  clear hlc hcm hcell hl hkk
  go_enter Try.func10, Try.ntmps10
  go_wp2_with fail
  (with_reducible refine (txII_New w _ (Upd.refl [] w)).mono ?_)
  rintro e w1 ⟨g, F1, rfl, hs1, hu1, -⟩
  have HS1 := Lib.hid hs1
  clear hs1 hu1
  go_wp2_with fail
  go_loopw [6] (fun i wr => ∃ (k : Nat) (F : List Nat) (l : List (Int × Int)), k ≤ 200 ∧ k ≤ asks.length ∧ i = .int .i64 k ∧ l.length ≤ k ∧ Hid (TXII w wr g F l) ∧ Hid (∀ p ∈ l, I64 p.1)) (fun i _ => 200 - (intOf i).toNat)
  case atStart => exact ⟨0, F1, [], by omega, by omega, rfl, by simp, HS1, by intro p hp; simp at hp⟩
  case round =>
    obtain ⟨k, F, l, hk, hkl, rfl, hlk, hs, hmem⟩ := hrel
    clear HS1
    have hend : (k < asks.length ∧ k < 200) ∨ (k = asks.length ∧ Hid (k ≤ 200)) ∨ (k = 200 ∧ k < asks.length) := by unfold Hid; omega
    rcases hend with ⟨hlt, h2⟩ | hend
    · obtain ⟨b, off, rfl, hc⟩ := HC.out (by intro h; simp [h] at hlt)
      have hu := hs.out.old
      have c0 : wr.cell? ⟨b, off + k * 3, none⟩ = some (iv (nth asks k).1) := hu.cell (hc k hlt 0 (by omega)) (by simp)
      have c1 : wr.cell? ⟨b, off + k * 3 + 1, none⟩ = some (iv (nth asks k).2.1) := hu.cell (hc k hlt 1 (by omega)) (by simp)
      have c2 : wr.cell? ⟨b, off + k * 3 + 2, none⟩ = some (iv (nth asks k).2.2) := hu.cell (hc k hlt 2 (by omega)) (by simp)
      obtain ⟨k0, k1, k2⟩ := HL.out (nth asks k) (by rw [nth_get asks k hlt]; exact List.getElem_mem hlt)
      have K1 := Lib.hid k1
      generalize (nth asks k).1 = kd at *
      generalize (nth asks k).2.1 = ak at *
      generalize (nth asks k).2.2 = av at *
      have q1 : (k : Int) < asks.length := by omega
      have q2 : (k : Int) < 200 := by omega
      have hlen : l.length ≤ 100000 := by omega
      clear hc k1 k2 hu
      by_cases hkd : kd = 3
      · subst hkd
        have HD := tDel_len (lt := ltII) l ak
        have HX := Lib.hid HD
        have HMM : Hid (∀ p ∈ tDel ltII l ak, I64 p.1) := fun p hp => hmem.out p (tDel_mem l ak p hp)
        clear HD
        go_wp2_with fail
        (with_reducible refine (txII_Del ak _ _ hs.out hlen K1.out rfl rfl).mono ?_)
        rintro e w2 ⟨rfl, F2, hs2, -, -⟩
        have HS2 := Lib.hid hs2
        clear hs2
        go_wp2_with fail
        go_roundw
        case rel => exact ⟨k + 1, F2, _, by omega, by omega, by go_num, by have := HX.out; omega, HS2, HMM⟩
        case measure => simp [intOf]; omega
      · have t1 : (kd == 3) = false := by simpa using hkd
        have HD := tSet_len (lt := ltII) l ak av
        have HX := Lib.hid HD
        have HMM : Hid (∀ p ∈ tSet ltII l ak av, I64 p.1) := fun p hp => by
          rcases tSet_mem l ak av p hp with rfl | q
          · exact K1.out
          · exact hmem.out p q
        clear HD hkd
        go_wp2_with fail
        go_still_tail 11, (by kernel_rfl)
        change wpList _ _ _ _ _ wr.drew
        have HSd := Lib.hid (hs.out.upd0 ((Upd.refl [] _).drew))
        go_wp2_with fail
        (with_reducible refine (txII_Set ak av _ _ HSd.out hlen K1.out rfl rfl).mono ?_)
        rintro e w2 ⟨rfl, F2, hs2, -, -⟩
        have HS2 := Lib.hid hs2
        clear hs2
        go_wp2_with fail
        go_roundw
        case rel => exact ⟨k + 1, F2, _, by omega, by omega, by go_num, by have := HX.out; omega, HS2, HMM⟩
        case measure => simp [intOf]; omega
    · have HLEN : Hid (l.length ≤ 100000) := by unfold Hid; omega
      rcases hend with ⟨hend, hend2⟩ | ⟨hend, hend2⟩
      all_goals
        subst hend
        go_wp2_with fail
        (with_reducible refine (txII_Keys _ hs.out HLEN.out rfl).mono ?_)
        rintro e w3 ⟨v3, rfl, ho3, hu3⟩
        have HS3 := Lib.hid (hs.out.upd0 hu3)
        have HO3 := Lib.hid ho3
        obtain ⟨a3, c3, rfl, -, -, hcell3⟩ := ho3.rd
        have hkl : (l.map (·.1)).length = l.length := by simp
        rw [hkl] at hcell3
        have HC3 := Lib.hid hcell3
        rw [hkl]
        have HR3 := Lib.hid HS3.out.ris
        clear ho3 hu3 hcell3 hkl hs HC HL hlk
        go_wp2_with fail
        go_loopw [8, 9] (fun c i wx => ∃ j : Nat, j ≤ l.length ∧ i = .int .i64 j ∧ c = .int .i64 ((min j (below ltII l kk) : Nat) : Int) ∧ Hid (Upd [] w3 wx)) (fun _ i _ => l.length - (intOf i).toNat)
        case atStart => exact ⟨0, Nat.zero_le _, rfl, by rw [Nat.zero_min]; rfl, Upd.refl _ _⟩
        case round =>
          obtain ⟨j, hj, rfl, rfl, hu⟩ := hrel
          have HSr := Lib.hid (HS3.out.upd0 hu.out)
          have hL5 := HLEN.out
          by_cases hlt : j < l.length
          · have HA : Hid (tAt (0 : Int) (0 : Int) l (j : Int) = ((nth l j).1, (nth l j).2, true)) := tAt_at _ _ l j hlt
            have HG : Hid (tGet ltII (0 : Int) l (nth l j).1 = ((nth l j).2, true)) := tGet_at intOrd _ HR3.out j hlt
            have HB : Hid (below ltII l (nth l j).1 = j) := below_at intOrd HR3.out j hlt
            have HM : Hid (min (j + 1) (below ltII l kk) = min j (below ltII l kk) + (if ltII (nth l j).1 kk then 1 else 0)) := min_below intOrd HR3.out kk j hlt
            have HP : Hid (∀ j', j = j' + 1 → (nth l j').1 < (nth l j).1) := fun j' e => by simpa using HR3.out j' j (by omega) hlt
            obtain ⟨b, off, rfl, hc⟩ := HC3.out (by intro h; have h2 := congrArg List.length h; simp at h2; rw [h2] at hlt; simp at hlt)
            have d0 : w3.cell? ⟨b, off + j, none⟩ = some (iv (nth l j).1) := by rw [hc j hlt, nth_keys l j hlt]
            have HDP : Hid (∀ j', j = j' + 1 → w3.cell? ⟨b, off + j', none⟩ = some (iv (nth l j').1)) := fun j' e => by rw [hc j' (by omega), nth_keys l j' (by omega)]
            have HX : Hid (I64 (nth l j).1) := hmem.out _ (nth_mem j hlt)
            clear hc
            generalize (nth l j).1 = x at *
            generalize (nth l j).2 = y at *
            have hcj : min j (below ltII l kk) ≤ j := Nat.min_le_left _ _
            generalize min j (below ltII l kk) = c at *
            have q0 : (0 : Int) ≤ j := by omega
            have q1 : (j : Int) < l.length := by omega
            have d0r := hu.out.cell d0 (by simp)
            go_wp2_with fail
            (with_reducible refine (txII_At (j : Int) x y true (i64_n j (by have := HLEN.out; omega)) HSr.out HLEN.out HA.out).mono ?_)
            rintro e w4 ⟨rfl, hu4⟩
            have HS4 := Lib.hid (HSr.out.upd0 hu4)
            have HU4 := Lib.hid (hu.out.seq hu4)
            have d4 := HU4.out.cell d0 (by simp)
            clear hu4 HSr
            go_wp2_with fail
            (with_reducible refine (txII_Get x y true HS4.out HLEN.out HX.out HG.out).mono ?_)
            rintro e w5 ⟨rfl, hu5⟩
            have HS5 := Lib.hid (HS4.out.upd0 hu5)
            have HU5 := Lib.hid (HU4.out.seq hu5)
            clear hu5 HS4
            have d5 := fun z : Wx w5 => Wx.cell (HU5.out.cell d0 (by simp)) z
            go_wp2_with fail
            have HLE := Lib.hid (fun z : Wx w5 => txII_Least x j (HS5.out.upd0 z.prop) HLEN.out HX.out HB.out)
            have hjj : j = 0 ∨ ∃ j', j = j' + 1 := by cases j with | zero => exact .inl rfl | succ j' => exact .inr ⟨j', rfl⟩
            rcases hjj with h0 | ⟨j', hjj⟩
            · subst h0
              simp only [Nat.add_zero] at d5
              refine wp_region_wx (by kernel_rfl) (by kernel_rfl) ?_
              repeat (go_big_quiet_step (first | (go_at_call 52; exact Wx.upd (HLE.out _)) | fail))
              refine wpQuiet_nil ?_
              rintro _ ⟨z, rfl⟩
              have HU6 := Lib.hid (HU5.out.seq z.prop)
              have d7 := HU6.out.cell d0 (by simp)
              simp only [Nat.add_zero] at d7
              generalize z.val = w6 at *
              by_cases hxk : x < kk
              · have t2 : decide (x < kk) = true := by simpa using hxk
                have HM2 : Hid (min (0 + 1) (below ltII l kk) = c + 1) := by unfold Hid; rw [HM.out]; simp [hxk]
                clear HM
                go_wp2_with fail
                go_roundw
                case rel => exact ⟨0 + 1, by omega, by go_num, by rw [HM2.out]; go_num, HU6⟩
                case measure => simp [intOf]; omega
              · have t2 : decide (x < kk) = false := by simpa using hxk
                have HM2 : Hid (min (0 + 1) (below ltII l kk) = c) := by unfold Hid; rw [HM.out]; simp [hxk]
                clear HM
                go_wp2_with fail
                go_roundw
                case rel => exact ⟨0 + 1, by omega, by go_num, by rw [HM2.out], HU6⟩
                case measure => simp [intOf]; omega
            · have d6 := fun z : Wx w5 => Wx.cell (HU5.out.cell (HDP.out j' hjj) (by simp)) z
              have hlt' := HP.out j' hjj
              generalize (nth l j').1 = x' at *
              subst hjj
              have t1 : decide (x ≤ x') = false := by simp; omega
              have q2 : (0 : Int) ≤ j' := by omega
              have q3 : (j' : Int) < l.length := by omega
              have q4 : (j' : Int) + 1 < l.length := by omega
              have q5 : (0 : Int) ≤ (j' : Int) + 1 := by omega
              have q6 : (0 : Int) < (j' : Int) + 1 := by omega
              have q7 : ((j' : Int) + 1).toNat = j' + 1 := by omega
              have q8 : IntKind.i64.wrap ((j' : Int) + 1 - 1) = j' := by rw [IntKind.wrap_i64]; omega
              have q9 : IntKind.i64.wrap (j' : Int) = j' := by rw [IntKind.wrap_i64]; omega
              refine wp_region_wx (by kernel_rfl) (by kernel_rfl) ?_
              repeat (go_big_quiet_step (first | (go_at_call 52; exact Wx.upd (HLE.out _)) | fail))
              refine wpQuiet_nil ?_
              rintro _ ⟨z, rfl⟩
              have HU6 := Lib.hid (HU5.out.seq z.prop)
              have d7 := HU6.out.cell d0 (by simp)
              generalize z.val = w6 at *
              by_cases hxk : x < kk
              · have t2 : decide (x < kk) = true := by simpa using hxk
                have HM2 : Hid (min ((j' + 1) + 1) (below ltII l kk) = c + 1) := by unfold Hid; rw [HM.out]; simp [hxk]
                clear HM
                go_wp2_with fail
                go_roundw
                case rel => exact ⟨(j' + 1) + 1, by omega, by go_num, by rw [HM2.out]; go_num, HU6⟩
                case measure => simp [intOf]; omega
              · have t2 : decide (x < kk) = false := by simpa using hxk
                have HM2 : Hid (min ((j' + 1) + 1) (below ltII l kk) = c) := by unfold Hid; rw [HM.out]; simp [hxk]
                clear HM
                go_wp2_with fail
                go_roundw
                case rel => exact ⟨(j' + 1) + 1, by omega, by go_num, by rw [HM2.out], HU6⟩
                case measure => simp [intOf]; omega
          · obtain rfl : j = l.length := by omega
            have HBL : Hid (min l.length (below ltII l kk) = below ltII l kk) := Nat.min_eq_right (below_le l kk)
            have HBE : Hid (∃ n, below ltII l kk = n) := ⟨_, rfl⟩
            obtain ⟨n, hn⟩ := HBE.out
            rw [HBL.out, hn]
            have HN := Lib.hid hn
            clear HBL HBE hn
            go_wp2_with fail
            (with_reducible refine (txII_Len _ HSr.out rfl).mono ?_)
            rintro e w4 ⟨rfl, rfl⟩
            go_wp2_with fail
            (with_reducible refine (txII_Least kk n HSr.out HLEN.out HKK.out HN.out).mono ?_)
            rintro e w5 ⟨rfl, hu5⟩
            have HU5 := Lib.hid (HSr.out.old.seq hu5)
            clear hu5
            go_wp2_with fail
            (with_reducible refine (tableRuns_any _).mono ?_)
            rintro e w9 ⟨rfl, hu9⟩
            go_wp2_with fail
            go_ret
            exact ⟨rfl, HU5.out.seq hu9⟩
end Go.Proofs.Ytjomecimbofnfaa
