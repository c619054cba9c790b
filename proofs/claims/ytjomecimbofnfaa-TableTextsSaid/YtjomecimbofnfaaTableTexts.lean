/- The walk of TableTexts. -/
import Derived.Test.YtjomecimbofnfaaTabPair
import Derived.Test.YtjomecimbofnfaaTableRises
import Derived.Deep.RegionHeld3
namespace Go.Proofs.Ytjomecimbofnfaa
open Go.RowKit
set_option linter.unusedSimpArgs false
set_option linter.unusedVariables false
abbrev tT (l : List (Int × Int)) : List (ByteArray × ByteArray) := tMap txt txt l
theorem ltSS_txt : ∀ a b : Int, I64 a → I64 b → ltSS (txt a) (txt b) = ltII a b := fun a b ha hb => txt_lt a b ha hb
theorem inj_txt : ∀ a b : Int, I64 a → I64 b → txt a = txt b → a = b := fun a b ha hb => txt_inj a b ha hb
theorem tT_len (l : List (Int × Int)) : (tT l).length = l.length := by simp [tT, tMap]
set_option maxRecDepth 20000 in
set_option maxHeartbeats 4000000 in
theorem tableTexts_any (w : World) (v : Value) (asks : List (Int × Int × Int)) (hl : ∀ a ∈ asks, Ask464 a) (h : RdN 3 ask4Cells w v asks) :
    Calls Try.prog 11 #[v] w fun e w' => e = .returned (.bool true) ∧ Upd [] w w' := by
  obtain ⟨a, cap, rfl, hlc, hcm, hcell⟩ := h
  have hm' : asks.length ≤ 9223372036854775807 := by unfold maxLen at hcm; omega
  have HC := Lib.hid hcell
  have HL := Lib.hid hl
  clear hlc hcm hcell hl
  go_enter Try.func11, Try.ntmps11
  go_wp2_with fail
  (with_reducible refine (txII_New w _ (Upd.refl [] w)).mono ?_)
  rintro e w1 ⟨ga, F1, rfl, hs1, hu1, -⟩
  have HA1 := Lib.hid hs1
  clear hs1 hu1
  go_wp2_with fail
  (with_reducible refine (txSS_New w _ HA1.out.old).mono ?_)
  rintro e w2 ⟨gb, F2, rfl, hs2, hu2, -⟩
  have HP2 : Hid (PP w w2 ga gb [] (tT [])) := ⟨⟨F1, HA1.out.upd0 hu2⟩, ⟨F2, hs2⟩⟩
  clear hs2 hu2 HA1
  go_wp2_with fail
  go_loopw [5] (fun i wr => ∃ (k : Nat) (l : List (Int × Int)), k ≤ 150 ∧ k ≤ asks.length ∧ i = .int .i64 k ∧ l.length ≤ k ∧ Hid (PP w wr ga gb l (tT l)) ∧ Hid (∀ p ∈ l, I64 p.1 ∧ I64 p.2)) (fun i _ => 150 - (intOf i).toNat)
  case atStart => exact ⟨0, [], by omega, by omega, rfl, by simp, HP2, by intro p hp; simp at hp⟩
  case round =>
    obtain ⟨k, l, hk, hkl, rfl, hlk, hs, hmem⟩ := hrel
    clear HP2
    have hend : (k < asks.length ∧ k < 150) ∨ (k = asks.length ∧ Hid (k ≤ 150)) ∨ (k = 150 ∧ k < asks.length) := by unfold Hid; omega
    rcases hend with ⟨hlt, h2⟩ | hend
    · obtain ⟨b, off, rfl, hc⟩ := HC.out (by intro h; simp [h] at hlt)
      have C0 := Lib.hid (show w.cell? ⟨b, off + k * 3, none⟩ = some (iv (nth asks k).1) from hc k hlt 0 (by omega))
      have C1 := Lib.hid (show w.cell? ⟨b, off + k * 3 + 1, none⟩ = some (iv (nth asks k).2.1) from hc k hlt 1 (by omega))
      have C2 := Lib.hid (show w.cell? ⟨b, off + k * 3 + 2, none⟩ = some (iv (nth asks k).2.2) from hc k hlt 2 (by omega))
      obtain ⟨k0, k1, k2⟩ := HL.out (nth asks k) (by rw [nth_get asks k hlt]; exact List.getElem_mem hlt)
      have K1 := Lib.hid k1
      have K2 := Lib.hid k2
      generalize (nth asks k).1 = kd at *
      generalize (nth asks k).2.1 = ak at *
      generalize (nth asks k).2.2 = av at *
      have q1 : (k : Int) < asks.length := by omega
      have q2 : (k : Int) < 150 := by omega
      have hlen : l.length ≤ 100000 := by omega
      have hlenB : (tT l).length ≤ 100000 := by rw [tT_len]; exact hlen
      have c1 := hs.out.old.cell C1.out (by simp)
      have HIN : Hid (isIn ltSS (tT l) (txt ak) = isIn ltII l ak) := tMap_isIn txt txt I64 ltSS_txt inj_txt l (fun p hp => (hmem.out p hp).1) ak K1.out
      clear hc k1 k2 k0
      go_wp2_with fail
      (with_reducible refine (ppText ak hs.out K1.out (txt ak) rfl).mono ?_)
      rintro e w3 ⟨rfl, hp3⟩
      have HP3 := Lib.hid hp3
      have c0 := hp3.old.cell C0.out (by simp)
      have c2 := hp3.old.cell C2.out (by simp)
      clear hp3 hs c1
      by_cases h1 : kd = 1
      · subst h1
        have HST : Hid (tSet ltSS (tT l) (txt ak) (txt av) = tT (tSet ltII l ak av)) := tMap_set txt txt I64 ltSS_txt inj_txt l (fun p hp => (hmem.out p hp).1) ak K1.out av
        have HX := Lib.hid (tSet_len (lt := ltII) l ak av)
        have HMM : Hid (∀ p ∈ tSet ltII l ak av, I64 p.1 ∧ I64 p.2) := fun p hp => by
          rcases tSet_mem l ak av p hp with rfl | q
          · exact ⟨K1.out, K2.out⟩
          · exact hmem.out p q
        obtain ⟨r, hr⟩ : ∃ r, (!isIn ltII l ak) = r := ⟨_, rfl⟩
        have HRA := Lib.hid hr
        have HRB : Hid ((!isIn ltSS (tT l) (txt ak)) = r) := by unfold Hid; rw [HIN.out]; exact hr
        obtain ⟨s, hsx⟩ : ∃ s, txt ak = s := ⟨_, rfl⟩
        obtain ⟨y, hyx⟩ : ∃ y, txt av = y := ⟨_, rfl⟩
        have HY := Lib.hid hyx
        rw [hsx] at HST HRB ⊢
        rw [hyx] at HST
        clear hr hsx hyx
        generalize hl2 : tSet ltII l ak av = l2 at *
        have HSA := Lib.hid hl2
        obtain ⟨m2, hm2⟩ : ∃ m2, tT l2 = m2 := ⟨_, rfl⟩
        have HM2 := Lib.hid hm2
        rw [hm2] at HST
        obtain ⟨m, hmx⟩ : ∃ m, tT l = m := ⟨_, rfl⟩
        rw [hmx] at HST HRB HP3 hlenB
        clear hl2 hm2 hmx HIN
        have ra := HP3.out
        clear HP3
        go_wp2_with fail
        go_region_held3 (fun w' => w'.cell? ⟨b, off + k * 3 + 2, none⟩ = some (iv av)) (first | go_keep | exact ra.old.cell C2.out (by simp))
          (first
            | (go_at_call 49; (with_reducible refine (ppSetA ak av r l2 (PP.upd0 ra ?_) hlen K1.out HRA.out HSA.out).mono ?_); (repeat (first | exact Upd.refl _ _ | apply Upd.drew | apply Upd.drewN | apply Upd.alloc)); (rintro _ W ⟨rfl, ra⟩; dsimp only))
            | (go_at_call 54; (with_reducible refine (ppText av (PP.upd0 ra ?_) K2.out y HY.out).mono ?_); (repeat (first | exact Upd.refl _ _ | apply Upd.drew | apply Upd.drewN | apply Upd.alloc)); (rintro _ W ⟨rfl, ra⟩; dsimp only))
            | (go_at_call 55; (with_reducible refine (ppSetB s y r m2 (PP.upd0 ra ?_) hlenB HRB.out HST.out).mono ?_); (repeat (first | exact Upd.refl _ _ | apply Upd.drew | apply Upd.drewN | apply Upd.alloc)); (rintro _ W ⟨rfl, ra⟩; dsimp only)))
        all_goals
          have HP4 : Hid (PP w W ga gb l2 (tT l2)) := by unfold Hid; rw [HM2.out]; exact ra
          clear ra
          go_wp2_with fail
          go_roundw
          case rel => exact ⟨k + 1, l2, by omega, by omega, by go_num, by have := HX.out; omega, HP4, HMM⟩
          case measure => simp [intOf]; omega
      · have t1 : (kd == 1) = false := by simpa using h1
        by_cases h3 : kd = 3
        · subst h3
          have HST : Hid (tDel ltSS (tT l) (txt ak) = tT (tDel ltII l ak)) := tMap_del txt txt I64 ltSS_txt inj_txt l (fun p hp => (hmem.out p hp).1) ak K1.out
          have HX := Lib.hid (tDel_len (lt := ltII) l ak)
          have HMM : Hid (∀ p ∈ tDel ltII l ak, I64 p.1 ∧ I64 p.2) := fun p hp => hmem.out p (tDel_mem l ak p hp)
          obtain ⟨r, hr⟩ : ∃ r, isIn ltII l ak = r := ⟨_, rfl⟩
          have HRA := Lib.hid hr
          have HRB : Hid (isIn ltSS (tT l) (txt ak) = r) := by unfold Hid; rw [HIN.out]; exact hr
          clear hr h1 c2 HIN
          generalize txt ak = s at *
          go_wp2_with fail
          (with_reducible refine (ppDelA ak r _ HP3.out hlen K1.out HRA.out rfl).mono ?_)
          rintro e w4 ⟨rfl, hp4⟩
          have HP4 := Lib.hid hp4
          clear hp4 HP3
          go_wp2_with fail
          (with_reducible refine (ppDelB s r _ HP4.out hlenB HRB.out HST.out).mono ?_)
          rintro e w5 ⟨rfl, hp5⟩
          have HP5 := Lib.hid hp5
          clear hp5 HP4
          go_wp2_with fail
          go_roundw
          case rel => exact ⟨k + 1, _, by omega, by omega, by go_num, by have := HX.out; omega, HP5, HMM⟩
          case measure => simp [intOf]; omega
        · have t3 : (kd == 3) = false := by simpa using h3
          obtain ⟨n, hn⟩ : ∃ n, below ltII l ak = n := ⟨_, rfl⟩
          have HNA := Lib.hid hn
          have HNB : Hid (below ltSS (tT l) (txt ak) = n) := by unfold Hid; rw [tMap_below txt txt I64 ltSS_txt l (fun p hp => (hmem.out p hp).1) ak K1.out]; exact hn
          have HGB : Hid (tGet ltSS (⟨#[]⟩ : ByteArray) (tT l) (txt ak) = if isIn ltII l ak then (txt (tGet ltII 0 l ak).1, true) else (⟨#[]⟩, false)) := tMap_get txt txt I64 ltSS_txt inj_txt _ l (fun p hp => (hmem.out p hp).1) ak K1.out 0
          have HGM : Hid (isIn ltII l ak = true → I64 (nth l (below ltII l ak)).2) := fun h => by unfold isIn at h; exact (hmem.out _ (nth_mem _ (of_decide_eq_true h).1)).2
          cases hin : isIn ltII l ak with
          | true =>
            have HGA : Hid (tGet ltII (0 : Int) l ak = ((nth l (below ltII l ak)).2, true)) := by unfold Hid tGet; rw [hin]; rfl
            have hx := HGM.out hin
            rw [HGA.out, hin] at HGB
            generalize (nth l (below ltII l ak)).2 = y at *
            have HX := Lib.hid hx
            obtain ⟨u, hu⟩ : ∃ u, txt y = u := ⟨_, rfl⟩
            have HU := Lib.hid hu
            have HGB2 : Hid (tGet ltSS (⟨#[]⟩ : ByteArray) (tT l) (txt ak) = (u, true)) := by rw [← hu]; exact HGB.out
            clear hu HGB HGM hin hn h1 h3 HIN hx c2
            generalize txt ak = s at *
            go_wp2_with fail
            (with_reducible refine (ppGetA ak y true HP3.out hlen K1.out HGA.out).mono ?_)
            rintro e w4 ⟨rfl, hp4⟩
            have HP4 := Lib.hid hp4
            clear hp4 HP3
            go_wp2_with fail
            (with_reducible refine (ppGetB s u true HP4.out hlenB HGB2.out).mono ?_)
            rintro e w5 ⟨rfl, hp5⟩
            have HP5 := Lib.hid hp5
            clear hp5 HP4
            go_wp2_with fail
            (with_reducible refine (ppText y HP5.out HX.out u HU.out).mono ?_)
            rintro e w6 ⟨rfl, hp6⟩
            have HP6 := Lib.hid hp6
            clear hp6 HP5
            go_wp2_with fail
            (with_reducible refine (ppLeastA ak n HP6.out hlen K1.out HNA.out).mono ?_)
            rintro e w7 ⟨rfl, hp7⟩
            have HP7 := Lib.hid hp7
            clear hp7 HP6
            go_wp2_with fail
            (with_reducible refine (ppLeastB s n HP7.out hlenB HNB.out).mono ?_)
            rintro e w8 ⟨rfl, hp8⟩
            have HP8 := Lib.hid hp8
            clear hp8 HP7
            go_wp2_with fail
            go_roundw
            case rel => exact ⟨k + 1, l, by omega, by omega, by go_num, by omega, HP8, hmem⟩
            case measure => simp [intOf]; omega
          | false =>
            have HGA : Hid (tGet ltII (0 : Int) l ak = (0, false)) := by unfold Hid tGet; rw [hin]; rfl
            have HGB2 : Hid (tGet ltSS (⟨#[]⟩ : ByteArray) (tT l) (txt ak) = (⟨#[]⟩, false)) := by have := HGB.out; rw [hin] at this; exact this
            clear HGB HGM hin hn h1 h3 HIN c2
            generalize txt ak = s at *
            go_wp2_with fail
            (with_reducible refine (ppGetA ak 0 false HP3.out hlen K1.out HGA.out).mono ?_)
            rintro e w4 ⟨rfl, hp4⟩
            have HP4 := Lib.hid hp4
            clear hp4 HP3
            go_wp2_with fail
            (with_reducible refine (ppGetB s ⟨#[]⟩ false HP4.out hlenB HGB2.out).mono ?_)
            rintro e w5 ⟨rfl, hp5⟩
            have HP5 := Lib.hid hp5
            clear hp5 HP4
            go_wp2_with fail
            (with_reducible refine (ppLeastA ak n HP5.out hlen K1.out HNA.out).mono ?_)
            rintro e w7 ⟨rfl, hp7⟩
            have HP7 := Lib.hid hp7
            clear hp7 HP5
            go_wp2_with fail
            (with_reducible refine (ppLeastB s n HP7.out hlenB HNB.out).mono ?_)
            rintro e w8 ⟨rfl, hp8⟩
            have HP8 := Lib.hid hp8
            clear hp8 HP7
            go_wp2_with fail
            go_roundw
            case rel => exact ⟨k + 1, l, by omega, by omega, by go_num, by omega, HP8, hmem⟩
            case measure => simp [intOf]; omega
    · have HLEN : Hid (l.length ≤ 100000) := by unfold Hid; omega
      have HLENB : Hid ((tT l).length ≤ 100000) := by unfold Hid; rw [tT_len]; exact HLEN.out
      obtain ⟨F, ha⟩ := hs.out.a
      obtain ⟨G, hb⟩ := hs.out.b
      have HA := Lib.hid ha
      have HB := Lib.hid hb
      clear ha hb
      rcases hend with ⟨hend, hend2⟩ | ⟨hend, hend2⟩
      all_goals
        subst hend
        go_wp2_with fail
        (with_reducible refine (txII_Keys _ HA.out HLEN.out rfl).mono ?_)
        rintro e w3 ⟨v3, rfl, ho3, hu3⟩
        have HU3 := Lib.hid hu3
        have HO3 := Lib.hid ho3
        obtain ⟨a3, c3, rfl, -, -, hcell3⟩ := ho3.rd
        have hkl : (l.map (·.1)).length = l.length := by simp
        rw [hkl] at hcell3
        have HC3 := Lib.hid hcell3
        rw [hkl]
        clear ho3 hu3 hcell3 hkl HC HL hlk
        go_wp2_with fail
        (with_reducible refine (txSS_Keys _ (HB.out.upd0 HU3.out) HLENB.out rfl).mono ?_)
        rintro e w4 ⟨v4, rfl, ho4, hu4⟩
        have HU4 := Lib.hid hu4
        have HO4 := Lib.hid (hs.out.old.seq (HU3.out.seq hu4))
        obtain ⟨a4, c4, rfl, -, -, hcell4⟩ := ho4.rd
        have hkl : ((tT l).map (·.1)).length = l.length := by rw [List.length_map, tT_len]
        rw [hkl] at hcell4
        have HC4 := Lib.hid hcell4
        rw [hkl]
        clear ho4 hu4 hcell4 hkl hs HA HB HO3
        go_wp2_with fail
        go_loopw [14] (fun i wx => ∃ j : Nat, j ≤ l.length ∧ i = .int .i64 j ∧ Hid (Upd [] w4 wx)) (fun i _ => l.length - (intOf i).toNat)
        case atStart => exact ⟨0, Nat.zero_le _, rfl, Upd.refl _ _⟩
        case round =>
          obtain ⟨j, hj, rfl, hu⟩ := hrel
          have hL5 := HLEN.out
          by_cases hlt : j < l.length
          · obtain ⟨b, off, rfl, hc⟩ := HC3.out (by intro h; have h2 := congrArg List.length h; simp at h2; rw [h2] at hlt; simp at hlt)
            have d0 : wr.cell? ⟨b, off + j, none⟩ = some (iv (nth l j).1) := hu.out.cell (HU4.out.cell (by rw [hc j hlt, nth_keys l j hlt]) (by simp)) (by simp)
            obtain ⟨b2, off2, rfl, hc2⟩ := HC4.out (by intro h; have h2 := congrArg List.length h; rw [List.length_map, tT_len] at h2; simp at h2; rw [h2] at hlt; simp at hlt)
            have d1 : wr.cell? ⟨b2, off2 + j, none⟩ = some (sv (txt (nth l j).1)) := hu.out.cell (by rw [hc2 j hlt, nth_keys (tT l) j (by rw [tT_len]; exact hlt), tMap_nth txt txt l j hlt]) (by simp)
            have HX : Hid (I64 (nth l j).1) := (hmem.out _ (nth_mem j hlt)).1
            clear hc hc2
            generalize (nth l j).1 = x at *
            obtain ⟨u, hux⟩ : ∃ u, txt x = u := ⟨_, rfl⟩
            have HT := Lib.hid (fun z : Wx wr => (text_any z.val x HX.out))
            rw [hux] at HT d1
            clear hux
            have q0 : (0 : Int) ≤ j := by omega
            have q1 : (j : Int) < l.length := by omega
            have d0w := fun z : Wx wr => Wx.cell d0 z
            have d1w := fun z : Wx wr => Wx.cell d1 z
            go_wp2_with fail
            refine wp_region_wx (by kernel_rfl) (by kernel_rfl) ?_
            repeat (go_big_quiet_step (first | (go_at_call 54; exact Wx.upd (HT.out _)) | fail))
            refine wpQuiet_nil ?_
            rintro _ ⟨z, rfl⟩
            have HU5 := Lib.hid (hu.out.seq z.prop)
            generalize z.val = w6 at *
            go_wp2_with fail
            go_roundw
            case rel => exact ⟨j + 1, by omega, by go_num, HU5⟩
            case measure => simp [intOf]; omega
          · obtain rfl : j = l.length := by omega
            go_wp2_with fail
            (with_reducible refine (tableRuns_any _).mono ?_)
            rintro e w9 ⟨rfl, hu9⟩
            go_wp2_with fail
            go_ret
            exact ⟨rfl, (HO4.out.seq hu.out).seq hu9⟩
end Go.Proofs.Ytjomecimbofnfaa
