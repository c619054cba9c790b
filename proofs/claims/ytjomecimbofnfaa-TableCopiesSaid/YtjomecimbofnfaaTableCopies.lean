/- The walk of TableCopies. -/
import Derived.Test.YtjomecimbofnfaaTabCopy
import Derived.Test.YtjomecimbofnfaaTableRuns
namespace Go.Proofs.Ytjomecimbofnfaa
open Go.RowKit
set_option linter.unusedSimpArgs false
set_option linter.unusedVariables false
theorem infoInt8 : (Try.prog.info? 3).map (fun i => (i.zero, i.size, i.bytes)) = some (some (.int .i64 0), 1, 8) := by kernel_rfl
set_option maxRecDepth 20000 in
set_option maxHeartbeats 8000000 in
theorem tableCopies_any (w : World) (v : Value) (asks : List (Int × Int × Int)) (hl : ∀ a ∈ asks, Ask464 a) (h : RdN 3 ask4Cells w v asks) (v2 : Value) (more : List (Int × Int × Int)) (hl2 : ∀ a ∈ more, Ask464 a) (h2 : RdN 3 ask4Cells w v2 more) :
    Calls Try.prog 12 #[v, v2] w fun e w' => e = .returned (.bool true) ∧ Upd [] w w' := by
  obtain ⟨a, cap, rfl, hlc, hcm, hcell⟩ := h
  obtain ⟨a2, cap2, rfl, hlc2, hcm2, hcell2⟩ := h2
  have hm' : asks.length ≤ 9223372036854775807 := by unfold maxLen at hcm; omega
  have hm2' : more.length ≤ 9223372036854775807 := by unfold maxLen at hcm2; omega
  have HC := Lib.hid hcell
  have HL := Lib.hid hl
  have HC2 := Lib.hid hcell2
  have HL2 := Lib.hid hl2
  clear hlc hcm hcell hl hlc2 hcm2 hcell2 hl2
  go_enter Try.func12, Try.ntmps12
  go_wp2_with fail
  (with_reducible refine (txII_New w _ (Upd.refl [] w)).mono ?_)
  rintro e w1 ⟨g, F1, rfl, hs1, hu1, -⟩
  have HS1 := Lib.hid hs1
  clear hs1 hu1
  go_wp2_with fail
  go_loopw [6] (fun i wr => ∃ (k : Nat) (F : List Nat) (l : List (Int × Int)), k ≤ 100 ∧ k ≤ asks.length ∧ i = .int .i64 k ∧ l.length ≤ k ∧ Hid (TXII w wr g F l) ∧ Hid (∀ p ∈ l, I64 p.1)) (fun i _ => 100 - (intOf i).toNat)
  case atStart => exact ⟨0, F1, [], by omega, by omega, rfl, by simp, HS1, by intro p hp; simp at hp⟩
  case round =>
    obtain ⟨k, F, l, hk, hkl, rfl, hlk, hs, hmem⟩ := hrel
    clear HS1
    have hend : (k < asks.length ∧ k < 100) ∨ (k = asks.length ∧ Hid (k ≤ 100)) ∨ (k = 100 ∧ k < asks.length) := by unfold Hid; omega
    rcases hend with ⟨hlt, h2⟩ | hend
    · obtain ⟨b, off, rfl, hc⟩ := HC.out (by intro h; simp [h] at hlt)
      have hu := hs.out.old
      have c1 : wr.cell? ⟨b, off + k * 3 + 1, none⟩ = some (iv (nth asks k).2.1) := hu.cell (hc k hlt 1 (by omega)) (by simp)
      have c2 : wr.cell? ⟨b, off + k * 3 + 2, none⟩ = some (iv (nth asks k).2.2) := hu.cell (hc k hlt 2 (by omega)) (by simp)
      obtain ⟨k0, k1, k2⟩ := HL.out (nth asks k) (by rw [nth_get asks k hlt]; exact List.getElem_mem hlt)
      have K1 := Lib.hid k1
      generalize (nth asks k).2.1 = ak at *
      generalize (nth asks k).2.2 = av at *
      have q1 : (k : Int) < asks.length := by omega
      have q2 : (k : Int) < 100 := by omega
      have hlen : l.length ≤ 100000 := by omega
      have HX := Lib.hid (tSet_len (lt := ltII) l ak av)
      have HMM : Hid (∀ p ∈ tSet ltII l ak av, I64 p.1) := fun p hp => by
        rcases tSet_mem l ak av p hp with rfl | q
        · exact K1.out
        · exact hmem.out p q
      clear hc k0 k1 k2 hu
      go_wp2_with fail
      go_still_tail 11, (by kernel_rfl)
      change wpList _ _ _ _ _ wr.drew
      have HSd := Lib.hid (hs.out.upd0 ((Upd.refl [] _).drew))
      go_wp2_with fail
      (with_reducible refine (txII_Set ak av _ _ HSd.out hlen K1.out rfl rfl).mono ?_)
      rintro e w2 ⟨rfl, F2, hs2, -, -⟩
      have HS2 := Lib.hid hs2
      clear hs2
      go_wp2_with fail
      go_roundw
      case rel => exact ⟨k + 1, F2, _, by omega, by omega, by go_num, by have := HX.out; omega, HS2, HMM⟩
      case measure => simp [intOf]; omega
    · have HLEN : Hid (l.length ≤ 100000) := by unfold Hid; omega
      have HRI := Lib.hid hs.out.ris
      rcases hend with ⟨hend, hend2⟩ | ⟨hend, hend2⟩
      all_goals
        subst hend
        clear HC HL
        obtain ⟨ws, hws⟩ : ∃ ws, l.map (·.1) = ws := ⟨_, rfl⟩
        have HWS := Lib.hid hws
        have hwl : ws.length = l.length := by rw [← hws]; simp
        have hwlen : ws.length ≤ 100000 := by rw [hwl]; exact HLEN.out
        have HWL := Lib.hid hwl
        clear hwl
        go_wp2_with fail
        (with_reducible refine (txII_Keys ws hs.out HLEN.out HWS.out).mono ?_)
        rintro e w3 ⟨v3, rfl, ho3, hu3⟩
        have HS3 := Lib.hid (hs.out.upd0 hu3)
        have HO3 := Lib.hid ho3
        obtain ⟨a3, c3, rfl, -⟩ := ho3.rd
        have hszw := hs.out.old.size
        have hsz3 := hu3.size
        clear ho3 hu3 hws
        have HAP : Hid (∃ v' w', (Builtin.append_ #[30, 30] 30 #[.slice (some ⟨w3.heap.size, 0, none⟩) 0 0, .slice a3 ws.length c3]).run Try.prog (w3.alloc (.cells #[] 3)) = .ok v' w' ∧ (Own iv w3.heap.size 3 w' v' ws ∧ Upd [] w3 w')) := by
          have hE : Own iv w3.heap.size 3 (w3.alloc (.cells #[] 3)) (.slice (some ⟨w3.heap.size, 0, none⟩) 0 0) [] := ⟨by simp, .inr ⟨w3.heap.size, 0, #[], rfl, Nat.le_refl _, Blk.new w3 _ [], Nat.le_refl _, Nat.zero_le _, by simp, by simp⟩⟩
          obtain ⟨v', w', q1, q2, q3, q4⟩ := run_app (P := Try.prog) (ty := 30) (base := w3.heap.size) (c := iv) (fun _ => rfl) Try.underlying30 infoInt8 rfl _ (.slice a3 ws.length c3) [] ws hE (HO3.out.rd.upd0 ((Upd.refl [] _).alloc _)) (by simp; omega) (by unfold maxLen; simp; omega) (by simp)
          exact ⟨v', w', q1, by simpa using q2, ((Upd.refl [] w3).alloc _).trans q3 (by simp) (fun y hy => .inr (by simp [blk] at hy; omega))⟩
        go_wp2_with (at_builtin; go_must (refine wpList_app_of rfl _ _ rfl (.slice (some ⟨w3.heap.size, 0, none⟩) 0 0) (.slice a3 ws.length c3) rfl rfl HAP.out ?_; rintro v4 w4 ⟨ho4, hu4⟩; have HO4 := Lib.hid ho4; have HU4 := Lib.hid hu4; obtain ⟨a4, c4, rfl, -⟩ := ho4.rd; clear ho4 hu4))
        (with_reducible refine (txII_Copy (HS3.out.upd0 HU4.out) HLEN.out).mono ?_)
        rintro e w5 ⟨gc, G5, rfl, hs5, hu5, hg5⟩
        have HC5 : Hid (CS w w5 g gc l l (.slice a3 ws.length c3) ws (.slice a4 ws.length c4) ws) :=
          ⟨⟨F, G5, HS3.out.upd0 (HU4.out.seq hu5), hs5, Ap.symm (Ap.new hg5 (fun x hx => by have := (HS3.out.ge x hx).2; have := HU4.out.size; omega))⟩, ((HO3.out.base_le hszw).upd (HU4.out.seq hu5) (by simp)), ((HO4.out.base_le (by omega)).upd hu5 (by simp)), Ap.symm (Ap.new (n := w3.heap.size) (fun y hy => (HO4.out.ge y hy).1) (fun x hx => (HO3.out.ge x hx).2))⟩
        clear hs5 hu5 hg5 HAP HO3 HO4 HS3 HU4 hs
        go_wp2_with fail
        (with_reducible refine (csKeysC ws HC5.out HLEN.out HWS.out).mono ?_)
        rintro e w6 ⟨v6, rfl, hc6, hr6⟩
        have HC6 := Lib.hid hc6
        have HR6 := Lib.hid hr6
        obtain ⟨a6, c6, rfl, -⟩ := hr6
        clear hc6 HC5
        go_wp2_with fail
        (with_reducible refine (csSame _ ws HC6.out HR6.out rfl).mono ?_)
        rintro e w7 ⟨rfl, hc7⟩
        have HC7 := Lib.hid hc7
        clear hc7 HC6 HR6
        go_wp2_with fail
        go_loopw [10] (fun i wr => ∃ (k : Nat) (m : List (Int × Int)), k ≤ 100 ∧ k ≤ more.length ∧ i = .int .i64 k ∧ m.length ≤ 100 + k ∧ Hid (CS w wr g gc l m (.slice a3 ws.length c3) ws (.slice a4 ws.length c4) ws)) (fun i _ => 100 - (intOf i).toNat)
        case atStart => exact ⟨0, l, by omega, by omega, rfl, by omega, HC7⟩
        case round =>
          obtain ⟨k2, m, hk2, hkl2, rfl, hmk, hs⟩ := hrel
          clear HC7
          have hend' : (k2 < more.length ∧ k2 < 100) ∨ (k2 = more.length ∧ Hid (k2 ≤ 100)) ∨ (k2 = 100 ∧ k2 < more.length) := by unfold Hid; omega
          rcases hend' with ⟨hlt, h2⟩ | hend'
          · obtain ⟨b, off, rfl, hc⟩ := HC2.out (by intro h; simp [h] at hlt)
            have hu := hs.out.old
            have c0 : wr.cell? ⟨b, off + k2 * 3, none⟩ = some (iv (nth more k2).1) := hu.cell (hc k2 hlt 0 (by omega)) (by simp)
            have c1 : wr.cell? ⟨b, off + k2 * 3 + 1, none⟩ = some (iv (nth more k2).2.1) := hu.cell (hc k2 hlt 1 (by omega)) (by simp)
            have c2 : wr.cell? ⟨b, off + k2 * 3 + 2, none⟩ = some (iv (nth more k2).2.2) := hu.cell (hc k2 hlt 2 (by omega)) (by simp)
            obtain ⟨k0, k1, k2'⟩ := HL2.out (nth more k2) (by rw [nth_get more k2 hlt]; exact List.getElem_mem hlt)
            have K1 := Lib.hid k1
            generalize (nth more k2).1 = kd at *
            generalize (nth more k2).2.1 = ak at *
            generalize (nth more k2).2.2 = av at *
            have q1 : (k2 : Int) < more.length := by omega
            have q2 : (k2 : Int) < 100 := by omega
            have hlen : m.length ≤ 100000 := by omega
            clear hc k0 k1 k2' hu
            by_cases hkd : kd = 3
            · subst hkd
              have HX := Lib.hid (tDel_len (lt := ltII) m ak)
              go_wp2_with fail
              (with_reducible refine (csDelC ak _ _ hs.out hlen K1.out rfl rfl).mono ?_)
              rintro e w8 ⟨rfl, hs8⟩
              have HS8 := Lib.hid hs8
              clear hs8
              go_wp2_with fail
              go_roundw
              case rel => exact ⟨k2 + 1, _, by omega, by omega, by go_num, by have := HX.out; omega, HS8⟩
              case measure => simp [intOf]; omega
            · have t1 : (kd == 3) = false := by simpa using hkd
              have HX := Lib.hid (tSet_len (lt := ltII) m ak av)
              go_wp2_with fail
              go_still_tail 11, (by kernel_rfl)
              change wpList _ _ _ _ _ wr.drew
              have HSd := Lib.hid (hs.out.upd0 ((Upd.refl [] _).drew))
              go_wp2_with fail
              (with_reducible refine (csSetC ak av _ _ HSd.out hlen K1.out rfl rfl).mono ?_)
              rintro e w8 ⟨rfl, hs8⟩
              have HS8 := Lib.hid hs8
              clear hs8
              go_wp2_with fail
              go_roundw
              case rel => exact ⟨k2 + 1, _, by omega, by omega, by go_num, by have := HX.out; omega, HS8⟩
              case measure => simp [intOf]; omega
          · rcases hend' with ⟨hend', hend2'⟩ | ⟨hend', hend2'⟩
            all_goals
              subst hend'
              clear HC2 HL2 hmk
              go_wp2_with fail
              go_loopw [11] (fun i wr => ∃ (j : Nat) (ks : List Int), j ≤ ws.length ∧ i = .int .i64 j ∧ ks.length = ws.length ∧ Hid (CS w wr g gc l m (.slice a3 ws.length c3) ks (.slice a4 ws.length c4) ws)) (fun i _ => ws.length - (intOf i).toNat)
              case atStart => exact ⟨0, ws, Nat.zero_le _, rfl, rfl, hs⟩
              case round =>
                clear hs
                obtain ⟨j, ks, hj, rfl, hkw, hs⟩ := hrel
                by_cases hlt : j < ws.length
                · obtain ⟨gk, ck, he, -⟩ := hs.out.keys.form0 (by intro h; rw [h] at hkw; simp at hkw; omega)
                  injection he with e1 e2 e3
                  subst e1; subst e3
                  have hko := hs.out.keys
                  have d0 := hko.cell j (by omega)
                  have f0 := hko.frozen j
                  have HN : Hid (CS w (wr.setCell ⟨gk, j, none⟩ (.int .i64 (-7))) g gc l m (.slice (some ⟨gk, 0, none⟩) ws.length c3) (ks.set j (-7)) (.slice a4 ws.length c4) ws) := by
                    obtain ⟨F', G', ha, hb, hab⟩ := hs.out.tab
                    have hu : Upd [gk] wr (wr.setCell ⟨gk, j, none⟩ (.int .i64 (-7))) := (Upd.refl [gk] wr).setCell _ _ (.inl (by simp))
                    have hgk := hko.ge gk (by simp [blk])
                    refine ⟨⟨F', G', ha.upd hu (fun x hx h => own_apart ha hko gk (by simp [blk]) (by simp at h; rw [← h]; exact hx)) (by simpa using hgk.1), hb.upd hu (fun x hx h => own_apart hb hko gk (by simp [blk]) (by simp at h; rw [← h]; exact hx)) (by simpa using hgk.1), hab⟩, hko.set_ j (by omega) (-7), hs.out.was.upd hu (fun x hx h => hs.out.ap gk (by simp [blk]) (by simp at h; rw [← h]; exact hx)), hs.out.ap⟩
                  have q0 : (0 : Int) ≤ j := by omega
                  have q1 : (j : Int) < ws.length := by omega
                  have hkw2 : (ks.set j (-7)).length = ws.length := by rw [List.length_set]; exact hkw
                  have HKW := Lib.hid hkw2
                  clear hko hs hkw hkw2 e2
                  go_wp2_with fail
                  go_roundw
                  case rel => exact ⟨j + 1, _, by omega, by go_num, HKW.out, HN⟩
                  case measure => simp [intOf]; omega
                · obtain rfl : j = ws.length := by omega
                  obtain ⟨F9, G9, ha9, hb9, hab9⟩ := hs.out.tab
                  have HA9 := Lib.hid ha9
                  have HK9 := Lib.hid hs.out.keys
                  have HW9 := Lib.hid hs.out.was
                  have HP9 := Lib.hid hs.out.ap
                  clear ha9 hb9 hab9 hs hkw
                  go_wp2_with fail
                  (with_reducible refine (txII_Copy HA9.out HLEN.out).mono ?_)
                  rintro e w10 ⟨gd, G10, rfl, hs10, hu10, hg10⟩
                  have HC10 : Hid (CS w w10 g gd l l (.slice a3 ws.length c3) ks (.slice a4 ws.length c4) ws) :=
                    ⟨⟨F9, G10, HA9.out.upd0 hu10, hs10, Ap.symm (Ap.new hg10 (fun x hx => (HA9.out.ge x hx).2))⟩, HK9.out.upd hu10 (by simp), HW9.out.upd hu10 (by simp), HP9.out⟩
                  clear hs10 hu10 hg10 HA9 HK9 HW9 HP9
                  go_wp2_with fail
                  (with_reducible refine (csKeysA ws HC10.out HLEN.out HWS.out).mono ?_)
                  rintro e w11 ⟨v11, rfl, hc11, hr11⟩
                  have HC11 := Lib.hid hc11
                  have HR11 := Lib.hid hr11
                  obtain ⟨a11, c11, rfl, -⟩ := hr11
                  clear hc11 HC10
                  go_wp2_with fail
                  (with_reducible refine (csSame _ ws HC11.out HR11.out rfl).mono ?_)
                  rintro e w12 ⟨rfl, hc12⟩
                  have HC12 := Lib.hid hc12
                  clear hc12 HC11 HR11
                  go_wp2_with fail
                  (with_reducible refine (csKeysC ws HC12.out HLEN.out HWS.out).mono ?_)
                  rintro e w13 ⟨v13, rfl, hc13, hr13⟩
                  have HC13 := Lib.hid hc13
                  have HR13 := Lib.hid hr13
                  obtain ⟨a13, c13, rfl, -⟩ := hr13
                  clear hc13 HC12
                  go_wp2_with fail
                  (with_reducible refine (csSame _ ws HC13.out HR13.out rfl).mono ?_)
                  rintro e w14 ⟨rfl, hc14⟩
                  have HC14 := Lib.hid hc14
                  clear hc14 HC13 HR13
                  go_wp2_with fail
                  go_loopw [13] (fun i wr => ∃ (j : Nat), j ≤ ws.length ∧ i = .int .i64 j ∧ Hid (CS w wr g gd (l.drop j) l (.slice a3 ws.length c3) ks (.slice a4 ws.length c4) ws)) (fun i _ => ws.length - (intOf i).toNat)
                  case atStart => exact ⟨0, Nat.zero_le _, rfl, by rw [List.drop_zero]; exact HC14⟩
                  case round =>
                    clear HC14
                    obtain ⟨i, hi, rfl, hs⟩ := hrel
                    by_cases hlt : i < ws.length
                    · have hil : i < l.length := by have := HWL.out; omega
                      obtain ⟨f1, f2, f3⟩ := tGet_first HRI.out i hil
                      have HF1 := Lib.hid f1
                      have HF2 := Lib.hid f2
                      have HF3 := Lib.hid f3
                      have HFD : Hid (tGet ltII 0 l (nth l i).1 = ((nth l i).2, true)) := tGet_at intOrd 0 HRI.out i hil
                      have HX : Hid (I64 (nth l i).1) := hmem.out _ (nth_mem i hil)
                      have HDL : Hid ((l.drop i).length ≤ 100000) := by unfold Hid; rw [List.length_drop]; have := HLEN.out; omega
                      obtain ⟨b, off, rfl, hc⟩ := (show ∃ b off, a4 = some ⟨b, off, none⟩ ∧ ∀ (wx : World) (l' : List (Int × Int)), CS w wx g gd l' l (.slice a3 ws.length c3) ks (.slice a4 ws.length c4) ws → wx.cell? ⟨b, off + i, none⟩ = some (iv (nth l i).1) from by
                        obtain ⟨gw, cw, he, -⟩ := hs.out.was.form0 (by intro h; rw [h] at hlt; simp at hlt)
                        injection he with e1 e2 e3
                        subst e1
                        refine ⟨gw, 0, rfl, fun wx l' hx => ?_⟩
                        have := hx.was.cell i hlt
                        rw [Nat.zero_add, this]
                        rw [← HWS.out, nth_keys l i hil])
                      have HCW := Lib.hid hc
                      generalize (nth l i).1 = x at *
                      generalize (nth l i).2 = y at *
                      have d0 := HCW.out _ _ hs.out
                      have q0 : (0 : Int) ≤ i := by omega
                      have q1 : (i : Int) < ws.length := by omega
                      clear f1 f2 f3 hc
                      go_wp2_with fail
                      (with_reducible refine (csGetA x y true hs.out HDL.out HX.out HF1.out).mono ?_)
                      rintro e w15 ⟨rfl, hc15⟩
                      have HC15 := Lib.hid hc15
                      have d1 := HCW.out _ _ hc15
                      clear hc15 hs d0
                      go_wp2_with fail
                      (with_reducible refine (csGetC x y true HC15.out HLEN.out HX.out HFD.out).mono ?_)
                      rintro e w16 ⟨rfl, hc16⟩
                      have HC16 := Lib.hid hc16
                      have d2 := HCW.out _ _ hc16
                      clear hc16 HC15 d1
                      go_wp2_with fail
                      (with_reducible refine (csDelA x true _ HC16.out HDL.out HX.out HF3.out HF2.out).mono ?_)
                      rintro e w17 ⟨rfl, hc17⟩
                      have HC17 := Lib.hid hc17
                      clear hc17 HC16 d2
                      go_wp2_with fail
                      go_roundw
                      case rel => exact ⟨i + 1, by omega, by go_num, HC17⟩
                      case measure => simp [intOf]; omega
                    · obtain rfl : i = ws.length := by omega
                      have HDE : Hid (((l.drop ws.length).length : Int) = 0) := by unfold Hid; rw [List.length_drop]; have := HWL.out; omega
                      go_wp2_with fail
                      (with_reducible refine (csLenA 0 hs.out HDE.out).mono ?_)
                      rintro e w18 ⟨rfl, hc18⟩
                      have HC18 := Lib.hid hc18
                      clear hc18 hs
                      go_wp2_with fail
                      (with_reducible refine (csKeysC ws HC18.out HLEN.out HWS.out).mono ?_)
                      rintro e w19 ⟨v19, rfl, hc19, hr19⟩
                      have HC19 := Lib.hid hc19
                      have HR19 := Lib.hid hr19
                      obtain ⟨a19, c19, rfl, -⟩ := hr19
                      clear hc19 HC18
                      go_wp2_with fail
                      (with_reducible refine (csSame _ ws HC19.out HR19.out rfl).mono ?_)
                      rintro e w20 ⟨rfl, hc20⟩
                      have HC20 := Lib.hid hc20
                      clear hc20 HC19 HR19
                      go_wp2_with fail
                      (with_reducible refine (tableRuns_any _).mono ?_)
                      rintro e w21 ⟨rfl, hu21⟩
                      go_wp2_with fail
                      go_ret
                      exact ⟨rfl, HC20.out.old.seq hu21⟩
end Go.Proofs.Ytjomecimbofnfaa
