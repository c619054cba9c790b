/- The walk of TablePlays. -/
import Derived.Test.YtjomecimbofnfaaTabStep2
namespace Go.Proofs.Ytjomecimbofnfaa
open Go.RowKit
set_option linter.unusedSimpArgs false
set_option linter.unusedVariables false
set_option maxRecDepth 20000 in
set_option maxHeartbeats 4000000 in
theorem tablePlays_any (w : World) (v : Value) (asks : List (Int × Int × Int)) (hl : ∀ a ∈ asks, Ask464 a) (h : RdN 3 ask4Cells w v asks) :
    Calls Try.prog 9 #[v] w fun e w' => e = .returned (.bool true) ∧ Upd [] w w' := by
  obtain ⟨a, cap, rfl, hlc, hcm, hcell⟩ := h
  have hm' : asks.length ≤ 9223372036854775807 := by unfold maxLen at hcm; omega
  have HC := Lib.hid hcell
  have HL := Lib.hid hl
  clear hlc hcm hcell hl
  go_enter Try.func9, Try.ntmps9
  go_wp2_with fail
  (with_reducible refine (txII_New w _ (Upd.refl [] w)).mono ?_)
  rintro e w1 ⟨g, F1, rfl, hs1, hu1, -⟩
  have HS1 := Lib.hid hs1
  clear hs1 hu1
  go_wp2_with fail
  go_loopw [4, 6] (fun v i wr => ∃ (k : Nat) (F : List Nat) (l : List (Int × Int)), k ≤ 200 ∧ k ≤ asks.length ∧ i = .int .i64 k ∧ l.length ≤ k ∧ Hid (TXII w wr g F l) ∧ Hid (Rows4 w wr v l) ∧ Hid (∀ p ∈ l, I64 p.1 ∧ I64 p.2)) (fun _ i _ => 200 - (intOf i).toNat)
  case atStart => exact ⟨0, F1, [], by omega, by omega, rfl, by simp, HS1, OwnN.nil _ _ _, by intro p hp; simp at hp⟩
  case round =>
    obtain ⟨k, F, l, hk, hkl, rfl, hlk, hs, hr, hmem⟩ := hrel
    clear HS1
    have hend : (k < asks.length ∧ k < 200) ∨ (k = asks.length ∧ Hid (k ≤ 200)) ∨ (k = 200 ∧ k < asks.length) := by unfold Hid; omega
    rcases hend with ⟨hlt, h2⟩ | hend
    · obtain ⟨b, off, rfl, hc⟩ := HC.out (by intro h; simp [h] at hlt)
      have hu := hs.out.old
      have c0 : wr.cell? ⟨b, off + k * 3, none⟩ = some (iv (nth asks k).1) := hu.cell (hc k hlt 0 (by omega)) (by simp)
      have c1 : wr.cell? ⟨b, off + k * 3 + 1, none⟩ = some (iv (nth asks k).2.1) := hu.cell (hc k hlt 1 (by omega)) (by simp)
      have c2 : wr.cell? ⟨b, off + k * 3 + 2, none⟩ = some (iv (nth asks k).2.2) := hu.cell (hc k hlt 2 (by omega)) (by simp)
      obtain ⟨k0, k1, k2⟩ := HL.out (nth asks k) (by rw [nth_get asks k hlt]; exact List.getElem_mem hlt)
      have K1 := Lib.hid k1
      have K2 := Lib.hid k2
      generalize (nth asks k).1 = kd at *
      generalize (nth asks k).2.1 = ak at *
      generalize (nth asks k).2.2 = av at *
      have q1 : (k : Int) < asks.length := by omega
      have q2 : (k : Int) < 200 := by omega
      obtain ⟨ao, n, co, rfl⟩ := hr.out.slice_
      clear hc k1 k2 hu k0
      go_wp2_with fail
      (with_reducible refine (tStep_any w wr g F _ l hs.out hr.out (by omega) hmem.out ak av K1.out K2.out kd).mono ?_)
      rintro e w2 ⟨v2, F2, l2, rfl, hr2, hs2, hl2, hm2⟩
      have HS2 := Lib.hid hs2
      have HR2 := Lib.hid hr2
      have HM2 := Lib.hid hm2
      obtain ⟨ao2, co2, rfl, -⟩ := hr2.rd rcII_len
      clear hs2 hr2 hm2 hs hr hmem c0 c1 c2
      go_wp2_with fail
      (with_reducible refine (txII_Len _ HS2.out rfl).mono ?_)
      rintro e w3 ⟨rfl, rfl⟩
      go_wp2_with fail
      go_roundw
      case rel => exact ⟨k + 1, F2, l2, by omega, by omega, by go_num, by omega, HS2, HR2, HM2⟩
      case measure => simp [intOf]; omega
    · have HLEN : Hid (l.length ≤ 100000) := by unfold Hid; omega
      obtain ⟨ao, co, rfl, -, -, hcellr⟩ := hr.out.rd rcII_len
      have HCR := Lib.hid hcellr
      clear hcellr
      rcases hend with ⟨hend, hend2⟩ | ⟨hend, hend2⟩
      all_goals
        subst hend
        go_wp2_with fail
        (with_reducible refine (txII_Keys _ hs.out HLEN.out rfl).mono ?_)
        rintro e w3 ⟨v3, rfl, ho3, hu3⟩
        have HU3 := Lib.hid hu3
        have HO3 := Lib.hid (hs.out.old.seq hu3)
        obtain ⟨a3, c3, rfl, -, -, hcell3⟩ := ho3.rd
        have hkl : (l.map (·.1)).length = l.length := by simp
        rw [hkl] at hcell3
        have HC3 := Lib.hid hcell3
        rw [hkl]
        clear ho3 hu3 hcell3 hkl hs HC HL hlk hmem hr
        go_wp2_with fail
        go_loopw [8] (fun i wx => ∃ j : Nat, j ≤ l.length ∧ i = .int .i64 j ∧ Hid (Upd [] w3 wx)) (fun i _ => l.length - (intOf i).toNat)
        case atStart => exact ⟨0, Nat.zero_le _, rfl, Upd.refl _ _⟩
        case round =>
          rename_i wr0 _ _
          obtain ⟨j, hj, rfl, hu⟩ := hrel
          have hL5 := HLEN.out
          by_cases hlt : j < l.length
          · obtain ⟨b, off, rfl, hc⟩ := HC3.out (by intro h; have h2 := congrArg List.length h; simp at h2; rw [h2] at hlt; simp at hlt)
            have d0 : wr.cell? ⟨b, off + j, none⟩ = some (iv (nth l j).1) := hu.out.cell (by rw [hc j hlt, nth_keys l j hlt]) (by simp)
            obtain ⟨b2, off2, rfl, hc2⟩ := HCR.out (by intro h; simp [h] at hlt)
            have d1 : wr.cell? ⟨b2, off2 + j * 2, none⟩ = some (iv (nth l j).1) := hu.out.cell (HU3.out.cell (hc2 j hlt 0 (by omega)) (by simp)) (by simp)
            clear hc hc2
            generalize (nth l j).1 = x at *
            have q0 : (0 : Int) ≤ j := by omega
            have q1 : (j : Int) < l.length := by omega
            go_wp2_with fail
            go_quiet (fail)
            go_wp2_with fail
            go_roundw
            case rel => exact ⟨j + 1, by omega, by go_num, by first | exact hu.out.drewN _ | exact hu.out.drew⟩
            case measure => simp [intOf]; omega
          · obtain rfl : j = l.length := by omega
            go_wp2_with fail
            (with_reducible refine (tableRuns_any _).mono ?_)
            rintro e w9 ⟨rfl, hu9⟩
            go_wp2_with fail
            go_ret
            exact ⟨rfl, (HO3.out.seq hu.out).seq hu9⟩
end Go.Proofs.Ytjomecimbofnfaa
