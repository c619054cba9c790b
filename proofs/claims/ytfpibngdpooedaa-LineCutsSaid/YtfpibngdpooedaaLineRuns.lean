/- Chapter 8's runs. -/
import Derived.Test.YtfpibngdpooedaaCut
namespace Go.Proofs.Ytfpibngdpooedaa
open Go.RowKit
set_option linter.unusedSimpArgs false
set_option linter.unusedVariables false

theorem cutRuns : cutLines [97, 10, 10, 98, 99, 10, 100] = [textOf [97], textOf [], textOf [98, 99]] := by decide +kernel

theorem lineByte_eq (w : World) (g n : Nat) (long : Bool) (c : UInt8) (kd : Int) (n2 : Nat) (long2 : Bool) (hb : SplBlk w g n long) (hn : n ≤ 200) (h : ((lineStep n long c).1 : Int) = kd ∧ (lineStep n long c).2.1 = n2 ∧ (lineStep n long c).2.2 = long2) :
    Calls Try.prog 31 #[.pointer (some ⟨g, 0, none⟩), bv c] w fun e w' => e = .returned (.int .i64 kd) ∧ SplBlk w' g n2 long2 ∧ Upd [g] w w' := by
  have := lineByte_any w g n long c hb hn
  rw [h.1, h.2.1, h.2.2] at this; exact this
set_option maxRecDepth 20000 in
set_option maxHeartbeats 4000000 in
theorem lineRuns_any (w : World) : Calls Try.prog 7 #[] w fun e w' => e = .returned (.bool true) ∧ Upd [] w w' := by
  have kc := @conv_lit Try.prog _ _ Try.underlying52 Try.underlying5
  go_enter Try.func7, Try.ntmps7
  go_wp2_with fail
  refine (lineNew_any _).mono ?_
  rintro e w1 ⟨rfl, hs1, hu1⟩
  have HU1 := Lib.hid hu1
  go_wp2_with fail
  refine (lineNew_any _).mono ?_
  rintro e w2 ⟨rfl, ht2, hu2⟩
  have hlt := hs1.lt
  have hs2 : SplBlk w2 w.heap.size 0 false := Blk.upd hs1 hu2 (by simp)
  have HU2 := Lib.hid (hu1.seq hu2)
  have hle := hu1.size
  clear hu1 hu2 hs1
  go_wp2_with fail
  refine (lineByte_eq _ _ 0 false 97 1 1 false hs2 (by omega) (by decide)).mono ?_
  rintro e w3 ⟨rfl, hs3, hu3⟩
  have ht3 : SplBlk w3 w1.heap.size 0 false := Blk.upd ht2 hu3 (by simp; omega)
  have HU3 := Lib.hid (HU2.out.trans hu3 (T := []) (by simp) (by intro x hx; simp at hx; subst hx; right; omega))
  clear hu3 hs2 ht2
  go_wp2_with fail
  refine (lineByte_eq _ _ 1 false 10 2 0 false hs3 (by omega) (by decide)).mono ?_
  rintro e w4 ⟨rfl, hs4, hu4⟩
  have ht4 : SplBlk w4 w1.heap.size 0 false := Blk.upd ht3 hu4 (by simp; omega)
  have HU4 := Lib.hid (HU3.out.trans hu4 (T := []) (by simp) (by intro x hx; simp at hx; subst hx; right; omega))
  clear hu4 hs3 ht3
  go_wp2_with fail
  refine (lineByte_eq _ _ 0 false 98 1 1 false hs4 (by omega) (by decide)).mono ?_
  rintro e w5 ⟨rfl, hs5, hu5⟩
  have ht5 : SplBlk w5 w1.heap.size 0 false := Blk.upd ht4 hu5 (by simp; omega)
  have HU5 := Lib.hid (HU4.out.trans hu5 (T := []) (by simp) (by intro x hx; simp at hx; subst hx; right; omega))
  clear hu5 hs4 ht4
  go_wp2_with fail
  refine (lineLen_any _ _ 1 false hs5).mono ?_
  rintro e w' ⟨rfl, rfl⟩
  have HT5 := Lib.hid ht5
  clear ht5 hs5 hlt
  go_wp2_with fail
  go_loopw [3] (fun i wr => ∃ k : Nat, k ≤ 200 ∧ i = .int .i64 k ∧ Hid (SplBlk wr w1.heap.size k false) ∧ Hid (Upd [] w wr)) (fun i _ => 200 - (intOf i).toNat)
  case atStart => exact ⟨0, by omega, rfl, HT5, HU5⟩
  case round =>
    obtain ⟨k, hk, rfl, ht, hu⟩ := hrel
    clear HT5 HU5
    by_cases hlt : k < 200
    · have hst : lineStep k false 97 = (1, k + 1, false) := by unfold lineStep; simp; omega
      have hst2 : ((lineStep k false 97).1 : Int) = 1 ∧ (lineStep k false 97).2.1 = k + 1 ∧ (lineStep k false 97).2.2 = false := by rw [hst]; simp
      have HST := Lib.hid hst2
      clear hst hst2
      go_wp2_with fail
      refine (lineByte_eq _ _ k false 97 1 (k + 1) false ht.out (by omega) HST.out).mono ?_
      rintro e w6 ⟨rfl, ht6, hu6⟩
      have HT6 := Lib.hid ht6
      have HU6 := Lib.hid (hu.out.trans hu6 (T := []) (by simp) (by intro x hx; simp at hx; subst hx; right; omega))
      clear ht6 hu6
      go_wp2_with fail
      go_roundw
      case rel => exact ⟨k + 1, by omega, by go_num, HT6, HU6⟩
      case measure => simp [intOf]; omega
    · obtain rfl : k = 200 := by omega
      have HU5 := hu
      have ht5 := ht.out
      clear ht hu
      go_wp2_with fail
      refine (lineByte_eq _ _ 200 false 97 3 0 true ht5 (by omega) (by decide)).mono ?_
      rintro e w6 ⟨rfl, ht6, hu6⟩
      have HU6 := Lib.hid (HU5.out.trans hu6 (T := []) (by simp) (by intro x hx; simp at hx; subst hx; right; omega))
      clear hu6 ht5
      go_wp2_with fail
      refine (lineLong_any _ _ 0 true ht6).mono ?_
      rintro e w' ⟨rfl, rfl⟩
      go_wp2_with fail
      refine (lineByte_eq _ _ 0 true 97 4 0 true ht6 (by omega) (by decide)).mono ?_
      rintro e w7 ⟨rfl, ht7, hu7⟩
      have HU7 := Lib.hid (HU6.out.trans hu7 (T := []) (by simp) (by intro x hx; simp at hx; subst hx; right; omega))
      clear hu7 ht6
      go_wp2_with fail
      refine (lineByte_eq _ _ 0 true 10 5 0 false ht7 (by omega) (by decide)).mono ?_
      rintro e w8 ⟨rfl, ht8, hu8⟩
      have HU8 := Lib.hid (HU7.out.trans hu8 (T := []) (by simp) (by intro x hx; simp at hx; subst hx; right; omega))
      clear hu8 ht7
      go_wp2_with fail
      refine (lineByte_eq _ _ 0 false 97 1 1 false ht8 (by omega) (by decide)).mono ?_
      rintro e w9 ⟨rfl, ht9, hu9⟩
      have HU9 := Lib.hid (HU8.out.trans hu9 (T := []) (by simp) (by intro x hx; simp at hx; subst hx; right; omega))
      clear hu9 ht8
      go_wp2_with fail
      refine (lineLen_any _ _ 1 false ht9).mono ?_
      rintro e w' ⟨rfl, rfl⟩
      clear ht9
      go_wp2_with fail
      refine (lineOf_no _ 201 false (by omega)).mono ?_
      rintro e w' ⟨rfl, rfl⟩
      go_wp2_with fail
      refine (lineOf_no _ 3 true (by simp)).mono ?_
      rintro e w' ⟨rfl, rfl⟩
      go_wp2_with fail
      refine (cut_any _ _ [97, 10, 10, 98, 99, 10, 100] (Rd.lit _ (by simp) rfl rfl (by decide) (by decide)) (by decide)).mono ?_
      rintro e w10 ⟨u, rfl, ho, hu10⟩
      have hrd := ho.rd
      rw [cutRuns] at hrd
      have HRD := Lib.hid hrd
      have HU10 := Lib.hid ((HU9.out.alloc _).seq hu10)
      clear ho hrd hu10
      go_wp2_with fail
      refine (sameStr_ok _ _ _ _ (HRD.out.alloc _) (Rd.lit [textOf [97], textOf [], textOf [98, 99]] rfl rfl rfl (by decide) (by decide))).mono ?_
      rintro e w' ⟨rfl, nq, rfl⟩
      have HU11 := Lib.hid ((HU10.out.alloc (.cells #[.string ⟨#[97]⟩, .string ⟨#[]⟩, .string ⟨#[98, 99]⟩] 9)).drewN nq)
      go_wp2_with fail
      go_ret
      exact ⟨rfl, HU11.out⟩
end Go.Proofs.Ytfpibngdpooedaa
