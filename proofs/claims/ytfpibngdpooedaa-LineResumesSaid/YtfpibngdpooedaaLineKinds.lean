/- The walk of LineKinds. -/
import Derived.Test.YtfpibngdpooedaaLinePlays
namespace Go.Proofs.Ytfpibngdpooedaa
open Go.RowKit
set_option linter.unusedSimpArgs false
set_option linter.unusedVariables false

def stOf (at_ : Nat) : Nat × Bool := if at_ ≤ 200 then (at_, false) else (0, true)
theorem stOf_le (at_ : Nat) (h : at_ ≤ 200) : stOf at_ = (at_, false) := if_pos h
theorem stOf_gt (at_ : Nat) (h : ¬ at_ ≤ 200) : stOf at_ = (0, true) := if_neg h
set_option maxRecDepth 20000 in
set_option maxHeartbeats 4000000 in
theorem lineKinds_any (w : World) (v : Value) (l : List (UInt8 × Int)) (hl : ∀ r ∈ l, I64 r.2) (h : RdN 2 runCells w v l) :
    Calls Try.prog 11 #[v] w fun e w' => e = .returned (.bool true) ∧ Upd [] w w' := by
  have hlen : ∃ a cap, v = .slice a l.length cap := by obtain ⟨a, cap, h, _⟩ := h; exact ⟨a, cap, h⟩
  obtain ⟨a, cap, rfl⟩ := hlen
  have H := Lib.hid h
  have hbl := Lib.hid (bytesOf_le 1500 l)
  clear h
  go_enter Try.func11, Try.ntmps11
  go_wp2_with fail
  refine (lineBytes_any _ _ l 1500 (by omega) hl H.out).mono ?_
  rintro e w1 ⟨u, rfl, ho, hu⟩
  generalize bytesOf 1500 l = bL at ho hbl
  have HR := Lib.hid ho.rd
  have hblk := Lib.hid (fun x hx => (ho.ge x hx).2)
  have HU1 := Lib.hid hu
  obtain ⟨ao, co, rfl, hco, hcm, hbc⟩ := ho.rd
  have hb2 := hbl.out
  have hle1 := hu.size
  clear ho hu
  go_wp2_with fail
  refine (lineNew_any _).mono ?_
  rintro e w2 ⟨rfl, hs, hu⟩
  have HU2 := Lib.hid (HU1.out.seq hu)
  have HS2 := Lib.hid hs
  have HR2 := Lib.hid (HR.out.upd0 hu)
  clear hs hu HR hbc
  go_wp2_with fail
  go_loopw [5, 6] (fun t i wr => ∃ k at_ : Nat, k ≤ bL.length ∧ i = .int .i64 k ∧ at_ ≤ k ∧ t = .int .i64 (at_ : Int) ∧ Hid (SplBlk wr w1.heap.size (stOf at_).1 (stOf at_).2) ∧ Hid (Bytes wr (.slice ao bL.length co) bL) ∧ Hid (Upd [] w wr)) (fun _ i _ => bL.length - (intOf i).toNat)
  case atStart => exact ⟨0, 0, Nat.zero_le _, rfl, Nat.le_refl _, rfl, HS2, HR2, HU2⟩
  case round =>
    obtain ⟨k, at_, hk, rfl, hak, rfl, hs, hr, hu⟩ := hrel
    clear HS2 HR2 HU2
    by_cases hltk : k < bL.length
    · obtain ⟨b, off, rfl, hcell⟩ := hr.out.at_ k hltk
      have hcellw := Lib.hid hcell
      have hbb : b < w1.heap.size := hblk.out b (by simp [blk])
      have key : ∀ (kd : Int) (n2 : Nat) (long2 : Bool) (at2 : Nat), stOf at2 = (n2, long2) → (lineStep (stOf at_).1 (stOf at_).2 (nth bL k)) = (kd.toNat, n2, long2) → 0 ≤ kd →
          Calls Try.prog 31 #[.pointer (some ⟨w1.heap.size, 0, none⟩), bv (nth bL k)] wr fun e w' => e = .returned (.int .i64 kd) ∧ Hid (SplBlk w' w1.heap.size (stOf at2).1 (stOf at2).2) ∧ Hid (Bytes w' (.slice (some ⟨b, off, none⟩) bL.length co) bL) ∧ Hid (Upd [] w w') ∧ w'.cell? ⟨b, off + k, none⟩ = some (bv (nth bL k)) := by
        intro kd n2 long2 at2 h1 h2 h3
        refine (lineByte_eq wr w1.heap.size _ _ (nth bL k) kd n2 long2 hs.out (by unfold stOf; split <;> simp; assumption) ⟨by rw [h2]; exact Int.toNat_of_nonneg h3, by rw [h2], by rw [h2]⟩).mono ?_
        rintro e w' ⟨rfl, g1, g2⟩
        rw [h1]
        exact ⟨rfl, g1, hr.out.upd g2 (by simp [blk]; omega), hu.out.trans g2 (by simp) (by intro x hx; simp at hx; subst hx; right; exact hle1), g2.cell hcellw.out (by simp; omega)⟩
      have KEY := Lib.hid key
      clear key
      generalize hch : nth bL k = ch at *
      by_cases hc : ch = 10
      · have t1 : ((ch.toNat : Int) == 10) = true := by rw [hc]; decide
        by_cases ha : at_ ≤ 200
        · have q : ¬ (200 : Int) < at_ := by omega
          have HK := Lib.hid (KEY.out 2 0 false 0 rfl (by rw [stOf_le _ ha]; simp [lineStep, hc]) (by omega))
          clear hc hch
          go_wp2_with fail
          refine HK.out.mono ?_
          rintro e w3 ⟨rfl, hs3, hr3, hu3, hc3⟩
          go_wp2_with fail
          go_roundw
          case rel => exact ⟨k + 1, 0, by omega, by go_num, by omega, rfl, hs3, hr3, hu3⟩
          case measure => simp [intOf]; omega
        · have q : (200 : Int) < at_ := by omega
          have HK := Lib.hid (KEY.out 5 0 false 0 rfl (by rw [stOf_gt _ ha]; simp [lineStep, hc]) (by omega))
          clear hc hch
          go_wp2_with fail
          refine HK.out.mono ?_
          rintro e w3 ⟨rfl, hs3, hr3, hu3, hc3⟩
          go_wp2_with fail
          go_roundw
          case rel => exact ⟨k + 1, 0, by omega, by go_num, by omega, rfl, hs3, hr3, hu3⟩
          case measure => simp [intOf]; omega
      · have t1 : ((ch.toNat : Int) == 10) = false := by
          rw [beq_eq_false_iff_ne]; intro e; exact hc (UInt8.toNat_inj.1 (by show ch.toNat = 10; omega))
        by_cases ha : at_ < 200
        · have q : (at_ : Int) < 200 := by omega
          have HK := Lib.hid (KEY.out 1 (at_ + 1) false (at_ + 1) (stOf_le _ (by omega)) (by rw [stOf_le _ (by omega)]; simp [lineStep, hc]; omega) (by omega))
          clear hc hch
          go_wp2_with fail
          refine HK.out.mono ?_
          rintro e w3 ⟨rfl, hs3, hr3, hu3, hc3⟩
          go_wp2_with fail
          go_roundw
          case rel => exact ⟨k + 1, at_ + 1, by omega, by go_num, by omega, by go_num, hs3, hr3, hu3⟩
          case measure => simp [intOf]; omega
        · by_cases ha2 : at_ = 200
          · have q : ¬ (at_ : Int) < 200 := by omega
            have q2 : ((at_ : Int) == 200) = true := by rw [beq_iff_eq]; omega
            have HK := Lib.hid (KEY.out 3 0 true (at_ + 1) (stOf_gt _ (by omega)) (by rw [stOf_le _ (by omega)]; simp [lineStep, hc]; omega) (by omega))
            clear hc hch ha2
            go_wp2_with fail
            refine HK.out.mono ?_
            rintro e w3 ⟨rfl, hs3, hr3, hu3, hc3⟩
            go_wp2_with fail
            go_roundw
            case rel => exact ⟨k + 1, at_ + 1, by omega, by go_num, by omega, by go_num, hs3, hr3, hu3⟩
            case measure => simp [intOf]; omega
          · have q : ¬ (at_ : Int) < 200 := by omega
            have q2 : ((at_ : Int) == 200) = false := by rw [beq_eq_false_iff_ne]; omega
            have HK := Lib.hid (KEY.out 4 0 true (at_ + 1) (stOf_gt _ (by omega)) (by rw [stOf_gt _ (by omega)]; simp [lineStep, hc]) (by omega))
            clear hc hch ha2
            go_wp2_with fail
            refine HK.out.mono ?_
            rintro e w3 ⟨rfl, hs3, hr3, hu3, hc3⟩
            go_wp2_with fail
            go_roundw
            case rel => exact ⟨k + 1, at_ + 1, by omega, by go_num, by omega, by go_num, hs3, hr3, hu3⟩
            case measure => simp [intOf]; omega
    · obtain rfl : k = bL.length := by omega
      go_wp2_with fail
      refine (lineRuns_any _).mono ?_
      rintro e w9 ⟨rfl, hu9⟩
      have HU9 := Lib.hid (hu.out.seq hu9)
      clear hu9
      go_wp2_with fail
      go_ret
      exact ⟨rfl, HU9.out⟩
end Go.Proofs.Ytfpibngdpooedaa
