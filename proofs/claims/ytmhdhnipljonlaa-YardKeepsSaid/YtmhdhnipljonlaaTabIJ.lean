/- Chapter 4's reads at int,int. -/
import Derived.Test.YtmhdhnipljonlaaRows
import Derived.Test.YtmhdhnipljonlaaTabPlain
import Derived.Test.YtmhdhnipljonlaaAppRun
import Derived.Test.YtmhdhnipljonlaaOpen
import Derived.StillTailTactics
namespace Go.Proofs.Ytmhdhnipljonlaa
open Go.RowKit
set_option linter.unusedSimpArgs false
set_option linter.unusedVariables false
abbrev rcIJ (p : Int × Int) : List Value := [iv p.1, iv p.2]
theorem rcIJ_len : ∀ p, (rcIJ p).length = 2 := fun _ => rfl
theorem infoRowIJ : (Try.prog.info? 136).map (fun i => (i.zero, i.size, i.bytes)) = some (some (.agg #[.int .i64 0, .int .i64 0]), 2, 16) := by kernel_rfl
abbrev ltIJ : Int → Int → Bool := fun a b => decide (a < b)
/-- The table at g, its rows lv. -/
structure TBIJ (base : Nat) (w : World) (g : Nat) (lv : Value) (l : List (Int × Int)) : Prop where
  tab : Blk w g 130 [lv]
  rows : OwnN 2 rcIJ base 136 w lv l
  gb : base ≤ g
section
variable {base : Nat} {g : Nat} {lv : Value} {l : List (Int × Int)} {w w' : World}
theorem TBIJ.upd (h : TBIJ base w g lv l) {S : List Nat} (hu : Upd S w w') (hs : ∀ x ∈ g :: blk lv, x ∉ S) : TBIJ base w' g lv l :=
  ⟨h.tab.upd hu (hs g (by simp)), h.rows.upd hu (fun x hx => hs x (by simp [hx])), h.gb⟩
theorem TBIJ.upd0 (h : TBIJ base w g lv l) (hu : Upd [] w w') : TBIJ base w' g lv l := h.upd hu (by simp)
theorem TBIJ.g_lv (h : TBIJ base w g lv l) : g ∉ blk lv := fun e => by
  obtain ⟨C, f, hq⟩ := h.rows.typ g e
  exact h.tab.ne g hq (by decide) rfl
theorem TBIJ.lt (h : TBIJ base w g lv l) : ∀ x ∈ g :: blk lv, base ≤ x ∧ x < w.heap.size := by
  intro x hx
  rcases List.mem_cons.1 hx with rfl | hx
  · exact ⟨h.gb, h.tab.lt⟩
  · exact h.rows.ge x hx
theorem tNewIJ_any (w : World) :
    Calls Try.prog 48 #[] w fun e w' => e = .returned (.pointer (some ⟨w.heap.size, 0, none⟩)) ∧ TBIJ w.heap.size w' w.heap.size (.slice none 0 0) [] ∧ Upd [] w w' := by
  go_enter Try.func48, Try.ntmps48
  go_wp2
  go_ret
  exact ⟨rfl, ⟨Blk.new w _ [.slice none 0 0], OwnN.nil _ _ _, Nat.le_refl _⟩, (Upd.refl [] w).alloc _⟩
set_option maxRecDepth 20000 in
set_option maxHeartbeats 1000000 in
theorem tFindIJ_any (w : World) (k : Int) (hs : TBIJ base w g lv l) (hr : Rising ltIJ l) (hlen : l.length ≤ 100000) (hk : I64 k) :
    Calls Try.prog 85 #[.pointer (some ⟨g, 0, none⟩), iv k] w fun e w' => e = .returned (.tuple #[.int .i64 (below ltIJ l k : Int), .bool (isIn ltIJ l k)]) ∧ Upd [] w w' := by
  have HS := Lib.hid hs
  have HR := Lib.hid hr
  obtain ⟨ao, co, rfl, hlc, hcm, hcell⟩ := hs.rows.rd rcIJ_len
  have c0 : w.cell? ⟨g, 0, none⟩ = some (.slice ao l.length co) := hs.tab.cell 0
  have HC := Lib.hid hcell
  clear hs hr hcell hcm
  go_enter Try.func85, Try.ntmps85
  go_wp2_with fail
  go_quiet (fail)
  have HU := Lib.hid ((Upd.refl [] w).drewN nq)
  generalize w.drewN nq = v at *
  replace c0 := HU.out.cell c0 (by simp)
  go_wp2_with fail
  go_loop [6, 7] (fun lo hi => ∃ a b : Nat, lo = .int .i64 a ∧ hi = .int .i64 b ∧ a ≤ b ∧ b ≤ l.length ∧ Hid (∀ j, j < a → ltIJ (nth l j).1 k = true) ∧ Hid (∀ j, b ≤ j → j < l.length → ltIJ (nth l j).1 k = false)) (fun lo hi => (intOf hi).toNat - (intOf lo).toNat)
  case atStart => exact ⟨0, l.length, rfl, rfl, Nat.zero_le _, Nat.le_refl _, fun j h => absurd h (by omega), fun j h1 h2 => absurd h1 (by omega)⟩
  case round =>
    obtain ⟨a, b, rfl, rfl, hab, hbl, hlo, hhi⟩ := hrel
    by_cases hlt : a < b
    · have hmid : (a + b) / 2 < l.length := by omega
      obtain ⟨bl, off, rfl, hc⟩ := HC.out (by intro h; simp [h] at hmid)
      have d0 : v.cell? ⟨bl, off + (a + b) / 2 * 2, none⟩ = some (iv (nth l ((a + b) / 2)).1) := HU.out.cell (hc _ hmid 0 (by omega)) (by simp)
      clear hc
      cases hcmp : ltIJ (nth l ((a + b) / 2)).1 k with
      | true =>
        have HLO : Hid (∀ j, j < (a + b) / 2 + 1 → ltIJ (nth l j).1 k = true) := fun j hj => HR.out.mono intOrd k j ((a + b) / 2) (by omega) hmid hcmp
        generalize (nth l ((a + b) / 2)).1 = m at *
        have hc1 : m < k := by simpa using hcmp
        clear hcmp
        go_wp2
        go_round
        case rel => exact ⟨(a + b) / 2 + 1, b, by go_num, rfl, by omega, hbl, HLO, hhi⟩
        case measure => simp [intOf]; omega
      | false =>
        have HHI : Hid (∀ j, (a + b) / 2 ≤ j → j < l.length → ltIJ (nth l j).1 k = false) := fun j h1 h2 => by
          cases hq : ltIJ (nth l j).1 k with
          | false => rfl
          | true => exact absurd ((HR.out.mono intOrd k _ j h1 h2 hq).symm.trans hcmp) (by simp)
        generalize (nth l ((a + b) / 2)).1 = m at *
        have hc1 : ¬ m < k := by simpa using hcmp
        clear hcmp
        go_wp2
        go_round
        case rel => exact ⟨a, (a + b) / 2, rfl, by go_num, by omega, by omega, hlo, HHI⟩
        case measure => simp [intOf]; omega
    · obtain rfl : a = b := by omega
      have hbel : below ltIJ l k = a := below_eq l k a hbl hlo.out (fun h => hhi.out a (Nat.le_refl _) h)
      have HIN : Hid (isIn ltIJ l k = decide (a < l.length ∧ (nth l a).1 = k)) := by unfold Hid isIn; rw [hbel]
      have HBEL := Lib.hid hbel
      clear hbel
      by_cases hal : a < l.length
      · obtain ⟨bl, off, rfl, hc⟩ := HC.out (by intro h; simp [h] at hal)
        have d0 : v.cell? ⟨bl, off + a * 2, none⟩ = some (iv (nth l a).1) := HU.out.cell (hc _ hal 0 (by omega)) (by simp)
        have HIN2 : Hid (isIn ltIJ l k = decide ((nth l a).1 = k)) := by unfold Hid; rw [HIN.out]; simp [hal]
        clear hc
        generalize (nth l a).1 = m at *
        have q1 : (0 : Int) ≤ a := by omega
        have q2 : (a : Int) < l.length := by omega
        by_cases he : m = k
        · have t1 : (m == k) = true := by simpa using he
          have HF : Hid (isIn ltIJ l k = true) := by unfold Hid; rw [HIN2.out]; simp [he]
          clear he
          go_wp2_with fail
          go_quiet (fail)
          go_wp2_with fail
          go_ret2
          exact ⟨by rw [HBEL.out, HF.out]; rfl, by first | exact HU.out.drewN _ | exact HU.out.drew⟩
        · have t1 : (m == k) = false := by simpa using he
          have HF : Hid (isIn ltIJ l k = false) := by unfold Hid; rw [HIN2.out]; simp [he]
          clear he
          go_wp2_with fail
          go_quiet (fail)
          go_wp2_with fail
          go_ret2
          exact ⟨by rw [HBEL.out, HF.out]; rfl, by first | exact HU.out.drewN _ | exact HU.out.drew⟩
      · have HF : Hid (isIn ltIJ l k = false) := by unfold Hid; rw [HIN.out]; simp [hal]
        have hd : decide (a < l.length) = false := by simpa using hal
        go_wp2_with fail
        go_quiet (fail)
        go_wp2_with fail
        go_ret2
        exact ⟨by rw [HBEL.out, HF.out]; rfl, by first | exact HU.out.drewN _ | exact HU.out.drew⟩
end
end Go.Proofs.Ytmhdhnipljonlaa
