/- Chapter 4's reads at string,[]uint8. -/
import Derived.Test.YtmhdhnipljonlaaRows
import Derived.Test.YtmhdhnipljonlaaTabPlain
import Derived.Test.YtmhdhnipljonlaaAppRun
import Derived.Test.YtmhdhnipljonlaaOpen
import Derived.StillTailTactics
import Derived.Test.YtmhdhnipljonlaaStrOrd
import Derived.Test.YtmhdhnipljonlaaSls
namespace Go.Proofs.Ytmhdhnipljonlaa
open Go.RowKit
set_option linter.unusedSimpArgs false
set_option linter.unusedVariables false
abbrev rcSL (p : ByteArray × Sl) : List Value := [sv p.1, slv p.2]
theorem rcSL_len : ∀ p, (rcSL p).length = 2 := fun _ => rfl
theorem infoRowSL : (Try.prog.info? 143).map (fun i => (i.zero, i.size, i.bytes)) = some (some (.agg #[.string ⟨#[]⟩, .slice none 0 0]), 2, 40) := by kernel_rfl
abbrev ltSL : ByteArray → ByteArray → Bool := strLt
/-- The table at g, its rows lv. -/
structure TBSL (base : Nat) (w : World) (g : Nat) (lv : Value) (l : List (ByteArray × Sl)) : Prop where
  tab : Blk w g 140 [lv]
  rows : OwnN 2 rcSL base 143 w lv l
  gb : base ≤ g
section
variable {base : Nat} {g : Nat} {lv : Value} {l : List (ByteArray × Sl)} {w w' : World}
theorem TBSL.upd (h : TBSL base w g lv l) {S : List Nat} (hu : Upd S w w') (hs : ∀ x ∈ g :: blk lv, x ∉ S) : TBSL base w' g lv l :=
  ⟨h.tab.upd hu (hs g (by simp)), h.rows.upd hu (fun x hx => hs x (by simp [hx])), h.gb⟩
theorem TBSL.upd0 (h : TBSL base w g lv l) (hu : Upd [] w w') : TBSL base w' g lv l := h.upd hu (by simp)
theorem TBSL.g_lv (h : TBSL base w g lv l) : g ∉ blk lv := fun e => by
  obtain ⟨C, f, hq⟩ := h.rows.typ g e
  exact h.tab.ne g hq (by decide) rfl
theorem TBSL.lt (h : TBSL base w g lv l) : ∀ x ∈ g :: blk lv, base ≤ x ∧ x < w.heap.size := by
  intro x hx
  rcases List.mem_cons.1 hx with rfl | hx
  · exact ⟨h.gb, h.tab.lt⟩
  · exact h.rows.ge x hx
theorem tLenSL_any (w : World) (hs : TBSL base w g lv l) :
    Calls Try.prog 74 #[.pointer (some ⟨g, 0, none⟩)] w fun e w' => e = .returned (.int .i64 (l.length : Int)) ∧ w = w' := by
  obtain ⟨ao, co, rfl, -⟩ := hs.rows.rd rcSL_len
  have c0 : w.cell? ⟨g, 0, none⟩ = some (.slice ao l.length co) := hs.tab.cell 0
  go_enter Try.func74, Try.ntmps74
  go_wp2
  go_ret
  exact ⟨rfl, rfl⟩
theorem tNewSL_any (w : World) :
    Calls Try.prog 58 #[] w fun e w' => e = .returned (.pointer (some ⟨w.heap.size, 0, none⟩)) ∧ TBSL w.heap.size w' w.heap.size (.slice none 0 0) [] ∧ Upd [] w w' := by
  go_enter Try.func58, Try.ntmps58
  go_wp2
  go_ret
  exact ⟨rfl, ⟨Blk.new w _ [.slice none 0 0], OwnN.nil _ _ _, Nat.le_refl _⟩, (Upd.refl [] w).alloc _⟩
set_option maxRecDepth 20000 in
set_option maxHeartbeats 1000000 in
theorem tFindSL_any (w : World) (k : ByteArray) (hs : TBSL base w g lv l) (hr : Rising ltSL l) (hlen : l.length ≤ 100000) (hk : True) :
    Calls Try.prog 87 #[.pointer (some ⟨g, 0, none⟩), sv k] w fun e w' => e = .returned (.tuple #[.int .i64 (below ltSL l k : Int), .bool (isIn ltSL l k)]) ∧ Upd [] w w' := by
  have HS := Lib.hid hs
  have HR := Lib.hid hr
  obtain ⟨ao, co, rfl, hlc, hcm, hcell⟩ := hs.rows.rd rcSL_len
  have c0 : w.cell? ⟨g, 0, none⟩ = some (.slice ao l.length co) := hs.tab.cell 0
  have HC := Lib.hid hcell
  clear hs hr hcell hcm
  go_enter Try.func87, Try.ntmps87
  go_wp2_with fail
  go_quiet (fail)
  have HU := Lib.hid ((Upd.refl [] w).drewN nq)
  generalize w.drewN nq = v at *
  replace c0 := HU.out.cell c0 (by simp)
  go_wp2_with fail
  go_loop [6, 7] (fun lo hi => ∃ a b : Nat, lo = .int .i64 a ∧ hi = .int .i64 b ∧ a ≤ b ∧ b ≤ l.length ∧ Hid (∀ j, j < a → ltSL (nth l j).1 k = true) ∧ Hid (∀ j, b ≤ j → j < l.length → ltSL (nth l j).1 k = false)) (fun lo hi => (intOf hi).toNat - (intOf lo).toNat)
  case atStart => exact ⟨0, l.length, rfl, rfl, Nat.zero_le _, Nat.le_refl _, fun j h => absurd h (by omega), fun j h1 h2 => absurd h1 (by omega)⟩
  case round =>
    obtain ⟨a, b, rfl, rfl, hab, hbl, hlo, hhi⟩ := hrel
    by_cases hlt : a < b
    · have hmid : (a + b) / 2 < l.length := by omega
      obtain ⟨bl, off, rfl, hc⟩ := HC.out (by intro h; simp [h] at hmid)
      have d0 : v.cell? ⟨bl, off + (a + b) / 2 * 2, none⟩ = some (sv (nth l ((a + b) / 2)).1) := HU.out.cell (hc _ hmid 0 (by omega)) (by simp)
      clear hc
      cases hcmp : ltSL (nth l ((a + b) / 2)).1 k with
      | true =>
        have HLO : Hid (∀ j, j < (a + b) / 2 + 1 → ltSL (nth l j).1 k = true) := fun j hj => HR.out.mono strOrd k j ((a + b) / 2) (by omega) hmid hcmp
        generalize (nth l ((a + b) / 2)).1 = m at *
        have hc1 := hcmp
        clear hcmp
        go_wp2
        go_round
        case rel => exact ⟨(a + b) / 2 + 1, b, by go_num, rfl, by omega, hbl, HLO, hhi⟩
        case measure => simp [intOf]; omega
      | false =>
        have HHI : Hid (∀ j, (a + b) / 2 ≤ j → j < l.length → ltSL (nth l j).1 k = false) := fun j h1 h2 => by
          cases hq : ltSL (nth l j).1 k with
          | false => rfl
          | true => exact absurd ((HR.out.mono strOrd k _ j h1 h2 hq).symm.trans hcmp) (by simp)
        generalize (nth l ((a + b) / 2)).1 = m at *
        have hc1 := hcmp
        clear hcmp
        go_wp2
        go_round
        case rel => exact ⟨a, (a + b) / 2, rfl, by go_num, by omega, by omega, hlo, HHI⟩
        case measure => simp [intOf]; omega
    · obtain rfl : a = b := by omega
      have hbel : below ltSL l k = a := below_eq l k a hbl hlo.out (fun h => hhi.out a (Nat.le_refl _) h)
      have HIN : Hid (isIn ltSL l k = decide (a < l.length ∧ (nth l a).1 = k)) := by unfold Hid isIn; rw [hbel]
      have HBEL := Lib.hid hbel
      clear hbel
      by_cases hal : a < l.length
      · obtain ⟨bl, off, rfl, hc⟩ := HC.out (by intro h; simp [h] at hal)
        have d0 : v.cell? ⟨bl, off + a * 2, none⟩ = some (sv (nth l a).1) := HU.out.cell (hc _ hal 0 (by omega)) (by simp)
        have HIN2 : Hid (isIn ltSL l k = decide ((nth l a).1 = k)) := by unfold Hid; rw [HIN.out]; simp [hal]
        clear hc
        generalize (nth l a).1 = m at *
        have q1 : (0 : Int) ≤ a := by omega
        have q2 : (a : Int) < l.length := by omega
        by_cases he : m = k
        · have t1 : (m.toList == k.toList) = true := by rw [he]; simp
          have HF : Hid (isIn ltSL l k = true) := by unfold Hid; rw [HIN2.out]; simp [he]
          clear he
          go_wp2_with fail
          go_quiet (fail)
          go_wp2_with fail
          go_ret2
          exact ⟨by rw [HBEL.out, HF.out]; rfl, by first | exact HU.out.drewN _ | exact HU.out.drew⟩
        · have t1 : (m.toList == k.toList) = false := by rw [beq_eq_false_iff_ne]; exact fun h => he (str_inj _ _ h)
          have HF : Hid (isIn ltSL l k = false) := by unfold Hid; rw [HIN2.out]; simp [he]
          clear he
          go_wp2_with fail
          go_quiet (fail)
          go_wp2_with fail
          go_ret2
          exact ⟨by rw [HBEL.out, HF.out]; rfl, by first | exact HU.out.drewN _ | exact HU.out.drew⟩
      · have HF : Hid (isIn ltSL l k = false) := by unfold Hid; rw [HIN.out]; simp [hal]
        have hd : decide (a < l.length) = false := by simpa using hal
        go_wp2_with fail
        go_quiet (fail)
        go_wp2_with fail
        go_ret2
        exact ⟨by rw [HBEL.out, HF.out]; rfl, by first | exact HU.out.drewN _ | exact HU.out.drew⟩
end
end Go.Proofs.Ytmhdhnipljonlaa
