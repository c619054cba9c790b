/- Chapter 21: the file with a name. -/
import Derived.Test.YtmhdhnipljonlaaYardState
import Derived.Deep.DeepCutAuto
namespace Go.Proofs.Ytmhdhnipljonlaa
open Go.RowKit
set_option linter.unusedSimpArgs false
set_option linter.unusedVariables false
theorem nth_rows (cs : CL) (i : Nat) (hi : i < cs.length) : nth (rowsOf cs) i = ((nth cs i).1, (nth cs i).2.1) := tMap_nth id (·.1) cs i hi
theorem rows_len (cs : CL) : (rowsOf cs).length = cs.length := by simp [rowsOf, tMap]
theorem tAt_rows (cs : CL) (i : Nat) (hi : i < cs.length) : tAt (0 : Int) zF (rowsOf cs) (i : Int) = ((nth cs i).1, (nth cs i).2.1, true) := by
  rw [tAt_at _ _ _ _ (by rw [rows_len]; exact hi), nth_rows cs i hi]
section
variable {w0 w : World} {gy gf gt : Nat} {F T : List Nat} {cs : CL} {tk : List (Int × Int)}
set_option maxRecDepth 20000 in
set_option maxHeartbeats 1000000 in
theorem yFind_any (s : ByteArray) (i : Nat) (ino : Int) (nm : ByteArray) (sl : Sl) (h : YC w0 w gy gf gt F T cs tk) (hlen : cs.length ≤ 1000) (hi : i ≤ cs.length) (hlo : ∀ j, j < i → (nth cs j).2.1.1 ≠ s)
    (hat : (i < cs.length ∧ (nth cs i).2.1.1 = s ∧ ino = (nth cs i).1 ∧ (nm, sl) = (nth cs i).2.1) ∨ (i = cs.length ∧ ino = 0 ∧ (nm, sl) = zF)) :
    Calls Try.prog 50 #[.pointer (some ⟨gy, 0, none⟩), sv s] w fun e w' => e = .returned (.tuple #[iv ino, fv (nm, sl)]) ∧ Upd [] w w' := by
  have HH := Lib.hid h
  have HLO := Lib.hid hlo
  have HAT := Lib.hid hat
  have HLEN : Hid ((rowsOf cs).length ≤ 100000) := by unfold Hid; rw [rows_len]; omega
  have HLC : Hid (((rowsOf cs).length : Int) = (cs.length : Int)) := by unfold Hid; rw [rows_len]
  have hu0 := (Upd.refl [] w).alloc (.cells #[.string ⟨#[]⟩, .slice none 0 0] 91)
  have HU0 := Lib.hid hu0
  have hB0 := Blk.new w 91 [.string ⟨#[]⟩, .slice none 0 0]
  have HB0 := Lib.hid hB0
  have y0 := HU0.out.cell (h.yard.cell 0) (by simp)
  clear h hlo hat hu0 hB0
  go_enter Try.func50, Try.ntmps50
  go_wp2_with fail
  (with_reducible refine (txIF_Len _ ((HH.out.upd0 HU0.out).files) HLC.out).mono ?_)
  rintro e w' ⟨rfl, rfl⟩
  clear y0
  go_wp2_with fail
  go_loopw [6, 15] (fun x c wr => ∃ k : Nat, k ≤ i ∧ c = .int .i64 k ∧ Hid (Upd [] w wr) ∧ Hid (Blk wr w.heap.size 91 [.string ⟨#[]⟩, .slice none 0 0])) (fun _ c _ => cs.length - (intOf c).toNat)
  case atStart => exact ⟨0, Nat.zero_le _, rfl, HU0, HB0⟩
  case round =>
    obtain ⟨k, hk, rfl, hu, hB⟩ := hrel
    have hsz : w.heap.size < wr.heap.size := hB.out.lt
    have y1 := hu.out.cell (HH.out.yard.cell 0) (by simp)
    clear HU0 HB0
    by_cases hlt : k < cs.length
    · have HA : Hid (tAt (0 : Int) zF (rowsOf cs) (k : Int) = ((nth cs k).1, (nth cs k).2.1, true)) := tAt_rows cs k hlt
      have q0 : (0 : Int) ≤ k := by omega
      have q1 : (k : Int) < cs.length := by omega
      have HI64 : Hid (I64 (k : Int)) := ⟨by omega, by omega⟩
      by_cases hki : k < i
      · have hne := HLO.out k hki
        generalize (nth cs k).1 = x at *
        generalize (nth cs k).2.1 = v2 at *
        obtain ⟨nm2, sl2⟩ := v2
        have t1 : (nm2.toList == s.toList) = false := by rw [beq_eq_false_iff_ne]; exact fun h => hne (str_inj _ _ h)
        clear hne
        go_wp2_with fail
        (with_reducible refine (txIF_At (k : Int) x (nm2, sl2) true HI64.out ((HH.out.upd0 hu.out).files) HLEN.out HA.out).mono ?_)
        rintro e w2 ⟨rfl, hu2⟩
        have HU2 := Lib.hid (hu.out.seq hu2)
        have HB2 := Lib.hid (hB.out.upd hu2 (by simp))
        have hlt2 : w.heap.size < w2.heap.size := HB2.out.lt
        clear hu2
        go_wp2_with fail
        have HU3 := Lib.hid (HU2.out.alloc (.cells #[sv nm2, slv sl2] 91))
        have HB3 := Lib.hid (HB2.out.upd ((Upd.refl [] w2).alloc (.cells #[sv nm2, slv sl2] 91)) (by simp))
        go_roundw
        case rel => exact ⟨k + 1, by omega, by go_num, HU3, HB3⟩
        case measure => simp [intOf]; omega
      · obtain rfl : k = i := by omega
        have hat : (nth cs k).2.1.1 = s ∧ ino = (nth cs k).1 ∧ (nm, sl) = (nth cs k).2.1 := by
          rcases HAT.out with ⟨-, h1, h2, h3⟩ | ⟨h1, -⟩
          · exact ⟨h1, h2, h3⟩
          · omega
        obtain ⟨ha1, ha2, ha3⟩ := hat
        rw [← ha2, ← ha3] at HA
        have hns : nm = s := by rw [← ha3] at ha1; exact ha1
        have t1 : (nm.toList == s.toList) = true := by rw [hns]; simp
        clear ha1 ha2 ha3 hns HAT HLO
        go_wp2_with fail
        (with_reducible refine (txIF_At (k : Int) ino (nm, sl) true HI64.out ((HH.out.upd0 hu.out).files) HLEN.out HA.out).mono ?_)
        rintro e w2 ⟨rfl, hu2⟩
        have HU2 := Lib.hid (hu.out.seq hu2)
        have HB2 := Lib.hid (hB.out.upd hu2 (by simp))
        have hlt2 : w.heap.size < w2.heap.size := HB2.out.lt
        clear hu2
        go_wp2_with fail
        have HU3 := Lib.hid (HU2.out.alloc (.cells #[sv nm, slv sl] 91))
        have hB3 := (HB2.out.upd ((Upd.refl [] w2).alloc (.cells #[sv nm, slv sl] 91)) (by simp))
        have hR := Blk.new w2 91 [sv nm, slv sl]
        change Blk (w2.alloc (.cells #[sv nm, slv sl] 91)) _ _ _ at hR
        generalize w2.alloc (.cells #[sv nm, slv sl] 91) = v at *
        have d0 := hB3.cell 0
        have d1 := hB3.cell 1
        have f0 := hB3.frozen 0
        have f1 := hB3.frozen 1
        have r0 := hR.cell 0
        have r1 := hR.cell 1
        simp only [List.getElem?_cons_zero, List.getElem?_cons_succ] at d0 d1 r0 r1
        have HB4 : Hid (Blk ((v.setCell ⟨w.heap.size, 0, none⟩ (sv nm)).setCell ⟨w.heap.size, 1, none⟩ (slv sl)).drew w.heap.size 91 [sv nm, slv sl]) := blk_two hB3 _ _
        have HU4 : Hid (Upd [] w ((v.setCell ⟨w.heap.size, 0, none⟩ (sv nm)).setCell ⟨w.heap.size, 1, none⟩ (slv sl)).drew) :=
          ((HU3.out.setCell _ _ (.inr (Nat.le_refl _))).setCell _ _ (.inr (Nat.le_refl _))).drew
        clear hB3 hR
        go_region
        all_goals (go_wp2_with fail)
        all_goals
          have e0 := HB4.out.cell 0
          have e1 := HB4.out.cell 1
          have hU := HU4.out
          clear HB4 HU4
          generalize World.drew _ = W at *
          exact bodyPost_ret (v := .tuple #[iv ino, fv (nm, sl)]) (by simp [results, Try.results50, go_sem, e0, e1]; try rfl) rfl ⟨rfl, hU⟩
    · obtain rfl : k = cs.length := by omega
      have hat : ino = 0 ∧ (nm, sl) = zF := by
        rcases HAT.out with ⟨h1, -⟩ | ⟨-, h2, h3⟩
        · omega
        · exact ⟨h2, h3⟩
      obtain ⟨rfl, hz⟩ := hat
      injection hz with hz1 hz2
      subst hz1; subst hz2
      have hB1 := hB.out
      have d0 := hB1.cell 0
      have d1 := hB1.cell 1
      have f0 := hB1.frozen 0
      have f1 := hB1.frozen 1
      have HB4 := Lib.hid (blk_two hB1 (.string ⟨#[]⟩) (.slice none 0 0))
      have HU4 : Hid (Upd [] w ((wr.setCell ⟨w.heap.size, 0, none⟩ (.string ⟨#[]⟩)).setCell ⟨w.heap.size, 1, none⟩ (.slice none 0 0))) :=
        (hu.out.setCell _ _ (.inr (Nat.le_refl _))).setCell _ _ (.inr (Nat.le_refl _))
      clear hB1 HAT
      go_wp2_with fail
      have e0 := HB4.out.cell 0
      have e1 := HB4.out.cell 1
      have hU := HU4.out
      clear HB4 HU4
      generalize World.setCell _ _ _ = W at *
      exact bodyPost_ret (v := .tuple #[iv 0, fv zF]) (by simp [results, Try.results50, go_sem, e0, e1]; try rfl) rfl ⟨rfl, hU⟩
end
end Go.Proofs.Ytmhdhnipljonlaa
