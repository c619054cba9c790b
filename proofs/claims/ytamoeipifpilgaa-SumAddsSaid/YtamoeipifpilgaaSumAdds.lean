/- The walk of SumAdds. -/
import Derived.Test.YtamoeipifpilgaaSumLaws
namespace Go.Proofs.Ytamoeipifpilgaa
open Go.RowKit
set_option linter.unusedSimpArgs false
set_option linter.unusedVariables false

theorem toNat_bne {a b : BitVec 32} (h : a = b) : ((a.toNat : Int) != (b.toNat : Int)) = false := by rw [h]; simp
set_option maxHeartbeats 1000000 in
theorem sumAdds_any (w : World) (v : Value) (ls : List (List UInt8)) (h : Parts w v ls) :
    Calls Try.prog 10 #[v] w fun e w' => e = .returned (.bool true) ∧ Upd [] w w' := by
  obtain ⟨vs, hvl, hrd, hb⟩ := h
  have hrd0 := hrd
  obtain ⟨a, cap, rfl, hlc, hm, hc⟩ := hrd
  have hm' : vs.length ≤ 9223372036854775807 := by unfold maxLen at hm; omega
  have HL := Lib.hid hvl
  have HB := Lib.hid hb
  have HC := Lib.hid hc
  clear hvl hb hc hm hlc hrd0
  go_enter Try.func10, Try.ntmps10
  go_wp2_with fail
  have HU0 : Hid (Upd [] w ((w.alloc (.cells #[.int .u32 0] 36)).alloc (.cells #[.int .u32 0] 36))) := ((Upd.refl [] w).alloc _).alloc _
  have HA0 : Hid (Blk ((w.alloc (.cells #[.int .u32 0] 36)).alloc (.cells #[.int .u32 0] 36)) w.heap.size 36 [.int .u32 0]) := (Blk.new w 36 [.int .u32 0]).upd ((Upd.refl [] _).alloc _) (by simp)
  have HB0 : Hid (Blk ((w.alloc (.cells #[.int .u32 0] 36)).alloc (.cells #[.int .u32 0] 36)) (w.heap.size + 1) 36 [.int .u32 0]) := by
    have := Blk.new (w.alloc (.cells #[.int .u32 0] 36)) 36 [.int .u32 0]
    rw [World.size_alloc] at this; exact this
  go_loopw [5, 6] (fun s i wr => ∃ (k : Nat) (c : BitVec 32), k ≤ vs.length ∧ k ≤ 50 ∧ i = .int .i64 k ∧ s = .int .u32 (c.toNat : Int) ∧ Hid (Upd [] w wr) ∧ Hid (Blk wr w.heap.size 36 [.int .u32 (c.toNat : Int)]) ∧ Hid (Blk wr (w.heap.size + 1) 36 [.int .u32 0])) (fun _ i _ => vs.length - (intOf i).toNat)
  case atStart => exact ⟨0, 0, by omega, by omega, rfl, rfl, HU0, HA0, HB0⟩
  case round =>
    obtain ⟨k, c, hk, hk2, rfl, rfl, hu, ha, hb⟩ := hrel
    clear HU0 HA0 HB0
    by_cases hlt : k < vs.length ∧ k < 50
    · obtain ⟨hl1, hl2⟩ := hlt
      obtain ⟨b, off, rfl, hc'⟩ := HC.out (by intro h; simp [h] at hl1)
      have hck := hu.out.cell (hc' k hl1) (by simp)
      have HV := Lib.hid ((HB.out k (by rw [← HL.out]; exact hl1)).upd0 hu.out)
      simp only [id] at hck
      have HC2 := Lib.hid hc'
      clear hc'
      go_wp2_with fail
      refine (add_any ⟨w.heap.size, 0, none⟩ c _ (nth ls k) _ HV.out (ha.out.cell 0) (ha.out.frozen 0) rfl).mono ?_
      rintro e w' ⟨rfl, rfl⟩
      have hu1 : Upd [w.heap.size] wr (wr.setCell ⟨w.heap.size, 0, none⟩ (.int .u32 ((sumOn c (nth ls k)).toNat : Int))) := (Upd.refl _ _).setCell _ _ (.inl (by simp))
      have HU1 := Lib.hid (hu.out.trans hu1 (T := []) (by simp) (by simp))
      have HA1 := Lib.hid (ha.out.set_ 0 (.int .u32 ((sumOn c (nth ls k)).toNat : Int)))
      have HB1 := Lib.hid (hb.out.upd hu1 (by simp))
      clear hu1
      generalize wr.setCell ⟨w.heap.size, 0, none⟩ (.int .u32 ((sumOn c (nth ls k)).toNat : Int)) = w2 at *
      have hck2 := HU1.out.cell (HC2.out k hl1) (by simp)
      simp only [id] at hck2
      have HV2 := Lib.hid ((HB.out k (by rw [← HL.out]; exact hl1)).upd0 HU1.out)
      clear hck
      go_wp2_with fail
      refine (refOn_any c _ (nth ls k) _ HV2.out).mono ?_
      rintro e w' ⟨rfl, rfl⟩
      have z0 : (((0 : Int)) != 0) = false := by decide
      go_wp2_with fail
      refine (value_any ⟨w.heap.size, 0, none⟩ ((sumOn c (nth ls k)).toNat : Int) _ (HA1.out.cell 0) rfl).mono ?_
      rintro e w' ⟨rfl, rfl⟩
      go_wp2_with fail
      refine (value_any ⟨w.heap.size, 0, none⟩ ((sumOn c (nth ls k)).toNat : Int) _ (HA1.out.cell 0) rfl).mono ?_
      rintro e w' ⟨rfl, rfl⟩
      go_wp2_with fail
      refine (value_any ⟨w.heap.size + 1, 0, none⟩ 0 _ (HB1.out.cell 0) rfl).mono ?_
      rintro e w' ⟨rfl, rfl⟩
      go_wp2_with fail
      go_roundw
      case rel => exact ⟨k + 1, _, by omega, by omega, by go_num, rfl, HU1, HA1, HB1⟩
      case measure => simp [intOf]; omega
    · by_cases h1 : k < vs.length
      · have h2 : ¬ (k : Int) < 50 := by omega
        go_wp2_with fail
        refine (add_nil _ _).mono ?_
        rintro e w' ⟨rfl, rfl⟩
        go_wp2_with fail
        refine (value_nil _).mono ?_
        rintro e w' ⟨rfl, rfl⟩
        have z1 : (((0 : Int)) == 0) = true := by decide
        go_wp2_with fail
        refine (sumRuns_any _).mono ?_
        rintro e w9 ⟨rfl, hu9⟩
        have HU9 := Lib.hid ((hu.out.alloc _).seq hu9)
        clear hu9
        go_wp2_with fail
        go_ret
        exact ⟨rfl, HU9.out⟩
      · go_wp2_with fail
        refine (add_nil _ _).mono ?_
        rintro e w' ⟨rfl, rfl⟩
        go_wp2_with fail
        refine (value_nil _).mono ?_
        rintro e w' ⟨rfl, rfl⟩
        have z1 : (((0 : Int)) == 0) = true := by decide
        go_wp2_with fail
        refine (sumRuns_any _).mono ?_
        rintro e w9 ⟨rfl, hu9⟩
        have HU9 := Lib.hid ((hu.out.alloc _).seq hu9)
        clear hu9
        go_wp2_with fail
        go_ret
        exact ⟨rfl, HU9.out⟩
end Go.Proofs.Ytamoeipifpilgaa
