/- Chapter 23's runs. -/
import Derived.Test.YthnmlifnlmdelaaFrameLists
import Derived.Test.YthnmlifnlmdelaaConvStr
namespace Go.Proofs.Ythnmlifnlmdelaa
open Go.RowKit
set_option linter.unusedSimpArgs false
set_option linter.unusedVariables false
def runsB : List UInt8 := putF [] [97, 98]
theorem frRuns1 : runsB.length = 10 := by decide +kernel
theorem frRuns2 : nextF runsB 0 = ([97, 98], 10, 0) := by decide +kernel
theorem frRuns3 : nextF (List.replicate 8 0) 0 = ([], 0, 4) := by decide +kernel
theorem frRuns4 : nextF (runsB.take 9) 0 = ([], 0, 3) := by decide +kernel
theorem frRuns5 : scanAll ((runsB ++ runsB) ++ [0]) = ([[97, 98], [97, 98]], 20) := by decide +kernel
theorem fNext_eq (v : Value) (l : List UInt8) (at_ : Int) (w : World) (r : List UInt8 × Int × Int) (hr : nextF l at_ = r) (h : Bytes w v l) (hz : l.length ≤ 1000000000) (hat : I64 at_) :
    Calls Try.prog 16 #[v, .int .i64 at_] w fun e w' => NextSaid w r e w' := hr ▸ fNext_any v l at_ w h hz hat
theorem fScan_eq (v : Value) (l : List UInt8) (w : World) (r : List (List UInt8) × Nat) (hr : scanAll l = r) (h : Bytes w v l) (hz : l.length ≤ 1000000000) :
    Calls Try.prog 17 #[v] w fun e w' => ∃ u, e = .returned (.tuple #[u, .int .i64 (r.2 : Int)]) ∧ OwnParts w.heap.size w' u r.1 ∧ Upd [] w w' := hr ▸ fScan_any v l w h hz
theorem two_of {α : Type} (l : List α) (h : l.length = 2) : ∃ a b, l = [a, b] := by
  match l, h with
  | [a, b], _ => exact ⟨a, b, rfl⟩
theorem strOf_ab : strOf [97, 98] = ⟨#[97, 98]⟩ := rfl
set_option maxHeartbeats 2000000 in
theorem frameRuns_any (w : World) : Calls Try.prog 3 #[] w fun e w' => e = .returned (.bool true) ∧ Upd [] w w' := by
  have kc := @conv_lit Try.prog _ _ Try.underlying22 Try.underlying5
  have hmk := fun u => run_mk (P := Try.prog) Try.underlying22 infoByte rfl u 8 8 8 8 rfl rfl (by omega) (by omega) (by omega)
  go_enter Try.func3, Try.ntmps3
  go_wp2_with fail
  have hu0 := (Upd.refl [] w).alloc (.cells #[.int .u8 97, .int .u8 98] 5 (2, 3))
  refine (fPut_any _ _ [] [97, 98] _ (Rd.nil _) (Rd.lit _ rfl rfl rfl (by decide) (by decide)) (by decide) (by decide)).mono ?_
  rintro e w1 ⟨v1, rfl, ho1, hu1⟩
  have HO1 : Hid (Own bv w.heap.size 5 w1 v1 runsB) := ho1.base_le (by simp)
  have HU1 : Hid (Upd [] w w1) := hu0.seq hu1
  obtain ⟨a1, k1, hv1, hk1, -⟩ := HO1.out.rd
  rw [frRuns1] at hv1 hk1
  subst hv1
  clear ho1 hu1 hu0
  go_wp2_with fail
  refine (fNext_eq _ runsB 0 _ _ frRuns2 HO1.out.rd (by rw [frRuns1]; decide) ⟨by decide, by decide⟩).mono ?_
  rintro e w2 ⟨v2, rfl, ho2, hu2⟩
  have HO2 := Lib.hid (ho2.base_le HU1.out.size)
  have HU2 := Lib.hid (HU1.out.seq hu2)
  have HB2 := Lib.hid (HO1.out.upd hu2 (by simp))
  clear ho2 hu2 HU1 HO1
  go_wp2_with fail
  have HU2b := Lib.hid (HU2.out.alloc (.cells #[.int .u8 0, .int .u8 0, .int .u8 0, .int .u8 0, .int .u8 0, .int .u8 0, .int .u8 0, .int .u8 0] 5))
  refine (fNext_eq _ (List.replicate 8 0) 0 _ _ frRuns3 (Rd.lit _ rfl rfl rfl (by decide) (by decide)) (by decide) ⟨by decide, by decide⟩).mono ?_
  rintro e w3 ⟨v3, rfl, ho3, hu3⟩
  have HU3 := Lib.hid (HU2b.out.seq hu3)
  have hu23 : Upd [] w2 w3 := ((Upd.refl [] w2).alloc _).seq hu3
  have HO3 := Lib.hid (HO2.out.upd hu23 (by simp))
  have HB3 := Lib.hid (HB2.out.upd hu23 (by simp))
  have HT := Lib.hid (HB3.out.rd.take 9 (by rw [frRuns1]; decide))
  have hb9 : (9 : Int) ≤ k1 := by omega
  clear ho3 hu3 HU2 HU2b hu23 HO2 HB2
  go_wp2_with fail
  refine (fNext_eq _ (runsB.take 9) 0 _ _ frRuns4 HT.out (by rw [List.length_take]; omega) ⟨by decide, by decide⟩).mono ?_
  rintro e w4 ⟨v4, rfl, ho4, hu4⟩
  have HU4 := Lib.hid (HU3.out.seq hu4)
  have HO4 := Lib.hid (HO3.out.upd hu4 (by simp))
  have HB4 := Lib.hid (HB3.out.upd hu4 (by simp))
  have hs4 := HU4.out.size
  have hl1 := frRuns1
  clear ho4 hu4 HU3 HO3 HB3 HT
  go_wp2_with (first
    | (at_builtin; refine wpList_app bv_one rfl (.tmp 39) (.tmp 40) rfl Try.underlying22 infoByte rfl (.slice (some ⟨w4.heap.size, 0, none⟩) 0 0) (.slice a1 10 k1) [] runsB rfl rfl (Own.room (base := w4.heap.size) (Nat.le_refl _) rfl rfl (Nat.zero_le _)) (HB4.out.rd.alloc _) (by simp [hl1]) (by unfold maxLen; simp [hl1]) (by simp) ?_; intro v5 w5 ho hu hbk; rw [List.nil_append] at ho; have HU5 : Hid (Upd [] w4 w5) := ((Upd.refl [] w4).alloc _).trans hu (by simp) (by simp [blk]); have HO5 := Lib.hid ho; have HB5 := Lib.hid (HB4.out.upd HU5.out (by simp)); have hs5 := HU5.out.size; clear ho hu hbk)
    | (at_builtin; refine wpList_app bv_one rfl (.tmp 41) (.tmp 42) rfl Try.underlying22 infoByte rfl v5 (.slice a1 10 k1) runsB runsB rfl rfl HO5.out HB5.out.rd (by simp [hl1]) (by unfold maxLen; simp [hl1]) hs5 ?_; intro v6 w6 ho hu hbk; have HU6 : Hid (Upd [] w4 w6) := HU5.out.trans hu (by simp) (fun x hx => .inr (HO5.out.ge x hx).1); have HO6 := Lib.hid ho; have hs6 := HU6.out.size; clear ho hu hbk)
    | (at_builtin; refine wpList_app bv_one rfl (.tmp 43) (.tmp 44) rfl Try.underlying22 infoByte rfl v6 (.slice (some ⟨w6.heap.size, 0, none⟩) 1 1) (runsB ++ runsB) [0] rfl rfl (HO6.out.upd ((Upd.refl [] w6).alloc _) (by simp)) (Rd.lit _ rfl rfl rfl (by decide) (by decide)) (by simp [hl1]) (by unfold maxLen; simp [hl1]) (by simp; omega) ?_; intro v7 w7 ho hu hbk; have HU7 : Hid (Upd [] w4 w7) := (HU6.out.alloc _).trans hu (by simp) (fun x hx => .inr (HO6.out.ge x hx).1); have HO7 := Lib.hid ho; clear ho hu hbk))
  refine (fScan_eq _ _ _ _ frRuns5 HO7.out.rd (by simp [hl1])).mono ?_
  rintro e w8 ⟨u, rfl, ho8, hu8⟩
  have hu48 := HU7.out.seq hu8
  have HU8 := Lib.hid (HU4.out.seq hu48)
  have HO8 := Lib.hid (HO4.out.upd hu48 (by simp))
  obtain ⟨vs, hvl, hvo, hve⟩ := ho8
  obtain ⟨s0, s1, rfl⟩ := two_of vs hvl
  have hv1 := (hve 1 (by decide)).rd
  obtain ⟨ap, cp, rfl, hcc, hcm, hcell⟩ := hvo.rd
  obtain ⟨b, off, rfl, hc⟩ := hcell (by simp)
  have c1 : w8.cell? ⟨b, off + 1, none⟩ = some (slv s1) := hc 1 (by simp)
  have hcv1 := convb_str Try.underlying22 Try.underlying5 Try.underlying9 w8 v2 [97, 98] HO8.out.rd
  have hcv2 := convb_str Try.underlying22 Try.underlying5 Try.underlying9 w8 (slv s1) [97, 98] hv1
  rw [strOf_ab] at hcv1 hcv2
  obtain ⟨ap2, cp2, hv2, -⟩ := HO8.out.rd
  replace hv2 : v2 = .slice ap2 2 cp2 := hv2
  subst hv2
  clear hv1 hve hvo hcell hc hu48 hu8 HO8 HU7 HO7 HU6 HO6 HU5 HO5 HB5 hvl
  obtain ⟨a5, n5, k5⟩ := s1
  dsimp only [slv] at c1 hcv2
  go_wp2_with fail
  go_ret
  exact ⟨rfl, HU8.out⟩
end Go.Proofs.Ythnmlifnlmdelaa
