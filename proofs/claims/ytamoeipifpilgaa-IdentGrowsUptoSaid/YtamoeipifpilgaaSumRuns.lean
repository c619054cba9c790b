/- Chapter 1's runs. -/
import Derived.Test.YtamoeipifpilgaaSum
import Derived.Lib.SlBytesConst
namespace Go.Proofs.Ytamoeipifpilgaa
open Go.RowKit
set_option linter.unusedSimpArgs false
set_option linter.unusedVariables false

theorem runs1 : (((sumOf [[49, 50, 51, 52, 53, 54, 55, 56, 57]]).toNat : Int) == 3808858755) = true := by decide +kernel
theorem runs2 : (((sumOf [[49, 50, 51, 52], [53, 54, 55, 56, 57]]).toNat : Int) == ((sumOf [[49, 50, 51, 52, 53, 54, 55, 56, 57]]).toNat : Int)) = true := by decide +kernel
theorem runs3 : (((sumOf []).toNat : Int) == 0) = true := by decide +kernel
theorem runs4 : (((sumOn 0#32 []).toNat : Int) == 0) = true := by decide +kernel
theorem runs5 : (((sumOn (sumOn 0#32 [49, 50, 51, 52, 53]) [54, 55, 56, 57]).toNat : Int) == ((sumOf [[49, 50, 51, 52, 53, 54, 55, 56, 57]]).toNat : Int)) = true := by decide +kernel
set_option maxHeartbeats 400000 in
theorem sumRuns_any (w : World) : Calls Try.prog 7 #[] w fun e w' => e = .returned (.bool true) ∧ Upd [] w w' := by
  have kc := @conv_lit Try.prog _ _ Try.underlying26 Try.underlying5
  go_enter Try.func7, Try.ntmps7
  go_wp2_with fail
  refine (add_any _ 0 _ [49, 50, 51, 52, 53] _ (Rd.lit _ (by simp) rfl rfl (by decide) (by decide)) (by go_simp) (by go_simp) rfl).mono ?_
  rintro e w' ⟨rfl, rfl⟩
  go_wp2_with fail
  refine (add_any _ (sumOn 0 [49, 50, 51, 52, 53]) _ [54, 55, 56, 57] _ (Rd.lit _ (by simp) rfl rfl (by decide) (by decide)) (by go_simp) (by go_simp) rfl).mono ?_
  rintro e w' ⟨rfl, rfl⟩
  go_wp2_with fail
  refine (of_any _ [[49, 50, 51, 52, 53, 54, 55, 56, 57]] _ (Parts.one _ _ (by simp) rfl rfl rfl (Rd.lit _ (by simp) rfl rfl (by decide) (by decide)))).mono ?_
  rintro e w' ⟨rfl, rfl⟩
  have r1 := runs1
  go_wp2_with fail
  refine (of_any _ [[49, 50, 51, 52], [53, 54, 55, 56, 57]] _ (Parts.two _ _ _ _ (by simp) rfl rfl rfl ((Rd.lit _ (by simp) rfl rfl (by decide) (by decide)).alloc _) (Rd.lit _ (by simp) rfl rfl (by decide) (by decide)))).mono ?_
  rintro e w' ⟨rfl, rfl⟩
  have r2 := runs2
  go_wp2_with fail
  refine (of_any _ [] _ (Parts.nil _)).mono ?_
  rintro e w' ⟨rfl, rfl⟩
  have r3 := runs3
  go_wp2_with fail
  refine (on_any 0 _ [] _ (Rd.nil _)).mono ?_
  rintro e w' ⟨rfl, rfl⟩
  have r4 := runs4
  go_wp2_with fail
  refine (value_any _ ((sumOn (sumOn 0#32 [49, 50, 51, 52, 53]) [54, 55, 56, 57]).toNat : Int) _ (by go_simp) rfl).mono ?_
  rintro e w' ⟨rfl, rfl⟩
  have r5 := runs5
  go_wp2_with fail
  go_ret
  exact ⟨rfl, by repeat (first | exact Upd.refl _ _ | apply Upd.alloc | apply Upd.drew)⟩
end Go.Proofs.Ytamoeipifpilgaa
