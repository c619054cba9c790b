/- The walk of SparseRuns. -/
import Derived.Test.YtfpibngdpooedaaSparseInt4
import Derived.Test.YtfpibngdpooedaaSparseStr4
namespace Go.Proofs.Ytfpibngdpooedaa
open Go.RowKit
set_option linter.unusedSimpArgs false
set_option linter.unusedVariables false
theorem i64_small (n : Int) (h : -10000 ≤ n) (h2 : n ≤ 10000) : I64 n := ⟨by omega, by omega⟩
set_option maxRecDepth 20000 in
set_option maxHeartbeats 4000000 in
theorem sparseRuns_any (w : World) : Calls Try.prog 3 #[] w fun e w' => e = .returned (.bool true) ∧ Upd [] w w' := by
  go_enter Try.func3, Try.ntmps3
  go_wp2_with fail
  refine (rNewStr_eq _ 3 3 rfl (by omega)).mono ?_
  rintro e w1 ⟨g, F1, rfl, hs1, hu1⟩
  have HS1 := Lib.hid hs1
  have HU1 := Lib.hid hu1
  clear hs1 hu1
  go_wp2_with fail
  refine (rAddStr_eq _ 2 ⟨#[97]⟩ true [(2, ⟨#[97]⟩)] (i64_small _ (by omega) (by omega)) HS1.out (by decide) (by decide +kernel)).mono ?_
  rintro e w2 ⟨rfl, F2, hs2, hu2, -⟩
  have HS2 := Lib.hid hs2
  have HU2 := Lib.hid (RowsStr.next HU1.out HS1.out hu2)
  clear hs2 hu2 HS1 HU1
  go_wp2_with fail
  refine (rAddStr_eq _ 0 ⟨#[98]⟩ true [(2, ⟨#[97]⟩), (0, ⟨#[98]⟩)] (i64_small _ (by omega) (by omega)) HS2.out (by decide) (by decide +kernel)).mono ?_
  rintro e w3 ⟨rfl, F3, hs3, hu3, -⟩
  have HS3 := Lib.hid hs3
  have HU3 := Lib.hid (RowsStr.next HU2.out HS2.out hu3)
  clear hs3 hu3 HS2 HU2
  go_wp2_with fail
  refine (rAddStr_eq _ 2 ⟨#[99]⟩ false [(2, ⟨#[97]⟩), (0, ⟨#[98]⟩)] (i64_small _ (by omega) (by omega)) HS3.out (by decide) (by decide +kernel)).mono ?_
  rintro e w4 ⟨rfl, F4, hs4, hu4, -⟩
  have HS4 := Lib.hid hs4
  have HU4 := Lib.hid (RowsStr.next HU3.out HS3.out hu4)
  clear hs4 hu4 HS3 HU3
  go_wp2_with fail
  refine (rAddStr_eq _ 3 ⟨#[100]⟩ false [(2, ⟨#[97]⟩), (0, ⟨#[98]⟩)] (i64_small _ (by omega) (by omega)) HS4.out (by decide) (by decide +kernel)).mono ?_
  rintro e w5 ⟨rfl, F5, hs5, hu5, -⟩
  have HS5 := Lib.hid hs5
  have HU5 := Lib.hid (RowsStr.next HU4.out HS4.out hu5)
  clear hs5 hu5 HS4 HU4
  go_wp2_with fail
  refine (rAtStr_eq _ 0 2 ⟨#[97]⟩ true (i64_small _ (by omega) (by omega)) HS5.out (by decide) (by decide +kernel)).mono ?_
  rintro e w6 ⟨rfl, hu6⟩
  have HS6 := Lib.hid (HS5.out.upd0 hu6)
  have HU6 := Lib.hid (HU5.out.seq hu6)
  clear hu6 HS5 HU5
  go_wp2_with fail
  refine (rAtStr_eq _ 1 0 ⟨#[98]⟩ true (i64_small _ (by omega) (by omega)) HS6.out (by decide) (by decide +kernel)).mono ?_
  rintro e w7 ⟨rfl, hu7⟩
  have HS7 := Lib.hid (HS6.out.upd0 hu7)
  have HU7 := Lib.hid (HU6.out.seq hu7)
  clear hu7 HS6 HU6
  go_wp2_with fail
  refine (rClearStr_any _ HS7.out (by decide)).mono ?_
  rintro e w8 ⟨rfl, F8, hs8, hu8, -⟩
  have HS8 := Lib.hid hs8
  have HU8 := Lib.hid (RowsStr.next HU7.out HS7.out hu8)
  clear hs8 hu8 HS7 HU7
  go_wp2_with fail
  refine (rHasStr_eq _ 2 false (i64_small _ (by omega) (by omega)) HS8.out (by decide) (by decide +kernel)).mono ?_
  rintro e w' ⟨rfl, rfl⟩
  go_wp2_with fail
  refine (rLenStr_eq _ 0 HS8.out rfl).mono ?_
  rintro e w' ⟨rfl, rfl⟩
  go_wp2_with fail
  refine (rAddStr_eq _ 2 ⟨#[101]⟩ true [(2, ⟨#[101]⟩)] (i64_small _ (by omega) (by omega)) HS8.out (by decide) (by decide +kernel)).mono ?_
  rintro e w9 ⟨rfl, F9, hs9, hu9, -⟩
  have HS9 := Lib.hid hs9
  have HU9 := Lib.hid (RowsStr.next HU8.out HS8.out hu9)
  clear hs9 hu9 HS8 HU8
  go_wp2_with fail
  refine (rGetStr_eq _ 2 ⟨#[101]⟩ true (i64_small _ (by omega) (by omega)) HS9.out (by decide) (by decide +kernel)).mono ?_
  rintro e w10 ⟨rfl, hu10⟩
  have HS10 := Lib.hid (HS9.out.upd0 hu10)
  have HU10 := Lib.hid (HU9.out.seq hu10)
  clear hu10 HS9 HU9
  go_wp2_with fail
  refine (spNewInt_no _ (-1) (by omega)).mono ?_
  rintro e w' ⟨rfl, rfl⟩
  go_wp2_with fail
  refine (rSizeStr_eq _ 3 HS10.out rfl).mono ?_
  rintro e w' ⟨rfl, rfl⟩
  go_wp2_with fail
  go_ret
  exact ⟨rfl, HU10.out⟩
end Go.Proofs.Ytfpibngdpooedaa
