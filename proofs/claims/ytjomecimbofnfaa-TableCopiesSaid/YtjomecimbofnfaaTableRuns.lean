/- The walk of TableRuns. -/
import Derived.Test.YtjomecimbofnfaaTabSI9
import Derived.Test.YtjomecimbofnfaaBookStr
namespace Go.Proofs.Ytjomecimbofnfaa
open Go.RowKit
set_option linter.unusedSimpArgs false
set_option linter.unusedVariables false
theorem i64_s (n : Int) (h : -10000 ≤ n) (h2 : n ≤ 10000) : I64 n := ⟨by omega, by omega⟩
abbrev sB (n : UInt8) : ByteArray := ⟨#[n]⟩
abbrev rows2 : List (ByteArray × Int) := [(sB 97, 2), (sB 98, 3)]
theorem runs_set1 : tSet strLt ([] : List (ByteArray × Int)) (sB 98) 1 = [(sB 98, 1)] := by kernel_rfl
theorem runs_set2 : tSet strLt [(sB 98, (1 : Int))] (sB 97) 2 = [(sB 97, 2), (sB 98, 1)] := by kernel_rfl
theorem runs_set3 : tSet strLt [(sB 97, (2 : Int)), (sB 98, 1)] (sB 98) 3 = rows2 := by kernel_rfl
set_option maxRecDepth 20000 in
set_option maxHeartbeats 4000000 in
theorem tableRuns_any (w : World) : Calls Try.prog 8 #[] w fun e w' => e = .returned (.bool true) ∧ Upd [] w w' := by
  go_enter Try.func8, Try.ntmps8
  go_wp2_with fail
  (with_reducible refine (txSI_New w _ (Upd.refl [] w)).mono ?_)
  rintro e w1 ⟨g, F1, rfl, hs1, hu1, -⟩
  have HS1 := Lib.hid hs1
  clear hs1 hu1
  go_wp2_with fail
  (with_reducible refine (txSI_Set (sB 98) 1 true _ HS1.out (by simp) trivial (by kernel_rfl) runs_set1).mono ?_)
  rintro e w2 ⟨rfl, F2, hs2, -, -⟩
  have HS2 := Lib.hid hs2
  clear hs2 HS1
  go_wp2_with fail
  (with_reducible refine (txSI_Set (sB 97) 2 true _ HS2.out (by simp) trivial (by kernel_rfl) runs_set2).mono ?_)
  rintro e w3 ⟨rfl, F3, hs3, -, -⟩
  have HS3 := Lib.hid hs3
  clear hs3 HS2
  go_wp2_with fail
  (with_reducible refine (txSI_Set (sB 98) 3 false _ HS3.out (by simp) trivial (by kernel_rfl) runs_set3).mono ?_)
  rintro e w4 ⟨rfl, F4, hs4, -, -⟩
  have HS4 := Lib.hid hs4
  clear hs4 HS3
  go_wp2_with fail
  (with_reducible refine (txSI_Keys [sB 97, sB 98] HS4.out (by simp) rfl).mono ?_)
  rintro e w5 ⟨v5, rfl, ho5, hu5⟩
  have HS5 := Lib.hid (HS4.out.upd0 hu5)
  have HO5 := Lib.hid ho5
  obtain ⟨a5, k5, rfl, -⟩ := ho5.rd
  clear ho5 hu5 HS4
  go_wp2_with fail
  have hR5 : Rd sv (w5.alloc (.cells #[sv (sB 97), sv (sB 98)] 9)) (.slice a5 2 k5) [sB 97, sB 98] := HO5.out.rd.upd0 ((Upd.refl [] _).alloc _)
  (with_reducible refine (sameStr_ok (.slice a5 2 k5) (.slice (some ⟨w5.heap.size, 0, none⟩) 2 2) [sB 97, sB 98] (w5.alloc (.cells #[sv (sB 97), sv (sB 98)] 9)) hR5 (Rd.lit [sB 97, sB 98] rfl rfl rfl (by decide) (by decide))).mono ?_)
  rintro e w6 ⟨rfl, n6, rfl⟩
  have hu6 := (Upd.refl [] (w5.alloc (.cells #[sv (sB 97), sv (sB 98)] 9))).drewN n6
  generalize World.drewN _ n6 = w6 at *
  have HS6 := Lib.hid ((HS5.out.upd0 ((Upd.refl [] _).alloc _)).upd0 hu6)
  clear hu6 HS5 HO5 hR5
  go_wp2_with fail
  (with_reducible refine (txSI_Get (sB 98) 3 true HS6.out (by simp) trivial (by kernel_rfl)).mono ?_)
  rintro e w7 ⟨rfl, hu7⟩
  have HS7 := Lib.hid (HS6.out.upd0 hu7)
  clear hu7 HS6
  go_wp2_with fail
  (with_reducible refine (txSI_At 0 (sB 97) 2 true (i64_s 0 (by omega) (by omega)) HS7.out (by simp) (by kernel_rfl)).mono ?_)
  rintro e w8 ⟨rfl, hu8⟩
  have HS8 := Lib.hid (HS7.out.upd0 hu8)
  clear hu8 HS7
  go_wp2_with fail
  (with_reducible refine (txSI_At 2 ⟨#[]⟩ 0 false (i64_s 2 (by omega) (by omega)) HS8.out (by simp) (by kernel_rfl)).mono ?_)
  rintro e w9 ⟨rfl, hu9⟩
  have HS9 := Lib.hid (HS8.out.upd0 hu9)
  clear hu9 HS8
  go_wp2_with fail
  (with_reducible refine (txSI_Least (sB 98) 1 HS9.out (by simp) trivial (by kernel_rfl)).mono ?_)
  rintro e w10 ⟨rfl, hu10⟩
  have HS10 := Lib.hid (HS9.out.upd0 hu10)
  clear hu10 HS9
  go_wp2_with fail
  (with_reducible refine (txSI_Least (sB 122) 2 HS10.out (by simp) trivial (by kernel_rfl)).mono ?_)
  rintro e w11 ⟨rfl, hu11⟩
  have HS11 := Lib.hid (HS10.out.upd0 hu11)
  clear hu11 HS10
  go_wp2_with fail
  (with_reducible refine (txSI_Del (sB 113) false rows2 HS11.out (by simp) trivial (by kernel_rfl) (by kernel_rfl)).mono ?_)
  rintro e w12 ⟨rfl, F12, hs12, -, -⟩
  have HS12 := Lib.hid hs12
  clear hs12 HS11
  go_wp2_with fail
  (with_reducible refine (txSI_Del (sB 97) true [(sB 98, 3)] HS12.out (by simp) trivial (by kernel_rfl) (by kernel_rfl)).mono ?_)
  rintro e w13 ⟨rfl, F13, hs13, -, -⟩
  have HS13 := Lib.hid hs13
  clear hs13 HS12
  go_wp2_with fail
  (with_reducible refine (txSI_Len 1 HS13.out (by simp)).mono ?_)
  rintro e w14 ⟨rfl, rfl⟩
  go_wp2_with fail
  go_ret
  exact ⟨rfl, HS13.out.old⟩
end Go.Proofs.Ytjomecimbofnfaa
