/- The walk of RingRuns. -/
import Derived.Test.YtjomecimbofnfaaRingInt3
import Derived.Test.YtjomecimbofnfaaRingStr2
import Derived.Test.YtjomecimbofnfaaBookInt
namespace Go.Proofs.Ytjomecimbofnfaa
open Go.RowKit
set_option linter.unusedSimpArgs false
set_option linter.unusedVariables false
theorem i64_small (n : Int) (h : -10000 ≤ n) (h2 : n ≤ 10000) : I64 n := ⟨by omega, by omega⟩
theorem sameInt_ok (v u : Value) (l m : List Int) (w : World) (h : Rd iv w v l) (h2 : Rd iv w u m) (e : l = m) :
    Calls Try.prog 16 #[v, u] w fun e w' => e = .returned (.bool true) ∧ Upd [] w w' := by
  refine (sameInt_any v u l m w h h2).mono ?_
  rintro e' w' ⟨he, n, hw⟩
  exact ⟨by rw [he, decide_eq_true e], by rw [hw]; exact (Upd.refl [] w).drewN n⟩
set_option maxRecDepth 20000 in
set_option maxHeartbeats 4000000 in
theorem ringRuns_any (w : World) : Calls Try.prog 3 #[] w fun e w' => e = .returned (.bool true) ∧ Upd [] w w' := by
  go_enter Try.func3, Try.ntmps3
  go_wp2_with fail
  refine (rqNewInt_ok _ 2 2 rfl (by omega) (by omega)).mono ?_
  rintro e w1 ⟨g, gl, rfl, hs1, hu1⟩
  have HS1 := Lib.hid hs1
  have HU1 := Lib.hid hu1
  clear hs1 hu1
  go_wp2_with fail
  refine (rqPutInt_ok _ 5 HS1.out (by decide)).mono ?_
  rintro e w2 ⟨rfl, hs2, hu2⟩
  have HS2 : Hid (RQInt w.heap.size w2 g gl 2 [5]) := hs2
  have HU2 := Lib.hid (RQInt.next HU1.out HS1.out hu2)
  clear hs2 hu2 HS1 HU1
  go_wp2_with fail
  refine (rqPutInt_ok _ 6 HS2.out (by decide)).mono ?_
  rintro e w3 ⟨rfl, hs3, hu3⟩
  have HS3 : Hid (RQInt w.heap.size w3 g gl 2 [5, 6]) := hs3
  have HU3 := Lib.hid (RQInt.next HU2.out HS2.out hu3)
  clear hs3 hu3 HS2 HU2
  go_wp2_with fail
  refine (rqPutInt_no _ 7 HS3.out (by decide)).mono ?_
  rintro e w4 ⟨rfl, hu4⟩
  have HS4 := Lib.hid (HS3.out.upd0 hu4)
  have HU4 := Lib.hid (HU3.out.seq hu4)
  clear hu4 HS3 HU3
  go_wp2_with fail
  refine (rqTakeInt_any _ 5 true HS4.out (by decide)).mono ?_
  rintro e w5 ⟨rfl, hs5, hu5⟩
  have HS5 : Hid (RQInt w.heap.size w5 g gl 2 [6]) := hs5
  have HU5 := Lib.hid (RQInt.next HU4.out HS4.out hu5)
  clear hs5 hu5 HS4 HU4
  go_wp2_with fail
  refine (rqPutInt_ok _ 8 HS5.out (by decide)).mono ?_
  rintro e w6 ⟨rfl, hs6, hu6⟩
  have HS6 : Hid (RQInt w.heap.size w6 g gl 2 [6, 8]) := hs6
  have HU6 := Lib.hid (RQInt.next HU5.out HS5.out hu6)
  clear hs6 hu6 HS5 HU5
  go_wp2_with fail
  refine (rqListInt_any _ HS6.out).mono ?_
  rintro e w7 ⟨v, rfl, ho7, hu7⟩
  have HR7 := Lib.hid (ho7.rd.upd0 ((Upd.refl [] w7).alloc (Obj.cells #[.int .i64 6, .int .i64 8] 3)))
  have HL7 : Hid (Rd iv (w7.alloc (Obj.cells #[.int .i64 6, .int .i64 8] 3)) (.slice (some ⟨w7.heap.size, 0, none⟩) 2 2) [6, 8]) := Rd.lit [6, 8] rfl rfl rfl (by decide) (by decide)
  have HU7 := Lib.hid ((HU6.out.seq hu7).alloc (Obj.cells #[.int .i64 6, .int .i64 8] 3))
  have HS7 := Lib.hid ((HS6.out.upd0 hu7).upd0 ((Upd.refl [] w7).alloc (Obj.cells #[.int .i64 6, .int .i64 8] 3)))
  obtain ⟨ao, co, rfl, -⟩ := ho7.rd
  clear hu7 HS6 HU6 ho7
  go_wp2_with fail
  refine (sameInt_ok _ _ _ _ _ HR7.out HL7.out rfl).mono ?_
  rintro e w8 ⟨rfl, hu8⟩
  have HS8 := Lib.hid (HS7.out.upd0 hu8)
  have HU8 := Lib.hid (HU7.out.seq hu8)
  clear hu8 HS7 HU7 HR7 HL7
  go_wp2_with fail
  refine (ringNewStr_no _ 0 (by omega)).mono ?_
  rintro e w' ⟨rfl, rfl⟩
  go_wp2_with fail
  refine (ringNewStr_no _ 4097 (by omega)).mono ?_
  rintro e w' ⟨rfl, rfl⟩
  go_wp2_with fail
  refine (rqAtInt_any _ 2 0 false (i64_small _ (by omega) (by omega)) HS8.out (by decide)).mono ?_
  rintro e w9 ⟨rfl, hu9⟩
  have HS9 := Lib.hid (HS8.out.upd0 hu9)
  have HU9 := Lib.hid (HU8.out.seq hu9)
  clear hu9 HS8 HU8
  go_wp2_with fail
  refine (rqDropInt_any _ 9 2 2 (i64_small _ (by omega) (by omega)) HS9.out (by decide) rfl).mono ?_
  rintro e w10 ⟨rfl, hs10, hu10⟩
  have HS10 : Hid (RQInt w.heap.size w10 g gl 2 []) := hs10
  have HU10 := Lib.hid (RQInt.next HU9.out HS9.out hu10)
  clear hs10 hu10 HS9 HU9
  go_wp2_with fail
  refine (rqLenInt_any _ 0 HS10.out rfl).mono ?_
  rintro e w' ⟨rfl, rfl⟩
  go_wp2_with fail
  go_ret
  exact ⟨rfl, HU10.out⟩
end Go.Proofs.Ytjomecimbofnfaa
