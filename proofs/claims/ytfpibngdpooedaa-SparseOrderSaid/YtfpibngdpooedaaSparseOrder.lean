/- The walk of SparseOrder. -/
import Derived.Test.YtfpibngdpooedaaSparseRuns
import Derived.Test.YtfpibngdpooedaaConvStr
namespace Go.Proofs.Ytfpibngdpooedaa
open Go.RowKit
set_option linter.unusedSimpArgs false
set_option linter.unusedVariables false
set_option maxRecDepth 20000 in
set_option maxHeartbeats 4000000 in
theorem sparseOrder_any (w : World) (v : Value) (l : List Int) (h : Rd iv w v l) (hl : ∀ x ∈ l, I64 x) (_ : l.length * 8 ≤ 140737488351232) :
    Calls Try.prog 6 #[v] w fun e w' => e = .returned (.bool true) ∧ Upd [] w w' := by
  have HR := Lib.hid h
  obtain ⟨a, cap, rfl, hlc, hcm, hcell⟩ := h
  have hm' : l.length ≤ 9223372036854775807 := by unfold maxLen at hcm; omega
  have HL := Lib.hid hl
  clear hlc hcm hcell hl
  go_enter Try.func6, Try.ntmps6
  go_wp2_with fail
  refine (rNewStr_eq _ 100 100 rfl (by omega)).mono ?_
  rintro e w1 ⟨g, F1, rfl, hs1, hu1⟩
  have HS1 := Lib.hid hs1
  have HU1 := Lib.hid hu1
  clear hs1 hu1
  go_wp2_with fail
  go_loopw [5, 6] (fun n i wr => ∃ (k : Nat) (it : List (Nat × ByteArray)) (F : List Nat), k ≤ 200 ∧ k ≤ l.length ∧ i = .int .i64 k ∧ n = .int .i64 it.length ∧ it.length ≤ k ∧ Hid (RowsStr w.heap.size wr g F 100 it) ∧ Hid (Upd [] w wr)) (fun _ i _ => 200 - (intOf i).toNat)
  case atStart => exact ⟨0, [], F1, by omega, by omega, rfl, rfl, by simp, HS1, HU1⟩
  case round =>
    obtain ⟨k, it, F, hk, hkl, rfl, rfl, hit, hs, hu⟩ := hrel
    clear HS1 HU1
    by_cases hlt : k < l.length
    · by_cases h2 : k < 200
      · obtain ⟨b, off, rfl, c0⟩ := (HR.out.upd0 hu.out).at_ k hlt
        have HN := Lib.hid (HL.out (nth l k) (by rw [nth_get l k hlt]; exact List.getElem_mem hlt))
        have q1 : (k : Int) < l.length := by omega
        have q2 : (k : Int) < 200 := by omega
        go_wp2_with fail
        refine (within_any _ _ _ _ HN.out (by omega) (by omega) (by omega)).mono ?_
        rintro e w' ⟨rfl, rfl⟩
        obtain ⟨n1, n2⟩ := within_in (nth l k) 0 99 (by omega)
        generalize within (nth l k) 0 99 = x at *
        obtain ⟨x, rfl⟩ := Int.eq_ofNat_of_zero_le n1
        have hcv := convb_str Try.underlying52 Try.underlying5 Try.underlying9 (wr.alloc (Obj.cells #[Value.int IntKind.u8 ↑k, Value.int IntKind.u8 ↑x] 5)) (.slice (some ⟨wr.heap.size, 0, none⟩) 2 2) [UInt8.ofNat k, UInt8.ofNat x]
          (Rd.lit [UInt8.ofNat k, UInt8.ofNat x] rfl (by simp [bv, show k % 256 = k from by omega, show x % 256 = x from by omega]) rfl (by decide) (by decide))
        generalize strOf [UInt8.ofNat k, UInt8.ofNat x] = name at *
        have hxi : I64 (x : Int) := i64_small _ (by omega) (by omega)
        have HXI := Lib.hid hxi
        have hs2 := Lib.hid (hs.out.upd0 ((Upd.refl [] wr).alloc (Obj.cells #[Value.int IntKind.u8 ↑k, Value.int IntKind.u8 ↑x] 5)))
        have hu2 := Lib.hid (hu.out.alloc (Obj.cells #[Value.int IntKind.u8 ↑k, Value.int IntKind.u8 ↑x] 5))
        clear hs hu hxi c0
        generalize hw2 : wr.alloc (Obj.cells #[Value.int IntKind.u8 ↑k, Value.int IntKind.u8 ↑x] 5) = w2 at *
        have HW2 := Lib.hid hw2
        clear hw2
        cases hh : rHas it (x : Int) with
        | true =>
          have hcan : rCan 100 it (x : Int) = false ∧ rAdd 100 it (x : Int) name = it := by unfold rAdd rCan; simp [hh]
          have HCAN := Lib.hid hcan
          have HH := Lib.hid hh
          clear hcan hh
          go_wp2_with fail
          simp only [HW2.out, hcv]
          clear hcv
          go_wp2_with fail
          refine (rHasStr_eq _ _ true HXI.out hs2.out (by omega) HH.out).mono ?_
          rintro e w' ⟨rfl, rfl⟩
          go_wp2_with fail
          refine (rAddStr_eq _ _ name false it HXI.out hs2.out (by omega) HCAN.out).mono ?_
          rintro e w3 ⟨rfl, F3, hs3, hu3, -⟩
          have HS3 := Lib.hid hs3
          have HU3 := Lib.hid (RowsStr.next hu2.out hs2.out hu3)
          clear hs3 hu3
          go_wp2_with fail
          go_roundw
          case rel => exact ⟨k + 1, it, F3, by omega, by omega, by go_num, rfl, by omega, HS3, HU3⟩
          case measure => simp [intOf]; omega
        | false =>
          have hcan : rCan 100 it (x : Int) = true ∧ rAdd 100 it (x : Int) name = it ++ [(x, name)] := by
            have : rCan 100 it (x : Int) = true := by unfold rCan; simp [hh]; omega
            unfold rAdd; rw [this]; simp
          have HCAN := Lib.hid hcan
          have hat : rAt (it ++ [(x, name)]) ByteArray.empty (it.length : Int) = ((x : Int), name, true) := by
            rw [rAt_ok _ _ _ (by simp), nth_append_right _ _ _ (Nat.le_refl _)]; simp [nth]
          have HAT := Lib.hid hat
          have HLEN : Hid ((it ++ [(x, name)]).length = it.length + 1) := by unfold Hid; simp
          have HI64 : Hid (I64 (it.length : Int)) := i64_small _ (by omega) (by omega)
          have HH := Lib.hid hh
          clear hcan hh hat
          go_wp2_with fail
          simp only [HW2.out, hcv]
          clear hcv
          go_wp2_with fail
          refine (rHasStr_eq _ _ false HXI.out hs2.out (by omega) HH.out).mono ?_
          rintro e w' ⟨rfl, rfl⟩
          go_wp2_with fail
          refine (rAddStr_eq _ _ name true _ HXI.out hs2.out (by omega) HCAN.out).mono ?_
          rintro e w3 ⟨rfl, F3, hs3, hu3, -⟩
          have HS3 := Lib.hid hs3
          have HU3 := Lib.hid (RowsStr.next hu2.out hs2.out hu3)
          clear hs3 hu3
          go_wp2_with fail
          refine (rAtStr_eq _ _ _ name true HI64.out HS3.out (by rw [HLEN.out]; omega) HAT.out).mono ?_
          rintro e w4 ⟨rfl, hu4⟩
          have HS4 := Lib.hid (HS3.out.upd0 hu4)
          have HU4 := Lib.hid (HU3.out.seq hu4)
          clear hu4
          go_wp2_with fail
          go_roundw
          case rel => exact ⟨k + 1, it ++ [(x, name)], F3, by omega, by omega, by go_num, by rw [HLEN.out]; go_num, by rw [HLEN.out]; omega, HS4, HU4⟩
          case measure => simp [intOf]; omega
      · obtain rfl : k = 200 := by omega
        go_wp2_with fail
        refine (rLenStr_any _ hs.out).mono ?_
        rintro e w' ⟨rfl, rfl⟩
        go_wp2_with fail
        refine (sparseRuns_any _).mono ?_
        rintro e w9 ⟨rfl, hu9⟩
        go_wp2_with fail
        go_ret
        exact ⟨rfl, hu.out.seq hu9⟩
    · obtain rfl : k = l.length := by omega
      go_wp2_with fail
      refine (rLenStr_any _ hs.out).mono ?_
      rintro e w' ⟨rfl, rfl⟩
      go_wp2_with fail
      refine (sparseRuns_any _).mono ?_
      rintro e w9 ⟨rfl, hu9⟩
      go_wp2_with fail
      go_ret
      exact ⟨rfl, hu.out.seq hu9⟩
end Go.Proofs.Ytfpibngdpooedaa
