/- Chapter 3's Drop at a struct of the law's. -/
import Derived.Test.YtjomecimbofnfaaRingPair
namespace Go.Proofs.Ytjomecimbofnfaa
open Go.RowKit
set_option linter.unusedSimpArgs false
set_option linter.unusedVariables false
section
variable {base : Nat} {g gl room first n : Nat} {arr : List (Int × ByteArray)} {w w' : World}
set_option maxRecDepth 20000 in
set_option maxHeartbeats 1600000 in
theorem ringDropPair_any (w : World) (m : Nat) (i : Int) (hi : I64 i) (q : List (Int × ByteArray)) (hs : RBPair base w g gl room arr first q.length) (hI : RInv room arr first q) (hm : m = qN q i) :
    Calls Try.prog 29 #[.pointer (some ⟨g, 0, none⟩), .int .i64 i] w fun e w' => e = .returned (.int .i64 (m : Int)) ∧ ∃ arr' first', RBPair base w' g gl room arr' first' (q.length - m) ∧ RInv room arr' first' (q.drop m) ∧ Upd [g, gl] w w' := by
  have hle := hs.le
  have hml : m ≤ q.length := by rw [hm]; unfold qN; omega
  have hql := hI.le
  have c2 : w.cell? ⟨g, 2, none⟩ = some (nv q.length) := hs.ring.cell 2
  have HS := Lib.hid hs
  have HI := Lib.hid hI
  have ne1 : ¬ gl = g := fun e => hs.ne e.symm
  have hltg := hs.ring.lt
  have hltl := hs.arr_.lt
  obtain ⟨hi1, hi2⟩ := hi
  have hcase : (i < 0 ∧ m = 0) ∨ (0 ≤ i ∧ i ≤ q.length ∧ i = m) ∨ ((q.length : Int) < i ∧ 0 ≤ i ∧ m = q.length) := by unfold qN at hm; omega
  clear hs hI hm
  rcases hcase with ⟨h1, rfl⟩ | ⟨h1, h2, rfl⟩ | ⟨h1, h2, rfl⟩
  · go_enter Try.func29, Try.ntmps29
    go_wp2_with fail
    go_loopw [14] (fun i wr => ∃ (j : Nat) (arr' : List (Int × ByteArray)) (first' : Nat), j ≤ 0 ∧ i = .int .i64 j ∧ Hid (RBPair base wr g gl room arr' first' q.length) ∧ Hid (RInv room arr' first' (q.drop j)) ∧ Hid (Upd [g, gl] w wr) ∧ Hid (wr.cell? ⟨w.heap.size, 0, none⟩ = some (.int .i64 0 : Value) ∧ wr.cell? ⟨w.heap.size, 1, none⟩ = some (.string ⟨#[]⟩ : Value))) (fun i _ => 0 - (intOf i).toNat)
    case atStart => exact ⟨0, arr, first, by omega, rfl, HS.out.upd ((Upd.refl [] w).alloc (Obj.cells #[.int .i64 0, .string ⟨#[]⟩] 46)) (by simp), HI, (Upd.refl _ _).alloc _, by go_simp, by go_simp⟩
    case round =>
      obtain ⟨j, arr', first', hj, rfl, hs, hI, hu, hz⟩ := hrel
      have c2 : wr.cell? ⟨g, 2, none⟩ = some (nv q.length) := hs.out.ring.cell 2
      have f2 : wr.frozen? ⟨g, 2, none⟩ = false := hs.out.ring.frozen _
      obtain rfl : j = 0 := by omega
      go_wp2_with fail
      go_ret
      refine ⟨rfl, arr', first', ⟨?_, ?_, hs.out.gb, hs.out.lb, hs.out.len, hs.out.le⟩, hI.out, ?_⟩
      · have := hs.out.ring.set_ 2 (.int .i64 (q.length : Int))
        simpa using this
      · exact hs.out.arr_.upd (S := [g]) ((Upd.refl [g] _).setCell ⟨g, 2, none⟩ _ (.inl (by simp))) (by simpa using ne1)
      · exact (hu.out).setCell ⟨g, 2, none⟩ _ (.inl (by simp))
  · go_enter Try.func29, Try.ntmps29
    go_wp2_with fail
    go_loopw [14] (fun i wr => ∃ (j : Nat) (arr' : List (Int × ByteArray)) (first' : Nat), j ≤ m ∧ i = .int .i64 j ∧ Hid (RBPair base wr g gl room arr' first' q.length) ∧ Hid (RInv room arr' first' (q.drop j)) ∧ Hid (Upd [g, gl] w wr) ∧ Hid (wr.cell? ⟨w.heap.size, 0, none⟩ = some (.int .i64 0 : Value) ∧ wr.cell? ⟨w.heap.size, 1, none⟩ = some (.string ⟨#[]⟩ : Value))) (fun i _ => m - (intOf i).toNat)
    case atStart => exact ⟨0, arr, first, by omega, rfl, HS.out.upd ((Upd.refl [] w).alloc (Obj.cells #[.int .i64 0, .string ⟨#[]⟩] 46)) (by simp), HI, (Upd.refl _ _).alloc _, by go_simp, by go_simp⟩
    case round =>
      obtain ⟨j, arr', first', hj, rfl, hs, hI, hu, hz⟩ := hrel
      have c2 : wr.cell? ⟨g, 2, none⟩ = some (nv q.length) := hs.out.ring.cell 2
      have f2 : wr.frozen? ⟨g, 2, none⟩ = false := hs.out.ring.frozen _
      by_cases hlt : j < m
      · have hl1 := hI.out.lt
        have hpos : 0 < (q.drop j).length := by rw [List.length_drop]; omega
        have HP := Lib.hid hpos
        have c0 : wr.cell? ⟨g, 0, none⟩ = some (.slice (some ⟨gl, 0, none⟩) room room) := hs.out.ring.cell 0
        have c1 : wr.cell? ⟨g, 1, none⟩ = some (nv first') := hs.out.ring.cell 1
        have f1 : wr.frozen? ⟨g, 1, none⟩ = false := hs.out.ring.frozen _
        obtain ⟨c3, c4⟩ := arrGetPair hs.out _ hl1
        obtain ⟨r0, r1⟩ := hz.out
        have f3 : wr.frozen? ⟨gl, first' * 2, none⟩ = false := hs.out.arr_.frozen _
        have f4 : wr.frozen? ⟨gl, first' * 2 + 1, none⟩ = false := hs.out.arr_.frozen _
        have q1 : (j : Int) < (m : Nat) := by omega
        have q2 : (0 : Int) ≤ first' := by omega
        have q3 : (first' : Int) < room := by omega
        have q5 : ¬ room = 0 := by omega
        clear hpos c2 f2
        go_wp2_with fail
        go_still_tail 10, (by kernel_rfl)
        change wpList _ _ _ _ _ wr.drew
        go_wp2_with fail
        have HU1 := Lib.hid ((((hu.out).drew).setCell ⟨gl, first' * 2, none⟩ (.int .i64 0 : Value) (.inl (by simp))).setCell ⟨gl, first' * 2 + 1, none⟩ (.string ⟨#[]⟩ : Value) (.inl (by simp)))
        have HL1 : Hid (Blk ((wr.drew.setCell ⟨gl, first' * 2, none⟩ (.int .i64 0 : Value)).setCell ⟨gl, first' * 2 + 1, none⟩ (.string ⟨#[]⟩ : Value)) gl 46 ((arr'.set first' noPair).flatMap pc)) := by
          unfold Hid
          rw [← flat_set arr' first' noPair (by rw [hs.out.len]; omega)]
          exact Blk.set_ (Blk.set_ (w := wr.drew) hs.out.arr_ (first' * 2) (.int .i64 0 : Value)) (first' * 2 + 1) (.string ⟨#[]⟩ : Value)
        have HR1 : Hid (Blk ((wr.drew.setCell ⟨gl, first' * 2, none⟩ (.int .i64 0 : Value)).setCell ⟨gl, first' * 2 + 1, none⟩ (.string ⟨#[]⟩ : Value)) g 99 [.slice (some ⟨gl, 0, none⟩) room room, nv first', nv q.length]) :=
          hs.out.ring.upd (S := [gl]) ((((Upd.refl [gl] wr).drew).setCell ⟨gl, first' * 2, none⟩ (.int .i64 0 : Value) (.inl (by simp))).setCell ⟨gl, first' * 2 + 1, none⟩ (.string ⟨#[]⟩ : Value) (.inl (by simp))) (by simp; exact fun e => ne1 e.symm)
        have hgz : w.heap.size ∉ [g, gl] := by simp; omega
        have HZ1 : Hid (((wr.drew.setCell ⟨gl, first' * 2, none⟩ (.int .i64 0 : Value)).setCell ⟨gl, first' * 2 + 1, none⟩ (.string ⟨#[]⟩ : Value)).cell? ⟨w.heap.size, 0, none⟩ = some (.int .i64 0 : Value) ∧ ((wr.drew.setCell ⟨gl, first' * 2, none⟩ (.int .i64 0 : Value)).setCell ⟨gl, first' * 2 + 1, none⟩ (.string ⟨#[]⟩ : Value)).cell? ⟨w.heap.size, 1, none⟩ = some (.string ⟨#[]⟩ : Value)) := by
          have hu2 := (((Upd.refl [gl] wr).drew).setCell ⟨gl, first' * 2, none⟩ (.int .i64 0 : Value) (.inl (by simp))).setCell ⟨gl, first' * 2 + 1, none⟩ (.string ⟨#[]⟩ : Value) (.inl (by simp))
          exact ⟨hu2.cell hz.out.1 (by simp; omega), hu2.cell hz.out.2 (by simp; omega)⟩
        have hw : ((wr.setCell ⟨gl, first' * 2, none⟩ (.int .i64 0 : Value)).setCell ⟨gl, first' * 2 + 1, none⟩ (.string ⟨#[]⟩ : Value)).drew = ((wr.drew.setCell ⟨gl, first' * 2, none⟩ (.int .i64 0 : Value)).setCell ⟨gl, first' * 2 + 1, none⟩ (.string ⟨#[]⟩ : Value)) := rfl
        rw [hw]
        generalize ((wr.drew.setCell ⟨gl, first' * 2, none⟩ (.int .i64 0 : Value)).setCell ⟨gl, first' * 2 + 1, none⟩ (.string ⟨#[]⟩ : Value)) = v at *
        clear hw
        replace c0 : v.cell? ⟨g, 0, none⟩ = some (.slice (some ⟨gl, 0, none⟩) room room) := HR1.out.cell 0
        replace c1 : v.cell? ⟨g, 1, none⟩ = some (nv first') := HR1.out.cell 1
        replace f1 : v.frozen? ⟨g, 1, none⟩ = false := HR1.out.frozen _
        obtain ⟨w1, w2⟩ := mod_fact1 first' room (by omega) (by omega) (by omega)
        have HD := Lib.hid (hI.out.drop1 (z := noPair) HP.out)
        have hkm := Nat.mod_lt (first' + 1) (show 0 < room by omega)
        generalize hk : (first' + 1) % room = k at w2 HD hkm
        have HK := Lib.hid hk
        clear c3 c4 f3 f4 hk r0 r1 hgz
        go_still_tail 14, (by kernel_rfl)
        change wpList _ _ _ _ _ v.drew
        go_wp2_with fail
        go_roundw
        case rel =>
          refine ⟨j + 1, arr'.set first' noPair, k, by omega, by go_num, ⟨?_, ?_, hs.out.gb, hs.out.lb, by rw [List.length_set]; exact hs.out.len, hs.out.le⟩, ?_, ?_, ?_⟩
          · exact HR1.out.set_ 1 (nv k)
          · exact HL1.out.upd (S := [g]) (((Upd.refl [g] v).setCell ⟨g, 1, none⟩ _ (.inl (by simp))).drew) (by simpa using ne1)
          · rw [← List.drop_drop]; exact HD.out
          · exact ((HU1.out).setCell ⟨g, 1, none⟩ _ (.inl (by simp))).drew
          · have hu2 := ((Upd.refl [g] v).setCell ⟨g, 1, none⟩ (nv k) (.inl (by simp))).drew
            exact ⟨hu2.cell HZ1.out.1 (by simp; omega), hu2.cell HZ1.out.2 (by simp; omega)⟩
        case measure => simp [intOf]; omega
      · obtain rfl : j = m := by omega
        go_wp2_with fail
        go_ret
        refine ⟨rfl, arr', first', ⟨?_, ?_, hs.out.gb, hs.out.lb, hs.out.len, hs.out.le⟩, hI.out, ?_⟩
        · have := hs.out.ring.set_ 2 (.int .i64 ((q.length : Int) - (j : Nat)))
          simpa [nv, Int.natCast_sub (show j ≤ q.length by omega)] using this
        · exact hs.out.arr_.upd (S := [g]) ((Upd.refl [g] _).setCell ⟨g, 2, none⟩ _ (.inl (by simp))) (by simpa using ne1)
        · exact (hu.out).setCell ⟨g, 2, none⟩ _ (.inl (by simp))
  · go_enter Try.func29, Try.ntmps29
    go_wp2_with fail
    go_loopw [14] (fun i wr => ∃ (j : Nat) (arr' : List (Int × ByteArray)) (first' : Nat), j ≤ q.length ∧ i = .int .i64 j ∧ Hid (RBPair base wr g gl room arr' first' q.length) ∧ Hid (RInv room arr' first' (q.drop j)) ∧ Hid (Upd [g, gl] w wr) ∧ Hid (wr.cell? ⟨w.heap.size, 0, none⟩ = some (.int .i64 0 : Value) ∧ wr.cell? ⟨w.heap.size, 1, none⟩ = some (.string ⟨#[]⟩ : Value))) (fun i _ => q.length - (intOf i).toNat)
    case atStart => exact ⟨0, arr, first, by omega, rfl, HS.out.upd ((Upd.refl [] w).alloc (Obj.cells #[.int .i64 0, .string ⟨#[]⟩] 46)) (by simp), HI, (Upd.refl _ _).alloc _, by go_simp, by go_simp⟩
    case round =>
      obtain ⟨j, arr', first', hj, rfl, hs, hI, hu, hz⟩ := hrel
      have c2 : wr.cell? ⟨g, 2, none⟩ = some (nv q.length) := hs.out.ring.cell 2
      have f2 : wr.frozen? ⟨g, 2, none⟩ = false := hs.out.ring.frozen _
      by_cases hlt : j < q.length
      · have hl1 := hI.out.lt
        have hpos : 0 < (q.drop j).length := by rw [List.length_drop]; omega
        have HP := Lib.hid hpos
        have c0 : wr.cell? ⟨g, 0, none⟩ = some (.slice (some ⟨gl, 0, none⟩) room room) := hs.out.ring.cell 0
        have c1 : wr.cell? ⟨g, 1, none⟩ = some (nv first') := hs.out.ring.cell 1
        have f1 : wr.frozen? ⟨g, 1, none⟩ = false := hs.out.ring.frozen _
        obtain ⟨c3, c4⟩ := arrGetPair hs.out _ hl1
        obtain ⟨r0, r1⟩ := hz.out
        have f3 : wr.frozen? ⟨gl, first' * 2, none⟩ = false := hs.out.arr_.frozen _
        have f4 : wr.frozen? ⟨gl, first' * 2 + 1, none⟩ = false := hs.out.arr_.frozen _
        have q1 : (j : Int) < (q.length : Nat) := by omega
        have q2 : (0 : Int) ≤ first' := by omega
        have q3 : (first' : Int) < room := by omega
        have q5 : ¬ room = 0 := by omega
        clear hpos c2 f2
        go_wp2_with fail
        go_still_tail 10, (by kernel_rfl)
        change wpList _ _ _ _ _ wr.drew
        go_wp2_with fail
        have HU1 := Lib.hid ((((hu.out).drew).setCell ⟨gl, first' * 2, none⟩ (.int .i64 0 : Value) (.inl (by simp))).setCell ⟨gl, first' * 2 + 1, none⟩ (.string ⟨#[]⟩ : Value) (.inl (by simp)))
        have HL1 : Hid (Blk ((wr.drew.setCell ⟨gl, first' * 2, none⟩ (.int .i64 0 : Value)).setCell ⟨gl, first' * 2 + 1, none⟩ (.string ⟨#[]⟩ : Value)) gl 46 ((arr'.set first' noPair).flatMap pc)) := by
          unfold Hid
          rw [← flat_set arr' first' noPair (by rw [hs.out.len]; omega)]
          exact Blk.set_ (Blk.set_ (w := wr.drew) hs.out.arr_ (first' * 2) (.int .i64 0 : Value)) (first' * 2 + 1) (.string ⟨#[]⟩ : Value)
        have HR1 : Hid (Blk ((wr.drew.setCell ⟨gl, first' * 2, none⟩ (.int .i64 0 : Value)).setCell ⟨gl, first' * 2 + 1, none⟩ (.string ⟨#[]⟩ : Value)) g 99 [.slice (some ⟨gl, 0, none⟩) room room, nv first', nv q.length]) :=
          hs.out.ring.upd (S := [gl]) ((((Upd.refl [gl] wr).drew).setCell ⟨gl, first' * 2, none⟩ (.int .i64 0 : Value) (.inl (by simp))).setCell ⟨gl, first' * 2 + 1, none⟩ (.string ⟨#[]⟩ : Value) (.inl (by simp))) (by simp; exact fun e => ne1 e.symm)
        have hgz : w.heap.size ∉ [g, gl] := by simp; omega
        have HZ1 : Hid (((wr.drew.setCell ⟨gl, first' * 2, none⟩ (.int .i64 0 : Value)).setCell ⟨gl, first' * 2 + 1, none⟩ (.string ⟨#[]⟩ : Value)).cell? ⟨w.heap.size, 0, none⟩ = some (.int .i64 0 : Value) ∧ ((wr.drew.setCell ⟨gl, first' * 2, none⟩ (.int .i64 0 : Value)).setCell ⟨gl, first' * 2 + 1, none⟩ (.string ⟨#[]⟩ : Value)).cell? ⟨w.heap.size, 1, none⟩ = some (.string ⟨#[]⟩ : Value)) := by
          have hu2 := (((Upd.refl [gl] wr).drew).setCell ⟨gl, first' * 2, none⟩ (.int .i64 0 : Value) (.inl (by simp))).setCell ⟨gl, first' * 2 + 1, none⟩ (.string ⟨#[]⟩ : Value) (.inl (by simp))
          exact ⟨hu2.cell hz.out.1 (by simp; omega), hu2.cell hz.out.2 (by simp; omega)⟩
        have hw : ((wr.setCell ⟨gl, first' * 2, none⟩ (.int .i64 0 : Value)).setCell ⟨gl, first' * 2 + 1, none⟩ (.string ⟨#[]⟩ : Value)).drew = ((wr.drew.setCell ⟨gl, first' * 2, none⟩ (.int .i64 0 : Value)).setCell ⟨gl, first' * 2 + 1, none⟩ (.string ⟨#[]⟩ : Value)) := rfl
        rw [hw]
        generalize ((wr.drew.setCell ⟨gl, first' * 2, none⟩ (.int .i64 0 : Value)).setCell ⟨gl, first' * 2 + 1, none⟩ (.string ⟨#[]⟩ : Value)) = v at *
        clear hw
        replace c0 : v.cell? ⟨g, 0, none⟩ = some (.slice (some ⟨gl, 0, none⟩) room room) := HR1.out.cell 0
        replace c1 : v.cell? ⟨g, 1, none⟩ = some (nv first') := HR1.out.cell 1
        replace f1 : v.frozen? ⟨g, 1, none⟩ = false := HR1.out.frozen _
        obtain ⟨w1, w2⟩ := mod_fact1 first' room (by omega) (by omega) (by omega)
        have HD := Lib.hid (hI.out.drop1 (z := noPair) HP.out)
        have hkm := Nat.mod_lt (first' + 1) (show 0 < room by omega)
        generalize hk : (first' + 1) % room = k at w2 HD hkm
        have HK := Lib.hid hk
        clear c3 c4 f3 f4 hk r0 r1 hgz
        go_still_tail 14, (by kernel_rfl)
        change wpList _ _ _ _ _ v.drew
        go_wp2_with fail
        go_roundw
        case rel =>
          refine ⟨j + 1, arr'.set first' noPair, k, by omega, by go_num, ⟨?_, ?_, hs.out.gb, hs.out.lb, by rw [List.length_set]; exact hs.out.len, hs.out.le⟩, ?_, ?_, ?_⟩
          · exact HR1.out.set_ 1 (nv k)
          · exact HL1.out.upd (S := [g]) (((Upd.refl [g] v).setCell ⟨g, 1, none⟩ _ (.inl (by simp))).drew) (by simpa using ne1)
          · rw [← List.drop_drop]; exact HD.out
          · exact ((HU1.out).setCell ⟨g, 1, none⟩ _ (.inl (by simp))).drew
          · have hu2 := ((Upd.refl [g] v).setCell ⟨g, 1, none⟩ (nv k) (.inl (by simp))).drew
            exact ⟨hu2.cell HZ1.out.1 (by simp; omega), hu2.cell HZ1.out.2 (by simp; omega)⟩
        case measure => simp [intOf]; omega
      · obtain rfl : j = q.length := by omega
        go_wp2_with fail
        go_ret
        refine ⟨rfl, arr', first', ⟨?_, ?_, hs.out.gb, hs.out.lb, hs.out.len, hs.out.le⟩, hI.out, ?_⟩
        · have := hs.out.ring.set_ 2 (.int .i64 ((q.length : Int) - (q.length : Nat)))
          simpa [nv, Int.natCast_sub (show q.length ≤ q.length by omega)] using this
        · exact hs.out.arr_.upd (S := [g]) ((Upd.refl [g] _).setCell ⟨g, 2, none⟩ _ (.inl (by simp))) (by simpa using ne1)
        · exact (hu.out).setCell ⟨g, 2, none⟩ _ (.inl (by simp))
end
end Go.Proofs.Ytjomecimbofnfaa
