/- Chapter 3's Put and Drop at string. -/
import Derived.Test.YtjomecimbofnfaaRingStr
namespace Go.Proofs.Ytjomecimbofnfaa
open Go.RowKit
set_option linter.unusedSimpArgs false
set_option linter.unusedVariables false
section
variable {base : Nat} {g gl room first n : Nat} {arr : List ByteArray} {w w' : World}
theorem ringLenStr_any (w : World) (hs : RBStr base w g gl room arr first n) :
    Calls Try.prog 31 #[.pointer (some ⟨g, 0, none⟩)] w fun e w' => e = .returned (.int .i64 (n : Int)) ∧ w = w' := by
  have c2 : w.cell? ⟨g, 2, none⟩ = some (nv n) := hs.ring.cell 2
  go_enter Try.func31, Try.ntmps31
  go_wp2
  go_ret
  exact ⟨rfl, rfl⟩
theorem ringNewStr_no (w : World) (i : Int) (h : i < 1 ∨ 4096 < i) :
    Calls Try.prog 18 #[.int .i64 i] w fun e w' => e = .returned (.tuple #[.pointer none, .int .i64 1]) ∧ w = w' := by
  rcases h with h | h
  all_goals
    go_enter Try.func18, Try.ntmps18
    go_wp2
    go_ret2
    exact ⟨rfl, rfl⟩
theorem ringNewStr_ok (w : World) (n : Nat) (h1 : 1 ≤ n) (h : n ≤ 4096) :
    Calls Try.prog 18 #[.int .i64 (n : Int)] w fun e w' => ∃ g gl, e = .returned (.tuple #[.pointer (some ⟨g, 0, none⟩), .int .i64 0]) ∧ RBStr w.heap.size w' g gl n (List.replicate n (⟨#[]⟩ : ByteArray)) 0 0 ∧ Upd [] w w' := by
  have hmk := fun (u : World) (L C : Int) (hL : L = (n : Int)) (hC : C = (n : Int)) => run_mk Try.underlying66 infoElStr rfl u n n L C hL hC (Nat.le_refl _) (by omega) (by omega)
  have hm := fun u => hmk u n n rfl rfl
  have HM := Lib.hid (List.map_replicate (f := sv) (n := n) (a := (⟨#[]⟩ : ByteArray)))
  clear hmk
  have hz : ∃ r : List Value, List.replicate n (.string ⟨#[]⟩ : Value) = r := ⟨_, rfl⟩
  obtain ⟨r, hr⟩ := hz
  rw [show sv (⟨#[]⟩ : ByteArray) = (.string ⟨#[]⟩ : Value) from rfl, hr] at HM
  rw [hr] at hm
  have h0 : (1 : Int) ≤ n := by omega
  have h2 : (n : Int) ≤ 4096 := by omega
  clear hr
  go_enter Try.func18, Try.ntmps18
  go_wp2
  go_ret2
  refine ⟨w.heap.size + 1, w.heap.size, rfl, ⟨?_, ?_, by omega, Nat.le_refl _, by simp, h⟩, ((Upd.refl [] w).alloc _).alloc _⟩
  · have := Blk.new (w.alloc (.cells r.toArray 9)) 96 [.slice (some ⟨w.heap.size, 0, none⟩) n n, .int .i64 0, .int .i64 0]
    simp at this
    exact this
  · rw [HM.out]
    exact (Blk.new w 9 r).upd ((Upd.refl [] _).alloc _) (by simp)
set_option maxRecDepth 20000 in
set_option maxHeartbeats 400000 in
theorem ringPutStr_no (w : World) (x : ByteArray) (hs : RBStr base w g gl room arr first n) (hn : room ≤ n) (hn2 : n ≤ 4096) :
    Calls Try.prog 24 #[.pointer (some ⟨g, 0, none⟩), sv x] w fun e w' => e = .returned (.bool false) ∧ Upd [] w w' := by
  have c0 : w.cell? ⟨g, 0, none⟩ = some (.slice (some ⟨gl, 0, none⟩) room room) := hs.ring.cell 0
  have c2 : w.cell? ⟨g, 2, none⟩ = some (nv n) := hs.ring.cell 2
  have hle := hs.le
  have q : (room : Int) ≤ n := by omega
  clear hs
  go_enter Try.func24, Try.ntmps24
  go_wp2_with fail
  go_quiet (fail)
  go_wp2_with fail
  go_ret
  exact ⟨rfl, by first | exact (Upd.refl [] _).drewN _ | exact (Upd.refl [] _).drew⟩
theorem arrSetStr (arr : List ByteArray) (k : Nat) (x : ByteArray) : (arr.map sv).set k (sv x) = (arr.set k x).map sv := by rw [List.map_set]
set_option maxRecDepth 20000 in
set_option maxHeartbeats 800000 in
theorem ringPutStr_ok (w : World) (x : ByteArray) (hs : RBStr base w g gl room arr first n) (hn : n < room) (hf : first < room) :
    Calls Try.prog 24 #[.pointer (some ⟨g, 0, none⟩), sv x] w fun e w' => e = .returned (.bool true) ∧ RBStr base w' g gl room (arr.set ((first + n) % room) x) first (n + 1) ∧ Upd [g, gl] w w' := by
  have hle := hs.le
  have hm := Nat.mod_lt (first + n) (show 0 < room by omega)
  have HS := Lib.hid hs
  have c0 : w.cell? ⟨g, 0, none⟩ = some (.slice (some ⟨gl, 0, none⟩) room room) := hs.ring.cell 0
  have c1 : w.cell? ⟨g, 1, none⟩ = some (nv first) := hs.ring.cell 1
  have c2 : w.cell? ⟨g, 2, none⟩ = some (nv n) := hs.ring.cell 2
  have c3 := arrGetStr hs _ hm
  have f3 : w.frozen? ⟨gl, (first + n) % room, none⟩ = false := hs.arr_.frozen _
  have f2 : w.frozen? ⟨g, 2, none⟩ = false := hs.ring.frozen _
  have ne1 : ¬ gl = g := fun e => hs.ne e.symm
  obtain ⟨w1, w2⟩ := mod_fact first n room (by omega) (by omega) (by omega)
  generalize nth arr ((first + n) % room) = y at *
  generalize (first + n) % room = k at *
  have q1 : (n : Int) < room := by omega
  have q2 : (0 : Int) ≤ k := by omega
  have q3 : (k : Int) < room := by omega
  have q4 : ((room : Int) == 0) = false := by rw [beq_eq_false_iff_ne]; omega
  have q5 : ¬ room = 0 := by omega
  clear hs
  go_enter Try.func24, Try.ntmps24
  go_wp2_with fail
  go_quiet (fail)
  go_wp2_with fail
  have HU1 := Lib.hid ((Upd.refl [] w).drewN nq)
  generalize w.drewN nq = v at *
  replace c0 := HU1.out.cell c0 (by simp)
  replace c1 := HU1.out.cell c1 (by simp)
  replace c2 := HU1.out.cell c2 (by simp)
  replace c3 := HU1.out.cell c3 (by simp)
  have HS1 := Lib.hid (HS.out.upd HU1.out (by simp))
  replace f2 : v.frozen? ⟨g, 2, none⟩ = false := HS1.out.ring.frozen _
  replace f3 : v.frozen? ⟨gl, k, none⟩ = false := HS1.out.arr_.frozen _
  go_still_tail 21, (by kernel_rfl)
  change wpList _ _ _ _ _ v.drew
  go_wp2_with fail
  go_ret
  refine ⟨rfl, ⟨?_, ?_, HS.out.gb, HS.out.lb, by rw [List.length_set]; exact HS.out.len, HS.out.le⟩, ?_⟩
  · exact (Blk.upd HS1.out.ring ((Upd.refl [gl] v).setCell ⟨gl, k, none⟩ (sv x) (.inl (by simp))) (by simp; exact fun e => ne1 e.symm)).set_ 2 (.int .i64 ((n : Int) + 1))
  · rw [← arrSetStr]
    exact (HS1.out.arr_.set_ k (sv x)).upd (S := [g]) (((Upd.refl [g] _).setCell ⟨g, 2, none⟩ _ (.inl (by simp))).drew) (by simpa using ne1)
  · exact (((HU1.out.mono (T := [g, gl]) (by simp)).setCell ⟨gl, k, none⟩ _ (.inl (by simp))).setCell ⟨g, 2, none⟩ _ (.inl (by simp))).drew
set_option maxRecDepth 20000 in
set_option maxHeartbeats 1600000 in
theorem ringDropStr_any (w : World) (m : Nat) (i : Int) (hi : I64 i) (q : List ByteArray) (hs : RBStr base w g gl room arr first q.length) (hI : RInv room arr first q) (hm : m = qN q i) :
    Calls Try.prog 28 #[.pointer (some ⟨g, 0, none⟩), .int .i64 i] w fun e w' => e = .returned (.int .i64 (m : Int)) ∧ ∃ arr' first', RBStr base w' g gl room arr' first' (q.length - m) ∧ RInv room arr' first' (q.drop m) ∧ Upd [g, gl] w w' := by
  have hle := hs.le
  have hml : m ≤ q.length := by rw [hm]; unfold qN; omega
  have hql := hI.le
  have c2 : w.cell? ⟨g, 2, none⟩ = some (nv q.length) := hs.ring.cell 2
  have HS := Lib.hid hs
  have HI := Lib.hid hI
  have ne1 : ¬ gl = g := fun e => hs.ne e.symm
  obtain ⟨hi1, hi2⟩ := hi
  have hcase : (i < 0 ∧ m = 0) ∨ (0 ≤ i ∧ i ≤ q.length ∧ i = m) ∨ ((q.length : Int) < i ∧ 0 ≤ i ∧ m = q.length) := by unfold qN at hm; omega
  clear hs hI hm
  rcases hcase with ⟨h1, rfl⟩ | ⟨h1, h2, rfl⟩ | ⟨h1, h2, rfl⟩
  · go_enter Try.func28, Try.ntmps28
    go_wp2_with fail
    go_loopw [14] (fun i wr => ∃ (j : Nat) (arr' : List ByteArray) (first' : Nat), j ≤ 0 ∧ i = .int .i64 j ∧ Hid (RBStr base wr g gl room arr' first' q.length) ∧ Hid (RInv room arr' first' (q.drop j)) ∧ Hid (Upd [g, gl] w wr)) (fun i _ => 0 - (intOf i).toNat)
    case atStart => exact ⟨0, arr, first, by omega, rfl, HS, HI, Upd.refl _ _⟩
    case round =>
      obtain ⟨j, arr', first', hj, rfl, hs, hI, hu⟩ := hrel
      have c2 : wr.cell? ⟨g, 2, none⟩ = some (nv q.length) := hs.out.ring.cell 2
      have f2 : wr.frozen? ⟨g, 2, none⟩ = false := hs.out.ring.frozen _
      obtain rfl : j = 0 := by omega
      go_wp2_with fail
      go_ret
      refine ⟨rfl, arr', first', ⟨?_, ?_, hs.out.gb, hs.out.lb, hs.out.len, hs.out.le⟩, hI.out, ?_⟩
      · have := hs.out.ring.set_ 2 (.int .i64 (q.length : Int))
        simpa using this
      · exact hs.out.arr_.upd (S := [g]) ((Upd.refl [g] _).setCell ⟨g, 2, none⟩ _ (.inl (by simp))) (by simpa using ne1)
      · exact (hu.out).setCell ⟨g, 2, none⟩ _ (.inl (by simp))
  · go_enter Try.func28, Try.ntmps28
    go_wp2_with fail
    go_loopw [14] (fun i wr => ∃ (j : Nat) (arr' : List ByteArray) (first' : Nat), j ≤ m ∧ i = .int .i64 j ∧ Hid (RBStr base wr g gl room arr' first' q.length) ∧ Hid (RInv room arr' first' (q.drop j)) ∧ Hid (Upd [g, gl] w wr)) (fun i _ => m - (intOf i).toNat)
    case atStart => exact ⟨0, arr, first, by omega, rfl, HS, HI, Upd.refl _ _⟩
    case round =>
      obtain ⟨j, arr', first', hj, rfl, hs, hI, hu⟩ := hrel
      have c2 : wr.cell? ⟨g, 2, none⟩ = some (nv q.length) := hs.out.ring.cell 2
      have f2 : wr.frozen? ⟨g, 2, none⟩ = false := hs.out.ring.frozen _
      by_cases hlt : j < m
      · have hl1 := hI.out.lt
        have hpos : 0 < (q.drop j).length := by rw [List.length_drop]; omega
        have HP := Lib.hid hpos
        have c0 : wr.cell? ⟨g, 0, none⟩ = some (.slice (some ⟨gl, 0, none⟩) room room) := hs.out.ring.cell 0
        have c1 : wr.cell? ⟨g, 1, none⟩ = some (nv first') := hs.out.ring.cell 1
        have f1 : wr.frozen? ⟨g, 1, none⟩ = false := hs.out.ring.frozen _
        have c3 := arrGetStr hs.out _ hl1
        have f3 : wr.frozen? ⟨gl, first', none⟩ = false := hs.out.arr_.frozen _
        have q1 : (j : Int) < (m : Nat) := by omega
        have q2 : (0 : Int) ≤ first' := by omega
        have q3 : (first' : Int) < room := by omega
        have q5 : ¬ room = 0 := by omega
        clear hpos c2 f2
        go_wp2_with fail
        go_still_tail 10, (by kernel_rfl)
        change wpList _ _ _ _ _ wr.drew
        go_wp2_with fail
        have HU1 := Lib.hid (((hu.out).drew).setCell ⟨gl, first', none⟩ (.string ⟨#[]⟩ : Value) (.inl (by simp)))
        have HL1 : Hid (Blk (wr.drew.setCell ⟨gl, first', none⟩ (.string ⟨#[]⟩ : Value)) gl 9 ((arr'.set first' (⟨#[]⟩ : ByteArray)).map sv)) := by
          have h := Blk.set_ (w := wr.drew) hs.out.arr_ first' (.string ⟨#[]⟩ : Value)
          rw [← arrSetStr]; exact h
        have HR1 : Hid (Blk (wr.drew.setCell ⟨gl, first', none⟩ (.string ⟨#[]⟩ : Value)) g 96 [.slice (some ⟨gl, 0, none⟩) room room, nv first', nv q.length]) :=
          hs.out.ring.upd (S := [gl]) (((Upd.refl [gl] wr).drew).setCell ⟨gl, first', none⟩ (.string ⟨#[]⟩ : Value) (.inl (by simp))) (by simp; exact fun e => ne1 e.symm)
        have hw : (wr.setCell ⟨gl, first', none⟩ (.string ⟨#[]⟩ : Value)).drew = wr.drew.setCell ⟨gl, first', none⟩ (.string ⟨#[]⟩ : Value) := rfl
        rw [hw]
        generalize wr.drew.setCell ⟨gl, first', none⟩ (.string ⟨#[]⟩ : Value) = v at *
        clear hw
        replace c0 : v.cell? ⟨g, 0, none⟩ = some (.slice (some ⟨gl, 0, none⟩) room room) := HR1.out.cell 0
        replace c1 : v.cell? ⟨g, 1, none⟩ = some (nv first') := HR1.out.cell 1
        replace f1 : v.frozen? ⟨g, 1, none⟩ = false := HR1.out.frozen _
        obtain ⟨w1, w2⟩ := mod_fact1 first' room (by omega) (by omega) (by omega)
        have HD := Lib.hid (hI.out.drop1 (z := (⟨#[]⟩ : ByteArray)) HP.out)
        have hkm := Nat.mod_lt (first' + 1) (show 0 < room by omega)
        generalize hk : (first' + 1) % room = k at w2 HD hkm
        have HK := Lib.hid hk
        clear c3 f3 hk
        go_still_tail 14, (by kernel_rfl)
        change wpList _ _ _ _ _ v.drew
        go_wp2_with fail
        go_roundw
        case rel =>
          refine ⟨j + 1, arr'.set first' (⟨#[]⟩ : ByteArray), k, by omega, by go_num, ⟨?_, ?_, hs.out.gb, hs.out.lb, by rw [List.length_set]; exact hs.out.len, hs.out.le⟩, ?_, ?_⟩
          · exact HR1.out.set_ 1 (nv k)
          · exact HL1.out.upd (S := [g]) (((Upd.refl [g] v).setCell ⟨g, 1, none⟩ _ (.inl (by simp))).drew) (by simpa using ne1)
          · rw [← List.drop_drop]; exact HD.out
          · exact ((HU1.out).setCell ⟨g, 1, none⟩ _ (.inl (by simp))).drew
        case measure => simp [intOf]; omega
      · obtain rfl : j = m := by omega
        go_wp2_with fail
        go_ret
        refine ⟨rfl, arr', first', ⟨?_, ?_, hs.out.gb, hs.out.lb, hs.out.len, hs.out.le⟩, hI.out, ?_⟩
        · have := hs.out.ring.set_ 2 (.int .i64 ((q.length : Int) - (j : Nat)))
          simpa [nv, Int.natCast_sub (show j ≤ q.length by omega)] using this
        · exact hs.out.arr_.upd (S := [g]) ((Upd.refl [g] _).setCell ⟨g, 2, none⟩ _ (.inl (by simp))) (by simpa using ne1)
        · exact (hu.out).setCell ⟨g, 2, none⟩ _ (.inl (by simp))
  · go_enter Try.func28, Try.ntmps28
    go_wp2_with fail
    go_loopw [14] (fun i wr => ∃ (j : Nat) (arr' : List ByteArray) (first' : Nat), j ≤ q.length ∧ i = .int .i64 j ∧ Hid (RBStr base wr g gl room arr' first' q.length) ∧ Hid (RInv room arr' first' (q.drop j)) ∧ Hid (Upd [g, gl] w wr)) (fun i _ => q.length - (intOf i).toNat)
    case atStart => exact ⟨0, arr, first, by omega, rfl, HS, HI, Upd.refl _ _⟩
    case round =>
      obtain ⟨j, arr', first', hj, rfl, hs, hI, hu⟩ := hrel
      have c2 : wr.cell? ⟨g, 2, none⟩ = some (nv q.length) := hs.out.ring.cell 2
      have f2 : wr.frozen? ⟨g, 2, none⟩ = false := hs.out.ring.frozen _
      by_cases hlt : j < q.length
      · have hl1 := hI.out.lt
        have hpos : 0 < (q.drop j).length := by rw [List.length_drop]; omega
        have HP := Lib.hid hpos
        have c0 : wr.cell? ⟨g, 0, none⟩ = some (.slice (some ⟨gl, 0, none⟩) room room) := hs.out.ring.cell 0
        have c1 : wr.cell? ⟨g, 1, none⟩ = some (nv first') := hs.out.ring.cell 1
        have f1 : wr.frozen? ⟨g, 1, none⟩ = false := hs.out.ring.frozen _
        have c3 := arrGetStr hs.out _ hl1
        have f3 : wr.frozen? ⟨gl, first', none⟩ = false := hs.out.arr_.frozen _
        have q1 : (j : Int) < (q.length : Nat) := by omega
        have q2 : (0 : Int) ≤ first' := by omega
        have q3 : (first' : Int) < room := by omega
        have q5 : ¬ room = 0 := by omega
        clear hpos c2 f2
        go_wp2_with fail
        go_still_tail 10, (by kernel_rfl)
        change wpList _ _ _ _ _ wr.drew
        go_wp2_with fail
        have HU1 := Lib.hid (((hu.out).drew).setCell ⟨gl, first', none⟩ (.string ⟨#[]⟩ : Value) (.inl (by simp)))
        have HL1 : Hid (Blk (wr.drew.setCell ⟨gl, first', none⟩ (.string ⟨#[]⟩ : Value)) gl 9 ((arr'.set first' (⟨#[]⟩ : ByteArray)).map sv)) := by
          have h := Blk.set_ (w := wr.drew) hs.out.arr_ first' (.string ⟨#[]⟩ : Value)
          rw [← arrSetStr]; exact h
        have HR1 : Hid (Blk (wr.drew.setCell ⟨gl, first', none⟩ (.string ⟨#[]⟩ : Value)) g 96 [.slice (some ⟨gl, 0, none⟩) room room, nv first', nv q.length]) :=
          hs.out.ring.upd (S := [gl]) (((Upd.refl [gl] wr).drew).setCell ⟨gl, first', none⟩ (.string ⟨#[]⟩ : Value) (.inl (by simp))) (by simp; exact fun e => ne1 e.symm)
        have hw : (wr.setCell ⟨gl, first', none⟩ (.string ⟨#[]⟩ : Value)).drew = wr.drew.setCell ⟨gl, first', none⟩ (.string ⟨#[]⟩ : Value) := rfl
        rw [hw]
        generalize wr.drew.setCell ⟨gl, first', none⟩ (.string ⟨#[]⟩ : Value) = v at *
        clear hw
        replace c0 : v.cell? ⟨g, 0, none⟩ = some (.slice (some ⟨gl, 0, none⟩) room room) := HR1.out.cell 0
        replace c1 : v.cell? ⟨g, 1, none⟩ = some (nv first') := HR1.out.cell 1
        replace f1 : v.frozen? ⟨g, 1, none⟩ = false := HR1.out.frozen _
        obtain ⟨w1, w2⟩ := mod_fact1 first' room (by omega) (by omega) (by omega)
        have HD := Lib.hid (hI.out.drop1 (z := (⟨#[]⟩ : ByteArray)) HP.out)
        have hkm := Nat.mod_lt (first' + 1) (show 0 < room by omega)
        generalize hk : (first' + 1) % room = k at w2 HD hkm
        have HK := Lib.hid hk
        clear c3 f3 hk
        go_still_tail 14, (by kernel_rfl)
        change wpList _ _ _ _ _ v.drew
        go_wp2_with fail
        go_roundw
        case rel =>
          refine ⟨j + 1, arr'.set first' (⟨#[]⟩ : ByteArray), k, by omega, by go_num, ⟨?_, ?_, hs.out.gb, hs.out.lb, by rw [List.length_set]; exact hs.out.len, hs.out.le⟩, ?_, ?_⟩
          · exact HR1.out.set_ 1 (nv k)
          · exact HL1.out.upd (S := [g]) (((Upd.refl [g] v).setCell ⟨g, 1, none⟩ _ (.inl (by simp))).drew) (by simpa using ne1)
          · rw [← List.drop_drop]; exact HD.out
          · exact ((HU1.out).setCell ⟨g, 1, none⟩ _ (.inl (by simp))).drew
        case measure => simp [intOf]; omega
      · obtain rfl : j = q.length := by omega
        go_wp2_with fail
        go_ret
        refine ⟨rfl, arr', first', ⟨?_, ?_, hs.out.gb, hs.out.lb, hs.out.len, hs.out.le⟩, hI.out, ?_⟩
        · have := hs.out.ring.set_ 2 (.int .i64 ((q.length : Int) - (q.length : Nat)))
          simpa [nv, Int.natCast_sub (show q.length ≤ q.length by omega)] using this
        · exact hs.out.arr_.upd (S := [g]) ((Upd.refl [g] _).setCell ⟨g, 2, none⟩ _ (.inl (by simp))) (by simpa using ne1)
        · exact (hu.out).setCell ⟨g, 2, none⟩ _ (.inl (by simp))
end
end Go.Proofs.Ytjomecimbofnfaa
