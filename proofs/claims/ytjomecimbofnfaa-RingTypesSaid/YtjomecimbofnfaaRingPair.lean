/- Chapter 3's functions at a struct of the law's. -/
import Derived.Test.YtjomecimbofnfaaRows
import Derived.Test.YtjomecimbofnfaaRingLaw
import Derived.Test.YtjomecimbofnfaaAppRun
import Derived.Test.YtjomecimbofnfaaBookStr
import Derived.Test.YtjomecimbofnfaaOpen
import Derived.StillTailTactics
import Derived.Laws.ResultCell
namespace Go.Proofs.Ytjomecimbofnfaa
open Go.RowKit
set_option linter.unusedSimpArgs false
set_option linter.unusedVariables false
abbrev pc (p : Int × ByteArray) : List Value := [iv p.1, sv p.2]
abbrev noPair : Int × ByteArray := (0, (⟨#[]⟩ : ByteArray))
theorem pc_len : ∀ p, (pc p).length = 2 := fun _ => rfl
theorem flat_set : ∀ (l : List (Int × ByteArray)) (k : Nat) (p : Int × ByteArray), k < l.length → ((l.flatMap pc).set (k * 2) (iv p.1)).set (k * 2 + 1) (sv p.2) = (l.set k p).flatMap pc
  | [], k, p, h => by simp at h
  | x :: l, 0, p, h => by simp [List.flatMap_cons]
  | x :: l, k + 1, p, h => by
    have := flat_set l k p (by simpa using h)
    rw [List.set_cons_succ, List.flatMap_cons, List.flatMap_cons, ← this]
    have e1 : (k + 1) * 2 = k * 2 + 1 + 1 := by omega
    have e2 : (k + 1) * 2 + 1 = k * 2 + 1 + 1 + 1 := by omega
    rw [e1]
    simp [pc]
theorem infoElPair : (Try.prog.info? 46).map (fun i => (i.zero, i.size, i.bytes)) = some (some (.agg #[.int .i64 0, .string ⟨#[]⟩]), 2, 24) := by kernel_rfl
structure RBPair (base : Nat) (w : World) (g gl : Nat) (room : Nat) (arr : List (Int × ByteArray)) (first n : Nat) : Prop where
  ring : Blk w g 99 [.slice (some ⟨gl, 0, none⟩) room room, nv first, nv n]
  arr_ : Blk w gl 46 (arr.flatMap pc)
  gb : base ≤ g
  lb : base ≤ gl
  len : arr.length = room
  le : room ≤ 4096
section
variable {base : Nat} {g gl room first n : Nat} {arr : List (Int × ByteArray)} {w w' : World}
theorem RBPair.upd (h : RBPair base w g gl room arr first n) {S : List Nat} (hu : Upd S w w') (hs : ∀ x ∈ [g, gl], x ∉ S) : RBPair base w' g gl room arr first n :=
  ⟨h.ring.upd hu (hs g (by simp)), h.arr_.upd hu (hs gl (by simp)), h.gb, h.lb, h.len, h.le⟩
theorem RBPair.ne (h : RBPair base w g gl room arr first n) : g ≠ gl := fun e => by
  have := h.arr_; exact h.ring.ne gl this (by decide) e
theorem arrGetPair (h : RBPair base w g gl room arr first n) (i : Nat) (hi' : i < room) : w.cell? ⟨gl, i * 2, none⟩ = some (iv (nth arr i).1) ∧ w.cell? ⟨gl, i * 2 + 1, none⟩ = some (sv (nth arr i).2) := by
  have hi : i < arr.length := by rw [h.len]; exact hi'
  constructor
  · rw [h.arr_.cell]; exact flatMap_get pc_len arr i 0 hi (by omega)
  · rw [h.arr_.cell]; exact flatMap_get pc_len arr i 1 hi (by omega)
theorem ringLenPair_any (w : World) (hs : RBPair base w g gl room arr first n) :
    Calls Try.prog 32 #[.pointer (some ⟨g, 0, none⟩)] w fun e w' => e = .returned (.int .i64 (n : Int)) ∧ w = w' := by
  have c2 : w.cell? ⟨g, 2, none⟩ = some (nv n) := hs.ring.cell 2
  go_enter Try.func32, Try.ntmps32
  go_wp2
  go_ret
  exact ⟨rfl, rfl⟩
set_option maxRecDepth 20000 in
set_option maxHeartbeats 800000 in
theorem ringAtPair_no (w : World) (i : Int) (hi : I64 i) (hs : RBPair base w g gl room arr first n) (hn : n ≤ 4096) (h : i < 0 ∨ n ≤ i) :
    Calls Try.prog 30 #[.pointer (some ⟨g, 0, none⟩), .int .i64 i] w fun e w' => e = .returned (.tuple #[.agg #[.int .i64 0, .string ⟨#[]⟩], .bool false]) ∧ Upd [] w w' := by
  have c2 : w.cell? ⟨g, 2, none⟩ = some (nv n) := hs.ring.cell 2
  have hlt := hs.ring.lt
  obtain ⟨hi1, hi2⟩ := hi
  have hd : (i < 0) ∨ (0 ≤ i ∧ (n : Int) ≤ i) := by omega
  clear hs h
  rcases hd with h | ⟨h, h'⟩
  all_goals
    go_enter Try.func30, Try.ntmps30
    go_wp2_with fail
    exact bodyPost_ret (v := .tuple #[.agg #[.int .i64 0, .string ⟨#[]⟩], .bool false]) (by simp [results, Try.results30, go_sem]; try rfl) rfl ⟨rfl, by repeat (first | exact Upd.refl _ _ | apply Upd.alloc | apply Upd.drew | (refine Upd.setCell ?_ _ _ (.inr (by simp))))⟩
set_option maxRecDepth 20000 in
set_option maxHeartbeats 800000 in
theorem ringAtPair_ok (w : World) (i : Nat) (hs : RBPair base w g gl room arr first n) (hn : n ≤ room) (hf : first < room) (h : i < n) :
    Calls Try.prog 30 #[.pointer (some ⟨g, 0, none⟩), .int .i64 (i : Int)] w fun e w' => e = .returned (.tuple #[.agg #[iv (nth arr ((first + i) % room)).1, sv (nth arr ((first + i) % room)).2], .bool true]) ∧ Upd [] w w' := by
  have hle := hs.le
  have hm := Nat.mod_lt (first + i) (show 0 < room by omega)
  have c0 : w.cell? ⟨g, 0, none⟩ = some (.slice (some ⟨gl, 0, none⟩) room room) := hs.ring.cell 0
  have c1 : w.cell? ⟨g, 1, none⟩ = some (nv first) := hs.ring.cell 1
  have c2 : w.cell? ⟨g, 2, none⟩ = some (nv n) := hs.ring.cell 2
  obtain ⟨c3, c4⟩ := arrGetPair hs _ hm
  have hlt := hs.ring.lt
  have hlt2 := hs.arr_.lt
  obtain ⟨w1, w2⟩ := mod_fact first i room (by omega) (by omega) (by omega)
  generalize (nth arr ((first + i) % room)).1 = x at *
  generalize (nth arr ((first + i) % room)).2 = y at *
  generalize (first + i) % room = k at *
  have q0 : (0 : Int) ≤ i := by omega
  have q1 : (i : Int) < n := by omega
  have q2 : (0 : Int) ≤ k := by omega
  have q3 : (k : Int) < room := by omega
  have q4 : ((room : Int) == 0) = false := by rw [beq_eq_false_iff_ne]; omega
  have q5 : ¬ room = 0 := by omega
  clear hs
  go_enter Try.func30, Try.ntmps30
  go_wp2_with fail
  have e0 := (Upd.refl [] w).alloc (Obj.cells #[.int .i64 0, .string ⟨#[]⟩] 46)
  have r0 : (w.alloc (Obj.cells #[.int .i64 0, .string ⟨#[]⟩] 46)).cell? ⟨w.heap.size, 0, none⟩ = some (.int .i64 0) := by go_simp
  have r1 : (w.alloc (Obj.cells #[.int .i64 0, .string ⟨#[]⟩] 46)).cell? ⟨w.heap.size, 1, none⟩ = some (.string ⟨#[]⟩) := by go_simp
  have fr : ∀ j, (w.alloc (Obj.cells #[.int .i64 0, .string ⟨#[]⟩] 46)).frozen? ⟨w.heap.size, j, none⟩ = false := fun j => (Blk.new w 46 [.int .i64 0, .string ⟨#[]⟩]).frozen j
  have f0 := fr 0
  have f1 := fr 1
  have HE := Lib.hid e0
  generalize w.alloc (Obj.cells #[.int .i64 0, .string ⟨#[]⟩] 46) = v at *
  replace c0 := e0.cell c0 (by simp)
  replace c1 := e0.cell c1 (by simp)
  replace c2 := e0.cell c2 (by simp)
  replace c3 := e0.cell c3 (by simp)
  replace c4 := e0.cell c4 (by simp)
  clear e0 fr
  go_still_tail 18, (by kernel_rfl)
  change wpList _ _ _ _ _ v.drew
  go_wp2_with fail
  exact bodyPost_ret (v := .tuple #[.agg #[iv x, sv y], .bool true]) (by simp [results, Try.results30, go_sem, r0, r1]; try rfl) rfl ⟨rfl, by repeat (first | exact HE.out | exact Upd.refl _ _ | apply Upd.alloc | apply Upd.drew | (refine Upd.setCell ?_ _ _ (.inr (by simp))))⟩
set_option maxRecDepth 20000 in
set_option maxHeartbeats 800000 in
theorem ringNewPair_ok (w : World) (n : Nat) (h1 : 1 ≤ n) (h : n ≤ 4096) :
    Calls Try.prog 23 #[.int .i64 (n : Int)] w fun e w' => ∃ g gl, e = .returned (.tuple #[.pointer (some ⟨g, 0, none⟩), .int .i64 0]) ∧ RBPair w.heap.size w' g gl n (List.replicate n noPair) 0 0 ∧ Upd [] w w' := by
  obtain ⟨i0, hi0, hz0, hz1, hz2⟩ := info_parts infoElPair
  have hmk : ∀ u : World, (Instr.makeSlice 97 (.int .i64 (n : Int)) (.int .i64 (n : Int))).run Try.prog u = .ok (.slice (some ⟨u.heap.size, 0, none⟩) n n) (u.alloc (.cells ((List.replicate n noPair).flatMap pc).toArray 46)) := by
    intro u
    have hr := run_make (P := Try.prog) u 97 46 i0 _ Try.underlying97 hi0 hz0 .i64 .i64 (n : Int) (n : Int) (by omega) (by omega) (by rw [hz2]; omega) (by omega)
    rw [hr, hz1, Int.toNat_natCast, madeCells_flat pc_len (by omega) (Value.agg #[.int .i64 0, .string ⟨#[]⟩]).cells noPair rfl]
  have HM := Lib.hid (show True from trivial)
  have h0 : (1 : Int) ≤ n := by omega
  have h2 : (n : Int) ≤ 4096 := by omega
  have hlen : Hid ((List.replicate n noPair).length = n) := by unfold Hid; simp
  generalize hr : List.replicate n noPair = r at *
  have HR := Lib.hid hr
  clear hr hz0 hz1 hz2 hi0
  go_enter Try.func23, Try.ntmps23
  go_wp2
  go_ret2
  refine ⟨w.heap.size + 1, w.heap.size, rfl, ⟨?_, ?_, by omega, Nat.le_refl _, hlen.out, h⟩, ((Upd.refl [] w).alloc _).alloc _⟩
  · exact Blk.fresh (w := w.alloc (.cells (r.flatMap pc).toArray 46)) (C := #[.slice (some ⟨w.heap.size, 0, none⟩) n n, .int .i64 0, .int .i64 0]) (by simp) rfl (Upd.refl _ _)
  · exact Blk.fresh (w := w) rfl rfl ((Upd.refl [] _).alloc _)
set_option maxRecDepth 20000 in
set_option maxHeartbeats 800000 in
theorem ringPutPair_no (w : World) (p : Int × ByteArray) (hs : RBPair base w g gl room arr first n) (hn : room ≤ n) (hn2 : n ≤ 4096) :
    Calls Try.prog 25 #[.pointer (some ⟨g, 0, none⟩), .agg #[iv p.1, sv p.2]] w fun e w' => e = .returned (.bool false) ∧ Upd [] w w' := by
  have c0 : w.cell? ⟨g, 0, none⟩ = some (.slice (some ⟨gl, 0, none⟩) room room) := hs.ring.cell 0
  have c2 : w.cell? ⟨g, 2, none⟩ = some (nv n) := hs.ring.cell 2
  have hle := hs.le
  have hlt := hs.ring.lt
  have q : (room : Int) ≤ n := by omega
  clear hs
  go_enter Try.func25, Try.ntmps25
  go_wp2_with fail
  have e0 := (Upd.refl [] w).alloc (Obj.cells #[iv p.1, sv p.2] 46)
  have HE := Lib.hid e0
  generalize w.alloc (Obj.cells #[iv p.1, sv p.2] 46) = v at *
  replace c0 := e0.cell c0 (by simp)
  replace c2 := e0.cell c2 (by simp)
  go_quiet (fail)
  go_wp2_with fail
  go_ret
  exact ⟨rfl, by first | exact HE.out.drewN _ | exact HE.out.drew⟩
set_option maxRecDepth 20000 in
set_option maxHeartbeats 800000 in
theorem ringPutPair_ok (w : World) (p : Int × ByteArray) (hs : RBPair base w g gl room arr first n) (hn : n < room) (hf : first < room) :
    Calls Try.prog 25 #[.pointer (some ⟨g, 0, none⟩), .agg #[iv p.1, sv p.2]] w fun e w' => e = .returned (.bool true) ∧ RBPair base w' g gl room (arr.set ((first + n) % room) p) first (n + 1) ∧ Upd [g, gl] w w' := by
  have hle := hs.le
  have hm := Nat.mod_lt (first + n) (show 0 < room by omega)
  have HS := Lib.hid hs
  have c0 : w.cell? ⟨g, 0, none⟩ = some (.slice (some ⟨gl, 0, none⟩) room room) := hs.ring.cell 0
  have c1 : w.cell? ⟨g, 1, none⟩ = some (nv first) := hs.ring.cell 1
  have c2 : w.cell? ⟨g, 2, none⟩ = some (nv n) := hs.ring.cell 2
  obtain ⟨c3, c4⟩ := arrGetPair hs _ hm
  have hlt := hs.ring.lt
  have hlt2 := hs.arr_.lt
  have ne1 : ¬ gl = g := fun e => hs.ne e.symm
  obtain ⟨w1, w2⟩ := mod_fact first n room (by omega) (by omega) (by omega)
  generalize (nth arr ((first + n) % room)).1 = y at *
  generalize (nth arr ((first + n) % room)).2 = z at *
  generalize (first + n) % room = k at *
  have q1 : (n : Int) < room := by omega
  have q2 : (0 : Int) ≤ k := by omega
  have q3 : (k : Int) < room := by omega
  have q4 : ((room : Int) == 0) = false := by rw [beq_eq_false_iff_ne]; omega
  have q5 : ¬ room = 0 := by omega
  obtain ⟨p1, p2⟩ := p
  clear hs
  go_enter Try.func25, Try.ntmps25
  go_wp2_with fail
  have e0 := (Upd.refl [] w).alloc (Obj.cells #[iv p1, sv p2] 46)
  have HE := Lib.hid e0
  have r0 : (w.alloc (Obj.cells #[iv p1, sv p2] 46)).cell? ⟨w.heap.size, 0, none⟩ = some (iv p1) := by go_simp
  have r1 : (w.alloc (Obj.cells #[iv p1, sv p2] 46)).cell? ⟨w.heap.size, 1, none⟩ = some (sv p2) := by go_simp
  generalize w.alloc (Obj.cells #[iv p1, sv p2] 46) = v0 at *
  replace c0 := e0.cell c0 (by simp)
  replace c2 := e0.cell c2 (by simp)
  go_quiet (fail)
  go_wp2_with fail
  have HU1 := Lib.hid (HE.out.drewN nq)
  replace r0 := ((Upd.refl [] v0).drewN nq).cell r0 (by simp)
  replace r1 := ((Upd.refl [] v0).drewN nq).cell r1 (by simp)
  generalize v0.drewN nq = v at *
  clear c0 c1 c2 c3 c4 e0 HE
  have HS1 := Lib.hid (HS.out.upd HU1.out (by simp))
  have c0 : v.cell? ⟨g, 0, none⟩ = some (.slice (some ⟨gl, 0, none⟩) room room) := HS1.out.ring.cell 0
  have c1 : v.cell? ⟨g, 1, none⟩ = some (nv first) := HS1.out.ring.cell 1
  have c2 : v.cell? ⟨g, 2, none⟩ = some (nv n) := HS1.out.ring.cell 2
  obtain ⟨c3, c4⟩ := arrGetPair HS1.out _ hm
  have f2 : v.frozen? ⟨g, 2, none⟩ = false := HS1.out.ring.frozen _
  have f3 : v.frozen? ⟨gl, k * 2, none⟩ = false := HS1.out.arr_.frozen _
  have f4 : v.frozen? ⟨gl, k * 2 + 1, none⟩ = false := HS1.out.arr_.frozen _
  go_still_tail 21, (by kernel_rfl)
  change wpList _ _ _ _ _ v.drew
  go_wp2_with fail
  go_ret
  have HL1 : Hid (Blk ((v.setCell ⟨gl, k * 2, none⟩ (iv p1)).setCell ⟨gl, k * 2 + 1, none⟩ (sv p2)) gl 46 ((arr.set k (p1, p2)).flatMap pc)) := by
    unfold Hid
    rw [← flat_set arr k (p1, p2) (by rw [HS.out.len]; omega)]
    exact (HS1.out.arr_.set_ (k * 2) (iv p1)).set_ (k * 2 + 1) (sv p2)
  refine ⟨rfl, ⟨?_, ?_, HS.out.gb, HS.out.lb, by rw [List.length_set]; exact HS.out.len, HS.out.le⟩, ?_⟩
  · exact (Blk.upd HS1.out.ring (((Upd.refl [gl] v).setCell ⟨gl, k * 2, none⟩ (iv p1) (.inl (by simp))).setCell ⟨gl, k * 2 + 1, none⟩ (sv p2) (.inl (by simp))) (by simp; exact fun e => ne1 e.symm)).set_ 2 (.int .i64 ((n : Int) + 1))
  · exact HL1.out.upd (S := [g]) (((Upd.refl [g] _).setCell ⟨g, 2, none⟩ _ (.inl (by simp))).drew) (by simpa using ne1)
  · exact ((((HU1.out.mono (T := [g, gl]) (by simp)).setCell ⟨gl, k * 2, none⟩ _ (.inl (by simp))).setCell ⟨gl, k * 2 + 1, none⟩ _ (.inl (by simp))).setCell ⟨g, 2, none⟩ _ (.inl (by simp))).drew
end
end Go.Proofs.Ytjomecimbofnfaa
