/- Chapter 3's functions at int. -/
import Derived.Test.YtjomecimbofnfaaRows
import Derived.Test.YtjomecimbofnfaaRingLaw
import Derived.Test.YtjomecimbofnfaaAppRun
import Derived.Test.YtjomecimbofnfaaOpen
import Derived.StillTailTactics
namespace Go.Proofs.Ytjomecimbofnfaa
open Go.RowKit
set_option linter.unusedSimpArgs false
set_option linter.unusedVariables false

theorem infoElInt : (Try.prog.info? 3).map (fun i => (i.zero, i.size, i.bytes)) = some (some (.int .i64 0), 1, 8) := by kernel_rfl
/-- The ring at g with the places gl. -/
structure RBInt (base : Nat) (w : World) (g gl : Nat) (room : Nat) (arr : List Int) (first n : Nat) : Prop where
  ring : Blk w g 94 [.slice (some ⟨gl, 0, none⟩) room room, nv first, nv n]
  arr_ : Blk w gl 3 (arr.map iv)
  gb : base ≤ g
  lb : base ≤ gl
  len : arr.length = room
  le : room ≤ 4096
section
variable {base : Nat} {g gl room first n : Nat} {arr : List Int} {w w' : World}
theorem RBInt.upd (h : RBInt base w g gl room arr first n) {S : List Nat} (hu : Upd S w w') (hs : ∀ x ∈ [g, gl], x ∉ S) : RBInt base w' g gl room arr first n :=
  ⟨h.ring.upd hu (hs g (by simp)), h.arr_.upd hu (hs gl (by simp)), h.gb, h.lb, h.len, h.le⟩
theorem RBInt.ne (h : RBInt base w g gl room arr first n) : g ≠ gl := fun e => by
  have := h.arr_; exact h.ring.ne gl this (by decide) e
theorem arrGetInt (h : RBInt base w g gl room arr first n) (i : Nat) (hi' : i < room) : w.cell? ⟨gl, i, none⟩ = some (iv (nth arr i)) := by
  have hi : i < arr.length := by rw [h.len]; exact hi'
  rw [h.arr_.cell, List.getElem?_map, List.getElem?_eq_getElem hi, nth_get arr i hi]; rfl
set_option maxRecDepth 20000 in
set_option maxHeartbeats 400000 in
theorem ringAtInt_no (w : World) (i : Int) (hi : I64 i) (hs : RBInt base w g gl room arr first n) (hn : n ≤ 4096) (h : i < 0 ∨ n ≤ i) :
    Calls Try.prog 19 #[.pointer (some ⟨g, 0, none⟩), .int .i64 i] w fun e w' => e = .returned (.tuple #[.int .i64 0, .bool false]) ∧ w = w' := by
  have c2 : w.cell? ⟨g, 2, none⟩ = some (nv n) := hs.ring.cell 2
  obtain ⟨hi1, hi2⟩ := hi
  clear hs
  by_cases h1 : i < 0
  · clear h
    go_enter Try.func19, Try.ntmps19
    go_wp2
    go_ret2
    exact ⟨rfl, rfl⟩
  · have h2 : (n : Int) ≤ i := by omega
    have h3 : 0 ≤ i := by omega
    clear h h1
    go_enter Try.func19, Try.ntmps19
    go_wp2
    go_ret2
    exact ⟨rfl, rfl⟩
set_option maxRecDepth 20000 in
set_option maxHeartbeats 400000 in
theorem ringAtInt_ok (w : World) (i : Nat) (hs : RBInt base w g gl room arr first n) (hn : n ≤ room) (hf : first < room) (h : i < n) :
    Calls Try.prog 19 #[.pointer (some ⟨g, 0, none⟩), .int .i64 (i : Int)] w fun e w' => e = .returned (.tuple #[iv (nth arr ((first + i) % room)), .bool true]) ∧ Upd [] w w' := by
  have hle := hs.le
  have hm := Nat.mod_lt (first + i) (show 0 < room by omega)
  have c0 : w.cell? ⟨g, 0, none⟩ = some (.slice (some ⟨gl, 0, none⟩) room room) := hs.ring.cell 0
  have c1 : w.cell? ⟨g, 1, none⟩ = some (nv first) := hs.ring.cell 1
  have c2 : w.cell? ⟨g, 2, none⟩ = some (nv n) := hs.ring.cell 2
  have c3 := arrGetInt hs _ hm
  obtain ⟨w1, w2⟩ := mod_fact first i room (by omega) (by omega) (by omega)
  generalize nth arr ((first + i) % room) = x at *
  generalize (first + i) % room = k at *
  have q0 : (0 : Int) ≤ i := by omega
  have q1 : (i : Int) < n := by omega
  have q2 : (0 : Int) ≤ k := by omega
  have q3 : (k : Int) < room := by omega
  have q4 : ((room : Int) == 0) = false := by rw [beq_eq_false_iff_ne]; omega
  clear hs
  go_enter Try.func19, Try.ntmps19
  go_wp2_with fail
  go_quiet (fail)
  go_wp2_with fail
  go_ret2
  exact ⟨rfl, by first | exact (Upd.refl [] _).drewN _ | exact (Upd.refl [] _).drew⟩
end
end Go.Proofs.Ytjomecimbofnfaa
