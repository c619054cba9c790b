/- Chapter 3's functions at a struct of the law's, of a list. -/
import Derived.Test.YtjomecimbofnfaaRingPair2
namespace Go.Proofs.Ytjomecimbofnfaa
open Go.RowKit
set_option linter.unusedSimpArgs false
set_option linter.unusedVariables false
/-- The ring at g, its places at gl, of so much room, holds q. -/
def RQPair (base : Nat) (w : World) (g gl room : Nat) (q : List (Int × ByteArray)) : Prop := ∃ arr first, RBPair base w g gl room arr first q.length ∧ RInv room arr first q
section
variable {base : Nat} {g gl room : Nat} {q : List (Int × ByteArray)} {w w' : World}
theorem RQPair.upd (h : RQPair base w g gl room q) {S : List Nat} (hu : Upd S w w') (hs : ∀ x ∈ [g, gl], x ∉ S) : RQPair base w' g gl room q := by
  obtain ⟨arr, first, h1, h2⟩ := h
  exact ⟨arr, first, h1.upd hu hs, h2⟩
theorem RQPair.upd0 (h : RQPair base w g gl room q) (hu : Upd [] w w') : RQPair base w' g gl room q := h.upd hu (by simp)
theorem RQPair.le (h : RQPair base w g gl room q) : q.length ≤ room ∧ room ≤ 4096 := by
  obtain ⟨arr, first, h1, h2⟩ := h
  exact ⟨h2.le, h1.le⟩
theorem RQPair.lt (h : RQPair base w g gl room q) : ∀ x ∈ [g, gl], base ≤ x ∧ x < w.heap.size := by
  obtain ⟨arr, first, h1, h2⟩ := h
  intro x hx
  simp only [List.mem_cons, List.not_mem_nil, or_false] at hx
  rcases hx with rfl | rfl
  · exact ⟨h1.gb, h1.ring.lt⟩
  · exact ⟨h1.lb, h1.arr_.lt⟩
theorem RQPair.next {W : World} (hu : Upd [] W w) (hs : RQPair W.heap.size w g gl room q) (h : Upd [g, gl] w w') : Upd [] W w' := hu.trans h (by simp) (fun x hx => .inr (hs.lt x hx).1)
theorem rqNewPair_ok (w : World) (n : Nat) (m : Int) (hm : m = n) (h1 : 1 ≤ n) (h : n ≤ 4096) :
    Calls Try.prog 23 #[.int .i64 m] w fun e w' => ∃ g gl, e = .returned (.tuple #[.pointer (some ⟨g, 0, none⟩), .int .i64 0]) ∧ RQPair w.heap.size w' g gl n [] ∧ Upd [] w w' := by
  subst hm
  exact (ringNewPair_ok w n h1 h).mono fun _ _ ⟨g, gl, he, hB, hu⟩ => ⟨g, gl, he, ⟨_, _, hB, RInv.new n _ (by omega)⟩, hu⟩
theorem rqLenPair_any (w : World) (m : Int) (hs : RQPair base w g gl room q) (h : (q.length : Int) = m) :
    Calls Try.prog 32 #[.pointer (some ⟨g, 0, none⟩)] w fun e w' => e = .returned (.int .i64 m) ∧ w = w' := by
  subst h
  obtain ⟨arr, first, h1, h2⟩ := hs
  exact ringLenPair_any w h1
theorem rqPutPair_no (w : World) (x : (Int × ByteArray)) (hs : RQPair base w g gl room q) (hn : room ≤ q.length) :
    Calls Try.prog 25 #[.pointer (some ⟨g, 0, none⟩), (.agg #[iv x.1, sv x.2])] w fun e w' => e = .returned (.bool false) ∧ Upd [] w w' := by
  have := hs.le
  obtain ⟨arr, first, h1, h2⟩ := hs
  exact ringPutPair_no w x h1 hn (by omega)
theorem rqPutPair_ok (w : World) (x : (Int × ByteArray)) (hs : RQPair base w g gl room q) (hn : q.length < room) :
    Calls Try.prog 25 #[.pointer (some ⟨g, 0, none⟩), (.agg #[iv x.1, sv x.2])] w fun e w' => e = .returned (.bool true) ∧ RQPair base w' g gl room (q ++ [x]) ∧ Upd [g, gl] w w' := by
  obtain ⟨arr, first, h1, h2⟩ := hs
  refine (ringPutPair_ok w x h1 hn h2.lt).mono ?_
  rintro e w' ⟨he, hB, hu⟩
  exact ⟨he, ⟨_, _, by rw [List.length_append]; exact hB, h2.put x hn⟩, hu⟩
theorem rqAtPair_any (w : World) (i : Int) (x : (Int × ByteArray)) (r : Bool) (hi : I64 i) (hs : RQPair base w g gl room q) (h : qAt q noPair i = (x, r)) :
    Calls Try.prog 30 #[.pointer (some ⟨g, 0, none⟩), .int .i64 i] w fun e w' => e = .returned (.tuple #[(.agg #[iv x.1, sv x.2]), .bool r]) ∧ Upd [] w w' := by
  have hle := hs.le
  obtain ⟨arr, first, h1, h2⟩ := hs
  by_cases hc : i < 0 ∨ (q.length : Int) ≤ i
  · rw [qAt_no q _ i hc] at h
    injection h with e1 e2; subst e1; subst e2
    exact ringAtPair_no w i hi h1 (by omega) hc
  · obtain ⟨k, rfl⟩ := Int.eq_ofNat_of_zero_le (show 0 ≤ i by omega)
    have hk : k < q.length := by omega
    rw [qAt_ok q _ k hk] at h
    injection h with e1 e2; subst e1; subst e2
    have := ringAtPair_ok w k h1 h2.le h2.lt hk
    rwa [h2.at_ k hk] at this
theorem rqDropPair_any (w : World) (i : Int) (m : Nat) (k : Int) (hi : I64 i) (hs : RQPair base w g gl room q) (h : qN q i = m) (hk : k = m) :
    Calls Try.prog 29 #[.pointer (some ⟨g, 0, none⟩), .int .i64 i] w fun e w' => e = .returned (.int .i64 k) ∧ RQPair base w' g gl room (q.drop m) ∧ Upd [g, gl] w w' := by
  subst hk
  obtain ⟨arr, first, h1, h2⟩ := hs
  refine (ringDropPair_any w m i hi q h1 h2 h.symm).mono ?_
  rintro e w' ⟨he, arr', first', hB, hI, hu⟩
  exact ⟨he, ⟨arr', first', by rw [List.length_drop]; exact hB, hI⟩, hu⟩
set_option maxRecDepth 20000 in
set_option maxHeartbeats 400000 in
theorem rqTakePair_any (w : World) (x : (Int × ByteArray)) (r : Bool) (hs : RQPair base w g gl room q) (h : qAt q noPair 0 = (x, r)) :
    Calls Try.prog 27 #[.pointer (some ⟨g, 0, none⟩)] w fun e w' => e = .returned (.tuple #[(.agg #[iv x.1, sv x.2]), .bool r]) ∧ RQPair base w' g gl room (q.drop 1) ∧ Upd [g, gl] w w' := by
  have HS := Lib.hid hs
  have hs' := hs.lt
  have H := Lib.hid h
  have HD : Hid (∃ m, qN q 1 = m ∧ q.drop m = q.drop 1) := by
    refine ⟨_, rfl, ?_⟩
    unfold qN
    cases q with
    | nil => simp
    | cons a l =>
      have : min (max (1 : Int) 0).toNat (a :: l).length = 1 := by
        rw [List.length_cons]; show min 1 (l.length + 1) = 1; omega
      rw [this]
  clear hs h
  have hlt := Lib.hid hs'
  have e0 := (Upd.refl [] w).alloc (Obj.cells #[.int .i64 0, .string ⟨#[]⟩] 46)
  have HB0 : Hid (Blk (w.alloc (Obj.cells #[.int .i64 0, .string ⟨#[]⟩] 46)) w.heap.size 46 [.int .i64 0, .string ⟨#[]⟩]) := Blk.new w _ [.int .i64 0, .string ⟨#[]⟩]
  have HE0 := Lib.hid e0
  clear hs' e0
  obtain ⟨x1, x2⟩ := x
  go_enter Try.func27, Try.ntmps27
  go_wp2_with fail
  refine (rqAtPair_any _ 0 (x1, x2) r ⟨by omega, by omega⟩ (HS.out.upd0 HE0.out) H.out).mono ?_
  rintro e w1 ⟨rfl, hu1⟩
  have HB1 := Lib.hid (HB0.out.upd hu1 (by simp))
  have hsz1 : w.heap.size + 1 ≤ w1.heap.size := by have := hu1.size; simp at this; omega
  have HU1 := Lib.hid (HE0.out.seq hu1)
  clear hu1
  go_wp2_with fail
  have HB2 : Hid (Blk (w1.alloc (Obj.cells #[.int .i64 x1, .string x2] 46)) w1.heap.size 46 [.int .i64 x1, .string x2]) := Blk.new w1 _ [.int .i64 x1, .string x2]
  have HB3 := Lib.hid (HB1.out.upd ((Upd.refl [] w1).alloc (Obj.cells #[.int .i64 x1, .string x2] 46)) (by simp))
  have HU2 := Lib.hid (HU1.out.alloc (Obj.cells #[.int .i64 x1, .string x2] 46))
  obtain ⟨m, hm, hd⟩ := HD.out
  refine (rqDropPair_any _ 1 m m ⟨by omega, by omega⟩ (HS.out.upd0 HU2.out) hm rfl).mono ?_
  rintro e w2 ⟨rfl, hs2, hu2⟩
  have HS2 := Lib.hid hs2
  have g1 := (hlt.out g (by simp)).2
  have g2 := (hlt.out gl (by simp)).2
  have HB4 := Lib.hid (HB2.out.upd hu2 (by simp; omega))
  have HB5 := Lib.hid (HB3.out.upd hu2 (by simp; omega))
  have HU3 := Lib.hid (HU2.out.trans (T := [g, gl]) hu2 (by simp) (fun y hy => .inl hy))
  have HD2 := Lib.hid hd
  have c0 : w2.cell? ⟨w1.heap.size, 0, none⟩ = some (.int .i64 x1) := HB4.out.cell 0
  have c1 : w2.cell? ⟨w1.heap.size, 1, none⟩ = some (.string x2) := HB4.out.cell 1
  have d0 : w2.cell? ⟨w.heap.size, 0, none⟩ = some (.int .i64 0) := HB5.out.cell 0
  have d1 : w2.cell? ⟨w.heap.size, 1, none⟩ = some (.string ⟨#[]⟩) := HB5.out.cell 1
  have f0 : w2.frozen? ⟨w.heap.size, 0, none⟩ = false := HB5.out.frozen 0
  have f1 : w2.frozen? ⟨w.heap.size, 1, none⟩ = false := HB5.out.frozen 1
  have hsz2 : w1.heap.size + 1 ≤ w2.heap.size := by have := hu2.size; simp at this; omega
  clear hs2 hu2 hm hd
  go_wp2_with fail
  have HX : Hid (Upd [g, gl] w ((w2.setCell ⟨w.heap.size, 0, none⟩ (.int .i64 x1)).setCell ⟨w.heap.size, 1, none⟩ (.string x2))) := ((HU3.out).setCell ⟨w.heap.size, 0, none⟩ _ (.inr (Nat.le_refl _))).setCell ⟨w.heap.size, 1, none⟩ _ (.inr (Nat.le_refl _))
  have HY : Hid (RQPair base ((w2.setCell ⟨w.heap.size, 0, none⟩ (.int .i64 x1)).setCell ⟨w.heap.size, 1, none⟩ (.string x2)) g gl room (q.drop 1)) := by
    rw [← HD2.out]
    exact HS2.out.upd (S := [w.heap.size]) (((Upd.refl [w.heap.size] w2).setCell ⟨w.heap.size, 0, none⟩ _ (.inl (by simp))).setCell ⟨w.heap.size, 1, none⟩ _ (.inl (by simp))) (by intro y hy h; simp at h; have := (hlt.out y hy).2; omega)
  exact bodyPost_ret (v := .tuple #[.agg #[iv x1, sv x2], .bool r]) (by simp [results, Try.results27, go_sem, c0, c1, d0, d1]; try rfl) rfl ⟨rfl, HY.out, HX.out⟩
end
end Go.Proofs.Ytjomecimbofnfaa
