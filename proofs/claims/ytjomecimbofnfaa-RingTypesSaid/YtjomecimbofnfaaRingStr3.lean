/- Chapter 3's functions at string, of a list. -/
import Derived.Test.YtjomecimbofnfaaRingStr2
namespace Go.Proofs.Ytjomecimbofnfaa
open Go.RowKit
set_option linter.unusedSimpArgs false
set_option linter.unusedVariables false
/-- The ring at g, its places at gl, of so much room, holds q. -/
def RQStr (base : Nat) (w : World) (g gl room : Nat) (q : List ByteArray) : Prop := ∃ arr first, RBStr base w g gl room arr first q.length ∧ RInv room arr first q
section
variable {base : Nat} {g gl room : Nat} {q : List ByteArray} {w w' : World}
theorem RQStr.upd (h : RQStr base w g gl room q) {S : List Nat} (hu : Upd S w w') (hs : ∀ x ∈ [g, gl], x ∉ S) : RQStr base w' g gl room q := by
  obtain ⟨arr, first, h1, h2⟩ := h
  exact ⟨arr, first, h1.upd hu hs, h2⟩
theorem RQStr.upd0 (h : RQStr base w g gl room q) (hu : Upd [] w w') : RQStr base w' g gl room q := h.upd hu (by simp)
theorem RQStr.le (h : RQStr base w g gl room q) : q.length ≤ room ∧ room ≤ 4096 := by
  obtain ⟨arr, first, h1, h2⟩ := h
  exact ⟨h2.le, h1.le⟩
theorem RQStr.lt (h : RQStr base w g gl room q) : ∀ x ∈ [g, gl], base ≤ x ∧ x < w.heap.size := by
  obtain ⟨arr, first, h1, h2⟩ := h
  intro x hx
  simp only [List.mem_cons, List.not_mem_nil, or_false] at hx
  rcases hx with rfl | rfl
  · exact ⟨h1.gb, h1.ring.lt⟩
  · exact ⟨h1.lb, h1.arr_.lt⟩
theorem RQStr.next {W : World} (hu : Upd [] W w) (hs : RQStr W.heap.size w g gl room q) (h : Upd [g, gl] w w') : Upd [] W w' := hu.trans h (by simp) (fun x hx => .inr (hs.lt x hx).1)
theorem rqNewStr_ok (w : World) (n : Nat) (m : Int) (hm : m = n) (h1 : 1 ≤ n) (h : n ≤ 4096) :
    Calls Try.prog 18 #[.int .i64 m] w fun e w' => ∃ g gl, e = .returned (.tuple #[.pointer (some ⟨g, 0, none⟩), .int .i64 0]) ∧ RQStr w.heap.size w' g gl n [] ∧ Upd [] w w' := by
  subst hm
  exact (ringNewStr_ok w n h1 h).mono fun _ _ ⟨g, gl, he, hB, hu⟩ => ⟨g, gl, he, ⟨_, _, hB, RInv.new n _ (by omega)⟩, hu⟩
theorem rqLenStr_any (w : World) (m : Int) (hs : RQStr base w g gl room q) (h : (q.length : Int) = m) :
    Calls Try.prog 31 #[.pointer (some ⟨g, 0, none⟩)] w fun e w' => e = .returned (.int .i64 m) ∧ w = w' := by
  subst h
  obtain ⟨arr, first, h1, h2⟩ := hs
  exact ringLenStr_any w h1
theorem rqPutStr_no (w : World) (x : ByteArray) (hs : RQStr base w g gl room q) (hn : room ≤ q.length) :
    Calls Try.prog 24 #[.pointer (some ⟨g, 0, none⟩), sv x] w fun e w' => e = .returned (.bool false) ∧ Upd [] w w' := by
  have := hs.le
  obtain ⟨arr, first, h1, h2⟩ := hs
  exact ringPutStr_no w x h1 hn (by omega)
theorem rqPutStr_ok (w : World) (x : ByteArray) (hs : RQStr base w g gl room q) (hn : q.length < room) :
    Calls Try.prog 24 #[.pointer (some ⟨g, 0, none⟩), sv x] w fun e w' => e = .returned (.bool true) ∧ RQStr base w' g gl room (q ++ [x]) ∧ Upd [g, gl] w w' := by
  obtain ⟨arr, first, h1, h2⟩ := hs
  refine (ringPutStr_ok w x h1 hn h2.lt).mono ?_
  rintro e w' ⟨he, hB, hu⟩
  exact ⟨he, ⟨_, _, by rw [List.length_append]; exact hB, h2.put x hn⟩, hu⟩
theorem rqAtStr_any (w : World) (i : Int) (x : ByteArray) (r : Bool) (hi : I64 i) (hs : RQStr base w g gl room q) (h : qAt q (⟨#[]⟩ : ByteArray) i = (x, r)) :
    Calls Try.prog 61 #[.pointer (some ⟨g, 0, none⟩), .int .i64 i] w fun e w' => e = .returned (.tuple #[sv x, .bool r]) ∧ Upd [] w w' := by
  have hle := hs.le
  obtain ⟨arr, first, h1, h2⟩ := hs
  by_cases hc : i < 0 ∨ (q.length : Int) ≤ i
  · rw [qAt_no q _ i hc] at h
    injection h with e1 e2; subst e1; subst e2
    exact (ringAtStr_no w i hi h1 (by omega) hc).mono fun e w' ⟨he, hw⟩ => ⟨he, by rw [hw]; exact Upd.refl _ _⟩
  · obtain ⟨k, rfl⟩ := Int.eq_ofNat_of_zero_le (show 0 ≤ i by omega)
    have hk : k < q.length := by omega
    rw [qAt_ok q _ k hk] at h
    injection h with e1 e2; subst e1; subst e2
    have := ringAtStr_ok w k h1 h2.le h2.lt hk
    rwa [h2.at_ k hk] at this
theorem rqDropStr_any (w : World) (i : Int) (m : Nat) (k : Int) (hi : I64 i) (hs : RQStr base w g gl room q) (h : qN q i = m) (hk : k = m) :
    Calls Try.prog 28 #[.pointer (some ⟨g, 0, none⟩), .int .i64 i] w fun e w' => e = .returned (.int .i64 k) ∧ RQStr base w' g gl room (q.drop m) ∧ Upd [g, gl] w w' := by
  subst hk
  obtain ⟨arr, first, h1, h2⟩ := hs
  refine (ringDropStr_any w m i hi q h1 h2 h.symm).mono ?_
  rintro e w' ⟨he, arr', first', hB, hI, hu⟩
  exact ⟨he, ⟨arr', first', by rw [List.length_drop]; exact hB, hI⟩, hu⟩
set_option maxRecDepth 20000 in
set_option maxHeartbeats 400000 in
theorem rqTakeStr_any (w : World) (x : ByteArray) (r : Bool) (hs : RQStr base w g gl room q) (h : qAt q (⟨#[]⟩ : ByteArray) 0 = (x, r)) :
    Calls Try.prog 26 #[.pointer (some ⟨g, 0, none⟩)] w fun e w' => e = .returned (.tuple #[sv x, .bool r]) ∧ RQStr base w' g gl room (q.drop 1) ∧ Upd [g, gl] w w' := by
  have HS := Lib.hid hs
  have H := Lib.hid h
  have HD : Hid (∃ m, qN q 1 = m ∧ q.drop m = q.drop 1) := by
    refine ⟨_, rfl, ?_⟩
    unfold qN
    cases q with
    | nil => simp
    | cons a l =>
      have : min (max (1 : Int) 0).toNat (a :: l).length = 1 := by
        rw [List.length_cons]; show min 1 (l.length + 1) = 1; omega
      rw [this]
  clear hs h
  go_enter Try.func26, Try.ntmps26
  go_wp2_with fail
  refine (rqAtStr_any _ 0 x r ⟨by omega, by omega⟩ HS.out H.out).mono ?_
  rintro e w1 ⟨rfl, hu1⟩
  have HS1 := Lib.hid (HS.out.upd0 hu1)
  have HU1 := Lib.hid hu1
  clear hu1
  go_wp2_with fail
  obtain ⟨m, hm, hd⟩ := HD.out
  refine (rqDropStr_any _ 1 m m ⟨by omega, by omega⟩ HS1.out hm rfl).mono ?_
  rintro e w2 ⟨rfl, hs2, hu2⟩
  have HS2 := Lib.hid hs2
  have HU2 := Lib.hid hu2
  have HD2 := Lib.hid hd
  clear hs2 hu2 hm hd
  go_wp2_with fail
  go_ret2
  exact ⟨rfl, by rw [← HD2.out]; exact HS2.out, HU1.out.trans HU2.out (by simp) (fun x hx => .inl hx)⟩
set_option maxRecDepth 20000 in
set_option maxHeartbeats 400000 in
end
end Go.Proofs.Ytjomecimbofnfaa
