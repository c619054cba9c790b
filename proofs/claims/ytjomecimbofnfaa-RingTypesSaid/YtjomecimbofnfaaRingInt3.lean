/- Chapter 3's functions at int, of a list. -/
import Derived.Test.YtjomecimbofnfaaRingInt2
namespace Go.Proofs.Ytjomecimbofnfaa
open Go.RowKit
set_option linter.unusedSimpArgs false
set_option linter.unusedVariables false
/-- The ring at g, its places at gl, of so much room, holds q. -/
def RQInt (base : Nat) (w : World) (g gl room : Nat) (q : List Int) : Prop := ∃ arr first, RBInt base w g gl room arr first q.length ∧ RInv room arr first q
section
variable {base : Nat} {g gl room : Nat} {q : List Int} {w w' : World}
theorem RQInt.upd (h : RQInt base w g gl room q) {S : List Nat} (hu : Upd S w w') (hs : ∀ x ∈ [g, gl], x ∉ S) : RQInt base w' g gl room q := by
  obtain ⟨arr, first, h1, h2⟩ := h
  exact ⟨arr, first, h1.upd hu hs, h2⟩
theorem RQInt.upd0 (h : RQInt base w g gl room q) (hu : Upd [] w w') : RQInt base w' g gl room q := h.upd hu (by simp)
theorem RQInt.le (h : RQInt base w g gl room q) : q.length ≤ room ∧ room ≤ 4096 := by
  obtain ⟨arr, first, h1, h2⟩ := h
  exact ⟨h2.le, h1.le⟩
theorem RQInt.lt (h : RQInt base w g gl room q) : ∀ x ∈ [g, gl], base ≤ x ∧ x < w.heap.size := by
  obtain ⟨arr, first, h1, h2⟩ := h
  intro x hx
  simp only [List.mem_cons, List.not_mem_nil, or_false] at hx
  rcases hx with rfl | rfl
  · exact ⟨h1.gb, h1.ring.lt⟩
  · exact ⟨h1.lb, h1.arr_.lt⟩
theorem RQInt.next {W : World} (hu : Upd [] W w) (hs : RQInt W.heap.size w g gl room q) (h : Upd [g, gl] w w') : Upd [] W w' := hu.trans h (by simp) (fun x hx => .inr (hs.lt x hx).1)
theorem rqNewInt_ok (w : World) (n : Nat) (m : Int) (hm : m = n) (h1 : 1 ≤ n) (h : n ≤ 4096) :
    Calls Try.prog 13 #[.int .i64 m] w fun e w' => ∃ g gl, e = .returned (.tuple #[.pointer (some ⟨g, 0, none⟩), .int .i64 0]) ∧ RQInt w.heap.size w' g gl n [] ∧ Upd [] w w' := by
  subst hm
  exact (ringNewInt_ok w n h1 h).mono fun _ _ ⟨g, gl, he, hB, hu⟩ => ⟨g, gl, he, ⟨_, _, hB, RInv.new n _ (by omega)⟩, hu⟩
theorem rqLenInt_any (w : World) (m : Int) (hs : RQInt base w g gl room q) (h : (q.length : Int) = m) :
    Calls Try.prog 21 #[.pointer (some ⟨g, 0, none⟩)] w fun e w' => e = .returned (.int .i64 m) ∧ w = w' := by
  subst h
  obtain ⟨arr, first, h1, h2⟩ := hs
  exact ringLenInt_any w h1
theorem rqRoomInt_any (w : World) (hs : RQInt base w g gl room q) :
    Calls Try.prog 34 #[.pointer (some ⟨g, 0, none⟩)] w fun e w' => e = .returned (.int .i64 (room : Int)) ∧ w = w' := by
  obtain ⟨arr, first, h1, h2⟩ := hs
  exact ringRoomInt_any w h1
theorem rqPutInt_no (w : World) (x : Int) (hs : RQInt base w g gl room q) (hn : room ≤ q.length) :
    Calls Try.prog 14 #[.pointer (some ⟨g, 0, none⟩), iv x] w fun e w' => e = .returned (.bool false) ∧ Upd [] w w' := by
  have := hs.le
  obtain ⟨arr, first, h1, h2⟩ := hs
  exact ringPutInt_no w x h1 hn (by omega)
theorem rqPutInt_ok (w : World) (x : Int) (hs : RQInt base w g gl room q) (hn : q.length < room) :
    Calls Try.prog 14 #[.pointer (some ⟨g, 0, none⟩), iv x] w fun e w' => e = .returned (.bool true) ∧ RQInt base w' g gl room (q ++ [x]) ∧ Upd [g, gl] w w' := by
  obtain ⟨arr, first, h1, h2⟩ := hs
  refine (ringPutInt_ok w x h1 hn h2.lt).mono ?_
  rintro e w' ⟨he, hB, hu⟩
  exact ⟨he, ⟨_, _, by rw [List.length_append]; exact hB, h2.put x hn⟩, hu⟩
theorem rqAtInt_any (w : World) (i : Int) (x : Int) (r : Bool) (hi : I64 i) (hs : RQInt base w g gl room q) (h : qAt q 0 i = (x, r)) :
    Calls Try.prog 19 #[.pointer (some ⟨g, 0, none⟩), .int .i64 i] w fun e w' => e = .returned (.tuple #[iv x, .bool r]) ∧ Upd [] w w' := by
  have hle := hs.le
  obtain ⟨arr, first, h1, h2⟩ := hs
  by_cases hc : i < 0 ∨ (q.length : Int) ≤ i
  · rw [qAt_no q _ i hc] at h
    injection h with e1 e2; subst e1; subst e2
    exact (ringAtInt_no w i hi h1 (by omega) hc).mono fun e w' ⟨he, hw⟩ => ⟨he, by rw [hw]; exact Upd.refl _ _⟩
  · obtain ⟨k, rfl⟩ := Int.eq_ofNat_of_zero_le (show 0 ≤ i by omega)
    have hk : k < q.length := by omega
    rw [qAt_ok q _ k hk] at h
    injection h with e1 e2; subst e1; subst e2
    have := ringAtInt_ok w k h1 h2.le h2.lt hk
    rwa [h2.at_ k hk] at this
theorem rqDropInt_any (w : World) (i : Int) (m : Nat) (k : Int) (hi : I64 i) (hs : RQInt base w g gl room q) (h : qN q i = m) (hk : k = m) :
    Calls Try.prog 20 #[.pointer (some ⟨g, 0, none⟩), .int .i64 i] w fun e w' => e = .returned (.int .i64 k) ∧ RQInt base w' g gl room (q.drop m) ∧ Upd [g, gl] w w' := by
  subst hk
  obtain ⟨arr, first, h1, h2⟩ := hs
  refine (ringDropInt_any w m i hi q h1 h2 h.symm).mono ?_
  rintro e w' ⟨he, arr', first', hB, hI, hu⟩
  exact ⟨he, ⟨arr', first', by rw [List.length_drop]; exact hB, hI⟩, hu⟩
set_option maxRecDepth 20000 in
set_option maxHeartbeats 400000 in
theorem rqTakeInt_any (w : World) (x : Int) (r : Bool) (hs : RQInt base w g gl room q) (h : qAt q 0 0 = (x, r)) :
    Calls Try.prog 15 #[.pointer (some ⟨g, 0, none⟩)] w fun e w' => e = .returned (.tuple #[iv x, .bool r]) ∧ RQInt base w' g gl room (q.drop 1) ∧ Upd [g, gl] w w' := by
  have HS := Lib.hid hs
  have H := Lib.hid h
  have HD : Hid (∃ m, qN q 1 = m ∧ q.drop m = q.drop 1) := by
    refine ⟨_, rfl, ?_⟩
    unfold qN
    cases q with
    | nil => simp
    | cons a l =>
      have : min (max (1 : Int) 0).toNat (a :: l).length = 1 := by
        rw [List.length_cons]; show min 1 (l.length + 1) = 1; omega
      rw [this]
  clear hs h
  go_enter Try.func15, Try.ntmps15
  go_wp2_with fail
  refine (rqAtInt_any _ 0 x r ⟨by omega, by omega⟩ HS.out H.out).mono ?_
  rintro e w1 ⟨rfl, hu1⟩
  have HS1 := Lib.hid (HS.out.upd0 hu1)
  have HU1 := Lib.hid hu1
  clear hu1
  go_wp2_with fail
  obtain ⟨m, hm, hd⟩ := HD.out
  refine (rqDropInt_any _ 1 m m ⟨by omega, by omega⟩ HS1.out hm rfl).mono ?_
  rintro e w2 ⟨rfl, hs2, hu2⟩
  have HS2 := Lib.hid hs2
  have HU2 := Lib.hid hu2
  have HD2 := Lib.hid hd
  clear hs2 hu2 hm hd
  go_wp2_with fail
  go_ret2
  exact ⟨rfl, by rw [← HD2.out]; exact HS2.out, HU1.out.trans HU2.out (by simp) (fun x hx => .inl hx)⟩
set_option maxRecDepth 20000 in
set_option maxHeartbeats 400000 in
theorem rqListInt_any (w : World) (hs : RQInt base w g gl room q) :
    Calls Try.prog 17 #[.pointer (some ⟨g, 0, none⟩)] w fun e w' => ∃ v, e = .returned v ∧ Own iv w.heap.size 3 w' v q ∧ Upd [] w w' := by
  have HS := Lib.hid hs
  have hle := hs.le
  obtain ⟨arr, first, h1, h2⟩ := hs
  have c2 : w.cell? ⟨g, 2, none⟩ = some (nv q.length) := h1.ring.cell 2
  obtain ⟨hl1, hl2⟩ := hle
  clear h1 h2
  go_enter Try.func17, Try.ntmps17
  go_wp2_with fail
  go_loopw [3, 11] (fun v i wr => ∃ k : Nat, k ≤ q.length ∧ i = .int .i64 k ∧ Hid (Own iv w.heap.size 3 wr v (q.take k)) ∧ Hid (Upd [] w wr)) (fun _ i _ => q.length - (intOf i).toNat)
  case atStart => exact ⟨0, Nat.zero_le _, rfl, World.ownsRow_nil _ _ _ _, Upd.refl _ _⟩
  case round =>
    obtain ⟨k, hk, rfl, ho, hu⟩ := hrel
    by_cases hlt : k < q.length
    · have HA : Hid (qAt q 0 (k : Int) = (nth q k, true)) := qAt_ok q _ k hlt
      have HT : Hid (q.take (k + 1) = q.take k ++ [nth q k]) := by unfold Hid; rw [List.take_succ_eq_append_getElem hlt, nth_get q k hlt]
      have hlen : (q.take k).length = k := by rw [List.length_take]; omega
      obtain ⟨ao, co, rfl, -⟩ := ho.out.rd
      rw [hlen] at ho ⊢
      have HLEN := Lib.hid hlen
      generalize nth q k = x at *
      clear hlen
      have q1 : (k : Int) < q.length := by omega
      go_wp2_with fail
      refine (rqAtInt_any _ _ x true ⟨by omega, by omega⟩ (HS.out.upd0 hu.out) HA.out).mono ?_
      rintro e w2 ⟨rfl, hu2⟩
      have HU2 := Lib.hid (hu.out.seq hu2)
      have HO2 := Lib.hid (ho.out.upd hu2 (by simp))
      have hsz := HU2.out.size
      have HB : Hid (((q.take k).length + [x].length) * 8 ≤ 140737488355328) := by unfold Hid; rw [HLEN.out]; simp; omega
      have HL : Hid ((q.take k).length + [x].length ≤ maxLen) := by unfold Hid maxLen; rw [HLEN.out]; simp; omega
      clear hu2 hu ho
      go_wp2_with (at_builtin; go_must (refine wpList_app_of rfl _ _ rfl (.slice ao k co) (.slice (some ⟨w2.heap.size, 0, none⟩) 1 1) rfl rfl (run_app (c := iv) (fun _ => rfl) Try.underlying30 infoElInt rfl _ _ (q.take k) [x] (HO2.out.upd ((Upd.refl [] _).alloc _) (by simp)) (Rd.lit [x] rfl rfl rfl (by decide) (by decide)) HB.out HL.out (by simp <;> omega)) ?_; rintro v1 w3 ⟨ho3, hu3, hk3⟩; have HO3 := Lib.hid ho3; have HU3 : Hid (Upd [] w w3) := ((HU2.out.alloc _).trans hu3 (by simp) (fun y hy => .inr (HO2.out.ge y hy).1)); clear ho3 hu3 hk3))
      go_roundw
      case rel => exact ⟨k + 1, by omega, by go_num, by rw [HT.out]; exact HO3, HU3⟩
      case measure => simp [intOf]; omega
    · obtain rfl : k = q.length := by omega
      go_wp2_with fail
      go_ret
      exact ⟨_, rfl, by rw [← List.take_length (l := q)]; exact ho.out, hu.out⟩
end
end Go.Proofs.Ytjomecimbofnfaa
