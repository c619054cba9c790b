/- The walk of RingOrder. -/
import Derived.Test.YtjomecimbofnfaaRingKept
import Derived.Test.YtjomecimbofnfaaWithin
namespace Go.Proofs.Ytjomecimbofnfaa
open Go.RowKit
set_option linter.unusedSimpArgs false
set_option linter.unusedVariables false
/-- A ring, what was put, what was taken. -/
structure Ord (base : Nat) (w : World) (g gl room : Nat) (vp vt : Value) (P T q : List Int) : Prop where
  eq : P = T ++ q
  r : RQInt base w g gl room q
  p : Own iv base 3 w vp P
  t : Own iv base 3 w vt T
  apr : Ap (blk vp) [g, gl]
  atr : Ap (blk vt) [g, gl]
  apt : Ap (blk vp) (blk vt)
section
variable {base g gl room : Nat} {w w' : World} {vp vt v' : Value} {P T q : List Int}
theorem Ord.upd0 (h : Ord base w g gl room vp vt P T q) (hu : Upd [] w w') : Ord base w' g gl room vp vt P T q :=
  ⟨h.eq, h.r.upd0 hu, h.p.upd hu (by simp), h.t.upd hu (by simp), h.apr, h.atr, h.apt⟩
theorem Ord.app_p (h : Ord base w g gl room vp vt P T q) {q' P' : List Int} (hr : RQInt base w g gl room q') (he : P' = T ++ q') (ho : Own iv base 3 w' v' P') (hu : Upd (blk vp) w w') (hk : ∀ x ∈ blk v', x ∈ blk vp ∨ w.heap.size ≤ x) : Ord base w' g gl room v' vt P' T q' :=
  ⟨he, hr.upd hu h.apr.symm, ho, h.t.upd hu h.apt.symm, h.apr.next hk (fun y hy => (hr.lt y hy).2), h.atr, h.apt.next hk (fun y hy => (h.t.ge y hy).2)⟩
theorem Ord.app_t (h : Ord base w g gl room vp vt P T q) {q' T' : List Int} (hr : RQInt base w g gl room q') (he : P = T' ++ q') (ho : Own iv base 3 w' v' T') (hu : Upd (blk vt) w w') (hk : ∀ x ∈ blk v', x ∈ blk vt ∨ w.heap.size ≤ x) : Ord base w' g gl room vp v' P T' q' :=
  ⟨he, hr.upd hu h.atr.symm, h.p.upd hu h.apt, ho, h.apr, h.atr.next hk (fun y hy => (hr.lt y hy).2), (h.apt.symm.next hk (fun y hy => (h.p.ge y hy).2)).symm⟩
theorem Ord.ring (h : Ord base w g gl room vp vt P T q) {q' : List Int} (hr : RQInt base w' g gl room q') (hu : Upd [g, gl] w w') : RQInt base w' g gl room q' ∧ Own iv base 3 w' vp P ∧ Own iv base 3 w' vt T :=
  ⟨hr, h.p.upd hu h.apr, h.t.upd hu h.atr⟩
end
set_option maxRecDepth 20000 in
set_option maxHeartbeats 4000000 in
theorem ringOrder_any (w : World) (n0 : Int) (hn0 : I64 n0) (v : Value) (l : List Int) (h : Rd iv w v l) (hl : ∀ x ∈ l, I64 x) (_ : l.length * 8 ≤ 140737488351232) (u : Value) (m : List Int) (h2 : Rd iv w u m) (hl2 : ∀ x ∈ m, I64 x) (_ : m.length * 8 ≤ 140737488351232) :
    Calls Try.prog 4 #[.int .i64 n0, v, u] w fun e w' => e = .returned (.bool true) ∧ Upd [] w w' := by
  have HR := Lib.hid h
  obtain ⟨a, cap, rfl, hlc, hcm, hcell⟩ := h
  have hm1 : l.length ≤ 9223372036854775807 := by unfold maxLen at hcm; omega
  have HL := Lib.hid hl
  have HR2 := Lib.hid h2
  obtain ⟨a2, cap2, rfl, hlc2, hcm2, hcell2⟩ := h2
  have hm2 : m.length ≤ 9223372036854775807 := by unfold maxLen at hcm2; omega
  have HL2 := Lib.hid hl2
  have HN0 := Lib.hid hn0
  clear hlc hcm hcell hl hlc2 hcm2 hcell2 hl2 hn0
  go_enter Try.func4, Try.ntmps4
  go_wp2_with fail
  refine (within_any _ _ _ _ HN0.out (by omega) (by omega) (by omega)).mono ?_
  rintro e w' ⟨rfl, rfl⟩
  obtain ⟨r1, r2⟩ := within_in n0 1 50 (by omega)
  generalize within n0 1 50 = room at *
  obtain ⟨room, rfl⟩ := Int.eq_ofNat_of_zero_le (show 0 ≤ room by omega)
  go_wp2_with fail
  refine (rqNewInt_ok _ room room rfl (by omega) (by omega)).mono ?_
  rintro e w1 ⟨g, gl, rfl, hs1, hu1⟩
  have HO : Hid (Ord w.heap.size w1 g gl room (.slice none 0 0) (.slice none 0 0) [] [] []) := ⟨rfl, hs1, World.ownsRow_nil _ _ _ _, World.ownsRow_nil _ _ _ _, Ap.nil, Ap.nil, Ap.nil⟩
  have HU1 := Lib.hid hu1
  clear hs1 hu1
  go_wp2_with fail
  go_loopw [9, 10, 11] (fun vp vt i wr => ∃ (k : Nat) (P T q : List Int), k ≤ 300 ∧ k ≤ l.length ∧ i = .int .i64 k ∧ P.length ≤ k ∧ Hid (Ord w.heap.size wr g gl room vp vt P T q) ∧ Hid (Upd [] w wr)) (fun _ _ i _ => 300 - (intOf i).toNat)
  case atStart => exact ⟨0, [], [], [], by omega, by omega, rfl, by simp, HO, HU1⟩
  case round =>
    obtain ⟨k, P, T, q, hk, hkl, rfl, hP, hs, hu⟩ := hrel
    clear HO HU1
    obtain ⟨ap, cp, rfl, -⟩ := hs.out.p.rd
    obtain ⟨at_, ct, rfl, -⟩ := hs.out.t.rd
    by_cases hgo : k < l.length ∧ k < 300
    · obtain ⟨hlt, h2⟩ := hgo
      obtain ⟨b, off, rfl, c0⟩ := (HR.out.upd0 hu.out).at_ k hlt
      have D0 := Lib.hid (show w.cell? ⟨b, off + k, none⟩ = some (iv (nth l k)) from by
        obtain ⟨b', off', he, hc⟩ := HR.out.at_ k hlt
        injection he with he; injection he with e1 e2; subst e1; subst e2; exact hc)
      generalize nth l k = x at *
      have q1 : (k : Int) < l.length := by omega
      have q2 : (k : Int) < 300 := by omega
      by_cases htk : k < m.length
      · have D2 : Hid (∃ b2 off2, a2 = some ⟨b2, off2, none⟩ ∧ w.cell? ⟨b2, off2 + k, none⟩ = some (iv (nth m k))) := HR2.out.at_ k htk
        obtain ⟨b2, off2, rfl, d2⟩ := D2.out
        have D2 := Lib.hid d2
        clear d2
        have HN := Lib.hid (HL2.out (nth m k) (by rw [nth_get m k htk]; exact List.getElem_mem htk))
        generalize nth m k = y0 at *
        have q3 : (k : Int) < m.length := by omega
        by_cases hfull : q.length < room
        · have HF := Lib.hid hfull
          clear hfull
          go_wp2_with fail
          refine (rqPutInt_ok _ x hs.out.r HF.out).mono ?_
          rintro e w3 ⟨rfl, hr3, hu3⟩
          have HR3 := Lib.hid (hs.out.ring hr3 hu3)
          have HU3 := Lib.hid (RQInt.next hu.out hs.out.r hu3)
          have c0 := HU3.out.cell D0.out (by simp)
          have HB : Hid ((P.length + [x].length) * 8 ≤ 140737488355328) := by unfold Hid; simp; omega
          have HLM : Hid (P.length + [x].length ≤ maxLen) := by unfold Hid maxLen; simp; omega
          have hszw := HU3.out.size
          clear hr3 hu3
          go_wp2_with (at_builtin; go_must (refine wpList_app_of rfl _ _ rfl (.slice ap P.length cp) (.slice (some ⟨w3.heap.size, 0, none⟩) 1 1) rfl rfl (run_app (c := iv) (fun _ => rfl) Try.underlying30 infoElInt rfl _ _ P [x] (HR3.out.2.1.upd ((Upd.refl [] _).alloc _) (by simp)) (Rd.lit [x] rfl rfl rfl (by decide) (by decide)) HB.out HLM.out (by simp <;> omega)) ?_; rintro v1 w5 ⟨ho5, hu5, hk5⟩; have HO5 := Lib.hid ho5; have HU5 := Lib.hid hu5; have HK5 := Lib.hid hk5; clear ho5 hu5 hk5; have HU6 : Hid (Upd [] w w5) := (HU3.out.alloc _).trans HU5.out (by simp) (fun y hy => .inr (HR3.out.2.1.ge y hy).1); have c2 := HU6.out.cell D2.out (by simp)))
          have HS6 : Hid (∃ P' q', P'.length = P.length + 1 ∧ Ord w.heap.size w5 g gl room v1 (.slice at_ T.length ct) P' T q') := by
            refine ⟨P ++ [x], q ++ [x], by simp, ?_⟩
            have e0 : Upd [] w3 (w3.alloc (Obj.cells #[iv x] 3)) := (Upd.refl [] w3).alloc _
            have h3 : Ord w.heap.size (w3.alloc (Obj.cells #[iv x] 3)) g gl room (.slice ap P.length cp) (.slice at_ T.length ct) (T ++ (q ++ [x])) T (q ++ [x]) → Ord w.heap.size w5 g gl room v1 (.slice at_ T.length ct) (P ++ [x]) T (q ++ [x]) := fun h => h.app_p h.r (by rw [hs.out.eq, List.append_assoc]) HO5.out HU5.out HK5.out
            refine ⟨by rw [hs.out.eq, List.append_assoc], (HR3.out.1.upd0 e0).upd HU5.out hs.out.apr.symm, HO5.out, (HR3.out.2.2.upd e0 (by simp)).upd HU5.out hs.out.apt.symm, hs.out.apr.next HK5.out (fun y hy => by have := (HR3.out.1.lt y hy).2; simp; omega), hs.out.atr, hs.out.apt.next HK5.out (fun y hy => by have := (HR3.out.2.2.ge y hy).2; simp; omega)⟩
          have HPl : Hid (P.length + 1 ≤ k + 1) := by unfold Hid; omega
          clear hs hu HR3 HU3 HO5 HU5 HK5 c0 hszw hP HF HB HLM
          obtain ⟨P, q, hP', hs6⟩ := HS6.out
          have hPk : P.length ≤ k + 1 := by have := HPl.out; omega
          have HS7 := Lib.hid hs6
          obtain ⟨ap, cp, rfl, -⟩ := hs6.p.rd
          clear hs6 HS6 hP' HPl
          refine (within_any _ _ _ _ HN.out (by omega) (by omega) (by omega)).mono ?_
          rintro e w' ⟨rfl, rfl⟩
          obtain ⟨n1, n2⟩ := within_in y0 0 3 (by omega)
          generalize within y0 0 3 = tk at *
          obtain ⟨tk, rfl⟩ := Int.eq_ofNat_of_zero_le n1
          go_wp2_with fail
          go_loopw [10, 12] (fun vt n wr => ∃ (j : Nat) (T q : List Int), j ≤ 3 ∧ n = .int .i64 j ∧ Hid (Ord w.heap.size wr g gl room (.slice ap P.length cp) vt P T q) ∧ Hid (Upd [] w wr)) (fun _ n _ => (intOf n).toNat)
          case atStart => exact ⟨tk, T, q, by omega, rfl, HS7, HU6⟩
          case round =>
            obtain ⟨j, T, q, hj, rfl, hs, hu⟩ := hrel
            clear HS7 HU6
            obtain ⟨at_, ct, rfl, -⟩ := hs.out.t.rd
            by_cases hj0 : j = 0
            · obtain rfl : j = 0 := hj0
              go_wp2_with fail
              go_roundw
              case rel => exact ⟨k + 1, P, T, q, by omega, by omega, by go_num, hPk, hs, hu⟩
              case measure => simp [intOf]; omega
            · have q5 : (0 : Int) < j := by omega
              have hTP : Hid (T.length ≤ P.length) := by unfold Hid; rw [hs.out.eq]; simp
              have hTP2 := hTP.out
              cases q with
              | nil =>
                go_wp2_with fail
                refine (rqTakeInt_any _ 0 false hs.out.r (by decide)).mono ?_
                rintro e w5 ⟨rfl, hr5, hu5⟩
                have HR5 := Lib.hid (hs.out.ring hr5 hu5)
                have HU5 := Lib.hid (RQInt.next hu.out hs.out.r hu5)
                have HS5 : Hid (Ord w.heap.size w5 g gl room (.slice ap P.length cp) (.slice at_ T.length ct) P T []) := ⟨hs.out.eq, HR5.out.1, HR5.out.2.1, HR5.out.2.2, hs.out.apr, hs.out.atr, hs.out.apt⟩
                clear hr5 hu5
                go_wp2_with fail
                go_roundw
                case rel => exact ⟨k + 1, P, T, [], by omega, by omega, by go_num, hPk, HS5, HU5⟩
                case measure => simp [intOf]; omega
              | cons y q =>
                have HY : Hid (qAt (y :: q) 0 0 = (y, true)) := qAt_ok (y :: q) 0 0 (by simp)
                go_wp2_with fail
                refine (rqTakeInt_any _ y true hs.out.r HY.out).mono ?_
                rintro e w5 ⟨rfl, hr5, hu5⟩
                have HR5 := Lib.hid (hs.out.ring hr5 hu5)
                have HU5 := Lib.hid (RQInt.next hu.out hs.out.r hu5)
                have HB : Hid ((T.length + [y].length) * 8 ≤ 140737488355328) := by unfold Hid; simp; omega
                have HLM : Hid (T.length + [y].length ≤ maxLen) := by unfold Hid maxLen; simp; omega
                have hszw := HU5.out.size
                clear hr5 hu5
                go_wp2_with (at_builtin; go_must (refine wpList_app_of rfl _ _ rfl (.slice at_ T.length ct) (.slice (some ⟨w5.heap.size, 0, none⟩) 1 1) rfl rfl (run_app (c := iv) (fun _ => rfl) Try.underlying30 infoElInt rfl _ _ T [y] (HR5.out.2.2.upd ((Upd.refl [] _).alloc _) (by simp)) (Rd.lit [y] rfl rfl rfl (by decide) (by decide)) HB.out HLM.out (by simp <;> omega)) ?_; rintro v1 w6 ⟨ho6, hu6, hk6⟩; have HO6 := Lib.hid ho6; have HU6 := Lib.hid hu6; have HK6 := Lib.hid hk6; clear ho6 hu6 hk6))
                have HS6 : Hid (Ord w.heap.size w6 g gl room (.slice ap P.length cp) v1 P (T ++ [y]) q) := by
                  have e0 : Upd [] w5 (w5.alloc (Obj.cells #[iv y] 3)) := (Upd.refl [] w5).alloc _
                  exact ⟨by rw [hs.out.eq, List.append_assoc]; rfl, (HR5.out.1.upd0 e0).upd HU6.out hs.out.atr.symm, (HR5.out.2.1.upd e0 (by simp)).upd HU6.out hs.out.apt, HO6.out, hs.out.apr, hs.out.atr.next HK6.out (fun y hy => by have := (HR5.out.1.lt y hy).2; simp; omega), (hs.out.apt.symm.next HK6.out (fun y hy => by have := (HR5.out.2.1.ge y hy).2; simp; omega)).symm⟩
                have HU7 : Hid (Upd [] w w6) := (HU5.out.alloc _).trans HU6.out (by simp) (fun y hy => .inr (HR5.out.2.2.ge y hy).1)
                go_roundw
                case rel => exact ⟨j - 1, T ++ [y], q, by omega, by go_num, HS6, HU7⟩
                case measure => simp [intOf]; omega
        · have HF : Hid (room ≤ q.length) := by unfold Hid; omega
          have HE : Hid ((q.length : Int) = room) := by have := hs.out.r.le; unfold Hid; omega
          clear hfull
          go_wp2_with fail
          refine (rqPutInt_no _ x hs.out.r HF.out).mono ?_
          rintro e w3 ⟨rfl, hu3⟩
          have HS3 := Lib.hid (hs.out.upd0 hu3)
          have HU3 := Lib.hid (hu.out.seq hu3)
          clear hu3
          go_wp2_with fail
          refine (rqLenInt_any _ (room : Int) HS3.out.r HE.out).mono ?_
          rintro e w' ⟨rfl, rfl⟩
          have HS7 := HS3
          have HU6 := HU3
          have hPk : P.length ≤ k + 1 := by omega
          have c2 := HU6.out.cell D2.out (by simp)
          clear HS3 HU3 hs hu c0 hP
          go_wp2_with fail
          refine (within_any _ _ _ _ HN.out (by omega) (by omega) (by omega)).mono ?_
          rintro e w' ⟨rfl, rfl⟩
          obtain ⟨n1, n2⟩ := within_in y0 0 3 (by omega)
          generalize within y0 0 3 = tk at *
          obtain ⟨tk, rfl⟩ := Int.eq_ofNat_of_zero_le n1
          go_wp2_with fail
          go_loopw [10, 12] (fun vt n wr => ∃ (j : Nat) (T q : List Int), j ≤ 3 ∧ n = .int .i64 j ∧ Hid (Ord w.heap.size wr g gl room (.slice ap P.length cp) vt P T q) ∧ Hid (Upd [] w wr)) (fun _ n _ => (intOf n).toNat)
          case atStart => exact ⟨tk, T, q, by omega, rfl, HS7, HU6⟩
          case round =>
            obtain ⟨j, T, q, hj, rfl, hs, hu⟩ := hrel
            clear HS7 HU6
            obtain ⟨at_, ct, rfl, -⟩ := hs.out.t.rd
            by_cases hj0 : j = 0
            · obtain rfl : j = 0 := hj0
              go_wp2_with fail
              go_roundw
              case rel => exact ⟨k + 1, P, T, q, by omega, by omega, by go_num, hPk, hs, hu⟩
              case measure => simp [intOf]; omega
            · have q5 : (0 : Int) < j := by omega
              have hTP : Hid (T.length ≤ P.length) := by unfold Hid; rw [hs.out.eq]; simp
              have hTP2 := hTP.out
              cases q with
              | nil =>
                go_wp2_with fail
                refine (rqTakeInt_any _ 0 false hs.out.r (by decide)).mono ?_
                rintro e w5 ⟨rfl, hr5, hu5⟩
                have HR5 := Lib.hid (hs.out.ring hr5 hu5)
                have HU5 := Lib.hid (RQInt.next hu.out hs.out.r hu5)
                have HS5 : Hid (Ord w.heap.size w5 g gl room (.slice ap P.length cp) (.slice at_ T.length ct) P T []) := ⟨hs.out.eq, HR5.out.1, HR5.out.2.1, HR5.out.2.2, hs.out.apr, hs.out.atr, hs.out.apt⟩
                clear hr5 hu5
                go_wp2_with fail
                go_roundw
                case rel => exact ⟨k + 1, P, T, [], by omega, by omega, by go_num, hPk, HS5, HU5⟩
                case measure => simp [intOf]; omega
              | cons y q =>
                have HY : Hid (qAt (y :: q) 0 0 = (y, true)) := qAt_ok (y :: q) 0 0 (by simp)
                go_wp2_with fail
                refine (rqTakeInt_any _ y true hs.out.r HY.out).mono ?_
                rintro e w5 ⟨rfl, hr5, hu5⟩
                have HR5 := Lib.hid (hs.out.ring hr5 hu5)
                have HU5 := Lib.hid (RQInt.next hu.out hs.out.r hu5)
                have HB : Hid ((T.length + [y].length) * 8 ≤ 140737488355328) := by unfold Hid; simp; omega
                have HLM : Hid (T.length + [y].length ≤ maxLen) := by unfold Hid maxLen; simp; omega
                have hszw := HU5.out.size
                clear hr5 hu5
                go_wp2_with (at_builtin; go_must (refine wpList_app_of rfl _ _ rfl (.slice at_ T.length ct) (.slice (some ⟨w5.heap.size, 0, none⟩) 1 1) rfl rfl (run_app (c := iv) (fun _ => rfl) Try.underlying30 infoElInt rfl _ _ T [y] (HR5.out.2.2.upd ((Upd.refl [] _).alloc _) (by simp)) (Rd.lit [y] rfl rfl rfl (by decide) (by decide)) HB.out HLM.out (by simp <;> omega)) ?_; rintro v1 w6 ⟨ho6, hu6, hk6⟩; have HO6 := Lib.hid ho6; have HU6 := Lib.hid hu6; have HK6 := Lib.hid hk6; clear ho6 hu6 hk6))
                have HS6 : Hid (Ord w.heap.size w6 g gl room (.slice ap P.length cp) v1 P (T ++ [y]) q) := by
                  have e0 : Upd [] w5 (w5.alloc (Obj.cells #[iv y] 3)) := (Upd.refl [] w5).alloc _
                  exact ⟨by rw [hs.out.eq, List.append_assoc]; rfl, (HR5.out.1.upd0 e0).upd HU6.out hs.out.atr.symm, (HR5.out.2.1.upd e0 (by simp)).upd HU6.out hs.out.apt, HO6.out, hs.out.apr, hs.out.atr.next HK6.out (fun y hy => by have := (HR5.out.1.lt y hy).2; simp; omega), (hs.out.apt.symm.next HK6.out (fun y hy => by have := (HR5.out.2.1.ge y hy).2; simp; omega)).symm⟩
                have HU7 : Hid (Upd [] w w6) := (HU5.out.alloc _).trans HU6.out (by simp) (fun y hy => .inr (HR5.out.2.2.ge y hy).1)
                go_roundw
                case rel => exact ⟨j - 1, T ++ [y], q, by omega, by go_num, HS6, HU7⟩
                case measure => simp [intOf]; omega
      · by_cases hfull : q.length < room
        · have HF := Lib.hid hfull
          clear hfull
          go_wp2_with fail
          refine (rqPutInt_ok _ x hs.out.r HF.out).mono ?_
          rintro e w3 ⟨rfl, hr3, hu3⟩
          have HR3 := Lib.hid (hs.out.ring hr3 hu3)
          have HU3 := Lib.hid (RQInt.next hu.out hs.out.r hu3)
          have c0 := HU3.out.cell D0.out (by simp)
          have HB : Hid ((P.length + [x].length) * 8 ≤ 140737488355328) := by unfold Hid; simp; omega
          have HLM : Hid (P.length + [x].length ≤ maxLen) := by unfold Hid maxLen; simp; omega
          have hszw := HU3.out.size
          clear hr3 hu3
          go_wp2_with (at_builtin; go_must (refine wpList_app_of rfl _ _ rfl (.slice ap P.length cp) (.slice (some ⟨w3.heap.size, 0, none⟩) 1 1) rfl rfl (run_app (c := iv) (fun _ => rfl) Try.underlying30 infoElInt rfl _ _ P [x] (HR3.out.2.1.upd ((Upd.refl [] _).alloc _) (by simp)) (Rd.lit [x] rfl rfl rfl (by decide) (by decide)) HB.out HLM.out (by simp <;> omega)) ?_; rintro v1 w5 ⟨ho5, hu5, hk5⟩; have HO5 := Lib.hid ho5; have HU5 := Lib.hid hu5; have HK5 := Lib.hid hk5; clear ho5 hu5 hk5))
          have HS6 : Hid (∃ P' q', P'.length = P.length + 1 ∧ Ord w.heap.size w5 g gl room v1 (.slice at_ T.length ct) P' T q') := by
            refine ⟨P ++ [x], q ++ [x], by simp, ?_⟩
            have e0 : Upd [] w3 (w3.alloc (Obj.cells #[iv x] 3)) := (Upd.refl [] w3).alloc _
            have h3 : Ord w.heap.size (w3.alloc (Obj.cells #[iv x] 3)) g gl room (.slice ap P.length cp) (.slice at_ T.length ct) (T ++ (q ++ [x])) T (q ++ [x]) → Ord w.heap.size w5 g gl room v1 (.slice at_ T.length ct) (P ++ [x]) T (q ++ [x]) := fun h => h.app_p h.r (by rw [hs.out.eq, List.append_assoc]) HO5.out HU5.out HK5.out
            refine ⟨by rw [hs.out.eq, List.append_assoc], (HR3.out.1.upd0 e0).upd HU5.out hs.out.apr.symm, HO5.out, (HR3.out.2.2.upd e0 (by simp)).upd HU5.out hs.out.apt.symm, hs.out.apr.next HK5.out (fun y hy => by have := (HR3.out.1.lt y hy).2; simp; omega), hs.out.atr, hs.out.apt.next HK5.out (fun y hy => by have := (HR3.out.2.2.ge y hy).2; simp; omega)⟩
          have HU6 : Hid (Upd [] w w5) := (HU3.out.alloc _).trans HU5.out (by simp) (fun y hy => .inr (HR3.out.2.1.ge y hy).1)
          have HPl : Hid (P.length + 1 ≤ k + 1) := by unfold Hid; omega
          clear hs hu HR3 HU3 HO5 HU5 HK5 c0 hszw hP HF HB HLM
          obtain ⟨P, q, hP', hs6⟩ := HS6.out
          have hPk : P.length ≤ k + 1 := by have := HPl.out; omega
          have HS7 := Lib.hid hs6
          obtain ⟨ap, cp, rfl, -⟩ := hs6.p.rd
          clear hs6 HS6 hP' HPl
          go_loopw [10, 12] (fun vt n wr => ∃ (j : Nat) (T q : List Int), j ≤ 3 ∧ n = .int .i64 j ∧ Hid (Ord w.heap.size wr g gl room (.slice ap P.length cp) vt P T q) ∧ Hid (Upd [] w wr)) (fun _ n _ => (intOf n).toNat)
          case atStart => exact ⟨0, T, q, by omega, rfl, HS7, HU6⟩
          case round =>
            obtain ⟨j, T, q, hj, rfl, hs, hu⟩ := hrel
            clear HS7 HU6
            obtain ⟨at_, ct, rfl, -⟩ := hs.out.t.rd
            by_cases hj0 : j = 0
            · obtain rfl : j = 0 := hj0
              go_wp2_with fail
              go_roundw
              case rel => exact ⟨k + 1, P, T, q, by omega, by omega, by go_num, hPk, hs, hu⟩
              case measure => simp [intOf]; omega
            · have q5 : (0 : Int) < j := by omega
              have hTP : Hid (T.length ≤ P.length) := by unfold Hid; rw [hs.out.eq]; simp
              have hTP2 := hTP.out
              cases q with
              | nil =>
                go_wp2_with fail
                refine (rqTakeInt_any _ 0 false hs.out.r (by decide)).mono ?_
                rintro e w5 ⟨rfl, hr5, hu5⟩
                have HR5 := Lib.hid (hs.out.ring hr5 hu5)
                have HU5 := Lib.hid (RQInt.next hu.out hs.out.r hu5)
                have HS5 : Hid (Ord w.heap.size w5 g gl room (.slice ap P.length cp) (.slice at_ T.length ct) P T []) := ⟨hs.out.eq, HR5.out.1, HR5.out.2.1, HR5.out.2.2, hs.out.apr, hs.out.atr, hs.out.apt⟩
                clear hr5 hu5
                go_wp2_with fail
                go_roundw
                case rel => exact ⟨k + 1, P, T, [], by omega, by omega, by go_num, hPk, HS5, HU5⟩
                case measure => simp [intOf]; omega
              | cons y q =>
                have HY : Hid (qAt (y :: q) 0 0 = (y, true)) := qAt_ok (y :: q) 0 0 (by simp)
                go_wp2_with fail
                refine (rqTakeInt_any _ y true hs.out.r HY.out).mono ?_
                rintro e w5 ⟨rfl, hr5, hu5⟩
                have HR5 := Lib.hid (hs.out.ring hr5 hu5)
                have HU5 := Lib.hid (RQInt.next hu.out hs.out.r hu5)
                have HB : Hid ((T.length + [y].length) * 8 ≤ 140737488355328) := by unfold Hid; simp; omega
                have HLM : Hid (T.length + [y].length ≤ maxLen) := by unfold Hid maxLen; simp; omega
                have hszw := HU5.out.size
                clear hr5 hu5
                go_wp2_with (at_builtin; go_must (refine wpList_app_of rfl _ _ rfl (.slice at_ T.length ct) (.slice (some ⟨w5.heap.size, 0, none⟩) 1 1) rfl rfl (run_app (c := iv) (fun _ => rfl) Try.underlying30 infoElInt rfl _ _ T [y] (HR5.out.2.2.upd ((Upd.refl [] _).alloc _) (by simp)) (Rd.lit [y] rfl rfl rfl (by decide) (by decide)) HB.out HLM.out (by simp <;> omega)) ?_; rintro v1 w6 ⟨ho6, hu6, hk6⟩; have HO6 := Lib.hid ho6; have HU6 := Lib.hid hu6; have HK6 := Lib.hid hk6; clear ho6 hu6 hk6))
                have HS6 : Hid (Ord w.heap.size w6 g gl room (.slice ap P.length cp) v1 P (T ++ [y]) q) := by
                  have e0 : Upd [] w5 (w5.alloc (Obj.cells #[iv y] 3)) := (Upd.refl [] w5).alloc _
                  exact ⟨by rw [hs.out.eq, List.append_assoc]; rfl, (HR5.out.1.upd0 e0).upd HU6.out hs.out.atr.symm, (HR5.out.2.1.upd e0 (by simp)).upd HU6.out hs.out.apt, HO6.out, hs.out.apr, hs.out.atr.next HK6.out (fun y hy => by have := (HR5.out.1.lt y hy).2; simp; omega), (hs.out.apt.symm.next HK6.out (fun y hy => by have := (HR5.out.2.1.ge y hy).2; simp; omega)).symm⟩
                have HU7 : Hid (Upd [] w w6) := (HU5.out.alloc _).trans HU6.out (by simp) (fun y hy => .inr (HR5.out.2.2.ge y hy).1)
                go_roundw
                case rel => exact ⟨j - 1, T ++ [y], q, by omega, by go_num, HS6, HU7⟩
                case measure => simp [intOf]; omega
        · have HF : Hid (room ≤ q.length) := by unfold Hid; omega
          have HE : Hid ((q.length : Int) = room) := by have := hs.out.r.le; unfold Hid; omega
          clear hfull
          go_wp2_with fail
          refine (rqPutInt_no _ x hs.out.r HF.out).mono ?_
          rintro e w3 ⟨rfl, hu3⟩
          have HS3 := Lib.hid (hs.out.upd0 hu3)
          have HU3 := Lib.hid (hu.out.seq hu3)
          clear hu3
          go_wp2_with fail
          refine (rqLenInt_any _ (room : Int) HS3.out.r HE.out).mono ?_
          rintro e w' ⟨rfl, rfl⟩
          have HS7 := HS3
          have HU6 := HU3
          have hPk : P.length ≤ k + 1 := by omega
          clear HS3 HU3 hs hu c0 hP
          go_wp2_with fail
          go_loopw [10, 12] (fun vt n wr => ∃ (j : Nat) (T q : List Int), j ≤ 3 ∧ n = .int .i64 j ∧ Hid (Ord w.heap.size wr g gl room (.slice ap P.length cp) vt P T q) ∧ Hid (Upd [] w wr)) (fun _ n _ => (intOf n).toNat)
          case atStart => exact ⟨0, T, q, by omega, rfl, HS7, HU6⟩
          case round =>
            obtain ⟨j, T, q, hj, rfl, hs, hu⟩ := hrel
            clear HS7 HU6
            obtain ⟨at_, ct, rfl, -⟩ := hs.out.t.rd
            by_cases hj0 : j = 0
            · obtain rfl : j = 0 := hj0
              go_wp2_with fail
              go_roundw
              case rel => exact ⟨k + 1, P, T, q, by omega, by omega, by go_num, hPk, hs, hu⟩
              case measure => simp [intOf]; omega
            · have q5 : (0 : Int) < j := by omega
              have hTP : Hid (T.length ≤ P.length) := by unfold Hid; rw [hs.out.eq]; simp
              have hTP2 := hTP.out
              cases q with
              | nil =>
                go_wp2_with fail
                refine (rqTakeInt_any _ 0 false hs.out.r (by decide)).mono ?_
                rintro e w5 ⟨rfl, hr5, hu5⟩
                have HR5 := Lib.hid (hs.out.ring hr5 hu5)
                have HU5 := Lib.hid (RQInt.next hu.out hs.out.r hu5)
                have HS5 : Hid (Ord w.heap.size w5 g gl room (.slice ap P.length cp) (.slice at_ T.length ct) P T []) := ⟨hs.out.eq, HR5.out.1, HR5.out.2.1, HR5.out.2.2, hs.out.apr, hs.out.atr, hs.out.apt⟩
                clear hr5 hu5
                go_wp2_with fail
                go_roundw
                case rel => exact ⟨k + 1, P, T, [], by omega, by omega, by go_num, hPk, HS5, HU5⟩
                case measure => simp [intOf]; omega
              | cons y q =>
                have HY : Hid (qAt (y :: q) 0 0 = (y, true)) := qAt_ok (y :: q) 0 0 (by simp)
                go_wp2_with fail
                refine (rqTakeInt_any _ y true hs.out.r HY.out).mono ?_
                rintro e w5 ⟨rfl, hr5, hu5⟩
                have HR5 := Lib.hid (hs.out.ring hr5 hu5)
                have HU5 := Lib.hid (RQInt.next hu.out hs.out.r hu5)
                have HB : Hid ((T.length + [y].length) * 8 ≤ 140737488355328) := by unfold Hid; simp; omega
                have HLM : Hid (T.length + [y].length ≤ maxLen) := by unfold Hid maxLen; simp; omega
                have hszw := HU5.out.size
                clear hr5 hu5
                go_wp2_with (at_builtin; go_must (refine wpList_app_of rfl _ _ rfl (.slice at_ T.length ct) (.slice (some ⟨w5.heap.size, 0, none⟩) 1 1) rfl rfl (run_app (c := iv) (fun _ => rfl) Try.underlying30 infoElInt rfl _ _ T [y] (HR5.out.2.2.upd ((Upd.refl [] _).alloc _) (by simp)) (Rd.lit [y] rfl rfl rfl (by decide) (by decide)) HB.out HLM.out (by simp <;> omega)) ?_; rintro v1 w6 ⟨ho6, hu6, hk6⟩; have HO6 := Lib.hid ho6; have HU6 := Lib.hid hu6; have HK6 := Lib.hid hk6; clear ho6 hu6 hk6))
                have HS6 : Hid (Ord w.heap.size w6 g gl room (.slice ap P.length cp) v1 P (T ++ [y]) q) := by
                  have e0 : Upd [] w5 (w5.alloc (Obj.cells #[iv y] 3)) := (Upd.refl [] w5).alloc _
                  exact ⟨by rw [hs.out.eq, List.append_assoc]; rfl, (HR5.out.1.upd0 e0).upd HU6.out hs.out.atr.symm, (HR5.out.2.1.upd e0 (by simp)).upd HU6.out hs.out.apt, HO6.out, hs.out.apr, hs.out.atr.next HK6.out (fun y hy => by have := (HR5.out.1.lt y hy).2; simp; omega), (hs.out.apt.symm.next HK6.out (fun y hy => by have := (HR5.out.2.1.ge y hy).2; simp; omega)).symm⟩
                have HU7 : Hid (Upd [] w w6) := (HU5.out.alloc _).trans HU6.out (by simp) (fun y hy => .inr (HR5.out.2.2.ge y hy).1)
                go_roundw
                case rel => exact ⟨j - 1, T ++ [y], q, by omega, by go_num, HS6, HU7⟩
                case measure => simp [intOf]; omega
    · have hex : (k = 300 ∧ k < l.length) ∨ (k = l.length ∧ k ≤ 300) := by omega
      clear hgo
      rcases hex with ⟨rfl, hx⟩ | ⟨rfl, hx⟩
      all_goals
        have hP300 : P.length ≤ 300 := by omega
        go_wp2_with fail
        clear hx hk hkl hP
        go_loopw [10] (fun vt wr => ∃ (T q : List Int), Hid (Ord w.heap.size wr g gl room (.slice ap P.length cp) vt P T q) ∧ Hid (Upd [] w wr) ∧ (∃ a c, vt = .slice a T.length c) ∧ T.length ≤ P.length) (fun vt _ => 301 - (match vt with | .slice _ n _ => n | _ => 0))
        case atStart => exact ⟨T, q, hs, hu, ⟨_, _, rfl⟩, by rw [hs.out.eq]; simp⟩
        case round =>
          obtain ⟨T, q, hs, hu, ⟨at_, ct, rfl⟩, hTP⟩ := hrel
          cases q with
          | nil =>
            go_wp2_with fail
            refine (rqTakeInt_any _ 0 false hs.out.r (by decide)).mono ?_
            rintro e w5 ⟨rfl, hr5, hu5⟩
            have HR5 := Lib.hid (hs.out.ring hr5 hu5)
            have HU5 := Lib.hid (RQInt.next hu.out hs.out.r hu5)
            have HE : Hid (P = T) := by have := hs.out.eq; unfold Hid; rw [this, List.append_nil]
            clear hr5 hu5
            go_wp2_with fail
            refine (sameInt_ok _ _ P T _ HR5.out.2.1.rd HR5.out.2.2.rd HE.out).mono ?_
            rintro e w6 ⟨rfl, hu6⟩
            have HR6 := Lib.hid (HR5.out.1.upd0 hu6)
            have HU6 := Lib.hid (HU5.out.seq hu6)
            clear hu6
            go_wp2_with fail
            refine (rqLenInt_any _ 0 HR6.out rfl).mono ?_
            rintro e w' ⟨rfl, rfl⟩
            go_wp2_with fail
            refine (ringRuns_any _).mono ?_
            rintro e w9 ⟨rfl, hu9⟩
            go_wp2_with fail
            go_ret
            exact ⟨rfl, HU6.out.seq hu9⟩
          | cons y q =>
            have HY : Hid (qAt (y :: q) 0 0 = (y, true)) := qAt_ok (y :: q) 0 0 (by simp)
            have hTl : T.length + 1 ≤ P.length := by have := congrArg List.length hs.out.eq; simp at this; omega
            have q7 : (T.length : Int) ≤ P.length := by omega
            go_wp2_with fail
            refine (rqTakeInt_any _ y true hs.out.r HY.out).mono ?_
            rintro e w5 ⟨rfl, hr5, hu5⟩
            have HR5 := Lib.hid (hs.out.ring hr5 hu5)
            have HU5 := Lib.hid (RQInt.next hu.out hs.out.r hu5)
            have HB : Hid ((T.length + [y].length) * 8 ≤ 140737488355328) := by unfold Hid; simp; omega
            have HLM : Hid (T.length + [y].length ≤ maxLen) := by unfold Hid maxLen; simp; omega
            have hszw := HU5.out.size
            clear hr5 hu5
            go_wp2_with (at_builtin; go_must (refine wpList_app_of rfl _ _ rfl (.slice at_ T.length ct) (.slice (some ⟨w5.heap.size, 0, none⟩) 1 1) rfl rfl (run_app (c := iv) (fun _ => rfl) Try.underlying30 infoElInt rfl _ _ T [y] (HR5.out.2.2.upd ((Upd.refl [] _).alloc _) (by simp)) (Rd.lit [y] rfl rfl rfl (by decide) (by decide)) HB.out HLM.out (by simp <;> omega)) ?_; rintro v1 w6 ⟨ho6, hu6, hk6⟩; have HO6 := Lib.hid ho6; have HU6 := Lib.hid hu6; have HK6 := Lib.hid hk6; clear ho6 hu6 hk6))
            have HS6 : Hid (Ord w.heap.size w6 g gl room (.slice ap P.length cp) v1 P (T ++ [y]) q) := by
              have e0 : Upd [] w5 (w5.alloc (Obj.cells #[iv y] 3)) := (Upd.refl [] w5).alloc _
              exact ⟨by rw [hs.out.eq, List.append_assoc]; rfl, (HR5.out.1.upd0 e0).upd HU6.out hs.out.atr.symm, (HR5.out.2.1.upd e0 (by simp)).upd HU6.out hs.out.apt, HO6.out, hs.out.apr, hs.out.atr.next HK6.out (fun y hy => by have := (HR5.out.1.lt y hy).2; simp; omega), (hs.out.apt.symm.next HK6.out (fun y hy => by have := (HR5.out.2.1.ge y hy).2; simp; omega)).symm⟩
            have HU7 : Hid (Upd [] w w6) := (HU5.out.alloc _).trans HU6.out (by simp) (fun y hy => .inr (HR5.out.2.2.ge y hy).1)
            obtain ⟨a9, c9, hv9, -⟩ := HO6.out.rd
            have HV9 : Hid (v1 = .slice a9 (T.length + 1) c9) := by unfold Hid; rw [hv9]; simp
            clear hv9
            go_roundw
            case rel => exact ⟨T ++ [y], q, HS6, HU7, ⟨a9, c9, by rw [HV9.out]; simp⟩, by simp; omega⟩
            case measure => rw [HV9.out]; show 301 - (T.length + 1) < 301 - T.length; omega
end Go.Proofs.Ytjomecimbofnfaa
