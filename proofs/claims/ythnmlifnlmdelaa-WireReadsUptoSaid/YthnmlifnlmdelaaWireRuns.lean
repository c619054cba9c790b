/- Chapter 2's runs. -/
import Derived.Test.YthnmlifnlmdelaaWireRd3
namespace Go.Proofs.Ythnmlifnlmdelaa
open Go.RowKit
set_option linter.unusedSimpArgs false
set_option linter.unusedVariables false
theorem nb_1 : nb 1 = 1 := by rw [nb_pos _ (by decide), show 1 / 256 = 0 from rfl, nb_zero]
theorem nb_2 : nb 2 = 1 := by rw [nb_pos _ (by decide), show 2 / 256 = 0 from rfl, nb_zero]
theorem nb_255 : nb 255 = 1 := by rw [nb_pos _ (by decide), show 255 / 256 = 0 from rfl, nb_zero]
theorem nb_256 : nb 256 = 2 := by rw [nb_pos _ (by decide), show 256 / 256 = 1 from rfl, nb_1]
theorem wr1 : [] ++ encNum (0 : Int).toNat = [0] := enc_zero
theorem wr2 : [7] ++ encNum (255 : Int).toNat = [7, 1, 255] := by show [7] ++ encNum 255 = _; unfold encNum; rw [nb_255]; rfl
theorem wr3 : [] ++ encNum (256 : Int).toNat = [2, 1, 0] := by show [] ++ encNum 256 = _; unfold encNum; rw [nb_256]; rfl
theorem wr4 : [] ++ encNum (-5 : Int).toNat = [0] := enc_zero
theorem enc_1 : encNum 1 = [1, 1] := by unfold encNum; rw [nb_1]; rfl
theorem enc_2 : encNum 2 = [1, 2] := by unfold encNum; rw [nb_2]; rfl
theorem wr5 : [] ++ encText ⟨#[97, 98]⟩ = [1, 2, 97, 98] := by show encNum 2 ++ [97, 98] = _; rw [enc_2]; rfl
theorem wr6 : [] ++ encFlag true = [1, 1] := enc_1
theorem wr7 : [] ++ encList [1, 2] = [1, 2, 1, 1, 1, 2] := by show encNum 2 ++ (encNum 1 ++ (encNum 2 ++ [])) = _; rw [enc_1, enc_2]; rfl
theorem rd1 : rdNum [1, 0] (0, 0) = (0, 0, 4) := by decide +kernel
theorem rd2 : rdNum [9] (0, 0) = (0, 0, 4) := by decide +kernel
theorem rd3 : rdNum [2, 1] (0, 0) = (0, 0, 3) := by decide +kernel
theorem rd4 : rdNum [8, 128, 0, 0, 0, 0, 0, 0, 0] (0, 0) = (0, 0, 4) := by decide +kernel
theorem rd5 : rdUpto [1, 5] 4 (0, 0) = (0, 0, 2) := by decide +kernel
theorem rd6 : rdText [1, 3, 97] 9 (0, 0) = ([], 0, 3) := by decide +kernel
theorem rd7 : rdEnd [0] (0, 0) = (0, 5) := by decide +kernel
theorem RdrAt.base_le {T : TypeId} {base base' : Nat} {w : World} {g : Nat} {v : Value} {B : List UInt8} {s : RSt} (h : RdrAt T base w g v B s) (hb : base' ≤ base) : RdrAt T base' w g v B s :=
  ⟨h.cells, h.own.base_le hb, Nat.le_trans hb h.gb, h.at_, h.er, h.sz⟩
theorem RdrAt.old {T : TypeId} {base : Nat} {w w' : World} {g g' : Nat} {v : Value} {B : List UInt8} {s : RSt} (h : RdrAt T base w g v B s) (hu : Upd [g'] w w') (hg : g' < base) : RdrAt T base w' g v B s :=
  ⟨h.cells.upd hu (by simp; have := h.gb; omega), h.own.upd hu (fun x hx hS => by simp at hS; subst hS; have := (h.own.ge x hx).1; omega), h.gb, h.at_, h.er, h.sz⟩
set_option maxHeartbeats 1000000 in
theorem number_ok (w : World) (u : Value) (l : List UInt8) (er : Nat) (E : Int) (hE : E = (er : Int)) (h : Bytes w u l) (hz : l.length ≤ 10000000000) (hr : rdNum l (0, 0) = (0, 0, er)) :
    Calls Try.prog 31 #[u, .int .i64 E] w fun e w' => e = .returned (.bool true) ∧ Upd [] w w' := by
  subst hE
  have H := Lib.hid h
  go_enter Try.func31, Try.ntmps31
  go_wp2_with fail
  with_reducible refine (rRead_any _ _ l H.out hz).mono ?_
  rintro e w1 ⟨g, v, rfl, h1, hu1⟩
  have hg : w.heap.size ≤ g := h1.gb
  go_wp2_with fail
  with_reducible refine (rNum_any _ h1).mono ?_
  rintro e w2 ⟨rfl, h2, hu2⟩
  rw [hr] at h2
  rw [hr]
  go_wp2_with fail
  with_reducible refine (rErr_any _ h2).mono ?_
  rintro e w3 ⟨rfl, rfl⟩
  go_wp2_with fail
  with_reducible refine (rAt_any _ h2).mono ?_
  rintro e w4 ⟨rfl, rfl⟩
  go_wp2_with fail
  go_ret
  exact ⟨rfl, hu1.trans hu2 (by simp) (fun x hx => by simp at hx; subst hx; exact .inr hg)⟩
set_option maxHeartbeats 8000000 in
theorem wireRuns_any (w : World) : Calls Try.prog 8 #[] w fun e w' => e = .returned (.bool true) ∧ Upd [] w w' := by
  have HU0 := Lib.hid (Upd.refl [] w)
  obtain ⟨W0, hW0⟩ : ∃ W0, W0 = w := ⟨_, rfl⟩
  go_enter Try.func8, Try.ntmps8
  go_wp2_with fail
  refine (fNum_any _ [] 0 _ (Rd.nil _) (by decide) (i64_mk (by decide) (by decide))).mono ?_
  rintro e w1a ⟨v1, rfl, ho1, hu1⟩
  rw [wr1] at ho1
  have HO1 := Lib.hid ho1
  have HU1a : Hid (Upd [] w w1a) := Upd.seq (by repeat (first | exact HU0.out | apply Upd.alloc | apply Upd.drewN)) hu1
  clear ho1 hu1
  go_wp2_with fail
  refine (sameByte_ok _ _ [0] _ (HO1.out.rd.upd0 (by repeat (first | exact Upd.refl _ _ | apply Upd.alloc))) (Rd.lit _ (by simp) rfl rfl (by decide) (by decide))).mono ?_
  rintro e w1b ⟨rfl, n1, rfl⟩
  clear HO1
  go_wp2_with fail
  refine (fNum_any _ [7] 255 _ (Rd.lit _ (by simp) rfl rfl (by decide) (by decide)) (by decide) (i64_mk (by decide) (by decide))).mono ?_
  rintro e w2a ⟨v2, rfl, ho2, hu2⟩
  rw [wr2] at ho2
  have HO2 := Lib.hid ho2
  have HU2a : Hid (Upd [] w w2a) := Upd.seq (by repeat (first | exact HU1a.out | apply Upd.alloc | apply Upd.drewN)) hu2
  clear ho2 hu2
  go_wp2_with fail
  refine (sameByte_ok _ _ [7, 1, 255] _ (HO2.out.rd.upd0 (by repeat (first | exact Upd.refl _ _ | apply Upd.alloc))) (Rd.lit _ (by simp) rfl rfl (by decide) (by decide))).mono ?_
  rintro e w2b ⟨rfl, n2, rfl⟩
  clear HO2
  go_wp2_with fail
  refine (fNum_any _ [] 256 _ (Rd.nil _) (by decide) (i64_mk (by decide) (by decide))).mono ?_
  rintro e w3a ⟨v3, rfl, ho3, hu3⟩
  rw [wr3] at ho3
  have HO3 := Lib.hid ho3
  have HU3a : Hid (Upd [] w w3a) := Upd.seq (by repeat (first | exact HU2a.out | apply Upd.alloc | apply Upd.drewN)) hu3
  clear ho3 hu3
  go_wp2_with fail
  refine (sameByte_ok _ _ [2, 1, 0] _ (HO3.out.rd.upd0 (by repeat (first | exact Upd.refl _ _ | apply Upd.alloc))) (Rd.lit _ (by simp) rfl rfl (by decide) (by decide))).mono ?_
  rintro e w3b ⟨rfl, n3, rfl⟩
  clear HO3
  go_wp2_with fail
  refine (fNum_any _ [] (-5) _ (Rd.nil _) (by decide) (i64_mk (by decide) (by decide))).mono ?_
  rintro e w4a ⟨v4, rfl, ho4, hu4⟩
  rw [wr4] at ho4
  have HO4 := Lib.hid ho4
  have HU4a : Hid (Upd [] w w4a) := Upd.seq (by repeat (first | exact HU3a.out | apply Upd.alloc | apply Upd.drewN)) hu4
  clear ho4 hu4
  go_wp2_with fail
  refine (sameByte_ok _ _ [0] _ (HO4.out.rd.upd0 (by repeat (first | exact Upd.refl _ _ | apply Upd.alloc))) (Rd.lit _ (by simp) rfl rfl (by decide) (by decide))).mono ?_
  rintro e w4b ⟨rfl, n4, rfl⟩
  clear HO4
  go_wp2_with fail
  refine (fText_any _ [] ⟨#[97, 98]⟩ _ (Rd.nil _) (by decide) (by decide)).mono ?_
  rintro e w5a ⟨v5, rfl, ho5, hu5⟩
  rw [wr5] at ho5
  have HO5 := Lib.hid ho5
  have HU5a : Hid (Upd [] w w5a) := Upd.seq (by repeat (first | exact HU4a.out | apply Upd.alloc | apply Upd.drewN)) hu5
  clear ho5 hu5
  go_wp2_with fail
  refine (sameByte_ok _ _ [1, 2, 97, 98] _ (HO5.out.rd.upd0 (by repeat (first | exact Upd.refl _ _ | apply Upd.alloc))) (Rd.lit _ (by simp) rfl rfl (by decide) (by decide))).mono ?_
  rintro e w5b ⟨rfl, n5, rfl⟩
  clear HO5
  go_wp2_with fail
  refine (fFlag_any _ [] true _ (Rd.nil _) (by decide)).mono ?_
  rintro e w6a ⟨v6, rfl, ho6, hu6⟩
  rw [wr6] at ho6
  have HO6 := Lib.hid ho6
  have HU6a : Hid (Upd [] w w6a) := Upd.seq (by repeat (first | exact HU5a.out | apply Upd.alloc | apply Upd.drewN)) hu6
  clear ho6 hu6
  go_wp2_with fail
  refine (sameByte_ok _ _ [1, 1] _ (HO6.out.rd.upd0 (by repeat (first | exact Upd.refl _ _ | apply Upd.alloc))) (Rd.lit _ (by simp) rfl rfl (by decide) (by decide))).mono ?_
  rintro e w6b ⟨rfl, n6, rfl⟩
  clear HO6
  go_wp2_with fail
  refine (fList_any _ _ [] [1, 2] _ (Rd.nil _) (Rd.lit _ (by simp) rfl rfl (by decide) (by decide)) (by intro x hx; simp at hx; rcases hx with rfl | rfl; exact i64_mk (by decide) (by decide); exact i64_mk (by decide) (by decide)) (by decide) (by decide)).mono ?_
  rintro e w7a ⟨v7, rfl, ho7, hu7⟩
  rw [wr7] at ho7
  have HO7 := Lib.hid ho7
  have HU7a : Hid (Upd [] w w7a) := Upd.seq (by repeat (first | exact HU6a.out | apply Upd.alloc | apply Upd.drewN)) hu7
  clear ho7 hu7
  go_wp2_with fail
  refine (sameByte_ok _ _ [1, 2, 1, 1, 1, 2] _ (HO7.out.rd.upd0 (by repeat (first | exact Upd.refl _ _ | apply Upd.alloc))) (Rd.lit _ (by simp) rfl rfl (by decide) (by decide))).mono ?_
  rintro e w7b ⟨rfl, n7, rfl⟩
  clear HO7
  go_wp2_with fail
  refine (number_ok _ _ [1, 0] 4 4 rfl (Rd.lit _ (by simp) rfl rfl (by decide) (by decide)) (by decide) rd1).mono ?_
  rintro e w8 ⟨rfl, hu8⟩
  have HU8 : Hid (Upd [] w w8) := Upd.seq (by repeat (first | exact HU7a.out | apply Upd.alloc | apply Upd.drewN)) hu8
  clear hu8
  go_wp2_with fail
  refine (number_ok _ _ [9] 4 4 rfl (Rd.lit _ (by simp) rfl rfl (by decide) (by decide)) (by decide) rd2).mono ?_
  rintro e w9 ⟨rfl, hu9⟩
  have HU9 : Hid (Upd [] w w9) := Upd.seq (by repeat (first | exact HU8.out | apply Upd.alloc | apply Upd.drewN)) hu9
  clear hu9
  go_wp2_with fail
  refine (number_ok _ _ [2, 1] 3 3 rfl (Rd.lit _ (by simp) rfl rfl (by decide) (by decide)) (by decide) rd3).mono ?_
  rintro e w10 ⟨rfl, hu10⟩
  have HU10 : Hid (Upd [] w w10) := Upd.seq (by repeat (first | exact HU9.out | apply Upd.alloc | apply Upd.drewN)) hu10
  clear hu10
  go_wp2_with fail
  refine (number_ok _ _ [8, 128, 0, 0, 0, 0, 0, 0, 0] 4 4 rfl (Rd.lit _ (by simp) rfl rfl (by decide) (by decide)) (by decide) rd4).mono ?_
  rintro e w11 ⟨rfl, hu11⟩
  have HU11 : Hid (Upd [] w w11) := Upd.seq (by repeat (first | exact HU10.out | apply Upd.alloc | apply Upd.drewN)) hu11
  clear hu11
  go_wp2_with fail
  refine (rRead_any _ _ [1, 5] (Rd.lit _ (by simp) rfl rfl (by decide) (by decide)) (by decide)).mono ?_
  rintro e wa ⟨ga, va, rfl, ha, hua⟩
  have HUa : Hid (Upd [] w wa) := Upd.seq (by repeat (first | exact HU11.out | apply Upd.alloc | apply Upd.drewN)) hua
  have hga : w.heap.size ≤ ga := Nat.le_trans (Upd.size (S := []) (w := w) (by repeat (first | exact HU11.out | apply Upd.alloc | apply Upd.drewN))) ha.gb
  have HA := Lib.hid ha
  have hsa := ha.cells.lt
  clear ha hua
  go_wp2_with fail
  refine (rRead_any _ _ [1, 3, 97] (Rd.lit _ (by simp) rfl rfl (by decide) (by decide)) (by decide)).mono ?_
  rintro e wb ⟨gb, vb, rfl, hb, hub⟩
  have HUb : Hid (Upd [] w wb) := Upd.seq (by repeat (first | exact HUa.out | apply Upd.alloc | apply Upd.drewN)) hub
  have hab : Upd [] wa wb := Upd.seq (by repeat (first | exact Upd.refl _ _ | apply Upd.alloc)) hub
  replace hb := hb.base_le (base' := wa.heap.size) (by simp)
  have HA2 := Lib.hid (HA.out.upd hab)
  have HB := Lib.hid hb
  have hsb := hb.cells.lt
  have hgb := hb.gb
  clear hb hub hab HA
  go_wp2_with fail
  refine (rRead_any _ _ [0] (Rd.lit _ (by simp) rfl rfl (by decide) (by decide)) (by decide)).mono ?_
  rintro e wc ⟨gc, vc, rfl, hc, huc⟩
  have HUc : Hid (Upd [] w wc) := Upd.seq (by repeat (first | exact HUb.out | apply Upd.alloc)) huc
  have hbc : Upd [] wb wc := Upd.seq (by repeat (first | exact Upd.refl _ _ | apply Upd.alloc)) huc
  replace hc := hc.base_le (base' := wb.heap.size) (by simp)
  have HA3 := Lib.hid (HA2.out.upd hbc)
  have HB3 := Lib.hid (HB.out.upd hbc)
  have HC := Lib.hid hc
  have hgc := hc.gb
  clear hc huc hbc HA2 HB
  go_wp2_with fail
  with_reducible refine (rUpto_any _ 4 (i64_mk (by decide) (by decide)) HA3.out).mono ?_
  rw [rd5]
  rintro e w1 ⟨rfl, h1, hu1⟩
  have HB4 := Lib.hid (HB3.out.old hu1 hsa)
  have HC4 := Lib.hid (HC.out.old hu1 (Nat.lt_of_lt_of_le hsa (Nat.le_trans hgb (Nat.le_of_lt hsb))))
  have HU1 : Hid (Upd [] w w1) := HUc.out.trans hu1 (by simp) (fun x hx => by simp at hx; subst hx; exact .inr hga)
  clear hu1
  go_wp2_with fail
  with_reducible refine (rErr_any _ h1).mono ?_
  rintro e w2 ⟨rfl, rfl⟩
  go_wp2_with fail
  with_reducible refine (rAt_any _ h1).mono ?_
  rintro e w3 ⟨rfl, rfl⟩
  clear h1
  go_wp2_with fail
  with_reducible refine (rText_any _ 9 (i64_mk (by decide) (by decide)) HB4.out).mono ?_
  rw [rd6]
  rintro e w5 ⟨rfl, h5, hu5⟩
  rw [strOf_nil]
  have HC5 := Lib.hid (HC4.out.old hu5 hsb)
  have HU5 : Hid (Upd [] w w5) := HU1.out.trans hu5 (by simp) (fun x hx => by simp at hx; subst hx; exact .inr (Nat.le_trans hga (Nat.le_trans (Nat.le_of_lt hsa) hgb)))
  clear hu5
  go_wp2_with fail
  with_reducible refine (rErr_any _ h5).mono ?_
  rintro e w6 ⟨rfl, rfl⟩
  go_wp2_with fail
  with_reducible refine (rAt_any _ h5).mono ?_
  rintro e w7 ⟨rfl, rfl⟩
  clear h5
  go_wp2_with fail
  with_reducible refine (rEnd_any _ HC5.out).mono ?_
  rw [rd7]
  rintro e w8 ⟨rfl, h8, hu8⟩
  have HU8 : Hid (Upd [] w w8) := HU5.out.trans hu8 (by simp) (fun x hx => by simp at hx; subst hx; exact .inr (Nat.le_trans hga (Nat.le_trans (Nat.le_of_lt hsa) (Nat.le_trans hgb (Nat.le_trans (Nat.le_of_lt hsb) hgc)))))
  clear hu8
  go_wp2_with fail
  with_reducible refine (rErr_any _ h8).mono ?_
  rintro e w9 ⟨rfl, rfl⟩
  go_wp2_with fail
  with_reducible refine (rAt_any _ h8).mono ?_
  rintro e w10 ⟨rfl, rfl⟩
  clear h8
  go_wp2_with fail
  go_ret
  exact ⟨rfl, HU8.out⟩
end Go.Proofs.Ythnmlifnlmdelaa
