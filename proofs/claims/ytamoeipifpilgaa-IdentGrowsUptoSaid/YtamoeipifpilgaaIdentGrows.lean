/- The walk of IdentGrows. -/
import Derived.Test.YtamoeipifpilgaaIdentTurned
namespace Go.Proofs.Ytamoeipifpilgaa
open Go.RowKit
set_option linter.unusedSimpArgs false
set_option linter.unusedVariables false

theorem take_pre (l m : List UInt8) (i : Nat) (hi : i ≤ l.length) : (l ++ m).take (min i 16) = (l.take i).take 16 := by
  rw [List.take_take, List.take_append_of_le_length (by omega), Nat.min_comm]
theorem grows_yes (l m : List UInt8) (i j k : Nat) (hi : i ≤ l.length) (hj : j ≤ k) (hk : k ≤ (l ++ m).length) (hn : min i 16 ≤ k) : sameB ((min i 16 : Nat) : Int) (headSum (l.take i)) j k ((l ++ m).take k) = true := by
  rw [sameB_yes _ _ _ _ _ (by omega) (by omega) (by rw [List.length_take]; omega)]
  refine decide_eq_true ?_
  unfold headSum
  rw [List.take_take, Nat.min_eq_left hn, take_pre _ _ _ hi]
theorem head_take (l : List UInt8) (i : Nat) (hi : i ≤ l.length) : headV (l.take i) = .agg #[.int .i64 ((min i 16 : Nat) : Int), .int .u32 ((headSum (l.take i)).toNat : Int)] := by
  unfold headV; rw [List.length_take, Nat.min_eq_left hi]

set_option maxHeartbeats 2000000 in
theorem identGrows_any (w : World) (v : Value) (l : List UInt8) (h : Bytes w v l) (hz : l.length ≤ 1048576) (u : Value) (m : List UInt8) (h2 : Bytes w u m) (hz2 : m.length ≤ 1048576) (seen : Int) (hseen : I64 seen) (read : Int) (hread : I64 read) (cut : Int) (hcut : I64 cut) :
    Calls Try.prog 5 #[v, u, iv seen, iv read, iv cut] w fun e w' => e = .returned (.bool true) ∧ Upd [] w w' := by
  have hlen : ∃ a cap, v = .slice a l.length cap ∧ l.length ≤ cap := by obtain ⟨a, cap, h, q, _⟩ := h; exact ⟨a, cap, h, q⟩
  obtain ⟨a, cap, rfl, hcap⟩ := hlen
  have hlen : ∃ a cap, u = .slice a m.length cap := by obtain ⟨a, cap, h, _⟩ := h2; exact ⟨a, cap, h⟩
  obtain ⟨a2, cap2, rfl⟩ := hlen
  have H := Lib.hid h
  have H2 := Lib.hid h2
  clear h h2
  obtain ⟨hi1, hi2⟩ := within_in seen 0 (l.length : Int) (by omega)
  have HI := Lib.hid (Int.toNat_of_nonneg hi1)
  have hi3 : (within seen 0 (l.length : Int)).toNat ≤ l.length := by omega
  generalize (within seen 0 (l.length : Int)).toNat = i at HI hi3
  obtain ⟨hj1, hj2⟩ := within_in read 0 (l.length : Int) (by omega)
  have HJ := Lib.hid (Int.toNat_of_nonneg hj1)
  have hj3 : (within read 0 (l.length : Int)).toNat ≤ l.length := by omega
  generalize (within read 0 (l.length : Int)).toNat = j at HJ hj3
  obtain ⟨hk1, hk2⟩ := within_in cut 0 ((l ++ m).length : Int) (by omega)
  have HK := Lib.hid (Int.toNat_of_nonneg hk1)
  have hk3 : (within cut 0 ((l ++ m).length : Int)).toNat ≤ (l ++ m).length := by omega
  generalize (within cut 0 ((l ++ m).length : Int)).toNat = k at HK hk3
  have hlm : (l ++ m).length = l.length + m.length := List.length_append
  have HV := Lib.hid (head_take l i hi3)
  have HS1 := Lib.hid (grows_yes l m i j (l ++ m).length hi3 (by omega) (Nat.le_refl _) (by omega))
  have HS2 : Hid (sameB ((min (l ++ m).length 16 : Nat) : Int) (headSum (l ++ m)) ((l ++ m).length : Int) ((l ++ m).length : Int) (l ++ m) = true) := by
    have := grows_yes (l ++ m) [] (l ++ m).length (l ++ m).length (l ++ m).length (Nat.le_refl _) (Nat.le_refl _) (by simp) (by omega)
    rw [List.append_nil, List.take_length] at this; exact this
  have HS3 := fun (q1 : j ≤ k) (q2 : min i 16 ≤ k) => Lib.hid (grows_yes l m i j k hi3 q1 hk3 q2)
  have HV2 : Hid (headV (l ++ m) = .agg #[.int .i64 ((min (l ++ m).length 16 : Nat) : Int), .int .u32 ((headSum (l ++ m)).toNat : Int)]) := rfl
  have HS4 := fun (q1 : k < j) => Lib.hid (sameB_no ((min i 16 : Nat) : Int) (headSum (l.take i)) j k ((l ++ m).take k) (by omega))
  have HH := Lib.hid (H.out.take i hi3)
  rw [List.take_length] at HS1
  generalize headSum (l.take i) = ks at *
  generalize headSum (l ++ m) = ks2 at *
  generalize hkn : min i 16 = kn at *
  generalize min (l ++ m).length 16 = kn2 at *
  have hlm2 := Lib.hid (show l.length ≤ (l ++ m).length by omega)
  have hlm3 := Lib.hid (show (l ++ m).length ≤ 2097152 by omega)
  clear hi1 hi2 hj1 hj2 hk1 hk2 hkn hlm
  have q5 : (i : Int) ≤ cap := by omega
  go_enter Try.func5, Try.ntmps5
  go_wp2_with (first
    | (at_builtin; refine wpList_app bv_one rfl (.tmp 15) (.tmp 16) rfl Try.underlying26 infoByte rfl (.slice (some ⟨w.heap.size, 0, none⟩) 0 0) (.slice a l.length cap) [] l rfl rfl (World.ownsRow_made _ #[] 0 (Nat.le_refl _) (Nat.zero_le _) rfl) (H.out.alloc _) (by simp; omega) (by unfold maxLen; simp; omega) (by simp) ?_; intro v1 w1 ho hu hbk; rw [List.nil_append] at ho; have HU : Hid (Upd [] w w1) := ((Upd.refl [] w).alloc _).trans hu (by simp) (by simp [blk]); have HO := Lib.hid ho; have HL := Lib.hid (H.out.upd0 HU.out); have HM := Lib.hid (H2.out.upd0 HU.out); have hsz := HU.out.size; clear ho hu hbk)
    | (at_builtin; refine wpList_app bv_one rfl (.tmp 17) (.tmp 18) rfl Try.underlying26 infoByte rfl v1 (.slice a2 m.length cap2) l m rfl rfl HO.out HM.out (by simp; omega) (by unfold maxLen; simp; omega) hsz ?_; intro v2 w2 ho hu hbk; have HU2 : Hid (Upd [] w w2) := HU.out.trans hu (by simp) (fun x hx => .inr (HO.out.ge x hx).1); have HR := Lib.hid ho.rd; obtain ⟨ao, co, rfl, hco1, hco2, _⟩ := ho.rd; clear ho hu hbk; generalize l ++ m = lm at *; have hlm2 := hlm2.out; have hlm3 := hlm3.out))
  refine (within_any _ _ _ _ hseen (by omega) (by omega) (by omega)).mono ?_
  rintro e w' ⟨rfl, rfl⟩
  rw [← HI.out]
  go_wp2_with fail
  refine (head_any _ _ (l.take i) (HH.out.upd0 HU2.out)).mono ?_
  rintro e w3 ⟨rfl, hu3⟩
  rw [HV.out]
  have HU3 := Lib.hid ((HU2.out.seq hu3).alloc (.cells #[.int .i64 (kn : Int), .int .u32 (ks.toNat : Int)] 24))
  have HR3 := Lib.hid ((HR.out.upd0 hu3).alloc (.cells #[.int .i64 (kn : Int), .int .u32 (ks.toNat : Int)] 24))
  have HB3 := Lib.hid (Blk.new w3 24 [.int .i64 (kn : Int), .int .u32 (ks.toNat : Int)])
  clear hu3 HU HO HL HM hsz HR
  go_wp2_with fail
  refine (within_any _ _ _ _ hread (by omega) (by omega) (by omega)).mono ?_
  rintro e w' ⟨rfl, rfl⟩
  rw [← HJ.out]
  go_wp2_with fail
  refine (same_any _ (kn : Int) ks (j : Int) (lm.length : Int) _ lm HR3.out).mono ?_
  rintro e w4 ⟨rfl, hu4⟩
  rw [HS1.out]
  have HU4 := Lib.hid (HU3.out.seq hu4)
  have HR4 := Lib.hid (HR3.out.upd0 hu4)
  have HB4 := Lib.hid (HB3.out.upd hu4 (by simp))
  clear hu4 HU3 HR3 HB3
  go_wp2_with fail
  refine (head_any _ _ lm HR4.out).mono ?_
  rintro e w5 ⟨rfl, hu5⟩
  rw [HV2.out]
  have HU5 := Lib.hid (HU4.out.seq hu5)
  have HR5 := Lib.hid (HR4.out.upd0 hu5)
  have HB5 := Lib.hid (HB4.out.upd hu5 (by simp))
  clear hu5 HU4 HR4 HB4
  go_wp2_with fail
  refine (same_any _ (kn2 : Int) ks2 (lm.length : Int) (lm.length : Int) _ lm HR5.out).mono ?_
  rintro e w6 ⟨rfl, hu6⟩
  rw [HS2.out]
  have HU6 := Lib.hid (HU5.out.seq hu6)
  have HR6 := Lib.hid (HR5.out.upd0 hu6)
  have HB6 := Lib.hid (HB5.out.upd hu6 (by simp))
  clear hu6 HU5 HR5 HB5
  go_wp2_with fail
  refine (within_any _ _ _ _ hcut (by omega) (by omega) (by omega)).mono ?_
  rintro e w' ⟨rfl, rfl⟩
  rw [← HK.out]
  have HT := Lib.hid (HR6.out.take k hk3)
  have e0 : ∀ x : Wx w6, x.val.cell? ⟨w3.heap.size, 0, none⟩ = some (.int .i64 (kn : Int)) := Wx.cell (HB6.out.cell 0)
  have e1 : ∀ x : Wx w6, x.val.cell? ⟨w3.heap.size, 1, none⟩ = some (.int .u32 (ks.toNat : Int)) := Wx.cell (HB6.out.cell 1)
  have q6 : (0 : Int) ≤ k := by omega
  have q7 : (k : Int) ≤ co := by omega
  have q8 : (k : Int) ≤ lm.length := by omega
  by_cases hkj : k < j
  · have g1 : (k : Int) < j := by omega
    have g2 : decide (j ≤ k) = false := by simp; omega
    have HS := Lib.hid (HS4 hkj)
    clear HS3 HS4 hkj
    go_wp2_with fail
    refine wp_region_wx (by kernel_rfl) (by kernel_rfl) ?_
    repeat (go_big_quiet_step (first
      | (go_at_call 13; exact Wx.upd ((same_any _ _ _ (j : Int) (k : Int) _ (lm.take k) (HT.out.upd0 (Wx.prop _))).mono fun _ _ ⟨x, y⟩ => ⟨x.trans (by rw [HS.out.out]), y⟩))
      | fail))
    refine wpQuiet_nil ?_
    rintro _ ⟨x, rfl⟩
    have e2 : ∀ y : Wx x.val, y.val.cell? ⟨w3.heap.size, 0, none⟩ = some (.int .i64 (kn : Int)) := Wx.cell (e0 x)
    have e3 : ∀ y : Wx x.val, y.val.cell? ⟨w3.heap.size, 1, none⟩ = some (.int .u32 (ks.toNat : Int)) := Wx.cell (e1 x)
    go_wp2_with fail
    refine wp_region_wx (by kernel_rfl) (by kernel_rfl) ?_
    repeat (go_big_quiet_step (fail))
    refine wpQuiet_nil ?_
    rintro _ ⟨y, rfl⟩
    go_wp2_with fail
    refine (identRuns_any _).mono ?_
    rintro e w9 ⟨rfl, hu9⟩
    have HU9 := Lib.hid (((HU6.out.seq x.prop).seq y.prop).seq hu9)
    clear hu9
    go_wp2_with fail
    go_ret
    exact ⟨rfl, HU9.out⟩
  · have g1 : decide (k < j) = false := by simp; omega
    have g2 : (j : Int) ≤ k := by omega
    by_cases hkn : kn ≤ k
    · have g3 : (kn : Int) ≤ k := by omega
      have HS := Lib.hid (HS3 (by omega) hkn)
      clear HS3 HS4 hkj hkn
      go_wp2_with fail
      refine wp_region_wx (by kernel_rfl) (by kernel_rfl) ?_
      repeat (go_big_quiet_step (fail))
      refine wpQuiet_nil ?_
      rintro _ ⟨x, rfl⟩
      have e2 : ∀ y : Wx x.val, y.val.cell? ⟨w3.heap.size, 0, none⟩ = some (.int .i64 (kn : Int)) := Wx.cell (e0 x)
      have e3 : ∀ y : Wx x.val, y.val.cell? ⟨w3.heap.size, 1, none⟩ = some (.int .u32 (ks.toNat : Int)) := Wx.cell (e1 x)
      go_wp2_with fail
      refine wp_region_wx (by kernel_rfl) (by kernel_rfl) ?_
      repeat (go_big_quiet_step (first
        | (go_at_call 13; exact Wx.upd ((same_any _ _ _ (j : Int) (k : Int) _ (lm.take k) (HT.out.upd0 (x.prop.seq (Wx.prop _)))).mono fun _ _ ⟨x, y⟩ => ⟨x.trans (by rw [HS.out]), y⟩))
        | fail))
      refine wpQuiet_nil ?_
      rintro _ ⟨y, rfl⟩
      go_wp2_with fail
      refine (identRuns_any _).mono ?_
      rintro e w9 ⟨rfl, hu9⟩
      have HU9 := Lib.hid (((HU6.out.seq x.prop).seq y.prop).seq hu9)
      clear hu9
      go_wp2_with fail
      go_ret
      exact ⟨rfl, HU9.out⟩
    · have g3 : decide (kn ≤ k) = false := by simp; omega
      clear HS3 HS4 hkj hkn
      go_wp2_with fail
      refine wp_region_wx (by kernel_rfl) (by kernel_rfl) ?_
      repeat (go_big_quiet_step (fail))
      refine wpQuiet_nil ?_
      rintro _ ⟨x, rfl⟩
      have e2 : ∀ y : Wx x.val, y.val.cell? ⟨w3.heap.size, 0, none⟩ = some (.int .i64 (kn : Int)) := Wx.cell (e0 x)
      have e3 : ∀ y : Wx x.val, y.val.cell? ⟨w3.heap.size, 1, none⟩ = some (.int .u32 (ks.toNat : Int)) := Wx.cell (e1 x)
      go_wp2_with fail
      refine wp_region_wx (by kernel_rfl) (by kernel_rfl) ?_
      repeat (go_big_quiet_step (fail))
      refine wpQuiet_nil ?_
      rintro _ ⟨y, rfl⟩
      go_wp2_with fail
      refine (identRuns_any _).mono ?_
      rintro e w9 ⟨rfl, hu9⟩
      have HU9 := Lib.hid (((HU6.out.seq x.prop).seq y.prop).seq hu9)
      clear hu9
      go_wp2_with fail
      go_ret
      exact ⟨rfl, HU9.out⟩
end Go.Proofs.Ytamoeipifpilgaa
