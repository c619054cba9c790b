/- The walks of chapter 26's laws. -/
import Derived.Test.YtamoeipifpilgaaIdent
import Derived.Test.YtamoeipifpilgaaSumLaws
import Derived.Test.YtamoeipifpilgaaQuiet
namespace Go.Proofs.Ytamoeipifpilgaa
open Go.RowKit
set_option linter.unusedSimpArgs false
set_option linter.unusedVariables false

def abS : BitVec 32 := headSum [97, 98]
theorem ab1 : headV [97, 98] = .agg #[.int .i64 2, .int .u32 (abS.toNat : Int)] := rfl
theorem ab2 : headV [] = .agg #[.int .i64 0, .int .u32 0] := by unfold headV; rw [show headSum [] = 0 by decide +kernel]; rfl
theorem ab3 : headV (List.replicate 20 0) = .agg #[.int .i64 16, .int .u32 ((headSum (List.replicate 20 0)).toNat : Int)] := rfl
theorem ab4 : sameB 2 abS 2 3 [97, 98, 99] = true := by decide +kernel
theorem ab5 : sameB 2 abS 2 1 [97] = false := by decide +kernel
theorem ab6 : sameB 2 abS 1 2 [97, 120] = false := by decide +kernel
theorem ab7 : sameB 0 0 0 0 [] = true := by decide +kernel

set_option maxHeartbeats 1000000 in
theorem identRuns_any (w : World) : Calls Try.prog 3 #[] w fun e w' => e = .returned (.bool true) ∧ Upd [] w w' := by
  have kc := @conv_lit Try.prog _ _ Try.underlying26 Try.underlying5
  have hmk := fun u => run_mk (P := Try.prog) Try.underlying26 infoByte rfl u 20 20 20 20 (by omega) (by omega) (by omega) (by omega) (by omega)
  have fld : ∀ (u : World) (x y : Int), (Instr.field 24 (.agg #[.int .i64 x, .int .u32 y]) 0).run Try.prog u = .ok (.int .i64 x) u := fun _ _ _ => by kernel_rfl
  go_enter Try.func3, Try.ntmps3
  go_wp2_with fail
  refine (head_any _ _ [97, 98] (Rd.lit _ (by simp) rfl rfl (by decide) (by decide))).mono ?_
  rintro e w1 ⟨rfl, hu1⟩
  have HU1 := Lib.hid (((Upd.refl [] w).alloc _).seq hu1)
  rw [ab1]
  clear hu1
  go_wp2_with fail
  refine (head_any _ _ [] (Rd.nil _)).mono ?_
  rintro e w2 ⟨rfl, hu2⟩
  have c0 := hu2.cell (p := ⟨w1.heap.size, 0, none⟩) (v := .int .i64 2) (by go_simp) (by simp)
  have c1 := hu2.cell (p := ⟨w1.heap.size, 1, none⟩) (v := .int .u32 (abS.toNat : Int)) (by go_simp) (by simp)
  have HU2 := Lib.hid ((HU1.out.alloc _).seq hu2)
  rw [ab2]
  clear hu2 HU1
  go_wp2_with fail
  refine (head_any _ _ (List.replicate 20 0) (Rd.lit _ (by simp) rfl rfl (by decide) (by decide))).mono ?_
  rintro e w3 ⟨rfl, hu3⟩
  have hv3 := ((Upd.refl [] _).alloc _).seq hu3
  have d0 := hv3.cell c0 (by simp)
  have d1 := hv3.cell c1 (by simp)
  have HU3 := Lib.hid (HU2.out.seq hv3)
  rw [ab3]
  clear hu3 hv3 HU2 c0 c1
  have c0 := d0
  have c1 := d1
  clear d0 d1
  go_wp2_with fail
  refine (same_any _ 2 abS 2 3 _ [97, 98, 99] (Rd.lit _ (by simp) rfl rfl (by decide) (by decide))).mono ?_
  rintro e w4 ⟨rfl, hu4⟩
  have hv4 := ((Upd.refl [] _).alloc _).seq hu4
  have d0 := hv4.cell c0 (by simp)
  have d1 := hv4.cell c1 (by simp)
  have HU4 := Lib.hid (HU3.out.seq hv4)
  rw [ab4]
  clear hu4 hv4 HU3 c0 c1
  have c0 := d0
  have c1 := d1
  clear d0 d1
  go_wp2_with fail
  refine (same_any _ 2 abS 2 1 _ [97] (Rd.lit _ (by simp) rfl rfl (by decide) (by decide))).mono ?_
  rintro e w5 ⟨rfl, hu5⟩
  have hv5 := ((Upd.refl [] _).alloc _).seq hu5
  have d0 := hv5.cell c0 (by simp)
  have d1 := hv5.cell c1 (by simp)
  have HU5 := Lib.hid (HU4.out.seq hv5)
  rw [ab5]
  clear hu5 hv5 HU4 c0 c1
  have c0 := d0
  have c1 := d1
  clear d0 d1
  go_wp2_with fail
  refine (same_any _ 2 abS 1 2 _ [97, 120] (Rd.lit _ (by simp) rfl rfl (by decide) (by decide))).mono ?_
  rintro e w6 ⟨rfl, hu6⟩
  have hv6 := ((Upd.refl [] _).alloc _).seq hu6
  have d0 := hv6.cell c0 (by simp)
  have d1 := hv6.cell c1 (by simp)
  have HU6 := Lib.hid (HU5.out.seq hv6)
  rw [ab6]
  clear hu6 hv6 HU5 c0 c1
  have c0 := d0
  have c1 := d1
  clear d0 d1
  go_wp2_with fail
  refine (head_any _ _ [] (Rd.nil _)).mono ?_
  rintro e w7 ⟨rfl, hu7⟩
  have hv7 := hu7
  have d0 := hv7.cell c0 (by simp)
  have d1 := hv7.cell c1 (by simp)
  have HU7 := Lib.hid (HU6.out.seq hv7)
  rw [ab2]
  clear hu7 hv7 HU6 c0 c1
  have c0 := d0
  have c1 := d1
  clear d0 d1
  go_wp2_with fail
  refine (same_any _ 0 0 0 0 _ [] (Rd.nil _)).mono ?_
  rintro e w8 ⟨rfl, hu8⟩
  have hv8 := hu8
  have d0 := hv8.cell c0 (by simp)
  have d1 := hv8.cell c1 (by simp)
  have HU8 := Lib.hid (HU7.out.seq hv8)
  rw [ab7]
  clear hu8 hv8 HU7 c0 c1
  have c0 := d0
  have c1 := d1
  clear d0 d1
  go_wp2_with fail
  go_ret
  exact ⟨rfl, HU8.out⟩

set_option maxHeartbeats 2000000 in
theorem identTells_any (w : World) (hn : Int) (hs : BitVec 32) (at_ : Int) (_ : I64 at_) (size : Int) (_ : I64 size) (v : Value) (l : List UInt8) (h : Bytes w v l) (_ : l.length ≤ 140737488351232) (u : Value) (m : List UInt8) (h2 : Bytes w u m) (hz2 : m.length ≤ 140737488351232) :
    Calls Try.prog 4 #[.agg #[.int .i64 hn, .int .u32 (hs.toNat : Int)], iv at_, iv size, v, u] w fun e w' => e = .returned (.bool true) ∧ Upd [] w w' := by
  have hlen : ∃ a cap, v = .slice a l.length cap := by obtain ⟨a, cap, h, _⟩ := h; exact ⟨a, cap, h⟩
  obtain ⟨a, cap, rfl⟩ := hlen
  have hlen : ∃ a cap, u = .slice a m.length cap := by obtain ⟨a, cap, h, _⟩ := h2; exact ⟨a, cap, h⟩
  obtain ⟨a2, cap2, rfl⟩ := hlen
  have hmx : m.length + 80 ≤ maxLen := by unfold maxLen; omega
  have H := Lib.hid h
  have H2 := Lib.hid h2
  have HM := Lib.hid hmx
  clear h h2 hmx
  have hV : headV l = .agg #[.int .i64 ((min l.length 16 : Nat) : Int), .int .u32 ((headSum l).toNat : Int)] := rfl
  generalize hx : min l.length 16 = kn at hV
  generalize headSum l = ks at hV
  have HV := Lib.hid hV
  clear hV hx
  go_enter Try.func4, Try.ntmps4
  go_wp2_with fail
  refine (roomyByte_any _ m 21 _ (H2.out.alloc _) hz2).mono ?_
  rintro e w1 ⟨u1, rfl, hr⟩
  have R1 := Lib.hid (hr.rd HM.out)
  have R2 := Lib.hid (hr.pre HM.out)
  obtain ⟨rfl, hb, hu⟩ := hr
  have HU := Lib.hid (((Upd.refl [] w).alloc _).seq hu)
  have HL := Lib.hid (H.out.upd0 HU.out)
  have HL2 := Lib.hid (H2.out.upd0 HU.out)
  have c0 := hu.cell (p := ⟨w.heap.size, 0, none⟩) (v := .int .i64 hn) (by go_simp) (by simp)
  have c1 := hu.cell (p := ⟨w.heap.size, 1, none⟩) (v := .int .u32 (hs.toNat : Int)) (by go_simp) (by simp)
  clear hb hu H H2
  go_wp2_with fail
  refine (refHead_any _ _ l HL.out).mono ?_
  rintro e w2 ⟨rfl, hu⟩
  rw [HV.out]
  have HU2 := Lib.hid (HU.out.seq hu)
  have HL3 := Lib.hid (HL.out.upd0 hu)
  have HL4 := Lib.hid (HL2.out.upd0 hu)
  have R3 := Lib.hid (R1.out.upd0 hu)
  have R4 := Lib.hid (R2.out.upd0 hu)
  have d0 := hu.cell c0 (by simp)
  have d1 := hu.cell c1 (by simp)
  clear hu HL HL2 R1 R2 c0 c1 HU
  go_wp2_with fail
  have HU3 := Lib.hid (HU2.out.alloc (.cells #[.int .i64 (kn : Int), .int .u32 (ks.toNat : Int)] 24))
  have HL5 := Lib.hid (HL3.out.alloc (.cells #[.int .i64 (kn : Int), .int .u32 (ks.toNat : Int)] 24))
  have HL6 := Lib.hid (HL4.out.alloc (.cells #[.int .i64 (kn : Int), .int .u32 (ks.toNat : Int)] 24))
  have R5 := Lib.hid (R3.out.alloc (.cells #[.int .i64 (kn : Int), .int .u32 (ks.toNat : Int)] 24))
  have R6 := Lib.hid (R4.out.alloc (.cells #[.int .i64 (kn : Int), .int .u32 (ks.toNat : Int)] 24))
  have g0 := id (((Upd.refl [] _).alloc (.cells #[.int .i64 (kn : Int), .int .u32 (ks.toNat : Int)] 24)).cell d0 (by simp))
  have g1 := id (((Upd.refl [] _).alloc (.cells #[.int .i64 (kn : Int), .int .u32 (ks.toNat : Int)] 24)).cell d1 (by simp))
  have g2 := id (show (w2.alloc (.cells #[.int .i64 (kn : Int), .int .u32 (ks.toNat : Int)] 24)).cell? ⟨w2.heap.size, 0, none⟩ = some (.int .i64 (kn : Int)) by go_simp)
  have g3 := id (show (w2.alloc (.cells #[.int .i64 (kn : Int), .int .u32 (ks.toNat : Int)] 24)).cell? ⟨w2.heap.size, 1, none⟩ = some (.int .u32 (ks.toNat : Int)) by go_simp)
  simp only [World.size_alloc] at R5 R6
  clear HU2 HL3 HL4 R3 R4 d0 d1
  generalize w2.alloc (.cells #[.int .i64 (kn : Int), .int .u32 (ks.toNat : Int)] 24) = W at *
  have e0 : ∀ x : Wx W, x.val.cell? ⟨w.heap.size, 0, none⟩ = some (.int .i64 hn) := Wx.cell g0
  have e1 : ∀ x : Wx W, x.val.cell? ⟨w.heap.size, 1, none⟩ = some (.int .u32 (hs.toNat : Int)) := Wx.cell g1
  have e2 : ∀ x : Wx W, x.val.cell? ⟨w2.heap.size, 0, none⟩ = some (.int .i64 (kn : Int)) := Wx.cell g2
  have e3 : ∀ x : Wx W, x.val.cell? ⟨w2.heap.size, 1, none⟩ = some (.int .u32 (ks.toNat : Int)) := Wx.cell g3
  clear g0 g1 g2 g3
  refine wp_region_wx (by kernel_rfl) (by kernel_rfl) ?_
  repeat (go_big_quiet_step (first
    | (go_at_call 12; exact Wx.upd ((head_any _ _ l (HL5.out.upd0 (Wx.prop _))).mono fun _ _ ⟨x, y⟩ => ⟨x.trans (by rw [HV.out]), y⟩))
    | (go_at_call 13; exact Wx.upd (same_any _ _ _ at_ size _ m (R6.out.upd0 (Wx.prop _))))
    | (go_at_call 16; exact Wx.upd (refSame_any _ _ _ at_ size _ m (HL6.out.upd0 (Wx.prop _))))
    | (go_at_call 17; exact Wx.draws (intactByte_ok _ _ m 21 _ (R5.out.upd0 (Wx.prop _)) (HL6.out.upd0 (Wx.prop _)) hz2))
    | (go_at_call 3; exact Wx.upd (identRuns_any _))))
  refine wpQuiet_nil ?_
  rintro _ ⟨x, rfl⟩
  have HX := Lib.hid (HU3.out.seq x.prop)
  go_wp2_with fail
  go_ret
  exact ⟨rfl, HX.out⟩
end Go.Proofs.Ytamoeipifpilgaa
