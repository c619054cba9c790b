/- The law's own step: the other calls. -/
import Derived.Test.YtfpibngdpooedaaSparseStep
import Derived.Test.YtfpibngdpooedaaQuiet
namespace Go.Proofs.Ytfpibngdpooedaa
open Go.RowKit
set_option linter.unusedSimpArgs false
set_option linter.unusedVariables false
set_option linter.unusedSectionVars false
section
variable (w : World) (base g n : Nat) (F : List Nat) (lv : Value) (it : List (Nat × Int)) (hs : RowsInt base w g F n it) (ho : OwnRows base w lv it) (hit : it.length ≤ 2000) (i x : Int) (hi : I64 i) (hx : I64 x)
include hs ho hit hi hx
set_option maxRecDepth 20000 in
set_option maxHeartbeats 4000000 in
theorem spStep_get :
    Calls Try.prog 21 #[.pointer (some ⟨g, 0, none⟩), lv, .int .i64 (n : Int), .agg #[.int .i64 2, .int .i64 i, .int .i64 x]] w (StepPost base g F n it w) := by
  have HR := Lib.hid (ho.rd (itC_len _))
  have HO := Lib.hid ho
  have HS := Lib.hid hs
  have HNE := Lib.hid (ownRows_ne ho hs)
  obtain ⟨ao, co, rfl, -⟩ := ho.rd (itC_len _)
  have HXI := Lib.hid hi
  obtain ⟨hi1, hi2⟩ := hi
  clear hs ho hx
  have hu0 := (Upd.refl [] w).alloc (Obj.cells #[.int .i64 2, .int .i64 i, .int .i64 x] 42)
  have HU0 := Lib.hid hu0
  go_enter Try.func21, Try.ntmps21
  go_wp2_with fail
  refine (spFind_any _ _ it i (HR.out.upd0 (itC_len _) hu0)).mono ?_
  rintro e w1 ⟨r, rfl, hf, rfl⟩
  rcases hf with ⟨h, rfl⟩ | ⟨k, rfl, hk, hki, h, hg⟩
  · have HG : Hid (rGet it 0 i = (0, false)) := rGet_no 0 h
    have HH := Lib.hid h
    clear h hu0
    go_wp2_with fail
    refine (rGetInt_eq _ i 0 false HXI.out (HS.out.upd0 HU0.out) (by omega) HG.out).mono ?_
    rintro e w2 ⟨rfl, hu2⟩
    have HU2 := Lib.hid (HU0.out.seq hu2)
    have c1 : ∀ y : Wx w2, y.val.cell? ⟨w.heap.size, 1, none⟩ = some (.int .i64 i) := Wx.cell (hu2.cell (by go_simp) (by simp))
    have HS2 := Lib.hid (HS.out.upd0 HU2.out)
    clear hu2
    go_wp2_with fail
    refine wp_region_wx (by kernel_rfl) (by kernel_rfl) ?_
    repeat (go_big_quiet_step (first | (go_at_call 27; exact Wx.same (rHasInt_eq _ i false HXI.out (HS2.out.upd0 (Wx.prop _)) (by omega) HH.out)) | fail))
    refine wpQuiet_nil ?_
    rintro _ ⟨y, rfl⟩
    go_wp2_with fail
    go_ret2
    exact ⟨_, _, F, rfl, HO.out.upd (HU2.out.seq y.prop) (by simp), HS2.out.upd0 y.prop, (HU2.out.seq y.prop).mono (by simp), by omega⟩
  · have HG := Lib.hid hg
    have HH := Lib.hid h
    obtain ⟨a', co', he, hlc, hcm, hcell⟩ := HR.out
    injection he with e1 e2 e3; subst e1; subst e3
    obtain ⟨b, off, rfl, hc⟩ := hcell (by intro h; simp [h] at hk)
    have d1 : w.cell? ⟨b, off + k * 2 + 1, none⟩ = some (iv (nth it k).2) := hc k hk 1 (by omega)
    have D1 := Lib.hid d1
    have hlen : it.length ≤ 9223372036854775807 := by omega
    generalize (nth it k).2 = z at *
    have q0 : (0 : Int) ≤ k := by omega
    have q1 : (k : Int) < it.length := by omega
    have t0 : decide ((k : Int) < 0) = false := decide_eq_false (by omega)
    clear h hg hu0 hc hcell hki e2 d1 hlc hcm
    go_wp2_with fail
    refine (rGetInt_eq _ i z true HXI.out (HS.out.upd0 HU0.out) (by omega) HG.out).mono ?_
    rintro e w2 ⟨rfl, hu2⟩
    have HU2 := Lib.hid (HU0.out.seq hu2)
    have c1 : ∀ y : Wx w2, y.val.cell? ⟨w.heap.size, 1, none⟩ = some (.int .i64 i) := Wx.cell (hu2.cell (by go_simp) (by simp))
    have c2 : ∀ y : Wx w2, y.val.cell? ⟨b, off + k * 2 + 1, none⟩ = some (.int .i64 z) := Wx.cell (HU2.out.cell D1.out (by simp))
    have HS2 := Lib.hid (HS.out.upd0 HU2.out)
    clear hu2
    go_wp2_with fail
    refine wp_region_wx (by kernel_rfl) (by kernel_rfl) ?_
    repeat (go_big_quiet_step (first | (go_at_call 27; exact Wx.same (rHasInt_eq _ i true HXI.out (HS2.out.upd0 (Wx.prop _)) (by omega) HH.out)) | fail))
    refine wpQuiet_nil ?_
    rintro _ ⟨y, rfl⟩
    go_wp2_with fail
    go_ret2
    exact ⟨_, _, F, rfl, HO.out.upd (HU2.out.seq y.prop) (by simp), HS2.out.upd0 y.prop, (HU2.out.seq y.prop).mono (by simp), by omega⟩
set_option maxRecDepth 20000 in
set_option maxHeartbeats 4000000 in
theorem spStep_at :
    Calls Try.prog 21 #[.pointer (some ⟨g, 0, none⟩), lv, .int .i64 (n : Int), .agg #[.int .i64 3, .int .i64 i, .int .i64 x]] w (StepPost base g F n it w) := by
  have HR := Lib.hid (ho.rd (itC_len _))
  have HO := Lib.hid ho
  have HS := Lib.hid hs
  have HNE := Lib.hid (ownRows_ne ho hs)
  obtain ⟨ao, co, rfl, -⟩ := ho.rd (itC_len _)
  have HXI := Lib.hid hi
  obtain ⟨hi1, hi2⟩ := hi
  clear hs ho hx
  have hu0 := (Upd.refl [] w).alloc (Obj.cells #[.int .i64 3, .int .i64 i, .int .i64 x] 42)
  have HU0 := Lib.hid hu0
  go_enter Try.func21, Try.ntmps21
  go_wp2_with fail
  refine (spFind_any _ _ it i (HR.out.upd0 (itC_len _) hu0)).mono ?_
  rintro e w1 ⟨r, rfl, hf, rfl⟩
  clear hf
  by_cases h : i < 0 ∨ (it.length : Int) ≤ i
  · have HG : Hid (rAt it 0 i = (0, 0, false)) := rAt_no _ _ _ h
    clear hu0
    go_wp2_with fail
    refine (rAtInt_eq _ i 0 0 false HXI.out (HS.out.upd0 HU0.out) (by omega) HG.out).mono ?_
    rintro e w2 ⟨rfl, hu2⟩
    have HU2 := Lib.hid (HU0.out.seq hu2)
    have c1 : w2.cell? ⟨w.heap.size, 1, none⟩ = some (.int .i64 i) := hu2.cell (by go_simp) (by simp)
    have HS2 := Lib.hid (HS.out.upd0 HU2.out)
    clear hu2
    by_cases h1 : i < 0
    · clear h
      go_wp2_with fail
      go_ret2
      exact ⟨_, _, F, rfl, HO.out.upd HU2.out (by simp), HS2.out, HU2.out.mono (by simp), by omega⟩
    · have h2 : (it.length : Int) ≤ i := by omega
      have h3 : 0 ≤ i := by omega
      clear h h1
      go_wp2_with fail
      go_ret2
      exact ⟨_, _, F, rfl, HO.out.upd HU2.out (by simp), HS2.out, HU2.out.mono (by simp), by omega⟩
  · obtain ⟨k, rfl⟩ := Int.eq_ofNat_of_zero_le (show 0 ≤ i by omega)
    have hk : k < it.length := by omega
    have HG : Hid (rAt it 0 (k : Int) = (((nth it k).1 : Int), (nth it k).2, true)) := rAt_ok _ _ _ hk
    obtain ⟨a', co', he, hlc, hcm, hcell⟩ := HR.out
    injection he with e1 e2 e3; subst e1; subst e3
    obtain ⟨b, off, rfl, hc⟩ := hcell (by intro h; simp [h] at hk)
    have d0 : w.cell? ⟨b, off + k * 2, none⟩ = some (nv (nth it k).1) := hc k hk 0 (by omega)
    have d1 : w.cell? ⟨b, off + k * 2 + 1, none⟩ = some (iv (nth it k).2) := hc k hk 1 (by omega)
    have D0 := Lib.hid d0
    have D1 := Lib.hid d1
    have hlen : it.length ≤ 9223372036854775807 := by omega
    generalize (nth it k).2 = z at *
    generalize (nth it k).1 = m at *
    have q0 : (0 : Int) ≤ k := by omega
    have q1 : (k : Int) < it.length := by omega
    clear h hu0 hc hcell e2 d1 d0 hlc hcm
    go_wp2_with fail
    refine (rAtInt_eq _ k m z true HXI.out (HS.out.upd0 HU0.out) (by omega) HG.out).mono ?_
    rintro e w2 ⟨rfl, hu2⟩
    have HU2 := Lib.hid (HU0.out.seq hu2)
    have c1 : w2.cell? ⟨w.heap.size, 1, none⟩ = some (.int .i64 (k : Int)) := hu2.cell (by go_simp) (by simp)
    have c2 : w2.cell? ⟨b, off + k * 2 + 1, none⟩ = some (.int .i64 z) := HU2.out.cell D1.out (by simp)
    have c3 : w2.cell? ⟨b, off + k * 2, none⟩ = some (.int .i64 (m : Int)) := HU2.out.cell D0.out (by simp)
    have HS2 := Lib.hid (HS.out.upd0 HU2.out)
    clear hu2
    go_wp2_with fail
    go_ret2
    exact ⟨_, _, F, rfl, HO.out.upd HU2.out (by simp), HS2.out, HU2.out.mono (by simp), by omega⟩
set_option maxRecDepth 20000 in
set_option maxHeartbeats 4000000 in
theorem spStep_clear :
    Calls Try.prog 21 #[.pointer (some ⟨g, 0, none⟩), lv, .int .i64 (n : Int), .agg #[.int .i64 4, .int .i64 i, .int .i64 x]] w (StepPost base g F n it w) := by
  have HR := Lib.hid (ho.rd (itC_len _))
  have HS := Lib.hid hs
  obtain ⟨ao, co, rfl, -⟩ := ho.rd (itC_len _)
  have HXI := Lib.hid hi
  clear hs ho hx hi
  have hu0 := (Upd.refl [] w).alloc (Obj.cells #[.int .i64 4, .int .i64 i, .int .i64 x] 42)
  have HU0 := Lib.hid hu0
  go_enter Try.func21, Try.ntmps21
  go_wp2_with fail
  refine (spFind_any _ _ it i (HR.out.upd0 (itC_len _) hu0)).mono ?_
  rintro e w1 ⟨r, rfl, hf, rfl⟩
  clear hf hu0
  go_wp2_with fail
  refine (rClearInt_any _ (HS.out.upd0 HU0.out) (by omega)).mono ?_
  rintro e w2 ⟨rfl, F2, hs2, hu2, -⟩
  have HS2 := Lib.hid hs2
  have HU2 := Lib.hid (HU0.out.trans (T := F) hu2 (by simp) (fun y hy => .inl hy))
  clear hs2 hu2
  go_wp2_with fail
  go_ret2
  exact ⟨_, [], F2, rfl, OwnN.nil _ _ _, HS2.out, HU2.out, by simp⟩
set_option maxRecDepth 20000 in
set_option maxHeartbeats 4000000 in
theorem spStep_other (kd : Int) (h1 : kd ≠ 1) (h2 : kd ≠ 2) (h3 : kd ≠ 3) (h4 : kd ≠ 4) :
    Calls Try.prog 21 #[.pointer (some ⟨g, 0, none⟩), lv, .int .i64 (n : Int), .agg #[.int .i64 kd, .int .i64 i, .int .i64 x]] w (StepPost base g F n it w) := by
  have HR := Lib.hid (ho.rd (itC_len _))
  have HO := Lib.hid ho
  have HS := Lib.hid hs
  obtain ⟨ao, co, rfl, -⟩ := ho.rd (itC_len _)
  have t1 : (kd == 1) = false := by simpa using h1
  have t2 : (kd == 2) = false := by simpa using h2
  have t3 : (kd == 3) = false := by simpa using h3
  have t4 : (kd == 4) = false := by simpa using h4
  clear hs ho hx hi h1 h2 h3 h4
  have hu0 := (Upd.refl [] w).alloc (Obj.cells #[.int .i64 kd, .int .i64 i, .int .i64 x] 42)
  have HU0 := Lib.hid hu0
  go_enter Try.func21, Try.ntmps21
  go_wp2_with fail
  refine (spFind_any _ _ it i (HR.out.upd0 (itC_len _) hu0)).mono ?_
  rintro e w1 ⟨r, rfl, hf, rfl⟩
  clear hf hu0
  go_wp2_with fail
  go_ret2
  exact ⟨_, _, F, rfl, HO.out.upd HU0.out (by simp), HS.out.upd0 HU0.out, HU0.out.mono (by simp), by omega⟩
theorem spStep_any (kd : Int) :
    Calls Try.prog 21 #[.pointer (some ⟨g, 0, none⟩), lv, .int .i64 (n : Int), .agg #[.int .i64 kd, .int .i64 i, .int .i64 x]] w (StepPost base g F n it w) := by
  by_cases h1 : kd = 1
  · subst h1; exact spStep_add w base g n F lv it hs ho hit i x hi hx
  by_cases h2 : kd = 2
  · subst h2; exact spStep_get w base g n F lv it hs ho hit i x hi hx
  by_cases h3 : kd = 3
  · subst h3; exact spStep_at w base g n F lv it hs ho hit i x hi hx
  by_cases h4 : kd = 4
  · subst h4; exact spStep_clear w base g n F lv it hs ho hit i x hi hx
  exact spStep_other w base g n F lv it hs ho hit i x hi hx kd h1 h2 h3 h4
end
end Go.Proofs.Ytfpibngdpooedaa
