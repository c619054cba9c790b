/- Chapter 2: an item asked of both readers; both stand alike. -/
import Derived.Test.YthnmlifnlmdelaaWireRefItems
import Derived.Test.YthnmlifnlmdelaaWireRuns
import Derived.Test.YthnmlifnlmdelaaBookInt
import Derived.Test.YthnmlifnlmdelaaSls
import Derived.Deep.RegionHeld3
namespace Go.Proofs.Ythnmlifnlmdelaa
open Go.RowKit
set_option linter.unusedSimpArgs false
set_option linter.unusedVariables false
theorem RdrAt.oth {T T' : TypeId} {base base' : Nat} {w w' : World} {g g' : Nat} {v v' : Value} {B B' : List UInt8} {s s' : RSt} (h : RdrAt T base w g v B s) (k : RdrAt T' base' w g' v' B' s') (hT : T ≠ T') (hT' : T' ≠ 5) (hu : Upd [g'] w w') : RdrAt T base w' g v B s := by
  have hg : g ≠ g' := fun e => by
    have h1 := h.cells
    have h2 := k.cells
    subst e
    unfold Blk at h1 h2
    rw [h1] at h2
    simp at h2
    exact hT h2.2
  refine ⟨h.cells.upd hu (by simpa using hg), h.own.upd hu (fun x hx hS => ?_), h.gb, h.at_, h.er, h.sz⟩
  simp at hS; subst hS
  rcases h.own.2 with ⟨rfl, _⟩ | ⟨gg, cap, cur, rfl, hb, hg', _⟩
  · simp [blk] at hx
  · simp [blk] at hx; subst hx
    exact k.cells.ne x hg' hT' rfl
theorem sameInt_ok (v u : Value) (l : List Int) (w : World) (h : Rd iv w v l) (h2 : Rd iv w u l) :
    Calls Try.prog 62 #[v, u] w fun e w' => e = .returned (.bool true) ∧ ∃ n, w' = w.drewN n := by
  have h := sameInt_any v u l l w h h2
  rw [decide_eq_true rfl] at h; exact h
/-- Both readers, alike. -/
structure Two (w : World) (g1 g2 : Nat) (v1 v2 : Value) (b1 b2 : Nat) (B : List UInt8) (s : RSt) : Prop where
  p : RdrAt 79 b1 w g1 v1 B s
  d : RdrAt 82 b2 w g2 v2 B s
theorem Two.upd {w w' : World} {g1 g2 : Nat} {v1 v2 : Value} {b1 b2 : Nat} {B : List UInt8} {s : RSt} (h : Two w g1 g2 v1 v2 b1 b2 B s) (hu : Upd [] w w') : Two w' g1 g2 v1 v2 b1 b2 B s := ⟨h.p.upd hu, h.d.upd hu⟩
def AskSaid (w : World) (g1 g2 : Nat) (v1 v2 : Value) (b1 b2 : Nat) (B : List UInt8) (z : RSt) (e : Ending) (w' : World) : Prop :=
  e = .returned (.bool true) ∧ Two w' g1 g2 v1 v2 b1 b2 B z ∧ Upd [g1, g2] w w'
theorem upd12 {g1 g2 : Nat} {a b c d : World} (h0 : Upd [] a b) (h1 : Upd [g1] b c) (h2 : Upd [g2] c d) : Upd [g1, g2] a d :=
  ((h0.mono (T := [g1, g2]) (by simp)).trans h1 (fun x hx => hx) (by simp)).trans h2 (fun x hx => hx) (by simp)
section
variable {g1 g2 : Nat} {v1 v2 : Value} {b1 b2 : Nat} {B : List UInt8} {s : RSt}
set_option maxHeartbeats 2000000 in
theorem same_any (w : World) (h : Two w g1 g2 v1 v2 b1 b2 B s) :
    Calls Try.prog 42 #[.pointer (some ⟨g1, 0, none⟩), .pointer (some ⟨g2, 0, none⟩)] w fun e w' => e = .returned (.bool true) ∧ Upd [] w w' := by
  have H := Lib.hid h
  have c1 : ∀ x : Wx w, x.val.cell? ⟨g2, 1, none⟩ = some (.int .i64 (s.1 : Int)) := Wx.cell (h.d.cells.cell 1)
  have c2 : ∀ x : Wx w, x.val.cell? ⟨g2, 2, none⟩ = some (.int .i64 (s.2 : Int)) := Wx.cell (h.d.cells.cell 2)
  clear h
  go_enter Try.func42, Try.ntmps42
  go_wp2_with fail
  refine wp_region_wx (by kernel_rfl) (by kernel_rfl) ?_
  repeat (go_big_quiet_step (first
    | (go_at_call 35; exact Wx.same ((rAt_any _ (H.out.p.upd (Wx.prop _))).mono fun _ _ ⟨x, y⟩ => ⟨x, y.symm⟩))
    | (go_at_call 34; exact Wx.same ((rErr_any _ (H.out.p.upd (Wx.prop _))).mono fun _ _ ⟨x, y⟩ => ⟨x, y.symm⟩))
    | fail))
  refine wpQuiet_nil ?_
  rintro _ ⟨x, rfl⟩
  have HX := Lib.hid x.prop
  generalize x.val = w2 at *
  go_wp2_with fail
  go_ret
  exact ⟨rfl, HX.out⟩
set_option maxHeartbeats 4000000 in
theorem ask1_any (w : World) (_kd n mo : Int) (s_ : ByteArray) (f : Bool) (lv : Sl) (hm : I64 mo)  (h : Two w g1 g2 v1 v2 b1 b2 B s) :
    Calls Try.prog 43 #[.pointer (some ⟨g1, 0, none⟩), .pointer (some ⟨g2, 0, none⟩), .agg #[.int .i64 1, .int .i64 n, .int .i64 mo, .string s_, .bool f, slv lv]] w fun e w' => AskSaid w g1 g2 v1 v2 b1 b2 B ((rdNum B s).2) e w' := by
  obtain ⟨la, ln, lk⟩ := lv
  dsimp only [slv]
  have HM := Lib.hid hm
  go_enter Try.func43, Try.ntmps43
  obtain ⟨w0, hw0⟩ : ∃ x, x = w.alloc (.cells #[.int .i64 1, .int .i64 n, .int .i64 mo, .string s_, .bool f, .slice la ln lk] 58) := ⟨_, rfl⟩
  have HU0 : Hid (Upd [] w w0) := by rw [hw0]; exact (Upd.refl [] w).alloc _
  have HB0 := Lib.hid (Blk.new w 58 [.int .i64 1, .int .i64 n, .int .i64 mo, .string s_, .bool f, .slice la ln lk])
  replace HB0 : Hid (Blk w0 w.heap.size 58 [.int .i64 1, .int .i64 n, .int .i64 mo, .string s_, .bool f, .slice la ln lk]) := by rw [hw0]; exact HB0.out
  have H0 := Lib.hid (h.upd HU0.out)
  have hg1 := h.p.cells.lt
  have hg2 := h.d.cells.lt
  clear h hm
  go_wp2_with fail
  rw [← hw0]
  clear hw0
  with_reducible refine (rNum_any _ H0.out.p).mono ?_
  rintro e w1 ⟨rfl, h1, hu1⟩
  have HD1 := Lib.hid (H0.out.d.oth H0.out.p (by decide) (by decide) hu1)
  have HP1 := Lib.hid h1
  have HU1 := Lib.hid hu1
  clear h1 hu1
  go_wp2_with fail
  with_reducible refine (dNum_any _ HD1.out).mono ?_
  rintro e w2 ⟨rfl, h2, hu2⟩
  have HP2 := Lib.hid (HP1.out.oth HD1.out (by decide) (by decide) hu2)
  have HD2 := Lib.hid h2
  have HU2 := Lib.hid hu2
  clear h2 hu2
  go_wp2_with fail
  go_ret
  exact ⟨by simp, ⟨HP2.out, HD2.out⟩, upd12 HU0.out HU1.out HU2.out⟩
set_option maxHeartbeats 4000000 in
theorem ask3_any (w : World) (_kd n mo : Int) (s_ : ByteArray) (f : Bool) (lv : Sl) (hm : I64 mo)  (h : Two w g1 g2 v1 v2 b1 b2 B s) :
    Calls Try.prog 43 #[.pointer (some ⟨g1, 0, none⟩), .pointer (some ⟨g2, 0, none⟩), .agg #[.int .i64 3, .int .i64 n, .int .i64 mo, .string s_, .bool f, slv lv]] w fun e w' => AskSaid w g1 g2 v1 v2 b1 b2 B ((rdFlag B s).2) e w' := by
  obtain ⟨la, ln, lk⟩ := lv
  dsimp only [slv]
  have HM := Lib.hid hm
  go_enter Try.func43, Try.ntmps43
  obtain ⟨w0, hw0⟩ : ∃ x, x = w.alloc (.cells #[.int .i64 3, .int .i64 n, .int .i64 mo, .string s_, .bool f, .slice la ln lk] 58) := ⟨_, rfl⟩
  have HU0 : Hid (Upd [] w w0) := by rw [hw0]; exact (Upd.refl [] w).alloc _
  have HB0 := Lib.hid (Blk.new w 58 [.int .i64 3, .int .i64 n, .int .i64 mo, .string s_, .bool f, .slice la ln lk])
  replace HB0 : Hid (Blk w0 w.heap.size 58 [.int .i64 3, .int .i64 n, .int .i64 mo, .string s_, .bool f, .slice la ln lk]) := by rw [hw0]; exact HB0.out
  have H0 := Lib.hid (h.upd HU0.out)
  have hg1 := h.p.cells.lt
  have hg2 := h.d.cells.lt
  clear h hm
  go_wp2_with fail
  rw [← hw0]
  clear hw0
  with_reducible refine (rFlag_any _ H0.out.p).mono ?_
  rintro e w1 ⟨rfl, h1, hu1⟩
  have HD1 := Lib.hid (H0.out.d.oth H0.out.p (by decide) (by decide) hu1)
  have HP1 := Lib.hid h1
  have HU1 := Lib.hid hu1
  clear h1 hu1
  go_wp2_with fail
  with_reducible refine (dFlag_any _ HD1.out).mono ?_
  rintro e w2 ⟨rfl, h2, hu2⟩
  have HP2 := Lib.hid (HP1.out.oth HD1.out (by decide) (by decide) hu2)
  have HD2 := Lib.hid h2
  have HU2 := Lib.hid hu2
  clear h2 hu2
  go_wp2_with fail
  go_ret
  exact ⟨by simp, ⟨HP2.out, HD2.out⟩, upd12 HU0.out HU1.out HU2.out⟩
set_option maxHeartbeats 4000000 in
theorem ask0_any (w : World) (kd n mo : Int) (s_ : ByteArray) (f : Bool) (lv : Sl) (hm : I64 mo) (k1 : kd ≠ 1) (k2 : kd ≠ 2) (k3 : kd ≠ 3) (k4 : kd ≠ 4) (k5 : kd ≠ 5) (h : Two w g1 g2 v1 v2 b1 b2 B s) :
    Calls Try.prog 43 #[.pointer (some ⟨g1, 0, none⟩), .pointer (some ⟨g2, 0, none⟩), .agg #[.int .i64 kd, .int .i64 n, .int .i64 mo, .string s_, .bool f, slv lv]] w fun e w' => AskSaid w g1 g2 v1 v2 b1 b2 B (rdEnd B s) e w' := by
  obtain ⟨la, ln, lk⟩ := lv
  dsimp only [slv]
  have HM := Lib.hid hm
  go_enter Try.func43, Try.ntmps43
  obtain ⟨w0, hw0⟩ : ∃ x, x = w.alloc (.cells #[.int .i64 kd, .int .i64 n, .int .i64 mo, .string s_, .bool f, .slice la ln lk] 58) := ⟨_, rfl⟩
  have HU0 : Hid (Upd [] w w0) := by rw [hw0]; exact (Upd.refl [] w).alloc _
  have HB0 := Lib.hid (Blk.new w 58 [.int .i64 kd, .int .i64 n, .int .i64 mo, .string s_, .bool f, .slice la ln lk])
  replace HB0 : Hid (Blk w0 w.heap.size 58 [.int .i64 kd, .int .i64 n, .int .i64 mo, .string s_, .bool f, .slice la ln lk]) := by rw [hw0]; exact HB0.out
  have H0 := Lib.hid (h.upd HU0.out)
  have hg1 := h.p.cells.lt
  have hg2 := h.d.cells.lt
  clear h hm
  have e1 : (kd == 1) = false := beq_eq_false_iff_ne.2 k1
  have e2 : (kd == 2) = false := beq_eq_false_iff_ne.2 k2
  have e3 : (kd == 3) = false := beq_eq_false_iff_ne.2 k3
  have e4 : (kd == 4) = false := beq_eq_false_iff_ne.2 k4
  have e5 : (kd == 5) = false := beq_eq_false_iff_ne.2 k5
  clear k1 k2 k3 k4 k5
  go_wp2_with fail
  rw [← hw0]
  clear hw0
  with_reducible refine (rEnd_any _ H0.out.p).mono ?_
  rintro e w1 ⟨rfl, h1, hu1⟩
  have HD1 := Lib.hid (H0.out.d.oth H0.out.p (by decide) (by decide) hu1)
  have HP1 := Lib.hid h1
  have HU1 := Lib.hid hu1
  clear h1 hu1
  go_wp2_with fail
  with_reducible refine (dEnd_any _ HD1.out).mono ?_
  rintro e w2 ⟨rfl, h2, hu2⟩
  have HP2 := Lib.hid (HP1.out.oth HD1.out (by decide) (by decide) hu2)
  have HD2 := Lib.hid h2
  have HU2 := Lib.hid hu2
  clear h2 hu2
  go_wp2_with fail
  go_ret
  exact ⟨by simp, ⟨HP2.out, HD2.out⟩, upd12 HU0.out HU1.out HU2.out⟩
set_option maxHeartbeats 4000000 in
theorem ask2_any (w : World) (_kd n mo : Int) (s_ : ByteArray) (f : Bool) (lv : Sl) (hm : I64 mo)  (h : Two w g1 g2 v1 v2 b1 b2 B s) :
    Calls Try.prog 43 #[.pointer (some ⟨g1, 0, none⟩), .pointer (some ⟨g2, 0, none⟩), .agg #[.int .i64 2, .int .i64 n, .int .i64 mo, .string s_, .bool f, slv lv]] w fun e w' => AskSaid w g1 g2 v1 v2 b1 b2 B ((rdText B mo s).2) e w' := by
  obtain ⟨la, ln, lk⟩ := lv
  dsimp only [slv]
  have HM := Lib.hid hm
  go_enter Try.func43, Try.ntmps43
  obtain ⟨w0, hw0⟩ : ∃ x, x = w.alloc (.cells #[.int .i64 2, .int .i64 n, .int .i64 mo, .string s_, .bool f, .slice la ln lk] 58) := ⟨_, rfl⟩
  have HU0 : Hid (Upd [] w w0) := by rw [hw0]; exact (Upd.refl [] w).alloc _
  have HB0 := Lib.hid (Blk.new w 58 [.int .i64 2, .int .i64 n, .int .i64 mo, .string s_, .bool f, .slice la ln lk])
  replace HB0 : Hid (Blk w0 w.heap.size 58 [.int .i64 2, .int .i64 n, .int .i64 mo, .string s_, .bool f, .slice la ln lk]) := by rw [hw0]; exact HB0.out
  have H0 := Lib.hid (h.upd HU0.out)
  have hg1 := h.p.cells.lt
  have hg2 := h.d.cells.lt
  clear h hm
  go_wp2_with fail
  rw [← hw0]
  clear hw0
  have c2 : w0.cell? ⟨w.heap.size, 2, none⟩ = some (.int .i64 mo) := HB0.out.cell 2
  have HC1 : Hid (∀ W, Upd [] w0 W → Calls Try.prog 36 #[.pointer (some ⟨g1, 0, none⟩), .int .i64 mo] W fun e w' => e = .returned (.string (strOf (rdText B mo s).1)) ∧ RdrAt 79 b1 w' g1 v1 B ((rdText B mo s).2) ∧ Upd [g1] W w') := fun W hu => rText_any W mo HM.out (H0.out.p.upd hu)
  have HC2 : Hid (∀ W, Upd [g1] w0 W → Calls Try.prog 58 #[.pointer (some ⟨g2, 0, none⟩), .int .i64 mo] W fun e w' => e = .returned (.string (strOf (rdText B mo s).1)) ∧ RdrAt 82 b2 w' g2 v2 B ((rdText B mo s).2) ∧ Upd [g2] W w') := fun W hu => dText_any W mo HM.out (H0.out.d.oth H0.out.p (by decide) (by decide) hu)
  go_region_held3 (fun w' => w'.cell? ⟨w.heap.size, 2, none⟩ = some (.int .i64 mo)) (first | go_keep | exact d2 | exact d1 | exact c2) (first
    | (go_at_call 36; (with_reducible refine (HC1.out _ (by repeat (first | with_reducible exact Upd.refl _ _ | with_reducible apply Upd.drew | with_reducible apply Upd.drewN | with_reducible apply Upd.alloc))).mono ?_); rintro e w1 ⟨rfl, h1, hu1⟩; have hk1 : Upd [g1] w0 w1 := Upd.trans (T := [g1]) (show Upd [] w0 _ from (by repeat (first | with_reducible exact Upd.refl _ _ | with_reducible apply Upd.drew | with_reducible apply Upd.drewN | with_reducible apply Upd.alloc))) hu1 (by simp) (fun x hx => .inl hx); have d1 := hk1.cell c2 (by simp; omega); dsimp only)
    | (go_at_call 58; (with_reducible refine (HC2.out _ (Upd.trans (T := [g1]) hk1 (show Upd [] w1 _ from (by repeat (first | with_reducible exact Upd.refl _ _ | with_reducible apply Upd.drew | with_reducible apply Upd.drewN | with_reducible apply Upd.alloc))) (fun x hx => hx) (by simp))).mono ?_); rintro e w2 ⟨rfl, h2, hu2⟩; have hk2 : Upd [g2] w1 w2 := Upd.trans (T := [g2]) (show Upd [] w1 _ from (by repeat (first | with_reducible exact Upd.refl _ _ | with_reducible apply Upd.drew | with_reducible apply Upd.drewN | with_reducible apply Upd.alloc))) hu2 (by simp) (fun x hx => .inl hx); have d2 := hk2.cell d1 (by simp; omega); dsimp only))
  have HD1 := Lib.hid (H0.out.d.oth H0.out.p (by decide) (by decide) hk1)
  have HP2 := Lib.hid (RdrAt.oth h1 HD1.out (by decide) (by decide) hk2)
  go_wp2_with fail
  go_ret
  exact ⟨by simp, ⟨HP2.out, h2⟩, upd12 HU0.out hk1 hk2⟩
set_option maxHeartbeats 4000000 in
theorem ask4_any (w : World) (_kd n mo : Int) (s_ : ByteArray) (f : Bool) (lv : Sl) (hm : I64 mo)  (h : Two w g1 g2 v1 v2 b1 b2 B s) :
    Calls Try.prog 43 #[.pointer (some ⟨g1, 0, none⟩), .pointer (some ⟨g2, 0, none⟩), .agg #[.int .i64 4, .int .i64 n, .int .i64 mo, .string s_, .bool f, slv lv]] w fun e w' => AskSaid w g1 g2 v1 v2 b1 b2 B ((rdUpto B mo s).2) e w' := by
  obtain ⟨la, ln, lk⟩ := lv
  dsimp only [slv]
  have HM := Lib.hid hm
  go_enter Try.func43, Try.ntmps43
  obtain ⟨w0, hw0⟩ : ∃ x, x = w.alloc (.cells #[.int .i64 4, .int .i64 n, .int .i64 mo, .string s_, .bool f, .slice la ln lk] 58) := ⟨_, rfl⟩
  have HU0 : Hid (Upd [] w w0) := by rw [hw0]; exact (Upd.refl [] w).alloc _
  have HB0 := Lib.hid (Blk.new w 58 [.int .i64 4, .int .i64 n, .int .i64 mo, .string s_, .bool f, .slice la ln lk])
  replace HB0 : Hid (Blk w0 w.heap.size 58 [.int .i64 4, .int .i64 n, .int .i64 mo, .string s_, .bool f, .slice la ln lk]) := by rw [hw0]; exact HB0.out
  have H0 := Lib.hid (h.upd HU0.out)
  have hg1 := h.p.cells.lt
  have hg2 := h.d.cells.lt
  clear h hm
  go_wp2_with fail
  rw [← hw0]
  clear hw0
  have c2 : w0.cell? ⟨w.heap.size, 2, none⟩ = some (.int .i64 mo) := HB0.out.cell 2
  have HC1 : Hid (∀ W, Upd [] w0 W → Calls Try.prog 33 #[.pointer (some ⟨g1, 0, none⟩), .int .i64 mo] W fun e w' => e = .returned (.int .i64 ((rdUpto B mo s).1 : Int)) ∧ RdrAt 79 b1 w' g1 v1 B ((rdUpto B mo s).2) ∧ Upd [g1] W w') := fun W hu => rUpto_any W mo HM.out (H0.out.p.upd hu)
  have HC2 : Hid (∀ W, Upd [g1] w0 W → Calls Try.prog 61 #[.pointer (some ⟨g2, 0, none⟩), .int .i64 mo] W fun e w' => e = .returned (.int .i64 ((rdUpto B mo s).1 : Int)) ∧ RdrAt 82 b2 w' g2 v2 B ((rdUpto B mo s).2) ∧ Upd [g2] W w') := fun W hu => dUpto_any W mo HM.out (H0.out.d.oth H0.out.p (by decide) (by decide) hu)
  go_region_held3 (fun w' => w'.cell? ⟨w.heap.size, 2, none⟩ = some (.int .i64 mo)) (first | go_keep | exact d2 | exact d1 | exact c2) (first
    | (go_at_call 33; (with_reducible refine (HC1.out _ (by repeat (first | with_reducible exact Upd.refl _ _ | with_reducible apply Upd.drew | with_reducible apply Upd.drewN | with_reducible apply Upd.alloc))).mono ?_); rintro e w1 ⟨rfl, h1, hu1⟩; have hk1 : Upd [g1] w0 w1 := Upd.trans (T := [g1]) (show Upd [] w0 _ from (by repeat (first | with_reducible exact Upd.refl _ _ | with_reducible apply Upd.drew | with_reducible apply Upd.drewN | with_reducible apply Upd.alloc))) hu1 (by simp) (fun x hx => .inl hx); have d1 := hk1.cell c2 (by simp; omega); dsimp only)
    | (go_at_call 61; (with_reducible refine (HC2.out _ (Upd.trans (T := [g1]) hk1 (show Upd [] w1 _ from (by repeat (first | with_reducible exact Upd.refl _ _ | with_reducible apply Upd.drew | with_reducible apply Upd.drewN | with_reducible apply Upd.alloc))) (fun x hx => hx) (by simp))).mono ?_); rintro e w2 ⟨rfl, h2, hu2⟩; have hk2 : Upd [g2] w1 w2 := Upd.trans (T := [g2]) (show Upd [] w1 _ from (by repeat (first | with_reducible exact Upd.refl _ _ | with_reducible apply Upd.drew | with_reducible apply Upd.drewN | with_reducible apply Upd.alloc))) hu2 (by simp) (fun x hx => .inl hx); have d2 := hk2.cell d1 (by simp; omega); dsimp only))
  have HD1 := Lib.hid (H0.out.d.oth H0.out.p (by decide) (by decide) hk1)
  have HP2 := Lib.hid (RdrAt.oth h1 HD1.out (by decide) (by decide) hk2)
  go_wp2_with fail
  go_ret
  exact ⟨by simp, ⟨HP2.out, h2⟩, upd12 HU0.out hk1 hk2⟩
set_option maxHeartbeats 4000000 in
theorem ask5_any (w : World) (_kd n mo : Int) (s_ : ByteArray) (f : Bool) (lv : Sl) (hm : I64 mo)  (h : Two w g1 g2 v1 v2 b1 b2 B s) :
    Calls Try.prog 43 #[.pointer (some ⟨g1, 0, none⟩), .pointer (some ⟨g2, 0, none⟩), .agg #[.int .i64 5, .int .i64 n, .int .i64 mo, .string s_, .bool f, slv lv]] w fun e w' => AskSaid w g1 g2 v1 v2 b1 b2 B ((rdItems B mo s).2) e w' := by
  obtain ⟨la, ln, lk⟩ := lv
  dsimp only [slv]
  have HM := Lib.hid hm
  go_enter Try.func43, Try.ntmps43
  obtain ⟨w0, hw0⟩ : ∃ x, x = w.alloc (.cells #[.int .i64 5, .int .i64 n, .int .i64 mo, .string s_, .bool f, .slice la ln lk] 58) := ⟨_, rfl⟩
  have HU0 : Hid (Upd [] w w0) := by rw [hw0]; exact (Upd.refl [] w).alloc _
  have HB0 := Lib.hid (Blk.new w 58 [.int .i64 5, .int .i64 n, .int .i64 mo, .string s_, .bool f, .slice la ln lk])
  replace HB0 : Hid (Blk w0 w.heap.size 58 [.int .i64 5, .int .i64 n, .int .i64 mo, .string s_, .bool f, .slice la ln lk]) := by rw [hw0]; exact HB0.out
  have H0 := Lib.hid (h.upd HU0.out)
  have hg1 := h.p.cells.lt
  have hg2 := h.d.cells.lt
  clear h hm
  go_wp2_with fail
  rw [← hw0]
  clear hw0
  have c2 : w0.cell? ⟨w.heap.size, 2, none⟩ = some (.int .i64 mo) := HB0.out.cell 2
  have HC1 : Hid (∀ W, Upd [] w0 W → Calls Try.prog 39 #[.pointer (some ⟨g1, 0, none⟩), .int .i64 mo, .func (.func 40) #[] #[]] W fun e w' => ∃ u, e = .returned u ∧ Own iv W.heap.size 3 w' u (rdItems B mo s).1 ∧ RdrAt 79 b1 w' g1 v1 B (rdItems B mo s).2 ∧ Upd [g1] W w') := fun W hu => rItems_any W mo HM.out (H0.out.p.upd hu)
  have HC2 : Hid (∀ W, Upd [g1] w0 W → Calls Try.prog 63 #[.pointer (some ⟨g2, 0, none⟩), .int .i64 mo] W fun e w' => ∃ u, e = .returned u ∧ Own iv W.heap.size 3 w' u (rdItems B mo s).1 ∧ RdrAt 82 b2 w' g2 v2 B (rdItems B mo s).2 ∧ Upd [g2] W w') := fun W hu => dItems_any W mo HM.out (H0.out.d.oth H0.out.p (by decide) (by decide) hu)
  go_region_held3 (fun w' => w'.cell? ⟨w.heap.size, 2, none⟩ = some (.int .i64 mo)) (first | go_keep | exact d2 | exact d1 | exact c2) (first
    | (go_at_call 39; (with_reducible refine (HC1.out _ (by repeat (first | with_reducible exact Upd.refl _ _ | with_reducible apply Upd.drew | with_reducible apply Upd.drewN | with_reducible apply Upd.alloc))).mono ?_); rintro e w1 ⟨u1, rfl, ho1, h1, hu1⟩; have hk1 : Upd [g1] w0 w1 := Upd.trans (T := [g1]) (show Upd [] w0 _ from (by repeat (first | with_reducible exact Upd.refl _ _ | with_reducible apply Upd.drew | with_reducible apply Upd.drewN | with_reducible apply Upd.alloc))) hu1 (by simp) (fun x hx => .inl hx); have d1 := hk1.cell c2 (by simp; omega); dsimp only)
    | (go_at_call 63; (with_reducible refine (HC2.out _ (Upd.trans (T := [g1]) hk1 (show Upd [] w1 _ from (by repeat (first | with_reducible exact Upd.refl _ _ | with_reducible apply Upd.drew | with_reducible apply Upd.drewN | with_reducible apply Upd.alloc))) (fun x hx => hx) (by simp))).mono ?_); rintro e w2 ⟨u2, rfl, ho2, h2, hu2⟩; have hk2 : Upd [g2] w1 w2 := Upd.trans (T := [g2]) (show Upd [] w1 _ from (by repeat (first | with_reducible exact Upd.refl _ _ | with_reducible apply Upd.drew | with_reducible apply Upd.drewN | with_reducible apply Upd.alloc))) hu2 (by simp) (fun x hx => .inl hx); have d2 := hk2.cell d1 (by simp; omega); have ho3 := ho1.upd hk2 (RdrAt.nO (H0.out.d.oth H0.out.p (by decide) (by decide) hk1) (by decide) ho1); dsimp only)
    | (go_at_call 62; (refine (sameInt_ok _ _ (rdItems B mo s).1 _ (ho3.rd.upd0 (by repeat (first | with_reducible exact Upd.refl _ _ | with_reducible apply Upd.drew | with_reducible apply Upd.drewN | with_reducible apply Upd.alloc))) (ho2.rd.upd0 (by repeat (first | with_reducible exact Upd.refl _ _ | with_reducible apply Upd.drew | with_reducible apply Upd.drewN | with_reducible apply Upd.alloc)))).mono ?_); rintro e w3 ⟨rfl, n3, rfl⟩; have hk3 := (show Upd [] w2 _ from (by repeat (first | with_reducible exact Upd.refl _ _ | with_reducible apply Upd.drew | with_reducible apply Upd.drewN | with_reducible apply Upd.alloc))).drewN n3; have d2 := hk3.cell d2 (by simp); dsimp only))
  have HD1 := Lib.hid (H0.out.d.oth H0.out.p (by decide) (by decide) hk1)
  have HP2 := Lib.hid (RdrAt.oth h1 HD1.out (by decide) (by decide) hk2)
  go_wp2_with fail
  go_ret
  exact ⟨by simp, Two.upd ⟨HP2.out, h2⟩ (by repeat (first | with_reducible exact Upd.refl _ _ | with_reducible apply Upd.drewN | with_reducible apply Upd.drew)), (upd12 HU0.out hk1 hk2).trans (S' := []) (by repeat (first | with_reducible exact Upd.refl _ _ | with_reducible apply Upd.drewN | with_reducible apply Upd.drew)) (fun x hx => hx) (by simp)⟩
def askSt (B : List UInt8) (kd mo : Int) (s : RSt) : RSt :=
  if kd = 1 then (rdNum B s).2 else if kd = 2 then (rdText B mo s).2 else if kd = 3 then (rdFlag B s).2 else if kd = 4 then (rdUpto B mo s).2 else if kd = 5 then (rdItems B mo s).2 else rdEnd B s
theorem ask_any (w : World) (kd n mo : Int) (s_ : ByteArray) (f : Bool) (lv : Sl) (hm : I64 mo) (h : Two w g1 g2 v1 v2 b1 b2 B s) :
    Calls Try.prog 43 #[.pointer (some ⟨g1, 0, none⟩), .pointer (some ⟨g2, 0, none⟩), .agg #[.int .i64 kd, .int .i64 n, .int .i64 mo, .string s_, .bool f, slv lv]] w fun e w' => AskSaid w g1 g2 v1 v2 b1 b2 B (askSt B kd mo s) e w' := by
  unfold askSt
  by_cases k1 : kd = 1
  · subst k1; rw [if_pos rfl]; exact ask1_any w 0 n mo s_ f lv hm h
  · rw [if_neg k1]
    by_cases k2 : kd = 2
    · subst k2; rw [if_pos rfl]; exact ask2_any w 0 n mo s_ f lv hm h
    · rw [if_neg k2]
      by_cases k3 : kd = 3
      · subst k3; rw [if_pos rfl]; exact ask3_any w 0 n mo s_ f lv hm h
      · rw [if_neg k3]
        by_cases k4 : kd = 4
        · subst k4; rw [if_pos rfl]; exact ask4_any w 0 n mo s_ f lv hm h
        · rw [if_neg k4]
          by_cases k5 : kd = 5
          · subst k5; rw [if_pos rfl]; exact ask5_any w 0 n mo s_ f lv hm h
          · rw [if_neg k5]; exact ask0_any w kd n mo s_ f lv hm k1 k2 k3 k4 k5 h
end
end Go.Proofs.Ythnmlifnlmdelaa
