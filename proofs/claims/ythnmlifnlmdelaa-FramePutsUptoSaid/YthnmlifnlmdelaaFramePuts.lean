/- The walk of FramePuts. -/
import Derived.Test.YthnmlifnlmdelaaFrameRuns
import Derived.Test.YthnmlifnlmdelaaRoomed
namespace Go.Proofs.Ythnmlifnlmdelaa
open Go.RowKit
set_option linter.unusedSimpArgs false
set_option linter.unusedVariables false
set_option maxHeartbeats 8000000 in
theorem framePuts_any (w : World) (v : Value) (l : List UInt8) (h : Bytes w v l) (hz : l.length ≤ 1048576) (u : Value) (p : List UInt8) (h2 : Bytes w u p) (hz2 : p.length ≤ 1048576) :
    Calls Try.prog 4 #[v, u] w fun e w' => e = .returned (.bool true) ∧ Upd [] w w' := by
  have H := Lib.hid h
  have H2 := Lib.hid h2
  obtain ⟨a, cap, rfl, -, -, -⟩ := h
  obtain ⟨a2, cap2, rfl, -, -, -⟩ := h2
  go_enter Try.func4, Try.ntmps4
  go_wp2_with fail
  refine (roomyByte_any _ l 5 _ H.out (by omega)).mono ?_
  rintro e w1 ⟨v1, rfl, hr1⟩
  have HF1 := Lib.hid (hr1.rd (by unfold maxLen; omega))
  have HP1 := Lib.hid (hr1.pre (by unfold maxLen; omega))
  obtain ⟨rfl, -, hu1⟩ := hr1
  have HU1 := Lib.hid hu1
  clear hu1
  go_wp2_with fail
  refine (roomyByte_any _ p 6 _ (H2.out.upd0 HU1.out) (by omega)).mono ?_
  rintro e w2 ⟨v2, rfl, hr2⟩
  have HF2 := Lib.hid (hr2.rd (by unfold maxLen; omega))
  have HP2 := Lib.hid (hr2.pre (by unfold maxLen; omega))
  obtain ⟨rfl, -, hu2⟩ := hr2
  replace HF1 := Lib.hid (HF1.out.upd0 hu2)
  replace HP1 := Lib.hid (HP1.out.upd0 hu2)
  replace HU1 := Lib.hid (HU1.out.seq hu2)
  have HL := Lib.hid (H.out.upd0 HU1.out)
  have HM := Lib.hid (H2.out.upd0 HU1.out)
  clear hu2
  generalize w1.heap.size = g2 at *
  have q0 : (0 : Int) ≤ l.length := by omega
  have q1 : (l.length : Int) ≤ ((l.length + 80 : Nat) : Int) := by omega
  have q2 : (p.length : Int) ≤ ((p.length + 80 : Nat) : Int) := by omega
  have hc1 := fun W => run_cut_h (P := Try.prog) Try.underlying22 sizeByte (some ⟨w.heap.size, 0, none⟩) (l.length + 80) (l.length + 80) l.length (by omega) W
  have hc2 := fun W => run_cut_h (P := Try.prog) Try.underlying22 sizeByte (some ⟨g2, 0, none⟩) (p.length + 80) (p.length + 80) p.length (by omega) W
  have HC1 : Hid (∀ W, Upd [] w2 W → Calls Try.prog 15 #[.slice (some ⟨w.heap.size, 0, none⟩) l.length (l.length + 80), .slice (some ⟨g2, 0, none⟩) p.length (p.length + 80)] W fun e w' => ∃ x, e = .returned x ∧ Own bv W.heap.size 5 w' x (putF l p) ∧ Upd [] W w') := fun W hu => fPut_any _ _ l p W (HP1.out.upd0 hu) (HP2.out.upd0 hu) (by omega) (by omega)
  have HC2 : Hid (∀ W, Upd [] w2 W → Calls Try.prog 20 #[.slice a l.length cap, .slice a2 p.length cap2] W fun e w' => ∃ x, e = .returned x ∧ Own bv W.heap.size 5 w' x (putF l p) ∧ Upd [] W w') := fun W hu => rFrame_any _ _ l p W (HL.out.upd0 hu) (HM.out.upd0 hu) (by omega) (by omega)
  have HC3 : Hid (∀ W, Upd [] w2 W → Calls Try.prog 21 #[.slice (some ⟨w.heap.size, 0, none⟩) (l.length + 80) (l.length + 80), .slice a l.length cap, .int .u8 5] W fun e w' => e = .returned (.bool true) ∧ ∃ n, w' = W.drewN n) := fun W hu => intactByte_ok _ _ l 5 W (HF1.out.upd0 hu) (HL.out.upd0 hu) (by omega)
  have HC4 : Hid (∀ W, Upd [] w2 W → Calls Try.prog 21 #[.slice (some ⟨g2, 0, none⟩) (p.length + 80) (p.length + 80), .slice a2 p.length cap2, .int .u8 6] W fun e w' => e = .returned (.bool true) ∧ ∃ n, w' = W.drewN n) := fun W hu => intactByte_ok _ _ p 6 W (HF2.out.upd0 hu) (HM.out.upd0 hu) (by omega)
  clear HP1 HP2 HF1 HF2 HL HM
  generalize (.slice (some ⟨w.heap.size, 0, none⟩) (l.length + 80) (l.length + 80) : Value) = f1 at *
  generalize (.slice (some ⟨g2, 0, none⟩) (p.length + 80) (p.length + 80) : Value) = f2 at *
  generalize putF l p = lp at *
  go_wp2_with fail
  go_region_held3 (fun w' => True) (trivial) (first
    | (go_at_call 15; with_reducible refine (HC1.out _ (by repeat (first | with_reducible exact Upd.refl _ _ | with_reducible apply Upd.drew | with_reducible apply Upd.drewN))).mono ?_; rintro e w3 ⟨x3, rfl, ho3, hu3⟩; have hk3 : Upd [] w2 w3 := Upd.seq (by repeat (first | with_reducible exact Upd.refl _ _ | with_reducible apply Upd.drew | with_reducible apply Upd.drewN)) hu3; dsimp only)
    | (go_at_call 20; with_reducible refine (HC2.out _ (by repeat (first | with_reducible exact hk3 | with_reducible apply Upd.drew | with_reducible apply Upd.drewN))).mono ?_; rintro e w4 ⟨x4, rfl, ho4, hu4⟩; have hk34 : Upd [] w3 w4 := Upd.seq (by repeat (first | with_reducible exact Upd.refl _ _ | with_reducible apply Upd.drew | with_reducible apply Upd.drewN)) hu4; have hk4 := hk3.seq hk34; dsimp only)
    | (go_at_call 19; refine (sameByte_ok _ _ lp _ (ho3.rd.upd0 (hk34.seq (by repeat (first | with_reducible exact Upd.refl _ _ | with_reducible apply Upd.drew | with_reducible apply Upd.drewN)))) (ho4.rd.upd0 (by repeat (first | with_reducible exact Upd.refl _ _ | with_reducible apply Upd.drew | with_reducible apply Upd.drewN)))).mono ?_; rintro e w5 ⟨rfl, n5, rfl⟩; dsimp only)
    | (go_at_call 21; with_reducible refine (HC3.out _ (by repeat (first | with_reducible exact hk4 | with_reducible apply Upd.drew | with_reducible apply Upd.drewN))).mono ?_; rintro e w6 ⟨rfl, n6, rfl⟩; dsimp only)
    | (go_at_call 21; with_reducible refine (HC4.out _ (by repeat (first | with_reducible exact hk4 | with_reducible apply Upd.drew | with_reducible apply Upd.drewN))).mono ?_; rintro e w7 ⟨rfl, n7, rfl⟩; dsimp only)
    | (go_at_call 3; refine (frameRuns_any _).mono ?_; rintro e w9 ⟨rfl, hu9⟩; dsimp only))
  have HU9 := Lib.hid ((HU1.out.seq hk4).seq (Upd.seq (by repeat (first | with_reducible exact Upd.refl _ _ | with_reducible apply Upd.drew | with_reducible apply Upd.drewN)) hu9))
  clear hu9 hk4 hk3 hu3 hu4
  go_wp2_with fail
  go_ret
  exact ⟨rfl, HU9.out⟩
end Go.Proofs.Ythnmlifnlmdelaa
