/- Chapter 2: Text and Items of a reader. -/
import Derived.Test.YthnmlifnlmdelaaWireRd2
namespace Go.Proofs.Ythnmlifnlmdelaa
open Go.RowKit
set_option linter.unusedSimpArgs false
set_option linter.unusedVariables false
theorem infoInt8 : (Try.prog.info? 3).map (fun i => (i.zero, i.size, i.bytes)) = some (some (.int .i64 0), 1, 8) := by kernel_rfl
theorem strOf_nil : strOf [] = ⟨#[]⟩ := rfl
section
variable {base : Nat} {g : Nat} {v : Value} {B : List UInt8} {s : RSt}
set_option maxHeartbeats 4000000 in
theorem rText_any (w : World) (most : Int) (hm : I64 most) (h : RdrAt 79 base w g v B s) :
    Calls Try.prog 36 #[.pointer (some ⟨g, 0, none⟩), .int .i64 most] w fun x w' => x = .returned (.string (strOf (rdText B most s).1)) ∧ RdrAt 79 base w' g v B (rdText B most s).2 ∧ Upd [g] w w' := by
  have H := Lib.hid h
  obtain ⟨a, k, rfl, hBk, -⟩ := h.own.rd
  have c1 : w.cell? ⟨g, 1, none⟩ = some (.int .i64 (s.1 : Int)) := h.cells.cell 1
  have hat := h.at_
  have hsz := h.sz
  have hle := rdUpto_le B most s h.at_ h.er
  go_enter Try.func36, Try.ntmps36
  go_wp2_with fail
  with_reducible refine (rUpto_any _ most hm H.out).mono ?_
  rintro e w1 ⟨rfl, h1, hu1⟩
  have c2 := h1.cells.cell 2
  have c0 : w1.cell? ⟨g, 0, none⟩ = some (.slice a B.length k) := h1.cells.cell 0
  have d1 := h1.cells.cell 1
  have HU1 := Lib.hid hu1
  have H1 := Lib.hid h1
  have HT : Hid (rdText B most s = if (rdUpto B most s).2.2 ≠ 0 then ([], (rdUpto B most s).2)
    else if B.length - (rdUpto B most s).2.1 < (rdUpto B most s).1 then ([], s.1, 3)
    else ((B.drop (rdUpto B most s).2.1).take (rdUpto B most s).1, (rdUpto B most s).2.1 + (rdUpto B most s).1, 0)) := rfl
  clear h1 hu1 h
  generalize rdUpto B most s = r at *
  obtain ⟨n, at1, er1⟩ := r
  dsimp only at hle HT
  replace c2 : w1.cell? ⟨g, 2, none⟩ = some (.int .i64 (er1 : Int)) := c2
  replace d1 : w1.cell? ⟨g, 1, none⟩ = some (.int .i64 (at1 : Int)) := d1
  dsimp only
  by_cases he : er1 = 0
  · subst he
    replace c2 : w1.cell? ⟨g, 2, none⟩ = some (.int .i64 0) := c2
    have HT := Lib.hid (HT.out.trans (if_neg (by simp)))
    have hat1 : at1 ≤ B.length := hle.2.2.1
    by_cases hb : B.length - at1 < n
    · have HR := Lib.hid (HT.out.trans (if_pos hb))
      have hb2 : (B.length : Int) - at1 < n := by omega
      clear HT
      go_wp2_with fail
      go_quiet (fail)
      have HU := Lib.hid ((Upd.refl [] w1).drewN nq)
      generalize w1.drewN nq = w2 at *
      go_wp2_with fail
      with_reducible refine (rWrong_any _ s.1 3 _ 3 rfl rfl (H1.out.upd HU.out) hat (by decide)).mono ?_
      rintro e w3 ⟨rfl, h3, hu3⟩
      go_wp2_with fail
      go_ret
      exact ⟨by rw [HR.out, strOf_nil]; rfl, by rw [HR.out]; exact h3, (HU1.out.gg HU.out.up).gg hu3⟩
    · have HR := Lib.hid (HT.out.trans (if_neg hb))
      have hb2 : ¬ (B.length : Int) - at1 < n := by omega
      have hc2 := fun W => run_cut_lh (P := Try.prog) Try.underlying22 sizeByte a B.length k at1 (at1 + n) (by omega) (by omega) W (at1 : Int) ((at1 : Int) + (n : Int)) rfl (by omega)
      simp only [Nat.mul_one, Nat.add_sub_cancel_left] at hc2
      have HP := Lib.hid (H1.out.own.rd.sub at1 (at1 + n) (by omega) (by omega))
      rw [Nat.add_sub_cancel_left] at HP
      generalize (if k = at1 then a else a.map (·.add at1)) = a2 at *
      generalize (B.drop at1).take n = pl at *
      clear HT
      go_wp2_with fail
      go_quiet (fail)
      have HU := Lib.hid ((Upd.refl [] w1).drewN nq)
      generalize w1.drewN nq = w2 at *
      have d2 := HU.out.cell d1 (by simp)
      have e0 : ∀ x : Wx w2, x.val.cell? ⟨g, 0, none⟩ = some (.slice a B.length k) := Wx.cell (HU.out.cell c0 (by simp))
      have e1 : ∀ x : Wx w2, x.val.cell? ⟨g, 1, none⟩ = some (.int .i64 (at1 : Int)) := Wx.cell d2
      have hcv : ∀ x : Wx w2, (convert 22 9 (.slice a2 n (k - at1))).run Try.prog x.val = .ok (.string (strOf pl)) x.val := fun x => convb_str Try.underlying22 Try.underlying5 Try.underlying9 _ _ _ ((HP.out.upd0 HU.out).upd0 x.prop)
      go_wp2_with fail
      refine wp_region_wx (by kernel_rfl) (by kernel_rfl) ?_
      repeat (go_big_quiet_step (fail))
      refine wpQuiet_nil ?_
      rintro _ ⟨x, rfl⟩
      have HX := Lib.hid (HU.out.seq x.prop)
      have d3 := e1 x
      have hfr := (H1.out.upd HX.out).cells.frozen 1
      have HS := Lib.hid ((H1.out.upd HX.out).set1 (by decide) (at1 + n) (by omega))
      have HSU := Lib.hid ((HU1.out.gg (Upd.up (g := g) HX.out)).setCell ⟨g, 1, none⟩ (.int .i64 ((at1 + n : Nat) : Int)) (.inl (by simp)))
      have hc1' : ((at1 + n : Nat) : Int) = (at1 : Int) + n := by omega
      rw [hc1'] at HS HSU
      generalize x.val = w4 at *
      clear hc1' e0 e1 hcv
      go_wp2_with fail
      go_ret
      exact ⟨by rw [HR.out]; rfl, by rw [HR.out]; exact HS.out, HSU.out⟩
  · have he2 : ((er1 : Int) != 0) = true := by rw [bne_iff_ne]; omega
    have HR := Lib.hid (HT.out.trans (if_pos he))
    clear HT he
    go_wp2_with fail
    go_ret
    exact ⟨by rw [HR.out, strOf_nil]; rfl, by rw [HR.out]; exact H1.out, HU1.out⟩
theorem rGets_any (w : World) (h : RdrAt 79 base w g v B s) :
    Calls Try.prog 40 #[.pointer (some ⟨g, 0, none⟩)] w fun x w' => x = .returned (.int .i64 ((rdNum B s).1 : Int)) ∧ RdrAt 79 base w' g v B (rdNum B s).2 ∧ Upd [g] w w' := by
  have H := Lib.hid h
  go_enter Try.func40, Try.ntmps40
  go_wp2_with fail
  with_reducible refine (rNum_any _ H.out).mono ?_
  rintro e w1 ⟨rfl, h1, hu1⟩
  go_wp2_with fail
  go_ret
  exact ⟨rfl, h1, hu1⟩
end
end Go.Proofs.Ythnmlifnlmdelaa
