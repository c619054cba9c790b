/- Chapter 2: the document's Upto, Text, Flag, End, Read. -/
import Derived.Test.YthnmlifnlmdelaaWireRefNum
namespace Go.Proofs.Ythnmlifnlmdelaa
open Go.RowKit
set_option linter.unusedSimpArgs false
set_option linter.unusedVariables false
section
variable {base : Nat} {g : Nat} {v : Value} {B : List UInt8} {s : RSt}
set_option maxHeartbeats 2000000 in
theorem dUpto_any (w : World) (most : Int) (hm : I64 most) (h : RdrAt 82 base w g v B s) :
    Calls Try.prog 61 #[.pointer (some ⟨g, 0, none⟩), .int .i64 most] w fun x w' => x = .returned (.int .i64 ((rdUpto B most s).1 : Int)) ∧ RdrAt 82 base w' g v B (rdUpto B most s).2 ∧ Upd [g] w w' := by
  have H := Lib.hid h
  have c1 : w.cell? ⟨g, 1, none⟩ = some (.int .i64 (s.1 : Int)) := h.cells.cell 1
  have hat := h.at_
  have hle := rdNum_le B s h.at_ h.er
  go_enter Try.func61, Try.ntmps61
  go_wp2_with fail
  with_reducible refine (dNum_any _ H.out).mono ?_
  rintro e w1 ⟨rfl, h1, hu1⟩
  have c2 := h1.cells.cell 2
  have HU1 := Lib.hid hu1
  have H1 := Lib.hid h1
  clear h1 hu1 h
  by_cases hb : (rdNum B s).2.2 = 0 ∧ most < ((rdNum B s).1 : Int)
  · have HR : Hid (rdUpto B most s = (0, s.1, 2)) := if_pos hb
    obtain ⟨hb1, hb2⟩ := hb
    generalize rdNum B s = r at *
    obtain ⟨n, at1, er1⟩ := r
    dsimp only at hb1 hb2 hle
    subst hb1
    replace c2 : w1.cell? ⟨g, 2, none⟩ = some (.int .i64 0) := c2
    dsimp only
    have sk1 := H1.out.cells.cell 1
    have sk2 := H1.out.cells.cell 2
    have sf1 := (H1.out).cells.frozen 1
    have sf2 := (H1.out).cells.frozen 2
    have HS3 := Lib.hid (((H1.out).set2 (by decide) 2 (by decide)).set1 (by decide) s.1 hat)
    have HSU3 := Lib.hid (((HU1.out).setCell ⟨g, 2, none⟩ (.int .i64 ((2 : Nat) : Int)) (.inl (by simp))).setCell ⟨g, 1, none⟩ (.int .i64 (s.1 : Int)) (.inl (by simp)))
    go_wp2_with fail
    go_ret
    exact ⟨by rw [HR.out]; rfl, by rw [HR.out]; exact HS3.out, HSU3.out⟩
  · have HR : Hid (rdUpto B most s = rdNum B s) := if_neg hb
    generalize rdNum B s = r at *
    obtain ⟨n, at1, er1⟩ := r
    dsimp only at hb hle
    replace c2 : w1.cell? ⟨g, 2, none⟩ = some (.int .i64 (er1 : Int)) := c2
    dsimp only
    by_cases he : er1 = 0
    · subst he
      have hb2 : ¬ most < (n : Int) := fun q => hb ⟨rfl, q⟩
      replace c2 : w1.cell? ⟨g, 2, none⟩ = some (.int .i64 0) := c2
      clear hb
      go_wp2_with fail
      go_ret
      exact ⟨by rw [HR.out]; rfl, by rw [HR.out]; exact H1.out, HU1.out⟩
    · have he2 : ((er1 : Int) == 0) = false := by rw [beq_eq_false_iff_ne]; omega
      clear hb he
      go_wp2_with fail
      go_ret
      exact ⟨by rw [HR.out]; rfl, by rw [HR.out]; exact H1.out, HU1.out⟩
set_option maxHeartbeats 2000000 in
theorem dFlag_any (w : World) (h : RdrAt 82 base w g v B s) :
    Calls Try.prog 60 #[.pointer (some ⟨g, 0, none⟩)] w fun x w' => x = .returned (.bool (rdFlag B s).1) ∧ RdrAt 82 base w' g v B (rdFlag B s).2 ∧ Upd [g] w w' := by
  have H := Lib.hid h
  have c1 : w.cell? ⟨g, 1, none⟩ = some (.int .i64 (s.1 : Int)) := h.cells.cell 1
  have hat := h.at_
  have hle := rdNum_le B s h.at_ h.er
  go_enter Try.func60, Try.ntmps60
  go_wp2_with fail
  with_reducible refine (dNum_any _ H.out).mono ?_
  rintro e w1 ⟨rfl, h1, hu1⟩
  have c2 := h1.cells.cell 2
  have HU1 := Lib.hid hu1
  have H1 := Lib.hid h1
  clear h1 hu1 h
  by_cases hb : (rdNum B s).2.2 = 0 ∧ 1 < (rdNum B s).1
  · have HR : Hid (rdFlag B s = (false, s.1, 4)) := if_pos hb
    obtain ⟨hb1, hb2⟩ := hb
    generalize rdNum B s = r at *
    obtain ⟨n, at1, er1⟩ := r
    dsimp only at hb1 hb2 hle
    subst hb1
    replace c2 : w1.cell? ⟨g, 2, none⟩ = some (.int .i64 0) := c2
    have hb3 : (1 : Int) < n := by omega
    dsimp only
    have sk1 := H1.out.cells.cell 1
    have sk2 := H1.out.cells.cell 2
    have sf1 := (H1.out).cells.frozen 1
    have sf2 := (H1.out).cells.frozen 2
    have HS3 := Lib.hid (((H1.out).set2 (by decide) 4 (by decide)).set1 (by decide) s.1 hat)
    have HSU3 := Lib.hid (((HU1.out).setCell ⟨g, 2, none⟩ (.int .i64 ((4 : Nat) : Int)) (.inl (by simp))).setCell ⟨g, 1, none⟩ (.int .i64 (s.1 : Int)) (.inl (by simp)))
    go_wp2_with fail
    go_ret
    exact ⟨by rw [HR.out]; rfl, by rw [HR.out]; exact HS3.out, HSU3.out⟩
  · have HR : Hid (rdFlag B s = (decide ((rdNum B s).2.2 = 0 ∧ (rdNum B s).1 = 1), (rdNum B s).2)) := if_neg hb
    generalize rdNum B s = r at *
    obtain ⟨n, at1, er1⟩ := r
    dsimp only at hb hle HR
    replace c2 : w1.cell? ⟨g, 2, none⟩ = some (.int .i64 (er1 : Int)) := c2
    dsimp only
    by_cases he : er1 = 0
    · subst he
      replace c2 : w1.cell? ⟨g, 2, none⟩ = some (.int .i64 0) := c2
      have hn : n = 0 ∨ n = 1 := by have : ¬ 1 < n := fun q => hb ⟨rfl, q⟩; omega
      clear hb
      rcases hn with rfl | rfl
      · go_wp2_with fail
        go_ret
        exact ⟨by rw [HR.out]; rfl, by rw [HR.out]; exact H1.out, HU1.out⟩
      · go_wp2_with fail
        go_ret
        exact ⟨by rw [HR.out]; rfl, by rw [HR.out]; exact H1.out, HU1.out⟩
    · have he2 : ((er1 : Int) == 0) = false := by rw [beq_eq_false_iff_ne]; omega
      have HE : Hid (decide (er1 = 0 ∧ n = 1) = false) := by unfold Hid; simp [he]
      have hn0 : n = 0 := (hle.2.2.2.2 he).1
      subst hn0
      clear hb he
      go_wp2_with fail
      go_ret
      exact ⟨by rw [HR.out, HE.out]; rfl, by rw [HR.out]; exact H1.out, HU1.out⟩
set_option maxHeartbeats 2000000 in
theorem dEnd_any (w : World) (h : RdrAt 82 base w g v B s) :
    Calls Try.prog 44 #[.pointer (some ⟨g, 0, none⟩)] w fun x w' => x = .returned (.int .i64 ((rdEnd B s).2 : Int)) ∧ RdrAt 82 base w' g v B (rdEnd B s) ∧ Upd [g] w w' := by
  have H := Lib.hid h
  obtain ⟨a, k, rfl, -⟩ := h.own.rd
  have c0 : w.cell? ⟨g, 0, none⟩ = some (.slice a B.length k) := h.cells.cell 0
  have c1 : w.cell? ⟨g, 1, none⟩ = some (.int .i64 (s.1 : Int)) := h.cells.cell 1
  have c2 : w.cell? ⟨g, 2, none⟩ = some (.int .i64 (s.2 : Int)) := h.cells.cell 2
  have hat := h.at_
  obtain ⟨at_, er⟩ := s
  dsimp only at *
  clear h
  by_cases hb : er = 0 ∧ at_ < B.length
  · have HR : Hid (rdEnd B (at_, er) = (at_, 5)) := if_pos hb
    obtain ⟨rfl, hb2⟩ := hb
    replace c2 : w.cell? ⟨g, 2, none⟩ = some (.int .i64 0) := c2
    have hb3 : (at_ : Int) < B.length := by omega
    go_enter Try.func44, Try.ntmps44
    go_wp2_with fail
    go_quiet (fail)
    have HU := Lib.hid ((Upd.refl [] w).drewN nq)
    generalize w.drewN nq = w1 at *
    have d2 := HU.out.cell c2 (by simp)
    have hfr := (H.out.upd HU.out).cells.frozen 2
    have HS := Lib.hid ((H.out.upd HU.out).set2 (by decide) 5 (by decide))
    have HSU := Lib.hid ((Upd.up (g := g) HU.out).setCell ⟨g, 2, none⟩ (.int .i64 ((5 : Nat) : Int)) (.inl (by simp)))
    go_wp2_with fail
    go_ret
    exact ⟨by rw [HR.out]; rfl, by rw [HR.out]; exact HS.out, HSU.out⟩
  · have HR : Hid (rdEnd B (at_, er) = (at_, er)) := if_neg hb
    by_cases he : er = 0
    · subst he
      have hb3 : ¬ (at_ : Int) < B.length := fun q => hb ⟨rfl, by omega⟩
      replace c2 : w.cell? ⟨g, 2, none⟩ = some (.int .i64 0) := c2
      clear hb
      go_enter Try.func44, Try.ntmps44
      go_wp2_with fail
      go_quiet (fail)
      have HU := Lib.hid ((Upd.refl [] w).drewN nq)
      generalize w.drewN nq = w1 at *
      have d2 := HU.out.cell c2 (by simp)
      go_wp2_with fail
      go_ret
      exact ⟨by rw [HR.out]; rfl, by rw [HR.out]; exact H.out.upd HU.out, HU.out.up⟩
    · have he2 : ((er : Int) == 0) = false := by rw [beq_eq_false_iff_ne]; omega
      clear hb he
      go_enter Try.func44, Try.ntmps44
      go_wp2_with fail
      go_quiet (fail)
      have HU := Lib.hid ((Upd.refl [] w).drewN nq)
      generalize w.drewN nq = w1 at *
      have d2 := HU.out.cell c2 (by simp)
      go_wp2_with fail
      go_ret
      exact ⟨by rw [HR.out]; rfl, by rw [HR.out]; exact H.out.upd HU.out, HU.out.up⟩
set_option maxHeartbeats 4000000 in
theorem dText_any (w : World) (most : Int) (hm : I64 most) (h : RdrAt 82 base w g v B s) :
    Calls Try.prog 58 #[.pointer (some ⟨g, 0, none⟩), .int .i64 most] w fun x w' => x = .returned (.string (strOf (rdText B most s).1)) ∧ RdrAt 82 base w' g v B (rdText B most s).2 ∧ Upd [g] w w' := by
  have H := Lib.hid h
  obtain ⟨a, k, rfl, hBk, -⟩ := h.own.rd
  have c1 : w.cell? ⟨g, 1, none⟩ = some (.int .i64 (s.1 : Int)) := h.cells.cell 1
  have hat := h.at_
  have hsz := h.sz
  have hle := rdUpto_le B most s h.at_ h.er
  go_enter Try.func58, Try.ntmps58
  go_wp2_with fail
  with_reducible refine (dUpto_any _ most hm H.out).mono ?_
  rintro e w1 ⟨rfl, h1, hu1⟩
  have c2 := h1.cells.cell 2
  have c0 : w1.cell? ⟨g, 0, none⟩ = some (.slice a B.length k) := h1.cells.cell 0
  have d1 := h1.cells.cell 1
  have HU1 := Lib.hid hu1
  have H1 := Lib.hid h1
  have HT : Hid (rdText B most s = if (rdUpto B most s).2.2 ≠ 0 then ([], (rdUpto B most s).2)
    else if B.length - (rdUpto B most s).2.1 < (rdUpto B most s).1 then ([], s.1, 3)
    else ((B.drop (rdUpto B most s).2.1).take (rdUpto B most s).1, (rdUpto B most s).2.1 + (rdUpto B most s).1, 0)) := rfl
  clear h1 hu1 h
  generalize rdUpto B most s = r at *
  obtain ⟨n, at1, er1⟩ := r
  dsimp only at hle HT
  replace c2 : w1.cell? ⟨g, 2, none⟩ = some (.int .i64 (er1 : Int)) := c2
  replace d1 : w1.cell? ⟨g, 1, none⟩ = some (.int .i64 (at1 : Int)) := d1
  dsimp only
  by_cases he : er1 = 0
  · subst he
    replace c2 : w1.cell? ⟨g, 2, none⟩ = some (.int .i64 0) := c2
    have HT := Lib.hid (HT.out.trans (if_neg (by simp)))
    have hat1 : at1 ≤ B.length := hle.2.2.1
    by_cases hb : B.length - at1 < n
    · have HR := Lib.hid (HT.out.trans (if_pos hb))
      have hb2 : (B.length : Int) - at1 < n := by omega
      clear HT
      go_wp2_with fail
      go_quiet (fail)
      have HU := Lib.hid ((Upd.refl [] w1).drewN nq)
      generalize w1.drewN nq = w2 at *
      have sk1 := HU.out.cell d1 (by simp)
      have sk2 := HU.out.cell c2 (by simp)
      have sf1 := (H1.out.upd HU.out).cells.frozen 1
      have sf2 := (H1.out.upd HU.out).cells.frozen 2
      have HS3 := Lib.hid (((H1.out.upd HU.out).set2 (by decide) 3 (by decide)).set1 (by decide) s.1 hat)
      have HSU3 := Lib.hid (((HU1.out.gg (Upd.up (g := g) HU.out)).setCell ⟨g, 2, none⟩ (.int .i64 ((3 : Nat) : Int)) (.inl (by simp))).setCell ⟨g, 1, none⟩ (.int .i64 (s.1 : Int)) (.inl (by simp)))
      go_wp2_with fail
      go_ret
      exact ⟨by rw [HR.out, strOf_nil]; rfl, by rw [HR.out]; exact HS3.out, HSU3.out⟩
    · have HR := Lib.hid (HT.out.trans (if_neg hb))
      have hb2 : ¬ (B.length : Int) - at1 < n := by omega
      have hc2 := fun W => run_cut_lh (P := Try.prog) Try.underlying22 sizeByte a B.length k at1 (at1 + n) (by omega) (by omega) W (at1 : Int) ((at1 : Int) + (n : Int)) rfl (by omega)
      simp only [Nat.mul_one, Nat.add_sub_cancel_left] at hc2
      have HP := Lib.hid (H1.out.own.rd.sub at1 (at1 + n) (by omega) (by omega))
      rw [Nat.add_sub_cancel_left] at HP
      generalize (if k = at1 then a else a.map (·.add at1)) = a2 at *
      generalize (B.drop at1).take n = pl at *
      clear HT
      go_wp2_with fail
      go_quiet (fail)
      have HU := Lib.hid ((Upd.refl [] w1).drewN nq)
      generalize w1.drewN nq = w2 at *
      have d2 := HU.out.cell d1 (by simp)
      have k2 := HU.out.cell c2 (by simp)
      have e0 : ∀ x : Wx w2, x.val.cell? ⟨g, 0, none⟩ = some (.slice a B.length k) := Wx.cell (HU.out.cell c0 (by simp))
      have e1 : ∀ x : Wx w2, x.val.cell? ⟨g, 1, none⟩ = some (.int .i64 (at1 : Int)) := Wx.cell d2
      have hcv : ∀ x : Wx w2, (convert 22 9 (.slice a2 n (k - at1))).run Try.prog x.val = .ok (.string (strOf pl)) x.val := fun x => convb_str Try.underlying22 Try.underlying5 Try.underlying9 _ _ _ ((HP.out.upd0 HU.out).upd0 x.prop)
      go_wp2_with fail
      refine wp_region_wx (by kernel_rfl) (by kernel_rfl) ?_
      repeat (go_big_quiet_step (fail))
      refine wpQuiet_nil ?_
      rintro _ ⟨x, rfl⟩
      have HX := Lib.hid (HU.out.seq x.prop)
      have d3 := e1 x
      have hfr := (H1.out.upd HX.out).cells.frozen 1
      have HS := Lib.hid ((H1.out.upd HX.out).set1 (by decide) (at1 + n) (by omega))
      have HSU := Lib.hid ((HU1.out.gg (Upd.up (g := g) HX.out)).setCell ⟨g, 1, none⟩ (.int .i64 ((at1 + n : Nat) : Int)) (.inl (by simp)))
      have hc1' : ((at1 + n : Nat) : Int) = (at1 : Int) + n := by omega
      rw [hc1'] at HS HSU
      generalize x.val = w4 at *
      clear hc1' e0 e1 hcv
      go_wp2_with fail
      go_ret
      exact ⟨by rw [HR.out]; rfl, by rw [HR.out]; exact HS.out, HSU.out⟩
  · have he2 : ((er1 : Int) != 0) = true := by rw [bne_iff_ne]; omega
    have HR := Lib.hid (HT.out.trans (if_pos he))
    have he3 : ((er1 : Int) == 0) = false := by rw [beq_eq_false_iff_ne]; omega
    clear HT he
    go_wp2_with fail
    go_quiet (fail)
    have HU := Lib.hid ((Upd.refl [] w1).drewN nq)
    generalize w1.drewN nq = w2 at *
    have k2 := HU.out.cell c2 (by simp)
    go_wp2_with fail
    go_ret
    exact ⟨by rw [HR.out, strOf_nil]; rfl, by rw [HR.out]; exact H1.out.upd HU.out, HU1.out.gg HU.out.up⟩
theorem dRead_any (w : World) (u : Value) (l : List UInt8) (h : Bytes w u l) (hz : l.length ≤ 10000000000) :
    Calls Try.prog 41 #[u] w fun x w' => ∃ g v, x = .returned (.pointer (some ⟨g, 0, none⟩)) ∧ RdrAt 82 w.heap.size w' g v l (0, 0) ∧ Upd [] w w' := by
  have H := Lib.hid h
  obtain ⟨a, cap, rfl, -, -, -⟩ := h
  go_enter Try.func41, Try.ntmps41
  go_wp2_with (at_builtin; refine wpList_app bv_one rfl (.tmp 3) (.tmp 4) rfl Try.underlying22 infoByte rfl (.slice (some ⟨w.heap.size, 0, none⟩) 0 0) (.slice a l.length cap) [] l rfl rfl (Own.room (base := w.heap.size) (Nat.le_refl _) rfl rfl (Nat.zero_le _)) (H.out.alloc _) (by simp; omega) (by unfold maxLen; simp; omega) (by simp) ?_; intro v3 w3 ho hu hbk; rw [List.nil_append] at ho; have HU3 : Hid (Upd [] w w3) := ((Upd.refl [] w).alloc _).trans hu (by simp) (by simp [blk]); have HO3 := Lib.hid ho; obtain ⟨a3, c3, rfl, -⟩ := ho.rd; clear ho hu hbk)
  go_ret
  exact ⟨_, _, rfl, ⟨Blk.new w3 _ [.slice a3 l.length c3, .int .i64 0, .int .i64 0], HO3.out.upd ((Upd.refl [] w3).alloc _) (by simp), HU3.out.size, Nat.zero_le _, Nat.zero_le _, hz⟩, HU3.out.alloc _⟩
end
end Go.Proofs.Ythnmlifnlmdelaa
