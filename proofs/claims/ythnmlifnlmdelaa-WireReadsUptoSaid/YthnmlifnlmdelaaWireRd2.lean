/- Chapter 2: Upto, Text, Flag, End of a reader. -/
import Derived.Test.YthnmlifnlmdelaaWireRd
import Derived.Test.YthnmlifnlmdelaaConvStr
import Derived.Test.YthnmlifnlmdelaaQuiet
namespace Go.Proofs.Ythnmlifnlmdelaa
open Go.RowKit
set_option linter.unusedSimpArgs false
set_option linter.unusedVariables false
section
variable {base : Nat} {g : Nat} {v : Value} {B : List UInt8} {s : RSt}
theorem Upd.gg {g : Nat} {a b c : World} (h : Upd [g] a b) (k : Upd [g] b c) : Upd [g] a c := h.trans k (fun x hx => hx) (fun x hx => .inl hx)
theorem Upd.up {g : Nat} {a b : World} (h : Upd [] a b) : Upd [g] a b := h.mono (by simp)
set_option maxHeartbeats 2000000 in
theorem rUpto_any (w : World) (most : Int) (hm : I64 most) (h : RdrAt 79 base w g v B s) :
    Calls Try.prog 33 #[.pointer (some ⟨g, 0, none⟩), .int .i64 most] w fun x w' => x = .returned (.int .i64 ((rdUpto B most s).1 : Int)) ∧ RdrAt 79 base w' g v B (rdUpto B most s).2 ∧ Upd [g] w w' := by
  have H := Lib.hid h
  have c1 : w.cell? ⟨g, 1, none⟩ = some (.int .i64 (s.1 : Int)) := h.cells.cell 1
  have hat := h.at_
  have hle := rdNum_le B s h.at_ h.er
  go_enter Try.func33, Try.ntmps33
  go_wp2_with fail
  with_reducible refine (rNum_any _ H.out).mono ?_
  rintro e w1 ⟨rfl, h1, hu1⟩
  have c2 := h1.cells.cell 2
  have HU1 := Lib.hid hu1
  have H1 := Lib.hid h1
  clear h1 hu1 h
  by_cases hb : (rdNum B s).2.2 = 0 ∧ most < ((rdNum B s).1 : Int)
  · have HR : Hid (rdUpto B most s = (0, s.1, 2)) := if_pos hb
    obtain ⟨hb1, hb2⟩ := hb
    generalize rdNum B s = r at *
    obtain ⟨n, at1, er1⟩ := r
    dsimp only at hb1 hb2 hle
    subst hb1
    replace c2 : w1.cell? ⟨g, 2, none⟩ = some (.int .i64 0) := c2
    dsimp only
    go_wp2_with fail
    with_reducible refine (rWrong_any _ s.1 2 _ 2 rfl rfl H1.out hat (by decide)).mono ?_
    rintro e w2 ⟨rfl, h2, hu2⟩
    go_wp2_with fail
    go_ret
    exact ⟨by rw [HR.out]; rfl, by rw [HR.out]; exact h2, HU1.out.gg hu2⟩
  · have HR : Hid (rdUpto B most s = rdNum B s) := if_neg hb
    generalize rdNum B s = r at *
    obtain ⟨n, at1, er1⟩ := r
    dsimp only at hb hle
    replace c2 : w1.cell? ⟨g, 2, none⟩ = some (.int .i64 (er1 : Int)) := c2
    dsimp only
    by_cases he : er1 = 0
    · subst he
      have hb2 : ¬ most < (n : Int) := fun q => hb ⟨rfl, q⟩
      replace c2 : w1.cell? ⟨g, 2, none⟩ = some (.int .i64 0) := c2
      clear hb
      go_wp2_with fail
      go_ret
      exact ⟨by rw [HR.out]; rfl, by rw [HR.out]; exact H1.out, HU1.out⟩
    · have he2 : ((er1 : Int) == 0) = false := by rw [beq_eq_false_iff_ne]; omega
      clear hb he
      go_wp2_with fail
      go_ret
      exact ⟨by rw [HR.out]; rfl, by rw [HR.out]; exact H1.out, HU1.out⟩
set_option maxHeartbeats 2000000 in
theorem rFlag_any (w : World) (h : RdrAt 79 base w g v B s) :
    Calls Try.prog 59 #[.pointer (some ⟨g, 0, none⟩)] w fun x w' => x = .returned (.bool (rdFlag B s).1) ∧ RdrAt 79 base w' g v B (rdFlag B s).2 ∧ Upd [g] w w' := by
  have H := Lib.hid h
  have c1 : w.cell? ⟨g, 1, none⟩ = some (.int .i64 (s.1 : Int)) := h.cells.cell 1
  have hat := h.at_
  have hle := rdNum_le B s h.at_ h.er
  go_enter Try.func59, Try.ntmps59
  go_wp2_with fail
  with_reducible refine (rNum_any _ H.out).mono ?_
  rintro e w1 ⟨rfl, h1, hu1⟩
  have c2 := h1.cells.cell 2
  have HU1 := Lib.hid hu1
  have H1 := Lib.hid h1
  clear h1 hu1 h
  by_cases hb : (rdNum B s).2.2 = 0 ∧ 1 < (rdNum B s).1
  · have HR : Hid (rdFlag B s = (false, s.1, 4)) := if_pos hb
    obtain ⟨hb1, hb2⟩ := hb
    generalize rdNum B s = r at *
    obtain ⟨n, at1, er1⟩ := r
    dsimp only at hb1 hb2 hle
    subst hb1
    replace c2 : w1.cell? ⟨g, 2, none⟩ = some (.int .i64 0) := c2
    have hb3 : (1 : Int) < n := by omega
    dsimp only
    go_wp2_with fail
    with_reducible refine (rWrong_any _ s.1 4 _ 4 rfl rfl H1.out hat (by decide)).mono ?_
    rintro e w2 ⟨rfl, h2, hu2⟩
    have d2 : w2.cell? ⟨g, 2, none⟩ = some (.int .i64 4) := h2.cells.cell 2
    have H2 := Lib.hid h2
    have HU2 := Lib.hid (HU1.out.gg hu2)
    clear h2 hu2
    go_wp2_with fail
    go_ret
    exact ⟨by rw [HR.out]; rfl, by rw [HR.out]; exact H2.out, HU2.out⟩
  · have HR : Hid (rdFlag B s = (decide ((rdNum B s).2.2 = 0 ∧ (rdNum B s).1 = 1), (rdNum B s).2)) := if_neg hb
    generalize rdNum B s = r at *
    obtain ⟨n, at1, er1⟩ := r
    dsimp only at hb hle HR
    replace c2 : w1.cell? ⟨g, 2, none⟩ = some (.int .i64 (er1 : Int)) := c2
    dsimp only
    by_cases he : er1 = 0
    · subst he
      replace c2 : w1.cell? ⟨g, 2, none⟩ = some (.int .i64 0) := c2
      have hn : n = 0 ∨ n = 1 := by have : ¬ 1 < n := fun q => hb ⟨rfl, q⟩; omega
      clear hb
      rcases hn with rfl | rfl
      · go_wp2_with fail
        go_ret
        exact ⟨by rw [HR.out]; rfl, by rw [HR.out]; exact H1.out, HU1.out⟩
      · go_wp2_with fail
        go_ret
        exact ⟨by rw [HR.out]; rfl, by rw [HR.out]; exact H1.out, HU1.out⟩
    · have he2 : ((er1 : Int) == 0) = false := by rw [beq_eq_false_iff_ne]; omega
      have HE : Hid (decide (er1 = 0 ∧ n = 1) = false) := by unfold Hid; simp [he]
      clear hb he
      go_wp2_with fail
      go_ret
      exact ⟨by rw [HR.out, HE.out]; rfl, by rw [HR.out]; exact H1.out, HU1.out⟩
set_option maxHeartbeats 2000000 in
theorem rEnd_any (w : World) (h : RdrAt 79 base w g v B s) :
    Calls Try.prog 37 #[.pointer (some ⟨g, 0, none⟩)] w fun x w' => x = .returned (.int .i64 ((rdEnd B s).2 : Int)) ∧ RdrAt 79 base w' g v B (rdEnd B s) ∧ Upd [g] w w' := by
  have H := Lib.hid h
  obtain ⟨a, k, rfl, -⟩ := h.own.rd
  have c0 : w.cell? ⟨g, 0, none⟩ = some (.slice a B.length k) := h.cells.cell 0
  have c1 : w.cell? ⟨g, 1, none⟩ = some (.int .i64 (s.1 : Int)) := h.cells.cell 1
  have c2 : w.cell? ⟨g, 2, none⟩ = some (.int .i64 (s.2 : Int)) := h.cells.cell 2
  have hat := h.at_
  obtain ⟨at_, er⟩ := s
  dsimp only at *
  clear h
  by_cases hb : er = 0 ∧ at_ < B.length
  · have HR : Hid (rdEnd B (at_, er) = (at_, 5)) := if_pos hb
    obtain ⟨rfl, hb2⟩ := hb
    replace c2 : w.cell? ⟨g, 2, none⟩ = some (.int .i64 0) := c2
    have hb3 : (at_ : Int) < B.length := by omega
    go_enter Try.func37, Try.ntmps37
    go_wp2_with fail
    go_quiet (fail)
    have HU := Lib.hid ((Upd.refl [] w).drewN nq)
    generalize w.drewN nq = w1 at *
    have d2 := HU.out.cell c2 (by simp)
    have hfr := (H.out.upd HU.out).cells.frozen 2
    have HS := Lib.hid ((H.out.upd HU.out).set2 (by decide) 5 (by decide))
    have HSU := Lib.hid ((Upd.up (g := g) HU.out).setCell ⟨g, 2, none⟩ (.int .i64 ((5 : Nat) : Int)) (.inl (by simp)))
    go_wp2_with fail
    go_ret
    exact ⟨by rw [HR.out]; rfl, by rw [HR.out]; exact HS.out, HSU.out⟩
  · have HR : Hid (rdEnd B (at_, er) = (at_, er)) := if_neg hb
    by_cases he : er = 0
    · subst he
      have hb3 : ¬ (at_ : Int) < B.length := fun q => hb ⟨rfl, by omega⟩
      replace c2 : w.cell? ⟨g, 2, none⟩ = some (.int .i64 0) := c2
      clear hb
      go_enter Try.func37, Try.ntmps37
      go_wp2_with fail
      go_quiet (fail)
      have HU := Lib.hid ((Upd.refl [] w).drewN nq)
      generalize w.drewN nq = w1 at *
      have d2 := HU.out.cell c2 (by simp)
      go_wp2_with fail
      go_ret
      exact ⟨by rw [HR.out]; rfl, by rw [HR.out]; exact H.out.upd HU.out, HU.out.up⟩
    · have he2 : ((er : Int) == 0) = false := by rw [beq_eq_false_iff_ne]; omega
      clear hb he
      go_enter Try.func37, Try.ntmps37
      go_wp2_with fail
      go_quiet (fail)
      have HU := Lib.hid ((Upd.refl [] w).drewN nq)
      generalize w.drewN nq = w1 at *
      have d2 := HU.out.cell c2 (by simp)
      go_wp2_with fail
      go_ret
      exact ⟨by rw [HR.out]; rfl, by rw [HR.out]; exact H.out.upd HU.out, HU.out.up⟩
theorem rRead_any (w : World) (u : Value) (l : List UInt8) (h : Bytes w u l) (hz : l.length ≤ 10000000000) :
    Calls Try.prog 32 #[u] w fun x w' => ∃ g v, x = .returned (.pointer (some ⟨g, 0, none⟩)) ∧ RdrAt 79 w.heap.size w' g v l (0, 0) ∧ Upd [] w w' := by
  have H := Lib.hid h
  obtain ⟨a, cap, rfl, -, -, -⟩ := h
  go_enter Try.func32, Try.ntmps32
  go_wp2_with (at_builtin; refine wpList_app bv_one rfl (.const (.slice none 0 0)) (.tmp 3) rfl Try.underlying22 infoByte rfl (.slice none 0 0) (.slice a l.length cap) [] l rfl rfl (Own.nil w.heap.size _ _) H.out (by simp; omega) (by unfold maxLen; simp; omega) (Nat.le_refl _) ?_; intro v3 w3 ho hu hbk; rw [List.nil_append] at ho; have HU3 : Hid (Upd [] w w3) := (Upd.refl [] w).trans hu (by simp) (by simp [blk]); have HO3 := Lib.hid ho; obtain ⟨a3, c3, rfl, -⟩ := ho.rd; clear ho hu hbk)
  go_ret
  exact ⟨_, _, rfl, ⟨Blk.new w3 _ [.slice a3 l.length c3, .int .i64 0, .int .i64 0], HO3.out.upd ((Upd.refl [] w3).alloc _) (by simp), HU3.out.size, Nat.zero_le _, Nat.zero_le _, hz⟩, HU3.out.alloc _⟩
end
end Go.Proofs.Ythnmlifnlmdelaa
