/- Chapter 2: the document's reader. -/
import Derived.Test.YthnmlifnlmdelaaWireRd3
namespace Go.Proofs.Ythnmlifnlmdelaa
open Go.RowKit
set_option linter.unusedSimpArgs false
set_option linter.unusedVariables false
theorem or64i (n : Nat) (x : UInt8) (h : n * 256 + x.toNat < 9223372036854775808) : bits .or .i64 (wrap64 ((n : Int) * 256)) (wrap64 (x.toNat : Int)) = ((n * 256 + x.toNat : Nat) : Int) := by
  have hx := x.toNat_lt
  rw [wrap64_id _ (by omega) (by omega), wrap64_id _ (by omega) (by omega)]
  have h1 : (n : Int) * 256 = ((n * 256 : Nat) : Int) := by omega
  rw [h1, i64_hl _ _ 8 (by omega) (by omega) (by omega)]
theorem big8 (t : List UInt8) (h : 8 ≤ t.length) : 9223372036854775808 ≤ beN (t.take 8) ↔ 127 < (nth t 0).toNat := by
  cases t with
  | nil => simp at h
  | cons x t =>
    rw [List.take_succ_cons, beN_cons, nth_cons_zero]
    have hl : (t.take 7).length = 7 := by rw [List.length_take]; simp at h; omega
    have h1 := beN_lt (t.take 7)
    rw [hl] at h1 ⊢
    have e : (256 : Nat) ^ 7 = 72057594037927936 := by decide
    rw [e] at h1 ⊢
    have := x.toNat_lt
    omega
section
variable {base : Nat} {g : Nat} {v : Value} {B : List UInt8} {s : RSt}
set_option maxHeartbeats 4000000 in
theorem dNumBad_any (w : World) (h : RdrAt 82 base w g v B s) (hs : s.2 ≠ 0 ∨ (s.2 = 0 ∧ (B.drop s.1 = [] ∨ (∃ c t, B.drop s.1 = c :: t ∧ (8 < c.toNat ∨ t.length < c.toNat))))) :
    Calls Try.prog 57 #[.pointer (some ⟨g, 0, none⟩)] w fun x w' => x = .returned (.int .i64 ((rdNum B s).1 : Int)) ∧ RdrAt 82 base w' g v B (rdNum B s).2 ∧ Upd [g] w w' := by
  have H := Lib.hid h
  obtain ⟨a, k, rfl, -⟩ := h.own.rd
  have c0 : w.cell? ⟨g, 0, none⟩ = some (.slice a B.length k) := h.cells.cell 0
  have c1 : w.cell? ⟨g, 1, none⟩ = some (.int .i64 (s.1 : Int)) := h.cells.cell 1
  have c2 : w.cell? ⟨g, 2, none⟩ = some (.int .i64 (s.2 : Int)) := h.cells.cell 2
  have hat := h.at_
  have hsz := h.sz
  rcases hs with hs | ⟨hs, hb⟩
  · have hne : ((s.2 : Int) != 0) = true := by rw [bne_iff_ne]; omega
    have HR : Hid (rdNum B s = (0, s)) := by unfold Hid rdNum; rw [if_pos hs]
    clear h hs
    go_enter Try.func57, Try.ntmps57
    go_wp2_with fail
    go_ret
    exact ⟨by rw [HR.out]; rfl, by rw [HR.out]; exact H.out, Upd.refl _ _⟩
  · obtain ⟨at_, er⟩ := s
    dsimp only at *
    subst hs
    have HN : Hid (_ = _) := rdNum_0 B at_
    replace c2 : w.cell? ⟨g, 2, none⟩ = some (.int .i64 0) := c2
    have HO := Lib.hid h.own
    have hrl : B.length - at_ = (B.drop at_).length := by rw [List.length_drop]
    clear h
    rcases hb with hb | ⟨c, t, hb, hct⟩
    · have HR : Hid (rdNum B (at_, 0) = (0, at_, 3)) := HN.out.trans (by rw [hb]; simp [numAt])
      have hge : (B.length : Int) ≤ at_ := by rw [hb] at hrl; simp at hrl; omega
      clear HN hb hrl
      go_enter Try.func57, Try.ntmps57
      go_wp2_with fail
      go_quiet (fail)
      have HU := Lib.hid ((Upd.refl [] w).drewN nq)
      generalize w.drewN nq = w1 at *
      have k2 := HU.out.cell c2 (by simp)
      have f2 := (H.out.upd HU.out).cells.frozen 2
      have HS := Lib.hid ((H.out.upd HU.out).set2 (by decide) 3 (by decide))
      have HSU := Lib.hid ((Upd.up (g := g) HU.out).setCell ⟨g, 2, none⟩ (.int .i64 ((3 : Nat) : Int)) (.inl (by simp)))
      go_wp2_with fail
      go_ret
      exact ⟨by rw [HR.out]; rfl, by rw [HR.out]; exact HS.out, HSU.out⟩
    · have hn0 : nth B at_ = c := by have := nth_drop B at_ 0; rw [hb, nth_cons_zero, Nat.add_zero] at this; exact this.symm
      have hlen : B.length = at_ + (t.length + 1) := by rw [hb] at hrl; simp at hrl; omega
      obtain ⟨b, off, rfl, hc0⟩ := HO.out.rd.at_ at_ (by omega)
      rw [hn0] at hc0
      have hlt := c.toNat_lt
      have q0 : ¬ (B.length : Int) ≤ at_ := by omega
      have q1 : (at_ : Int) < B.length := by omega
      rw [hb] at HN
      have HLN := Lib.hid hlen
      clear hn0 hrl hb
      by_cases h8 : 8 < c.toNat
      · have HR : Hid (rdNum B (at_, 0) = (0, at_, 4)) := HN.out.trans (by rw [numAt_cons, if_pos h8]; simp)
        have q8 : (8 : Int) < c.toNat := by omega
        clear HN hct h8 hlen
        go_enter Try.func57, Try.ntmps57
        go_wp2_with fail
        go_quiet (fail)
        have HU := Lib.hid ((Upd.refl [] w).drewN nq)
        generalize w.drewN nq = w1 at *
        have zc0 := HU.out.cell c0 (by simp)
        have zc1 := HU.out.cell c1 (by simp)
        have zhc0 := HU.out.cell hc0 (by simp)
        go_wp2_with fail
        go_quiet (fail)
        have HU2 := Lib.hid (HU.out.drewN nq)
        generalize w1.drewN nq = w2 at *
        clear HU
        have HU := HU2
        clear HU2
        have k2 := HU.out.cell c2 (by simp)
        have f2 := (H.out.upd HU.out).cells.frozen 2
        have HS := Lib.hid ((H.out.upd HU.out).set2 (by decide) 4 (by decide))
        have HSU := Lib.hid ((Upd.up (g := g) HU.out).setCell ⟨g, 2, none⟩ (.int .i64 ((4 : Nat) : Int)) (.inl (by simp)))
        go_wp2_with fail
        go_ret
        exact ⟨by rw [HR.out]; rfl, by rw [HR.out]; exact HS.out, HSU.out⟩
      · have hsh : t.length < c.toNat := by omega
        have HR : Hid (rdNum B (at_, 0) = (0, at_, 3)) := HN.out.trans (by rw [numAt_cons, if_neg h8, if_pos hsh]; simp)
        have q8 : ¬ (8 : Int) < c.toNat := by omega
        have qs : (B.length : Int) - at_ - 1 < c.toNat := by omega
        clear HN hct h8 hsh hlen
        go_enter Try.func57, Try.ntmps57
        go_wp2_with fail
        go_quiet (fail)
        have HU := Lib.hid ((Upd.refl [] w).drewN nq)
        generalize w.drewN nq = w1 at *
        have zc0 := HU.out.cell c0 (by simp)
        have zc1 := HU.out.cell c1 (by simp)
        have zhc0 := HU.out.cell hc0 (by simp)
        go_wp2_with fail
        go_quiet (fail)
        have HU2 := Lib.hid (HU.out.drewN nq)
        generalize w1.drewN nq = w2 at *
        clear HU
        have HU := HU2
        clear HU2
        have zc0 := HU.out.cell c0 (by simp)
        have zc1 := HU.out.cell c1 (by simp)
        go_wp2_with fail
        go_quiet (fail)
        have HU3 := Lib.hid (HU.out.drewN nq)
        generalize w2.drewN nq = w3 at *
        clear HU
        have HU := HU3
        clear HU3
        have k2 := HU.out.cell c2 (by simp)
        have f2 := (H.out.upd HU.out).cells.frozen 2
        have HS := Lib.hid ((H.out.upd HU.out).set2 (by decide) 3 (by decide))
        have HSU := Lib.hid ((Upd.up (g := g) HU.out).setCell ⟨g, 2, none⟩ (.int .i64 ((3 : Nat) : Int)) (.inl (by simp)))
        go_wp2_with fail
        go_ret
        exact ⟨by rw [HR.out]; rfl, by rw [HR.out]; exact HS.out, HSU.out⟩
set_option maxHeartbeats 8000000 in
theorem dNumIn_any (w : World) (at_ : Nat) (c : UInt8) (t : List UInt8) (h : RdrAt 82 base w g v B (at_, 0)) (hb : B.drop at_ = c :: t) (h8 : ¬ 8 < c.toNat) (hsh : ¬ t.length < c.toNat) :
    Calls Try.prog 57 #[.pointer (some ⟨g, 0, none⟩)] w fun x w' => x = .returned (.int .i64 ((rdNum B (at_, 0)).1 : Int)) ∧ RdrAt 82 base w' g v B (rdNum B (at_, 0)).2 ∧ Upd [g] w w' := by
  have H := Lib.hid h
  obtain ⟨a, k, rfl, -⟩ := h.own.rd
  have c0 : w.cell? ⟨g, 0, none⟩ = some (.slice a B.length k) := h.cells.cell 0
  have c1 : w.cell? ⟨g, 1, none⟩ = some (.int .i64 (at_ : Int)) := h.cells.cell 1
  have c2 : w.cell? ⟨g, 2, none⟩ = some (.int .i64 0) := h.cells.cell 2
  have hat : at_ ≤ B.length := h.at_
  have hsz := h.sz
  have HN : Hid (_ = _) := rdNum_0 B at_
  have hrl : B.length - at_ = (B.drop at_).length := by rw [List.length_drop]
  have hnd : ∀ j, nth B (at_ + j) = nth (c :: t) j := fun j => by rw [← hb, nth_drop]
  have hlen : B.length = at_ + (t.length + 1) := by rw [hb] at hrl; simp at hrl; omega
  obtain ⟨b, off, rfl, hc0⟩ := h.own.rd.at_ at_ (by omega)
  have hn0 : nth B at_ = c := by have := hnd 0; rw [nth_cons_zero, Nat.add_zero] at this; exact this
  rw [hn0] at hc0
  have HT := Lib.hid (fun j (hj : j < t.length) => show w.cell? ⟨b, off + (at_ + 1 + j), none⟩ = some (bv (nth t j)) by
    obtain ⟨b', off', he, hcj⟩ := h.own.rd.at_ (at_ + (1 + j)) (by omega)
    cases he
    rw [hnd (1 + j), Nat.add_comm 1 j, nth_cons_succ] at hcj
    rwa [Nat.add_assoc, Nat.add_comm 1 j])
  have hlt := c.toNat_lt
  have q0 : ¬ (B.length : Int) ≤ at_ := by omega
  have q1 : (at_ : Int) < B.length := by omega
  have q8 : ¬ (8 : Int) < c.toNat := by omega
  have qs : ¬ (B.length : Int) - at_ - 1 < c.toNat := by omega
  rw [hb, numAt_cons, if_neg h8, if_neg hsh] at HN
  have HB7 := Lib.hid (fun j (hj : j ≤ 7) => beN_take_lt t j hj)
  have HBS := Lib.hid (fun j (hj : j < t.length) => beN_take_succ t j hj)
  have HB8 := Lib.hid (fun hq => big8 t hq)
  have HLN := Lib.hid hlen
  clear hrl hb hnd hn0 h
  generalize hcn : c.toNat = cn at *
  have hHN : Hid (rdNum B (at_, 0) = if (0 < cn ∧ nth t 0 = 0) ∨ 9223372036854775808 ≤ beN (t.take cn) then (0, at_, 4) else (beN (t.take cn), at_ + (1 + cn), 0)) := by
    unfold Hid; rw [HN.out]; split <;> simp
  have hcn8 : cn ≤ 8 := by omega
  have hcnt : cn ≤ t.length := by omega
  clear HN hlen
  have hx : (cn = 0) ∨ (0 < cn ∧ nth t 0 = 0) ∨ (0 < cn ∧ nth t 0 ≠ 0 ∧ cn = 8 ∧ 127 < (nth t 0).toNat) ∨ (0 < cn ∧ nth t 0 ≠ 0 ∧ cn = 8 ∧ ¬ 127 < (nth t 0).toNat) ∨ (0 < cn ∧ nth t 0 ≠ 0 ∧ cn ≠ 8) := by
    by_cases e0 : cn = 0
    · exact .inl e0
    · by_cases e1 : nth t 0 = 0
      · exact .inr (.inl ⟨by omega, e1⟩)
      · by_cases e2 : cn = 8
        · by_cases e3 : 127 < (nth t 0).toNat
          · exact .inr (.inr (.inl ⟨by omega, e1, e2, e3⟩))
          · exact .inr (.inr (.inr (.inl ⟨by omega, e1, e2, e3⟩)))
        · exact .inr (.inr (.inr (.inr ⟨by omega, e1, e2⟩)))
  go_enter Try.func57, Try.ntmps57
  go_wp2_with fail
  go_quiet (fail)
  have HU := Lib.hid ((Upd.refl [] w).drewN nq)
  generalize w.drewN nq = w1 at *
  have zc0 := HU.out.cell c0 (by simp)
  have zc1 := HU.out.cell c1 (by simp)
  have zhc0 := HU.out.cell hc0 (by simp)
  go_wp2_with fail
  go_quiet (fail)
  have HU2 := Lib.hid (HU.out.drewN nq)
  generalize w1.drewN nq = w2 at *
  have y0 := HU2.out.cell c0 (by simp)
  have y1 := HU2.out.cell c1 (by simp)
  go_wp2_with fail
  go_quiet (fail)
  have HU3 := Lib.hid (HU2.out.drewN nq)
  generalize w2.drewN nq = w3 at *
  have x0 := HU3.out.cell c0 (by simp)
  have x1 := HU3.out.cell c1 (by simp)
  have x2 := HU3.out.cell c2 (by simp)
  clear zc0 zc1 zhc0 y0 y1 HU HU2
  rcases hx with hx | ⟨g1, g2⟩ | ⟨g1, g2, g3, g4⟩ | ⟨g1, g2, g3, g4⟩ | ⟨g1, g2, g3⟩
  · subst hx
    go_wp2_with fail
    go_quiet (fail)
    have HU4 := Lib.hid (HU3.out.drewN nq)
    generalize w3.drewN nq = w4 at *
    clear HU3 x0 x1 x2
    go_wp2_with fail
    go_loop [4, 5] (fun u i => i = .int .i64 0 ∧ u = .int .i64 0) (fun _ _ => 0)
    case atStart => exact ⟨rfl, rfl⟩
    case round =>
      obtain ⟨rfl, rfl⟩ := hrel
      have x0 := HU4.out.cell c0 (by simp)
      have x1 := HU4.out.cell c1 (by simp)
      have HR : Hid (rdNum B (at_, 0) = (0, at_ + 1, 0)) := hHN.out.trans (if_neg (by rintro (q | q); omega; simp [beN] at q))
      have HS := Lib.hid ((H.out.upd HU4.out).set1 (by decide) (at_ + 1) (by have := HLN.out; omega))
      have HSU := Lib.hid ((Upd.up (g := g) HU4.out).setCell ⟨g, 1, none⟩ (.int .i64 ((at_ + 1 : Nat) : Int)) (.inl (by simp)))
      have f1 := (H.out.upd HU4.out).cells.frozen 1
      have hc1' : ((at_ + 1 : Nat) : Int) = (at_ : Int) + 1 := by omega
      rw [hc1'] at HS HSU
      clear hc1' hHN
      go_wp2_with fail
      go_ret
      exact ⟨by rw [HR.out]; rfl, by rw [HR.out]; exact HS.out, HSU.out⟩
  · have HR : Hid (rdNum B (at_, 0) = (0, at_, 4)) := hHN.out.trans (if_pos (.inl ⟨g1, g2⟩))
    have hcj : w3.cell? ⟨b, off + (at_ + 1), none⟩ = some (bv 0) := by have := HU3.out.cell (HT.out 0 (by omega)) (by simp); rw [g2] at this; exact this
    have q2 : (0 : Int) < cn := by omega
    have q3 : (at_ : Int) + 1 < B.length := by have := HLN.out; omega
    clear g2 hHN
    go_wp2_with fail
    go_quiet (fail)
    have HU4 := Lib.hid (HU3.out.drewN nq)
    generalize w3.drewN nq = w4 at *
    have k2 := HU4.out.cell c2 (by simp)
    have f2 := (H.out.upd HU4.out).cells.frozen 2
    have HS := Lib.hid ((H.out.upd HU4.out).set2 (by decide) 4 (by decide))
    have HSU := Lib.hid ((Upd.up (g := g) HU4.out).setCell ⟨g, 2, none⟩ (.int .i64 ((4 : Nat) : Int)) (.inl (by simp)))
    go_wp2_with fail
    go_ret
    exact ⟨by rw [HR.out]; rfl, by rw [HR.out]; exact HS.out, HSU.out⟩
  · have hcj : w3.cell? ⟨b, off + (at_ + 1), none⟩ = some (bv (nth t 0)) := HU3.out.cell (HT.out 0 (by omega)) (by simp)
    have HR : Hid (rdNum B (at_, 0) = (0, at_, 4)) := hHN.out.trans (if_pos (.inr (by rw [g3]; exact (HB8.out (by omega)).2 g4)))
    have q2 : (0 : Int) < cn := by omega
    have q3 : (at_ : Int) + 1 < B.length := by have := HLN.out; omega
    have q4 : (((nth t 0).toNat : Int) == 0) = false := by rw [beq_eq_false_iff_ne]; intro e; exact g2 (UInt8.toNat_inj.1 (show (nth t 0).toNat = 0 by omega))
    have q5 : (127 : Int) < (nth t 0).toNat := by omega
    have q6 : ((cn : Int) == 8) = true := by rw [beq_iff_eq]; omega
    generalize nth t 0 = x0' at *
    clear g2 hHN g4
    go_wp2_with fail
    go_quiet (fail)
    have HU4 := Lib.hid (HU3.out.drewN nq)
    generalize w3.drewN nq = w4 at *
    have k2 := HU4.out.cell c2 (by simp)
    have f2 := (H.out.upd HU4.out).cells.frozen 2
    have HS := Lib.hid ((H.out.upd HU4.out).set2 (by decide) 4 (by decide))
    have HSU := Lib.hid ((Upd.up (g := g) HU4.out).setCell ⟨g, 2, none⟩ (.int .i64 ((4 : Nat) : Int)) (.inl (by simp)))
    go_wp2_with fail
    go_ret
    exact ⟨by rw [HR.out]; rfl, by rw [HR.out]; exact HS.out, HSU.out⟩
  · have hcj : w3.cell? ⟨b, off + (at_ + 1), none⟩ = some (bv (nth t 0)) := HU3.out.cell (HT.out 0 (by omega)) (by simp)
    have hU : beN (t.take cn) < 9223372036854775808 := by
      rw [g3]; have := (HB8.out (by omega)).1
      rcases Nat.lt_or_ge (beN (t.take 8)) 9223372036854775808 with q | q
      · exact q
      · exact absurd (this q) g4
    have hU2 : ¬ (0 < cn ∧ nth t 0 = 0) := fun q => g2 q.2
    have q2 : (0 : Int) < cn := by omega
    have q3 : (at_ : Int) + 1 < B.length := by have := HLN.out; omega
    have q4 : (((nth t 0).toNat : Int) == 0) = false := by rw [beq_eq_false_iff_ne]; intro e; exact g2 (UInt8.toNat_inj.1 (show (nth t 0).toNat = 0 by omega))
    have q5 : ¬ (127 : Int) < (nth t 0).toNat := by omega
    have HU2 := Lib.hid hU2
    clear g2 g4 hU2
    subst g3
    go_wp2_with fail
    go_quiet (fail)
    have HU4 := Lib.hid (HU3.out.drewN nq)
    generalize w3.drewN nq = w4 at *
    clear HU3 x0 x1 x2
    go_wp2_with fail
    clear q2 q3 q4 q5 hcj g1
    go_loopw [4, 5] (fun u i wr => ∃ j : Nat, i = .int .i64 (j : Int) ∧ j ≤ 8 ∧ u = .int .i64 ((beN (t.take j) : Nat) : Int) ∧ Hid (Upd [] w wr)) (fun _ i _ => 8 - (intOf i).toNat)
    case atStart => exact ⟨0, rfl, Nat.zero_le _, rfl, HU4⟩
    case round =>
      obtain ⟨j, rfl, hj, rfl, hu⟩ := hrel
      clear HU4
      have x0 := hu.out.cell c0 (by simp)
      have x1 := hu.out.cell c1 (by simp)
      by_cases hlj : j < 8
      · have hcj := hu.out.cell (HT.out j (by omega)) (by simp)
        have hbd : beN (t.take j) * 256 + (nth t j).toNat < 9223372036854775808 := by
          rw [← HBS.out j (by omega)]
          by_cases e : j + 1 ≤ 7
          · have := HB7.out (j + 1) e; omega
          · have e2 : j + 1 = 8 := by omega
            rw [e2]; exact hU
        have HST := Lib.hid ((or64i (beN (t.take j)) (nth t j) hbd).trans (by rw [← HBS.out j (by omega)]))
        have qj : (at_ : Int) + 1 + j < B.length := by have := HLN.out; omega
        clear hbd
        generalize nth t j = x at *
        obtain ⟨n, HNE⟩ : ∃ n, Hid (beN (t.take j) = n) := ⟨_, rfl⟩
        rw [HNE.out] at HST
        rw [HNE.out]
        go_wp2_with fail
        go_quiet (fail)
        have HU5 := Lib.hid (hu.out.drewN nq)
        generalize wr.drewN nq = w5 at *
        go_wp2_with fail
        go_roundw
        case rel => exact ⟨j + 1, by go_num, by omega, congrArg _ HST.out, HU5⟩
        case measure => simp [intOf]; omega
      · have hje : j = 8 := by omega
        have HR : Hid (rdNum B (at_, 0) = (beN (t.take j), at_ + (1 + 8), 0)) := by
          rw [hje]; exact hHN.out.trans (if_neg (by rintro (q | q); exact HU2.out q; omega))
        have HS := Lib.hid ((H.out.upd hu.out).set1 (by decide) (at_ + (1 + 8)) (by have := HLN.out; omega))
        have HSU := Lib.hid ((Upd.up (g := g) hu.out).setCell ⟨g, 1, none⟩ (.int .i64 ((at_ + (1 + 8) : Nat) : Int)) (.inl (by simp)))
        have f1 := (H.out.upd hu.out).cells.frozen 1
        have hc1' : ((at_ + (1 + 8) : Nat) : Int) = (at_ : Int) + 1 + (8 : Int) := by omega
        rw [hc1'] at HS HSU
        have hjl : ¬ (j : Int) < (8 : Int) := by omega
        have hbU : beN (t.take j) < 9223372036854775808 := by rw [hje]; exact hU
        obtain ⟨n, HNE⟩ : ∃ n, Hid (beN (t.take j) = n) := ⟨_, rfl⟩
        rw [HNE.out] at HR hbU
        rw [HNE.out]
        clear hc1' hHN hje hlj hj hU
        go_wp2_with fail
        go_ret
        exact ⟨by rw [HR.out]; rfl, by rw [HR.out]; exact HS.out, HSU.out⟩
  · have hcj : w3.cell? ⟨b, off + (at_ + 1), none⟩ = some (bv (nth t 0)) := HU3.out.cell (HT.out 0 (by omega)) (by simp)
    have hU : beN (t.take cn) < 9223372036854775808 := by have := HB7.out cn (by omega); omega
    have hU2 : ¬ (0 < cn ∧ nth t 0 = 0) := fun q => g2 q.2
    have q2 : (0 : Int) < cn := by omega
    have q3 : (at_ : Int) + 1 < B.length := by have := HLN.out; omega
    have q4 : (((nth t 0).toNat : Int) == 0) = false := by rw [beq_eq_false_iff_ne]; intro e; exact g2 (UInt8.toNat_inj.1 (show (nth t 0).toNat = 0 by omega))
    have q6 : ((cn : Int) == 8) = false := by rw [beq_eq_false_iff_ne]; omega
    have HU2 := Lib.hid hU2
    clear g2 hU2
    go_wp2_with fail
    go_quiet (fail)
    have HU4 := Lib.hid (HU3.out.drewN nq)
    generalize w3.drewN nq = w4 at *
    clear HU3 x0 x1 x2
    go_wp2_with fail
    clear q2 q3 q4 q6 hcj g1 g3
    go_loopw [4, 5] (fun u i wr => ∃ j : Nat, i = .int .i64 (j : Int) ∧ j ≤ cn ∧ u = .int .i64 ((beN (t.take j) : Nat) : Int) ∧ Hid (Upd [] w wr)) (fun _ i _ => cn - (intOf i).toNat)
    case atStart => exact ⟨0, rfl, Nat.zero_le _, rfl, HU4⟩
    case round =>
      obtain ⟨j, rfl, hj, rfl, hu⟩ := hrel
      clear HU4
      have x0 := hu.out.cell c0 (by simp)
      have x1 := hu.out.cell c1 (by simp)
      by_cases hlj : j < cn
      · have hcj := hu.out.cell (HT.out j (by omega)) (by simp)
        have hbd : beN (t.take j) * 256 + (nth t j).toNat < 9223372036854775808 := by
          rw [← HBS.out j (by omega)]
          by_cases e : j + 1 ≤ 7
          · have := HB7.out (j + 1) e; omega
          · have e2 : j + 1 = cn := by omega
            rw [e2]; exact hU
        have HST := Lib.hid ((or64i (beN (t.take j)) (nth t j) hbd).trans (by rw [← HBS.out j (by omega)]))
        have qj : (at_ : Int) + 1 + j < B.length := by have := HLN.out; omega
        clear hbd
        generalize nth t j = x at *
        obtain ⟨n, HNE⟩ : ∃ n, Hid (beN (t.take j) = n) := ⟨_, rfl⟩
        rw [HNE.out] at HST
        rw [HNE.out]
        go_wp2_with fail
        go_quiet (fail)
        have HU5 := Lib.hid (hu.out.drewN nq)
        generalize wr.drewN nq = w5 at *
        go_wp2_with fail
        go_roundw
        case rel => exact ⟨j + 1, by go_num, by omega, congrArg _ HST.out, HU5⟩
        case measure => simp [intOf]; omega
      · have hje : j = cn := by omega
        have HR : Hid (rdNum B (at_, 0) = (beN (t.take j), at_ + (1 + cn), 0)) := by
          rw [hje]; exact hHN.out.trans (if_neg (by rintro (q | q); exact HU2.out q; omega))
        have HS := Lib.hid ((H.out.upd hu.out).set1 (by decide) (at_ + (1 + cn)) (by have := HLN.out; omega))
        have HSU := Lib.hid ((Upd.up (g := g) hu.out).setCell ⟨g, 1, none⟩ (.int .i64 ((at_ + (1 + cn) : Nat) : Int)) (.inl (by simp)))
        have f1 := (H.out.upd hu.out).cells.frozen 1
        have hc1' : ((at_ + (1 + cn) : Nat) : Int) = (at_ : Int) + 1 + (cn : Int) := by omega
        rw [hc1'] at HS HSU
        have hjl : ¬ (j : Int) < (cn : Int) := by omega
        have hbU : beN (t.take j) < 9223372036854775808 := by rw [hje]; exact hU
        obtain ⟨n, HNE⟩ : ∃ n, Hid (beN (t.take j) = n) := ⟨_, rfl⟩
        rw [HNE.out] at HR hbU
        rw [HNE.out]
        clear hc1' hHN hje hlj hj hU
        go_wp2_with fail
        go_ret
        exact ⟨by rw [HR.out]; rfl, by rw [HR.out]; exact HS.out, HSU.out⟩
theorem dNum_any (w : World) (h : RdrAt 82 base w g v B s) :
    Calls Try.prog 57 #[.pointer (some ⟨g, 0, none⟩)] w fun x w' => x = .returned (.int .i64 ((rdNum B s).1 : Int)) ∧ RdrAt 82 base w' g v B (rdNum B s).2 ∧ Upd [g] w w' := by
  by_cases hs : s.2 = 0
  · cases hr : B.drop s.1 with
    | nil => exact dNumBad_any w h (.inr ⟨hs, .inl hr⟩)
    | cons c t =>
      by_cases hb : 8 < c.toNat ∨ t.length < c.toNat
      · exact dNumBad_any w h (.inr ⟨hs, .inr ⟨c, t, hr, hb⟩⟩)
      · obtain ⟨k, e⟩ := s
        dsimp only at hs hr
        subst hs
        exact dNumIn_any w k c t h hr (fun q => hb (.inl q)) (fun q => hb (.inr q))
  · exact dNumBad_any w h (.inl hs)
end
end Go.Proofs.Ythnmlifnlmdelaa
