/- Chapter 2: Items of a reader. -/
import Derived.Test.YthnmlifnlmdelaaWireRd3
namespace Go.Proofs.Ythnmlifnlmdelaa
open Go.RowKit
set_option linter.unusedSimpArgs false
set_option linter.unusedVariables false
theorem rdNums_stop (B : List UInt8) (n : Nat) (s : RSt) (h : s.2 ≠ 0) : rdNums B n s = ([], s) := by
  cases n with
  | zero => rfl
  | succ n => simp only [rdNums, if_pos h]
theorem rdNums_step (B : List UInt8) (n : Nat) (s : RSt) (h : s.2 = 0) : rdNums B (n + 1) s = (((rdNum B s).1 : Int) :: (rdNums B n (rdNum B s).2).1, (rdNums B n (rdNum B s).2).2) := by
  simp only [rdNums, h]; simp
theorem RdrAt.updO {T : TypeId} {base base' : Nat} {w w' : World} {g : Nat} {v o : Value} {B : List UInt8} {s : RSt} {l : List Int} (h : RdrAt T base w g v B s) (hT : T ≠ 3) (k : Own iv base' 3 w o l) (hu : Upd (blk o) w w') : RdrAt T base w' g v B s := by
  refine ⟨h.cells.upd hu (fun hg => ?_), h.own.upd hu (Own.ne h.own k (by decide)), h.gb, h.at_, h.er, h.sz⟩
  rcases k.2 with ⟨rfl, _⟩ | ⟨g', cap, cur, rfl, hb, hg', _⟩
  · simp [blk] at hg
  · simp [blk] at hg; subst hg
    exact h.cells.ne g hg' hT rfl
theorem RdrAt.nO {T : TypeId} {base base' : Nat} {w : World} {g : Nat} {v o : Value} {B : List UInt8} {s : RSt} {l : List Int} (h : RdrAt T base w g v B s) (hT : T ≠ 3) (k : Own iv base' 3 w o l) : ∀ x ∈ blk o, x ∉ [g] := by
  intro x hx hS
  simp at hS; subst hS
  rcases k.2 with ⟨rfl, _⟩ | ⟨g', cap, cur, rfl, hb, hg', _⟩
  · simp [blk] at hx
  · simp [blk] at hx; subst hx
    exact h.cells.ne x hg' hT rfl
theorem rdItemsAt_le (B : List UInt8) (most : Int) (s : RSt) (h : s.1 ≤ B.length) (h2 : s.2 ≤ 5) : (rdItemsAt B most s).2 = 0 → (rdUpto B most s).1 ≤ B.length := by
  have hle := rdUpto_le B most s h h2
  unfold rdItemsAt
  split
  · simp
  · rename_i hn
    intro he
    have : ¬ B.length - (rdUpto B most s).2.1 < (rdUpto B most s).1 := fun q => hn ⟨he, q⟩
    omega
section
variable {base : Nat} {g : Nat} {v : Value} {B : List UInt8} {s : RSt}
set_option maxHeartbeats 8000000 in
theorem rItems_any (w : World) (most : Int) (hm : I64 most) (h : RdrAt 79 base w g v B s) :
    Calls Try.prog 39 #[.pointer (some ⟨g, 0, none⟩), .int .i64 most, .func (.func 40) #[] #[]] w fun x w' => ∃ u, x = .returned u ∧ Own iv w.heap.size 3 w' u (rdItems B most s).1 ∧ RdrAt 79 base w' g v B (rdItems B most s).2 ∧ Upd [g] w w' := by
  have H := Lib.hid h
  obtain ⟨a, k, rfl, hBk, -⟩ := h.own.rd
  have c1 : w.cell? ⟨g, 1, none⟩ = some (.int .i64 (s.1 : Int)) := h.cells.cell 1
  have hat := h.at_
  have hsz := h.sz
  have hle := rdUpto_le B most s h.at_ h.er
  have hil := rdItemsAt_le B most s h.at_ h.er
  have HI : Hid (rdItemsAt B most s = if (rdUpto B most s).2.2 = 0 ∧ B.length - (rdUpto B most s).2.1 < (rdUpto B most s).1 then (s.1, 3) else (rdUpto B most s).2) := rfl
  have HF : Hid (rdItems B most s = if (rdNums B (rdUpto B most s).1 (rdItemsAt B most s)).2.2 ≠ 0 then ([], (rdNums B (rdUpto B most s).1 (rdItemsAt B most s)).2) else rdNums B (rdUpto B most s).1 (rdItemsAt B most s)) := rfl
  go_enter Try.func39, Try.ntmps39
  go_wp2_with fail
  with_reducible refine (rUpto_any _ most hm H.out).mono ?_
  rintro e w1 ⟨rfl, h1, hu1⟩
  have c2 := h1.cells.cell 2
  have c0 : w1.cell? ⟨g, 0, none⟩ = some (.slice a B.length k) := h1.cells.cell 0
  have d1 := h1.cells.cell 1
  have HU1 := Lib.hid hu1
  have H1 := Lib.hid h1
  clear h1 hu1 h
  generalize rdUpto B most s = r at *
  generalize rdItemsAt B most s = st at *
  obtain ⟨n, at1, er1⟩ := r
  dsimp only at hle HI HF hil
  replace c2 : w1.cell? ⟨g, 2, none⟩ = some (.int .i64 (er1 : Int)) := c2
  replace d1 : w1.cell? ⟨g, 1, none⟩ = some (.int .i64 (at1 : Int)) := d1
  dsimp only
  have hat1 : at1 ≤ B.length := hle.2.2.1
  have hn63 : n < 9223372036854775808 := hle.1
  have hx : (er1 = 0 ∧ B.length - at1 < n ∧ st = (s.1, 3)) ∨ (er1 = 0 ∧ ¬ B.length - at1 < n ∧ st = (at1, er1)) ∨ (er1 ≠ 0 ∧ st = (at1, er1)) := by
    have := HI.out
    by_cases he : er1 = 0
    · by_cases hb : B.length - at1 < n
      · exact .inl ⟨he, hb, this.trans (if_pos ⟨he, hb⟩)⟩
      · exact .inr (.inl ⟨he, hb, this.trans (if_neg (fun q => hb q.2))⟩)
    · exact .inr (.inr ⟨he, this.trans (if_neg (fun q => he q.1))⟩)
  clear HI hle
  rcases hx with ⟨rfl, hb, hst⟩ | ⟨rfl, hb, hst⟩ | ⟨he, hst⟩
  · replace c2 : w1.cell? ⟨g, 2, none⟩ = some (.int .i64 0) := c2
    have hb2 : (B.length : Int) - at1 < n := by omega
    clear hb
    go_wp2_with fail
    go_quiet (fail)
    have HU := Lib.hid ((Upd.refl [] w1).drewN nq)
    generalize w1.drewN nq = w2 at *
    go_wp2_with fail
    with_reducible refine (rWrong_any _ s.1 3 _ 3 rfl rfl (H1.out.upd HU.out) hat (by decide)).mono ?_
    rintro e w3 ⟨rfl, h3, hu3⟩
    have H3 := Lib.hid h3
    have HU3 := Lib.hid ((HU1.out.gg HU.out.up).gg hu3)
    clear h3 hu3
    rw [← hst] at H3
    clear hst c0 c1 c2 d1
    have hn8 : st.2 = 0 → n ≤ 10000000000 := fun q => Nat.le_trans (hil q) hsz
    obtain ⟨RN, hRNe⟩ : ∃ RN, RN = rdNums B n st := ⟨_, rfl⟩
    rw [← hRNe] at HF
    have HN0 : Hid (RN = ([] ++ (rdNums B (n - 0) st).1, (rdNums B (n - 0) st).2)) := by rw [hRNe]; rfl
    clear hRNe
    go_wp2_with fail
    go_loopw [9, 10] (fun o i wr => ∃ (j : Nat) (acc : List Int) (z : RSt), i = .int .i64 (j : Int) ∧ j ≤ n ∧ acc.length = j ∧ (z.2 = 0 → n ≤ 10000000000) ∧ Hid (Own iv w.heap.size 3 wr o acc) ∧ Hid (RdrAt 79 base wr g (.slice a B.length k) B z) ∧ Hid (Upd [g] w wr) ∧ Hid (RN = (acc ++ (rdNums B (n - j) z).1, (rdNums B (n - j) z).2))) (fun _ i _ => n - (intOf i).toNat)
    case atStart => exact ⟨0, [], st, rfl, Nat.zero_le _, rfl, hn8, Own.nil _ _ _, H3.out, HU3.out, HN0⟩
    case round =>
      obtain ⟨j, acc, z, rfl, hj, hacc, hz8, ho, hr, hu, hrn⟩ := hrel
      obtain ⟨ao, ko, hov, -⟩ := ho.out.rd
      subst hov
      subst hacc
      have e2 := hr.out.cells.cell 2
      replace e2 : wr.cell? ⟨g, 2, none⟩ = some (.int .i64 (z.2 : Int)) := e2
      have hzl := rdNum_le B z hr.out.at_ hr.out.er
      clear HN0 hn8
      by_cases hlt : acc.length < n
      · have q1 : (acc.length : Int) < n := by omega
        by_cases hz : z.2 = 0
        · have hRN : Hid (RN = ((acc ++ [((rdNum B z).1 : Int)]) ++ (rdNums B (n - (acc.length + 1)) (rdNum B z).2).1, (rdNums B (n - (acc.length + 1)) (rdNum B z).2).2)) := by
            have e : n - acc.length = (n - (acc.length + 1)) + 1 := by omega
            unfold Hid; rw [hrn.out, e, rdNums_step _ _ _ hz]; simp only [List.append_assoc, List.singleton_append]
          have hn9 := hz8 hz
          rw [hz] at e2
          replace e2 : wr.cell? ⟨g, 2, none⟩ = some (.int .i64 0) := e2
          have HO := Lib.hid ho.out
          clear hrn ho hz8
          go_wp2_with fail
          with_reducible refine (rGets_any _ hr.out).mono ?_
          rintro e w5 ⟨rfl, h5, hu5⟩
          have HU5 := Lib.hid (hu.out.gg hu5)
          have HO5 := Lib.hid (HO.out.upd hu5 (hr.out.nO (by decide) HO.out))
          have H5 := Lib.hid h5
          have hs5 := HU5.out.size
          clear h5 hu5 hu hr HO e2 hz
          generalize rdNum B z = y at *
          obtain ⟨yn, yz⟩ := y
          dsimp only at hRN H5 hzl
          dsimp only
          have HLIT := Lib.hid (Rd.lit (w := w5) (c := iv) [(yn : Int)] (C := #[.int .i64 (yn : Int)]) (e := 3) (fr := (0, 0)) (g := w5.heap.size) (n := 1) (k := 1) rfl rfl rfl (Nat.le_refl _) (by decide))
          go_wp2_with (at_builtin; refine wpList_app (fun _ => rfl) rfl (.tmp 52) (.tmp 56) rfl Try.underlying38 infoInt8 rfl (.slice ao acc.length ko) (.slice (some ⟨w5.heap.size, 0, none⟩) 1 1) acc [(yn : Int)] rfl rfl (HO5.out.upd ((Upd.refl [] w5).alloc _) (by simp)) HLIT.out (by simp; omega) (by unfold maxLen; simp; omega) (by simp; omega) ?_; intro v6 w6 ho6 hu6 hbk6; have HU6 : Hid (Upd [g] w w6) := (HU5.out.alloc _).trans hu6 (by simp) (fun x hx => .inr (HO5.out.ge x hx).1); have HO6 := Lib.hid ho6; have H6 := Lib.hid ((H5.out.upd ((Upd.refl [] w5).alloc _)).updO (by decide) (HO5.out.upd ((Upd.refl [] w5).alloc _) (by simp)) hu6); clear ho6 hu6 hbk6)
          go_roundw
          case rel => exact ⟨acc.length + 1, acc ++ [(yn : Int)], yz, by go_num, by omega, by simp, fun _ => hn9, HO6, H6, HU6, hRN⟩
          case measure => simp [intOf]; omega
        · have hz2 : ((z.2 : Int) == 0) = false := by rw [beq_eq_false_iff_ne]; omega
          have hz3 : ((z.2 : Int) != 0) = true := by rw [bne_iff_ne]; omega
          have HRR : Hid (rdItems B most s = ([], z)) := by unfold Hid; rw [HF.out, hrn.out, rdNums_stop _ _ _ hz]; exact if_pos hz
          clear hrn hz8 hz
          go_wp2_with fail
          go_ret
          exact ⟨_, rfl, by rw [HRR.out]; exact Own.nil _ _ _, by rw [HRR.out]; exact hr.out, hu.out⟩
      · have q1 : ¬ (acc.length : Int) < n := by omega
        have hn0 : n - acc.length = 0 := by omega
        have hRN : Hid (RN = (acc, z)) := by unfold Hid; rw [hrn.out, hn0]; simp [rdNums]
        by_cases hz : z.2 = 0
        · have HRR : Hid (rdItems B most s = (acc, z)) := by unfold Hid; rw [HF.out, hRN.out]; exact if_neg (fun q => q hz)
          rw [hz] at e2
          replace e2 : wr.cell? ⟨g, 2, none⟩ = some (.int .i64 0) := e2
          clear hrn hz8 hRN hz hn0
          go_wp2_with fail
          go_ret
          exact ⟨_, rfl, by rw [HRR.out]; exact ho.out, by rw [HRR.out]; exact hr.out, hu.out⟩
        · have hz3 : ((z.2 : Int) != 0) = true := by rw [bne_iff_ne]; omega
          have HRR : Hid (rdItems B most s = ([], z)) := by unfold Hid; rw [HF.out, hRN.out]; exact if_pos hz
          clear hrn hz8 hRN hz hn0
          go_wp2_with fail
          go_ret
          exact ⟨_, rfl, by rw [HRR.out]; exact Own.nil _ _ _, by rw [HRR.out]; exact hr.out, hu.out⟩
  · replace c2 : w1.cell? ⟨g, 2, none⟩ = some (.int .i64 0) := c2
    have hb2 : ¬ (B.length : Int) - at1 < n := by omega
    clear hb
    go_wp2_with fail
    go_quiet (fail)
    have HU := Lib.hid ((Upd.refl [] w1).drewN nq)
    generalize w1.drewN nq = w3 at *
    have H3 := Lib.hid (H1.out.upd HU.out)
    have HU3 := Lib.hid (HU1.out.gg HU.out.up)
    rw [← hst] at H3
    clear hst c0 c1 c2 d1
    have hn8 : st.2 = 0 → n ≤ 10000000000 := fun q => Nat.le_trans (hil q) hsz
    obtain ⟨RN, hRNe⟩ : ∃ RN, RN = rdNums B n st := ⟨_, rfl⟩
    rw [← hRNe] at HF
    have HN0 : Hid (RN = ([] ++ (rdNums B (n - 0) st).1, (rdNums B (n - 0) st).2)) := by rw [hRNe]; rfl
    clear hRNe
    go_wp2_with fail
    go_loopw [9, 10] (fun o i wr => ∃ (j : Nat) (acc : List Int) (z : RSt), i = .int .i64 (j : Int) ∧ j ≤ n ∧ acc.length = j ∧ (z.2 = 0 → n ≤ 10000000000) ∧ Hid (Own iv w.heap.size 3 wr o acc) ∧ Hid (RdrAt 79 base wr g (.slice a B.length k) B z) ∧ Hid (Upd [g] w wr) ∧ Hid (RN = (acc ++ (rdNums B (n - j) z).1, (rdNums B (n - j) z).2))) (fun _ i _ => n - (intOf i).toNat)
    case atStart => exact ⟨0, [], st, rfl, Nat.zero_le _, rfl, hn8, Own.nil _ _ _, H3.out, HU3.out, HN0⟩
    case round =>
      obtain ⟨j, acc, z, rfl, hj, hacc, hz8, ho, hr, hu, hrn⟩ := hrel
      obtain ⟨ao, ko, hov, -⟩ := ho.out.rd
      subst hov
      subst hacc
      have e2 := hr.out.cells.cell 2
      replace e2 : wr.cell? ⟨g, 2, none⟩ = some (.int .i64 (z.2 : Int)) := e2
      have hzl := rdNum_le B z hr.out.at_ hr.out.er
      clear HN0 hn8
      by_cases hlt : acc.length < n
      · have q1 : (acc.length : Int) < n := by omega
        by_cases hz : z.2 = 0
        · have hRN : Hid (RN = ((acc ++ [((rdNum B z).1 : Int)]) ++ (rdNums B (n - (acc.length + 1)) (rdNum B z).2).1, (rdNums B (n - (acc.length + 1)) (rdNum B z).2).2)) := by
            have e : n - acc.length = (n - (acc.length + 1)) + 1 := by omega
            unfold Hid; rw [hrn.out, e, rdNums_step _ _ _ hz]; simp only [List.append_assoc, List.singleton_append]
          have hn9 := hz8 hz
          rw [hz] at e2
          replace e2 : wr.cell? ⟨g, 2, none⟩ = some (.int .i64 0) := e2
          have HO := Lib.hid ho.out
          clear hrn ho hz8
          go_wp2_with fail
          with_reducible refine (rGets_any _ hr.out).mono ?_
          rintro e w5 ⟨rfl, h5, hu5⟩
          have HU5 := Lib.hid (hu.out.gg hu5)
          have HO5 := Lib.hid (HO.out.upd hu5 (hr.out.nO (by decide) HO.out))
          have H5 := Lib.hid h5
          have hs5 := HU5.out.size
          clear h5 hu5 hu hr HO e2 hz
          generalize rdNum B z = y at *
          obtain ⟨yn, yz⟩ := y
          dsimp only at hRN H5 hzl
          dsimp only
          have HLIT := Lib.hid (Rd.lit (w := w5) (c := iv) [(yn : Int)] (C := #[.int .i64 (yn : Int)]) (e := 3) (fr := (0, 0)) (g := w5.heap.size) (n := 1) (k := 1) rfl rfl rfl (Nat.le_refl _) (by decide))
          go_wp2_with (at_builtin; refine wpList_app (fun _ => rfl) rfl (.tmp 52) (.tmp 56) rfl Try.underlying38 infoInt8 rfl (.slice ao acc.length ko) (.slice (some ⟨w5.heap.size, 0, none⟩) 1 1) acc [(yn : Int)] rfl rfl (HO5.out.upd ((Upd.refl [] w5).alloc _) (by simp)) HLIT.out (by simp; omega) (by unfold maxLen; simp; omega) (by simp; omega) ?_; intro v6 w6 ho6 hu6 hbk6; have HU6 : Hid (Upd [g] w w6) := (HU5.out.alloc _).trans hu6 (by simp) (fun x hx => .inr (HO5.out.ge x hx).1); have HO6 := Lib.hid ho6; have H6 := Lib.hid ((H5.out.upd ((Upd.refl [] w5).alloc _)).updO (by decide) (HO5.out.upd ((Upd.refl [] w5).alloc _) (by simp)) hu6); clear ho6 hu6 hbk6)
          go_roundw
          case rel => exact ⟨acc.length + 1, acc ++ [(yn : Int)], yz, by go_num, by omega, by simp, fun _ => hn9, HO6, H6, HU6, hRN⟩
          case measure => simp [intOf]; omega
        · have hz2 : ((z.2 : Int) == 0) = false := by rw [beq_eq_false_iff_ne]; omega
          have hz3 : ((z.2 : Int) != 0) = true := by rw [bne_iff_ne]; omega
          have HRR : Hid (rdItems B most s = ([], z)) := by unfold Hid; rw [HF.out, hrn.out, rdNums_stop _ _ _ hz]; exact if_pos hz
          clear hrn hz8 hz
          go_wp2_with fail
          go_ret
          exact ⟨_, rfl, by rw [HRR.out]; exact Own.nil _ _ _, by rw [HRR.out]; exact hr.out, hu.out⟩
      · have q1 : ¬ (acc.length : Int) < n := by omega
        have hn0 : n - acc.length = 0 := by omega
        have hRN : Hid (RN = (acc, z)) := by unfold Hid; rw [hrn.out, hn0]; simp [rdNums]
        by_cases hz : z.2 = 0
        · have HRR : Hid (rdItems B most s = (acc, z)) := by unfold Hid; rw [HF.out, hRN.out]; exact if_neg (fun q => q hz)
          rw [hz] at e2
          replace e2 : wr.cell? ⟨g, 2, none⟩ = some (.int .i64 0) := e2
          clear hrn hz8 hRN hz hn0
          go_wp2_with fail
          go_ret
          exact ⟨_, rfl, by rw [HRR.out]; exact ho.out, by rw [HRR.out]; exact hr.out, hu.out⟩
        · have hz3 : ((z.2 : Int) != 0) = true := by rw [bne_iff_ne]; omega
          have HRR : Hid (rdItems B most s = ([], z)) := by unfold Hid; rw [HF.out, hRN.out]; exact if_pos hz
          clear hrn hz8 hRN hz hn0
          go_wp2_with fail
          go_ret
          exact ⟨_, rfl, by rw [HRR.out]; exact Own.nil _ _ _, by rw [HRR.out]; exact hr.out, hu.out⟩
  · have he2 : ((er1 : Int) == 0) = false := by rw [beq_eq_false_iff_ne]; omega
    go_wp2_with fail
    go_quiet (fail)
    have HU := Lib.hid ((Upd.refl [] w1).drewN nq)
    generalize w1.drewN nq = w3 at *
    have H3 := Lib.hid (H1.out.upd HU.out)
    have HU3 := Lib.hid (HU1.out.gg HU.out.up)
    rw [← hst] at H3
    clear hst he c0 c1 c2 d1
    have hn8 : st.2 = 0 → n ≤ 10000000000 := fun q => Nat.le_trans (hil q) hsz
    obtain ⟨RN, hRNe⟩ : ∃ RN, RN = rdNums B n st := ⟨_, rfl⟩
    rw [← hRNe] at HF
    have HN0 : Hid (RN = ([] ++ (rdNums B (n - 0) st).1, (rdNums B (n - 0) st).2)) := by rw [hRNe]; rfl
    clear hRNe
    go_wp2_with fail
    go_loopw [9, 10] (fun o i wr => ∃ (j : Nat) (acc : List Int) (z : RSt), i = .int .i64 (j : Int) ∧ j ≤ n ∧ acc.length = j ∧ (z.2 = 0 → n ≤ 10000000000) ∧ Hid (Own iv w.heap.size 3 wr o acc) ∧ Hid (RdrAt 79 base wr g (.slice a B.length k) B z) ∧ Hid (Upd [g] w wr) ∧ Hid (RN = (acc ++ (rdNums B (n - j) z).1, (rdNums B (n - j) z).2))) (fun _ i _ => n - (intOf i).toNat)
    case atStart => exact ⟨0, [], st, rfl, Nat.zero_le _, rfl, hn8, Own.nil _ _ _, H3.out, HU3.out, HN0⟩
    case round =>
      obtain ⟨j, acc, z, rfl, hj, hacc, hz8, ho, hr, hu, hrn⟩ := hrel
      obtain ⟨ao, ko, hov, -⟩ := ho.out.rd
      subst hov
      subst hacc
      have e2 := hr.out.cells.cell 2
      replace e2 : wr.cell? ⟨g, 2, none⟩ = some (.int .i64 (z.2 : Int)) := e2
      have hzl := rdNum_le B z hr.out.at_ hr.out.er
      clear HN0 hn8
      by_cases hlt : acc.length < n
      · have q1 : (acc.length : Int) < n := by omega
        by_cases hz : z.2 = 0
        · have hRN : Hid (RN = ((acc ++ [((rdNum B z).1 : Int)]) ++ (rdNums B (n - (acc.length + 1)) (rdNum B z).2).1, (rdNums B (n - (acc.length + 1)) (rdNum B z).2).2)) := by
            have e : n - acc.length = (n - (acc.length + 1)) + 1 := by omega
            unfold Hid; rw [hrn.out, e, rdNums_step _ _ _ hz]; simp only [List.append_assoc, List.singleton_append]
          have hn9 := hz8 hz
          rw [hz] at e2
          replace e2 : wr.cell? ⟨g, 2, none⟩ = some (.int .i64 0) := e2
          have HO := Lib.hid ho.out
          clear hrn ho hz8
          go_wp2_with fail
          with_reducible refine (rGets_any _ hr.out).mono ?_
          rintro e w5 ⟨rfl, h5, hu5⟩
          have HU5 := Lib.hid (hu.out.gg hu5)
          have HO5 := Lib.hid (HO.out.upd hu5 (hr.out.nO (by decide) HO.out))
          have H5 := Lib.hid h5
          have hs5 := HU5.out.size
          clear h5 hu5 hu hr HO e2 hz
          generalize rdNum B z = y at *
          obtain ⟨yn, yz⟩ := y
          dsimp only at hRN H5 hzl
          dsimp only
          have HLIT := Lib.hid (Rd.lit (w := w5) (c := iv) [(yn : Int)] (C := #[.int .i64 (yn : Int)]) (e := 3) (fr := (0, 0)) (g := w5.heap.size) (n := 1) (k := 1) rfl rfl rfl (Nat.le_refl _) (by decide))
          go_wp2_with (at_builtin; refine wpList_app (fun _ => rfl) rfl (.tmp 52) (.tmp 56) rfl Try.underlying38 infoInt8 rfl (.slice ao acc.length ko) (.slice (some ⟨w5.heap.size, 0, none⟩) 1 1) acc [(yn : Int)] rfl rfl (HO5.out.upd ((Upd.refl [] w5).alloc _) (by simp)) HLIT.out (by simp; omega) (by unfold maxLen; simp; omega) (by simp; omega) ?_; intro v6 w6 ho6 hu6 hbk6; have HU6 : Hid (Upd [g] w w6) := (HU5.out.alloc _).trans hu6 (by simp) (fun x hx => .inr (HO5.out.ge x hx).1); have HO6 := Lib.hid ho6; have H6 := Lib.hid ((H5.out.upd ((Upd.refl [] w5).alloc _)).updO (by decide) (HO5.out.upd ((Upd.refl [] w5).alloc _) (by simp)) hu6); clear ho6 hu6 hbk6)
          go_roundw
          case rel => exact ⟨acc.length + 1, acc ++ [(yn : Int)], yz, by go_num, by omega, by simp, fun _ => hn9, HO6, H6, HU6, hRN⟩
          case measure => simp [intOf]; omega
        · have hz2 : ((z.2 : Int) == 0) = false := by rw [beq_eq_false_iff_ne]; omega
          have hz3 : ((z.2 : Int) != 0) = true := by rw [bne_iff_ne]; omega
          have HRR : Hid (rdItems B most s = ([], z)) := by unfold Hid; rw [HF.out, hrn.out, rdNums_stop _ _ _ hz]; exact if_pos hz
          clear hrn hz8 hz
          go_wp2_with fail
          go_ret
          exact ⟨_, rfl, by rw [HRR.out]; exact Own.nil _ _ _, by rw [HRR.out]; exact hr.out, hu.out⟩
      · have q1 : ¬ (acc.length : Int) < n := by omega
        have hn0 : n - acc.length = 0 := by omega
        have hRN : Hid (RN = (acc, z)) := by unfold Hid; rw [hrn.out, hn0]; simp [rdNums]
        by_cases hz : z.2 = 0
        · have HRR : Hid (rdItems B most s = (acc, z)) := by unfold Hid; rw [HF.out, hRN.out]; exact if_neg (fun q => q hz)
          rw [hz] at e2
          replace e2 : wr.cell? ⟨g, 2, none⟩ = some (.int .i64 0) := e2
          clear hrn hz8 hRN hz hn0
          go_wp2_with fail
          go_ret
          exact ⟨_, rfl, by rw [HRR.out]; exact ho.out, by rw [HRR.out]; exact hr.out, hu.out⟩
        · have hz3 : ((z.2 : Int) != 0) = true := by rw [bne_iff_ne]; omega
          have HRR : Hid (rdItems B most s = ([], z)) := by unfold Hid; rw [HF.out, hRN.out]; exact if_pos hz
          clear hrn hz8 hRN hz hn0
          go_wp2_with fail
          go_ret
          exact ⟨_, rfl, by rw [HRR.out]; exact Own.nil _ _ _, by rw [HRR.out]; exact hr.out, hu.out⟩
end
end Go.Proofs.Ythnmlifnlmdelaa
