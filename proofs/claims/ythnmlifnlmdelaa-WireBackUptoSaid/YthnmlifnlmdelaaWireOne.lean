/- Bytes that are read as numbers to the end are those that write them. -/
import Derived.Test.YthnmlifnlmdelaaWireRuns
import Derived.Test.YthnmlifnlmdelaaWireItems
namespace Go.Proofs.Ythnmlifnlmdelaa
open Go.RowKit
set_option linter.unusedSimpArgs false
set_option linter.unusedVariables false
theorem rdNum_split (B : List UInt8) (k : Nat) (hk : k ≤ B.length) (h : (rdNum B (k, 0)).2.2 = 0) : ∃ e, (rdNum B (k, 0)).2 = (e, 0) ∧ e ≤ B.length ∧ B.drop k = encNum (rdNum B (k, 0)).1 ++ B.drop e := by
  rw [rdNum_0] at h ⊢
  by_cases hq : (numAt (B.drop k)).2.2 ≠ 0
  · rw [if_pos hq] at h; exact absurd h hq
  · rw [if_neg hq]
    have hq' : (numAt (B.drop k)).2.2 = 0 := by simpa using hq
    have hu := numAt_used _ hq'
    have he := enc_of_numAt _ hq'
    rw [List.length_drop] at hu
    refine ⟨_, rfl, by omega, ?_⟩
    simp only
    rw [he, ← List.drop_drop, List.take_append_drop]
theorem rdNums_split (B : List UInt8) : ∀ (n k : Nat), k ≤ B.length → (rdNums B n (k, 0)).2.2 = 0 → ∃ e, (rdNums B n (k, 0)).2 = (e, 0) ∧ e ≤ B.length ∧ (rdNums B n (k, 0)).1.length = n ∧ B.drop k = (rdNums B n (k, 0)).1.flatMap (fun x => encNum x.toNat) ++ B.drop e
  | 0, k, hk, _ => ⟨k, rfl, hk, rfl, by simp [rdNums]⟩
  | n + 1, k, hk, h => by
    rw [rdNums_step _ _ _ rfl] at h ⊢
    simp only at h ⊢
    by_cases hz : (rdNum B (k, 0)).2.2 = 0
    · obtain ⟨e, h1, h2, h3⟩ := rdNum_split B k hk hz
      rw [h1] at h ⊢
      obtain ⟨e', k1, k2, k3, k4⟩ := rdNums_split B n e h2 h
      refine ⟨e', k1, k2, by rw [List.length_cons, k3], ?_⟩
      rw [List.flatMap_cons, Int.toNat_natCast, List.append_assoc, ← k4, h3]
    · rw [rdNums_stop _ _ _ hz] at h
      exact absurd h hz
theorem rdNums_i64 (B : List UInt8) : ∀ (n : Nat) (s : RSt), s.1 ≤ B.length → s.2 ≤ 5 → ∀ x ∈ (rdNums B n s).1, I64 x
  | 0, s, _, _ => by intro x hx; simp [rdNums] at hx
  | n + 1, s, h1, h2 => by
    intro x hx
    by_cases hz : s.2 = 0
    · rw [rdNums_step _ _ _ hz] at hx
      have hle := rdNum_le B s h1 h2
      rcases List.mem_cons.1 hx with rfl | hx
      · exact ⟨by omega, by omega⟩
      · exact rdNums_i64 B n _ hle.2.2.1 hle.2.2.2.1 x hx
    · rw [rdNums_stop _ _ _ hz] at hx; simp at hx
theorem rdItems_i64 (B : List UInt8) (most : Int) (s : RSt) (h1 : s.1 ≤ B.length) (h2 : s.2 ≤ 5) : ∀ x ∈ (rdItems B most s).1, I64 x := by
  have hle := rdUpto_le B most s h1 h2
  unfold rdItems
  split
  · simp
  · unfold rdItemsAt
    split
    · exact rdNums_i64 B _ _ h1 (by simp)
    · exact rdNums_i64 B _ _ hle.2.2.1 hle.2.2.2.1
theorem items_back (B : List UInt8) (h : (rdEnd B (rdItems B B.length (0, 0)).2).2 = 0) : encList (rdItems B B.length (0, 0)).1 = B ∧ (rdItems B B.length (0, 0)).1.length ≤ B.length := by
  have hle := rdUpto_le B B.length (0, 0) (Nat.zero_le _) (Nat.zero_le _)
  have hil := rdItemsAt_le B B.length (0, 0) (Nat.zero_le _) (Nat.zero_le _)
  by_cases hz : (rdNums B (rdUpto B B.length (0, 0)).1 (rdItemsAt B B.length (0, 0))).2.2 = 0
  · have hI : rdItems B B.length (0, 0) = rdNums B (rdUpto B B.length (0, 0)).1 (rdItemsAt B B.length (0, 0)) := by unfold rdItems; rw [if_neg (by simpa using hz)]
    rw [hI] at h ⊢
    have ha : (rdItemsAt B B.length (0, 0)).2 = 0 := by
      by_cases hq : (rdItemsAt B B.length (0, 0)).2 = 0
      · exact hq
      · rw [rdNums_stop _ _ _ hq] at hz; exact hz
    have hn := hil ha
    have hb : ¬ ((rdUpto B B.length (0, 0)).2.2 = 0 ∧ B.length - (rdUpto B B.length (0, 0)).2.1 < (rdUpto B B.length (0, 0)).1) := fun q => by
      unfold rdItemsAt at ha; rw [if_pos q] at ha; simp at ha
    have hat : rdItemsAt B B.length (0, 0) = (rdUpto B B.length (0, 0)).2 := by unfold rdItemsAt; rw [if_neg hb]
    rw [hat] at ha h hz ⊢
    have hU : rdUpto B B.length (0, 0) = rdNum B (0, 0) := by
      unfold rdUpto at ha ⊢
      split
      · rename_i q; rw [if_pos q] at ha; simp at ha
      · rfl
    rw [hU] at ha h hz hn ⊢
    obtain ⟨e, h1, h2, h3⟩ := rdNum_split B 0 (Nat.zero_le _) ha
    rw [h1] at h hz ⊢
    obtain ⟨e', k1, k2, k3, k4⟩ := rdNums_split B _ e h2 hz
    rw [k1] at h
    have he : e' = B.length := by
      unfold rdEnd at h
      by_cases hq : (e', 0).2 = 0 ∧ (e', 0).1 < B.length
      · rw [if_pos hq] at h; simp at h
      · simp at hq; omega
    refine ⟨?_, by rw [k3]; exact hn⟩
    unfold encList
    rw [k3]
    rw [he, List.drop_length, List.append_nil] at k4
    rw [← k4, ← h3, List.drop_zero]
  · exfalso
    have hI : rdItems B B.length (0, 0) = ([], (rdNums B (rdUpto B B.length (0, 0)).1 (rdItemsAt B B.length (0, 0))).2) := by unfold rdItems; rw [if_pos (by simpa using hz)]
    rw [hI] at h
    unfold rdEnd at h
    rw [if_neg (fun q => hz q.1)] at h
    exact hz h
set_option maxHeartbeats 2000000 in
theorem wireOne_any (w : World) (v : Value) (l : List UInt8) (h : Bytes w v l) (hz : l.length ≤ 1048576) :
    Calls Try.prog 11 #[v] w fun e w' => e = .returned (.bool true) ∧ Upd [] w w' := by
  have H := Lib.hid h
  obtain ⟨a, cap, rfl, -, -, -⟩ := h
  have HB := Lib.hid (items_back l)
  have HI := Lib.hid (rdItems_i64 l l.length (0, 0) (Nat.zero_le _) (Nat.zero_le _))
  go_enter Try.func11, Try.ntmps11
  go_wp2_with fail
  with_reducible refine (rRead_any _ _ l H.out (by omega)).mono ?_
  rintro e w1 ⟨g, vg, rfl, h1, hu1⟩
  have hg : w.heap.size ≤ g := h1.gb
  have HU1 := Lib.hid hu1
  have H1 := Lib.hid h1
  clear h1 hu1
  go_wp2_with fail
  with_reducible refine (rItems_any _ _ (i64_mk (by omega) (by omega)) H1.out).mono ?_
  rintro e w2 ⟨u2, rfl, ho2, h2, hu2⟩
  have HU2 : Hid (Upd [] w w2) := HU1.out.trans hu2 (by simp) (fun x hx => by simp at hx; subst hx; exact .inr hg)
  have HO2 := Lib.hid ho2
  have H2 := Lib.hid h2
  clear ho2 h2 hu2
  go_wp2_with fail
  with_reducible refine (rEnd_any _ H2.out).mono ?_
  rintro e w3 ⟨rfl, h3, hu3⟩
  have HU3 : Hid (Upd [] w w3) := HU2.out.trans hu3 (by simp) (fun x hx => by simp at hx; subst hx; exact .inr hg)
  have HO3 := Lib.hid (HO2.out.upd hu3 (H2.out.nO (by decide) HO2.out))
  clear h3 hu3 HO2 H2 H1
  generalize rdItems l l.length (0, 0) = R at *
  obtain ⟨ns, st⟩ := R
  dsimp only at HB HI HO3
  by_cases he : (rdEnd l st).2 = 0
  · obtain ⟨hb1, hb2⟩ := HB.out he
    have HE := Lib.hid (show [] ++ encList ns = l from hb1)
    dsimp only
    rw [he]
    clear he hb1 HB
    go_wp2_with fail
    with_reducible refine (fList_any _ _ [] ns _ (Rd.nil _) HO3.out.rd HI.out (by decide) (by omega)).mono ?_
    rintro e w4 ⟨v4, rfl, ho4, hu4⟩
    rw [HE.out] at ho4
    have HU4 := Lib.hid (HU3.out.seq hu4)
    have HO4 := Lib.hid ho4
    clear ho4 hu4
    go_wp2_with fail
    with_reducible refine (sameByte_ok _ _ l _ HO4.out.rd (H.out.upd0 HU4.out)).mono ?_
    rintro e w5 ⟨rfl, n5, rfl⟩
    go_wp2_with fail
    with_reducible refine (wireRuns_any _).mono ?_
    rintro e w9 ⟨rfl, hu9⟩
    have HU9 := Lib.hid ((HU4.out.drewN n5).seq hu9)
    clear hu9
    go_wp2_with fail
    go_ret
    exact ⟨rfl, HU9.out⟩
  · dsimp only
    have he2 : (((rdEnd l st).2 : Int) != 0) = true := by rw [bne_iff_ne]; omega
    generalize rdEnd l st = z at *
    clear he HB
    go_wp2_with fail
    with_reducible refine (wireRuns_any _).mono ?_
    rintro e w9 ⟨rfl, hu9⟩
    have HU9 := Lib.hid (HU3.out.seq hu9)
    clear hu9
    go_wp2_with fail
    go_ret
    exact ⟨rfl, HU9.out⟩
end Go.Proofs.Ythnmlifnlmdelaa
