/- The bytes of a greater number stand behind those of a lesser one. -/
import Derived.Test.YthnmlifnlmdelaaWireRuns
import Derived.Test.YthnmlifnlmdelaaStrOrd
import Derived.Deep.RegionWith
namespace Go.Proofs.Ythnmlifnlmdelaa
open Go.RowKit
set_option linter.unusedSimpArgs false
set_option linter.unusedVariables false
theorem less_digits : ∀ (k a b : Nat), Op.bytesLess (beB k a) (beB k b) = decide (a % 256 ^ k < b % 256 ^ k)
  | 0, a, b => by simp [beB, Op.bytesLess]; omega
  | k + 1, a, b => by
    have hP : 0 < 256 ^ k := Nat.pow_pos (by decide)
    have e : ∀ n : Nat, n % 256 ^ (k + 1) = (n / 256 ^ k % 256) * 256 ^ k + n % 256 ^ k := fun n => by rw [Nat.pow_succ, Nat.mod_mul, Nat.add_comm, Nat.mul_comm]
    have ha := Nat.mod_lt a hP
    have hb := Nat.mod_lt b hP
    rw [e a, e b]
    apply Bool.eq_iff_iff.2
    rw [beB, beB, bl_cons, less_digits k a b, decide_eq_true_iff, decide_eq_true_iff, UInt8.toNat_ofNat', UInt8.toNat_ofNat']
    have hx : (2 : Nat) ^ 8 = 256 := by decide
    rw [hx]
    generalize hp : a / 256 ^ k % 256 = p
    generalize hq : b / 256 ^ k % 256 = q
    have heq : (UInt8.ofNat (a / 256 ^ k) = UInt8.ofNat (b / 256 ^ k)) ↔ p = q := by
      rw [← UInt8.toNat_inj, UInt8.toNat_ofNat', UInt8.toNat_ofNat', hx, hp, hq]
    rw [heq]
    generalize 256 ^ k = P at *
    constructor
    · rintro (h | ⟨h, h'⟩)
      · have := Nat.mul_le_mul_right P (show p + 1 ≤ q from h)
        rw [Nat.add_mul, Nat.one_mul] at this; omega
      · rw [h]; omega
    · intro h
      rcases Nat.lt_trichotomy p q with h1 | h1 | h1
      · exact .inl h1
      · subst h1; exact .inr ⟨rfl, by omega⟩
      · have := Nat.mul_le_mul_right P (show q + 1 ≤ p from h1)
        rw [Nat.add_mul, Nat.one_mul] at this; omega
theorem nb_mono (a b : Nat) (h : a ≤ b) : nb a ≤ nb b := by
  rcases Nat.lt_or_ge (nb b) (nb a) with q | q
  · have h1 := (nb_lt (nb b) a).1 q
    have h2 : a / 256 ^ nb b ≤ b / 256 ^ nb b := Nat.div_le_div_right h
    have h3 := Nat.div_eq_of_lt (lt_pow_nb b)
    omega
  · exact q
theorem less_enc (a b : Nat) (ha : a < 9223372036854775808) (hb : b < 9223372036854775808) : Op.bytesLess (encNum a) (encNum b) = decide (a < b) := by
  have h8 := nb_le8 a (by omega)
  have h8b := nb_le8 b (by omega)
  apply Bool.eq_iff_iff.2
  unfold encNum
  rw [bl_cons, decide_eq_true_iff, UInt8.toNat_ofNat', UInt8.toNat_ofNat']
  have e1 : nb a % 2 ^ 8 = nb a := by omega
  have e2 : nb b % 2 ^ 8 = nb b := by omega
  rw [e1, e2]
  have heq : (UInt8.ofNat (nb a) = UInt8.ofNat (nb b)) ↔ nb a = nb b := by rw [← UInt8.toNat_inj, UInt8.toNat_ofNat', UInt8.toNat_ofNat', e1, e2]
  rw [heq]
  constructor
  · rintro (h | ⟨h, h'⟩)
    · rcases Nat.lt_or_ge a b with q | q
      · exact q
      · have := nb_mono b a q; omega
    · rw [h, less_digits, decide_eq_true_iff] at h'
      have h1 := lt_pow_nb a
      rw [h] at h1
      rwa [Nat.mod_eq_of_lt h1, Nat.mod_eq_of_lt (lt_pow_nb b)] at h'
  · intro h
    rcases Nat.lt_or_eq_of_le (nb_mono a b (Nat.le_of_lt h)) with q | q
    · exact .inl q
    · refine .inr ⟨q, ?_⟩
      rw [q, less_digits, decide_eq_true_iff]
      have h1 := lt_pow_nb a
      rw [q] at h1
      rwa [Nat.mod_eq_of_lt h1, Nat.mod_eq_of_lt (lt_pow_nb b)]
theorem enc_inj (a b : Nat) (ha : a < 9223372036854775808) (hb : b < 9223372036854775808) (h : encNum a = encNum b) : a = b := by
  have h1 := numAt_enc a ha []
  have h2 := numAt_enc b hb []
  rw [h, h2] at h1
  exact (congrArg Prod.fst h1).symm
theorem strOf_list (l : List UInt8) : (strOf l).toList = l := by rw [strList_eq]; rfl
theorem strOf_size (l : List UInt8) : (strOf l).size = l.length := by simp [strOf, ByteArray.size]
theorem num_str (W : World) (a : Int) (m : Nat) (ha : I64 a) (hm : a.toNat = m) : Calls Try.prog 26 #[.slice none 0 0, .int .i64 a] W fun e w' =>
    ∃ s k, e = .returned (.slice s (encNum m).length k) ∧ Rd bv w' (.slice s (encNum m).length k) (encNum m) ∧ Upd [] W w' := by
  refine (fNum_any _ [] a W (Rd.nil _) (by decide) ha).mono ?_
  rintro e w1 ⟨v1, rfl, ho1, hu1⟩
  rw [hm, List.nil_append] at ho1
  obtain ⟨a1, k1, hv1, hh⟩ := ho1.rd
  exact ⟨a1, k1, by rw [hv1], by rw [← hv1]; exact ho1.rd, hu1⟩
theorem num_cv {W : World} {v : Value} {l : List UInt8} (h : Rd bv W v l) : (convert 22 9 v).run Try.prog W = .ok (.string (strOf l)) W := convb_str Try.underlying22 Try.underlying5 Try.underlying9 _ _ _ h
set_option maxHeartbeats 4000000 in
theorem wireRises_any (w : World) (a : Int) (ha : I64 a) (b : Int) (hb : I64 b) :
    Calls Try.prog 10 #[iv a, iv b] w fun e w' => e = .returned (.bool true) ∧ Upd [] w w' := by
  have hA : ∃ m : Nat, a.toNat = m ∧ m < 9223372036854775808 := ⟨_, rfl, by have := ha.2; omega⟩
  have hB : ∃ m : Nat, b.toNat = m ∧ m < 9223372036854775808 := ⟨_, rfl, by have := hb.2; omega⟩
  obtain ⟨m, hm, hm2⟩ := hA
  obtain ⟨n, hn, hn2⟩ := hB
  have HA := Lib.hid ha
  have HB := Lib.hid hb
  have HM := Lib.hid hm
  have HN := Lib.hid hn
  have HLT : Hid (Op.bytesLess (strOf (encNum m)).toList (strOf (encNum n)).toList = decide (m < n)) := by unfold Hid; rw [strOf_list, strOf_list]; exact less_enc m n hm2 hn2
  have HEQ : Hid (((strOf (encNum m)).toList == (strOf (encNum n)).toList) = decide (m = n)) := by
    unfold Hid; rw [strOf_list, strOf_list]
    apply Bool.eq_iff_iff.2
    rw [beq_iff_eq, decide_eq_true_iff]
    exact ⟨enc_inj m n hm2 hn2, fun e => by rw [e]⟩
  have hsz : (strOf (encNum m)).size ≤ 9 := by rw [strOf_size, encNum_len]; have := nb_le8 m (by omega); omega
  have HSZ := Lib.hid hsz
  clear ha hb hm hn hsz
  go_enter Try.func10, Try.ntmps10
  go_wp2_with fail
  have HC1 : Hid (∀ W, _) := fun W => num_str W a m HA.out HM.out
  have HC2 : Hid (∀ W, _) := fun W => num_str W b n HB.out HN.out
  go_region_with (first
    | (go_at_call 26; with_reducible refine (HC1.out _).mono ?_; rintro e w1 ⟨s1, k1, rfl, ho1, hu1⟩; have hcv1 := num_cv ho1; dsimp only)
    | (go_at_call 26; with_reducible refine (HC2.out _).mono ?_; rintro e w2 ⟨s2, k2, rfl, ho2, hu2⟩; have hcv3 := num_cv (ho1.upd0 hu2); have hcv2 := num_cv ho2; dsimp only))
  all_goals
    have HU2 := Lib.hid (((Upd.refl [] w).drew.seq hu1).seq hu2)
    have hL := HLT.out
    have hE := HEQ.out
    have hS := HSZ.out
    clear hcv1 hcv2 hcv3 ho1 ho2 hu1 hu2 HLT HEQ HSZ HC1 HC2
    generalize strOf (encNum m) = X at *
    generalize strOf (encNum n) = Y at *
    have hS2 : (X.size : Int) ≤ 9 := by omega
    obtain ⟨P, hP, hPa⟩ : ∃ P : Int, P = (m : Int) ∧ ((a < 0 ∧ P = 0) ∨ (¬ a < 0 ∧ P = a)) := ⟨(m : Int), rfl, by have := HM.out; omega⟩
    obtain ⟨Q, hQ, hQb⟩ : ∃ Q : Int, Q = (n : Int) ∧ ((b < 0 ∧ Q = 0) ∨ (¬ b < 0 ∧ Q = b)) := ⟨(n : Int), rfl, by have := HN.out; omega⟩
    have htri : (decide (P < Q) = true ∧ (P == Q) = false ∧ decide (m < n) = true ∧ decide (m = n) = false) ∨ (decide (P < Q) = false ∧ (P == Q) = true ∧ decide (m < n) = false ∧ decide (m = n) = true) ∨ (decide (P < Q) = false ∧ (P == Q) = false ∧ decide (m < n) = false ∧ decide (m = n) = false) := by
      simp only [decide_eq_true_iff, decide_eq_false_iff_not, beq_iff_eq, beq_eq_false_iff_ne, ne_eq]; omega
    clear hP hQ HM HN hm2 hn2 HA HB hS
    rcases htri with ⟨g1, g2, g3, g4⟩ | ⟨g1, g2, g3, g4⟩ | ⟨g1, g2, g3, g4⟩
  all_goals
    rw [g3] at hL
    rw [g4] at hE
    clear g3 g4
    rcases hPa with ⟨ha1, rfl⟩ | ⟨ha1, rfl⟩ <;> rcases hQb with ⟨hb1, rfl⟩ | ⟨hb1, rfl⟩
  all_goals try (exact absurd g2 (by decide))
  all_goals try (exfalso; have := of_decide_eq_true g1; omega)
  all_goals go_wp2_with fail
  all_goals
    refine (wireRuns_any _).mono ?_
    rintro e w9 ⟨rfl, hu9⟩
    replace hu9 := Lib.hid (HU2.out.seq hu9)
  all_goals go_wp2_with fail
  all_goals go_ret
  all_goals exact ⟨rfl, Hid.out (by assumption)⟩
end Go.Proofs.Ythnmlifnlmdelaa
