/- A number, a text or a flag that is written, cut off anywhere, ends too early. -/
import Derived.Test.YthnmlifnlmdelaaWireItem
import Derived.Test.YthnmlifnlmdelaaWireBk
import Derived.Test.YthnmlifnlmdelaaWireRuns
import Derived.Test.YthnmlifnlmdelaaOpenItem
import Derived.Test.YthnmlifnlmdelaaWithin
namespace Go.Proofs.Ythnmlifnlmdelaa
open Go.RowKit
set_option linter.unusedSimpArgs false
set_option linter.unusedVariables false
theorem rdNum_cut (m : Nat) (hm : m < 9223372036854775808) (r : List UInt8) (k : Nat) (hk : k < (encNum m).length) : rdNum ((encNum m ++ r).take k) (0, 0) = (0, 0, 3) := by
  rw [List.take_append_of_le_length (by omega), rdNum_0, List.drop_zero, numAt_cut m hm k hk, if_pos (by simp)]
theorem rdNum_whole (m : Nat) (hm : m < 9223372036854775808) (r : List UInt8) : rdNum (encNum m ++ r) (0, 0) = (m, 1 + nb m, 0) := by
  rw [rdNum_0, List.drop_zero, numAt_enc m hm, if_neg (by simp)]; simp
theorem rdUpto_bad (B : List UInt8) (most : Int) (h : rdNum B (0, 0) = (0, 0, 3)) : rdUpto B most (0, 0) = (0, 0, 3) := by
  unfold rdUpto; rw [h, if_neg (by simp)]
theorem rdFlag_bad (B : List UInt8) (h : rdNum B (0, 0) = (0, 0, 3)) : rdFlag B (0, 0) = (false, 0, 3) := by
  unfold rdFlag; rw [h, if_neg (by simp)]; simp
theorem rdText_cut (s : ByteArray) (hs : s.size ≤ 10000000000) (k : Nat) (hk : k < (encText s).length) : (rdText ((encText s).take k) (s.size : Int) (0, 0)).2 = (0, 3) := by
  have hsz : s.data.toList.length = s.size := by simp
  by_cases h1 : k < (encNum s.size).length
  · have h2 := rdNum_cut s.size (by omega) s.data.toList k h1
    unfold encText rdText
    rw [rdUpto_bad _ _ h2, if_pos (by simp)]
  · have hl : (encText s).length = (encNum s.size).length + s.size := by unfold encText; rw [List.length_append, hsz]
    have ht : (encText s).take k = encNum s.size ++ s.data.toList.take (k - (encNum s.size).length) := by
      unfold encText; rw [List.take_append, List.take_of_length_le (by omega)]
    have h2 := rdNum_whole s.size (by omega) (s.data.toList.take (k - (encNum s.size).length))
    rw [← ht] at h2
    have h3 : rdUpto ((encText s).take k) (s.size : Int) (0, 0) = (s.size, 1 + nb s.size, 0) := by
      unfold rdUpto; rw [h2, if_neg (by simp)]
    have hel := encNum_len s.size
    unfold rdText
    rw [h3, if_neg (by simp), if_pos]
    rw [List.length_take]; simp only; omega
theorem rdEnd_bad (B : List UInt8) : rdEnd B (0, 3) = (0, 3) := by unfold rdEnd; rw [if_neg (by simp)]
theorem encNum_pos (m : Nat) : 0 < (encNum m).length := by rw [encNum_len]; omega
set_option maxHeartbeats 8000000 in
/-- The law's way for kinds that are cut, told by what put and back do. -/
theorem cut_walk (w : World) (kd n mo : Int) (s : ByteArray) (f : Bool) (lv : Sl) (at_ : Int) (hat : I64 at_) (B : List UInt8) (hB : 0 < B.length) (hB2 : B.length ≤ 10000000000)
    (hkd : kd = 1 ∨ kd = 2 ∨ kd = 3 ∨ kd = 4)
    (hput : ∀ W, Upd [] w W → Calls Try.prog 38 #[.slice none 0 0, .agg #[.int .i64 kd, .int .i64 n, .int .i64 mo, .string s, .bool f, slv lv]] W fun e w' => PutSaid W B e w')
    (hback : ∀ k, k < B.length → ∀ (W : World) (base g : Nat) (v : Value), RdrAt 79 base W g v (B.take k) (0, 0) → Calls Try.prog 45 #[.pointer (some ⟨g, 0, none⟩), .agg #[.int .i64 kd, .int .i64 n, .int .i64 mo, .string s, .bool f, slv lv]] W fun e w' => ∃ r, BackSaid base W g v (B.take k) r (0, 3) e w') :
    Calls Try.prog 14 #[.agg #[.int .i64 kd, .int .i64 n, .int .i64 mo, .string s, .bool f, slv lv], iv at_] w fun e w' => e = .returned (.bool true) ∧ Upd [] w w' := by
  obtain ⟨la, ln, lk⟩ := lv
  dsimp only [slv] at hput hback ⊢
  have HP := Lib.hid hput
  have HBK := Lib.hid hback
  obtain ⟨hat1, hat2⟩ := hat
  have hk5 : (kd == 5) = false := by rw [beq_eq_false_iff_ne]; omega
  have hbl : ((B.length : Int) == 0) = false := by rw [beq_eq_false_iff_ne]; omega
  obtain ⟨hw1, hw2⟩ := within_in at_ 0 ((B.length : Int) - 1) (by omega)
  have HWK := Lib.hid (Int.toNat_of_nonneg hw1)
  have hkk : (within at_ 0 ((B.length : Int) - 1)).toNat < B.length := by omega
  generalize (within at_ 0 ((B.length : Int) - 1)).toNat = kk at HWK hkk
  clear hput hback hw1 hw2
  go_enter Try.func14, Try.ntmps14
  obtain ⟨w0, hw0⟩ : ∃ x, x = w.alloc (.cells #[.int .i64 kd, .int .i64 n, .int .i64 mo, .string s, .bool f, .slice la ln lk] 58) := ⟨_, rfl⟩
  have HU0 : Hid (Upd [] w w0) := by rw [hw0]; exact (Upd.refl [] w).alloc _
  have HB0 := Lib.hid (Blk.new w 58 [.int .i64 kd, .int .i64 n, .int .i64 mo, .string s, .bool f, .slice la ln lk])
  replace HB0 : Hid (Blk w0 w.heap.size 58 [.int .i64 kd, .int .i64 n, .int .i64 mo, .string s, .bool f, .slice la ln lk]) := by rw [hw0]; exact HB0.out
  go_wp2_with fail
  rw [← hw0]
  clear hw0
  with_reducible refine (HP.out _ HU0.out).mono ?_
  rintro e w1 ⟨x1, y1, rfl, ho1, hoy, hu1⟩
  obtain ⟨a1, k1, rfl, hk1, -⟩ := ho1.rd
  have HU1 := Lib.hid (HU0.out.seq hu1)
  have HO1 := Lib.hid ho1
  have HB1 := Lib.hid (HB0.out.upd hu1 (by simp))
  have c0 : w1.cell? ⟨w.heap.size, 0, none⟩ = some (.int .i64 kd) := HB1.out.cell 0
  have q1 : (kk : Int) ≤ k1 := by omega
  clear ho1 hoy hu1
  go_wp2_with fail
  with_reducible refine (within_any _ _ _ _ ⟨hat1, hat2⟩ (by omega) (by omega) (by omega)).mono ?_
  rintro e w2 ⟨rfl, rfl⟩
  rw [← HWK.out]
  have HT := Lib.hid (HO1.out.rd.take kk (by omega))
  go_wp2_with fail
  with_reducible refine (rRead_any _ _ (B.take kk) HT.out (by rw [List.length_take]; omega)).mono ?_
  rintro e w3 ⟨g, vg, rfl, h3, hu3⟩
  have hg := h3.gb
  have HU3 := Lib.hid (HU1.out.seq hu3)
  have HR3 := Lib.hid h3
  have HB3 := Lib.hid (HB1.out.upd hu3 (by simp))
  have d0 : w3.cell? ⟨w.heap.size, 0, none⟩ = some (.int .i64 kd) := HB3.out.cell 0
  have d1 : w3.cell? ⟨w.heap.size, 1, none⟩ = some (.int .i64 n) := HB3.out.cell 1
  have d2 : w3.cell? ⟨w.heap.size, 2, none⟩ = some (.int .i64 mo) := HB3.out.cell 2
  have d3 : w3.cell? ⟨w.heap.size, 3, none⟩ = some (.string s) := HB3.out.cell 3
  have d4 : w3.cell? ⟨w.heap.size, 4, none⟩ = some (.bool f) := HB3.out.cell 4
  have d5 : w3.cell? ⟨w.heap.size, 5, none⟩ = some (.slice la ln lk) := HB3.out.cell 5
  have hgs : w.heap.size ≤ g := Nat.le_trans HU1.out.size hg
  clear h3 hu3
  go_wp2_with fail
  with_reducible refine (HBK.out kk hkk _ _ _ _ HR3.out).mono ?_
  rintro e w4 ⟨r, rfl, h4, hu4⟩
  have HU4 : Hid (Upd [] w w4) := HU3.out.trans hu4 (by simp) (fun x hx => by simp at hx; subst hx; exact .inr hgs)
  clear hu4 d0 d1 d2 d3 d4 d5 c0
  go_wp2_with fail
  with_reducible refine (rErr_any _ h4).mono ?_
  rintro e w5 ⟨rfl, rfl⟩
  go_wp2_with fail
  with_reducible refine (rAt_any _ h4).mono ?_
  rintro e w5 ⟨rfl, rfl⟩
  go_wp2_with fail
  with_reducible refine (rEnd_any _ h4).mono ?_
  rw [rdEnd_bad]
  rintro e w6 ⟨rfl, h6, hu6⟩
  have HU6 : Hid (Upd [] w w6) := HU4.out.trans hu6 (by simp) (fun x hx => by simp at hx; subst hx; exact .inr hgs)
  clear hu6 h6 h4
  go_wp2_with fail
  with_reducible refine (wireRuns_any _).mono ?_
  rintro e w9 ⟨rfl, hu9⟩
  have HU9 := Lib.hid (HU6.out.seq hu9)
  clear hu9
  go_wp2_with fail
  go_ret
  exact ⟨rfl, HU9.out⟩
set_option maxHeartbeats 4000000 in
/-- The law's way for other kinds. -/
theorem cut_walk2 (w : World) (kd n mo : Int) (s : ByteArray) (f : Bool) (lv : Sl) (at_ : Int) (B : List UInt8)
    (hkd : (kd = 5 ∧ 0 < B.length) ∨ (B = [] ∧ (kd < 1 ∨ 5 < kd)))
    (hput : ∀ W, Upd [] w W → Calls Try.prog 38 #[.slice none 0 0, .agg #[.int .i64 kd, .int .i64 n, .int .i64 mo, .string s, .bool f, slv lv]] W fun e w' => PutSaid W B e w') :
    Calls Try.prog 14 #[.agg #[.int .i64 kd, .int .i64 n, .int .i64 mo, .string s, .bool f, slv lv], iv at_] w fun e w' => e = .returned (.bool true) ∧ Upd [] w w' := by
  obtain ⟨la, ln, lk⟩ := lv
  dsimp only [slv] at hput ⊢
  have HP := Lib.hid hput
  clear hput
  go_enter Try.func14, Try.ntmps14
  obtain ⟨w0, hw0⟩ : ∃ x, x = w.alloc (.cells #[.int .i64 kd, .int .i64 n, .int .i64 mo, .string s, .bool f, .slice la ln lk] 58) := ⟨_, rfl⟩
  have HU0 : Hid (Upd [] w w0) := by rw [hw0]; exact (Upd.refl [] w).alloc _
  have HB0 := Lib.hid (Blk.new w 58 [.int .i64 kd, .int .i64 n, .int .i64 mo, .string s, .bool f, .slice la ln lk])
  replace HB0 : Hid (Blk w0 w.heap.size 58 [.int .i64 kd, .int .i64 n, .int .i64 mo, .string s, .bool f, .slice la ln lk]) := by rw [hw0]; exact HB0.out
  have HK := Lib.hid hkd
  clear hkd
  go_wp2_with fail
  rw [← hw0]
  clear hw0
  with_reducible refine (HP.out _ HU0.out).mono ?_
  rintro e w1 ⟨x1, y1, rfl, ho1, hoy, hu1⟩
  obtain ⟨a1, k1, rfl, hk1, -⟩ := ho1.rd
  have HU1 := Lib.hid (HU0.out.seq hu1)
  have HB1 := Lib.hid (HB0.out.upd hu1 (by simp))
  have c0 : w1.cell? ⟨w.heap.size, 0, none⟩ = some (.int .i64 kd) := HB1.out.cell 0
  clear ho1 hoy hu1
  rcases HK.out with ⟨rfl, hb⟩ | ⟨rfl, hk | hk⟩
  · have hbl : ((B.length : Int) == 0) = false := by rw [beq_eq_false_iff_ne]; omega
    go_wp2_with fail
    with_reducible refine (wireRuns_any _).mono ?_
    rintro e w9 ⟨rfl, hu9⟩
    have HU9 := Lib.hid (HU1.out.seq hu9)
    clear hu9
    go_wp2_with fail
    go_ret
    exact ⟨rfl, HU9.out⟩
  · dsimp only [List.length_nil]
    go_wp2_with fail
    with_reducible refine (wireRuns_any _).mono ?_
    rintro e w9 ⟨rfl, hu9⟩
    have HU9 := Lib.hid (HU1.out.seq hu9)
    clear hu9
    go_wp2_with fail
    go_ret
    exact ⟨rfl, HU9.out⟩
  · dsimp only [List.length_nil]
    have hk1' : ¬ kd < 1 := by omega
    have hk4 : (4 : Int) < kd := by omega
    go_wp2_with fail
    with_reducible refine (wireRuns_any _).mono ?_
    rintro e w9 ⟨rfl, hu9⟩
    have HU9 := Lib.hid (HU1.out.seq hu9)
    clear hu9
    go_wp2_with fail
    go_ret
    exact ⟨rfl, HU9.out⟩
theorem wireCut_any (w : World) (x : Itm) (b : Nat) (hx : ItGood w x b) (hb : b ≤ 1048576) (at_ : Int) (hat : I64 at_) :
    Calls Try.prog 14 #[.agg #[.int .i64 x.kd, .int .i64 x.n, .int .i64 x.mo, .string x.s, .bool x.f, slv x.lv], iv at_] w fun e w' => e = .returned (.bool true) ∧ Upd [] w w' := by
  obtain ⟨kd, n, mo, s, f, lv, l⟩ := x
  obtain ⟨h1, h2, h3, h4, h5, h6, h7⟩ := hx
  dsimp only at *
  have hm : n.toNat < 9223372036854775808 := by have := h2.2; omega
  by_cases k1 : kd = 1
  · subst k1
    refine cut_walk w 1 n mo s f lv at_ hat (encNum n.toNat) (encNum_pos _) (by rw [encNum_len]; have := nb_le8 n.toNat (by omega); omega) (by omega) (fun W _ => by have := put1_any W (.slice none 0 0) [] (Rd.nil W) (by decide) n mo s f lv h2; rwa [List.nil_append] at this) ?_
    intro k hk W base g v hr
    have hbad := rdNum_cut n.toNat hm [] k hk
    rw [List.append_nil] at hbad
    refine (back1_any W n mo s f lv h2 hr).mono ?_
    rintro e w' hh
    rw [hbad] at hh
    exact ⟨_, hh⟩
  · by_cases k4 : kd = 4
    · subst k4
      refine cut_walk w 4 n mo s f lv at_ hat (encNum n.toNat) (encNum_pos _) (by rw [encNum_len]; have := nb_le8 n.toNat (by omega); omega) (by omega) (fun W _ => by have := put4_any W (.slice none 0 0) [] (Rd.nil W) (by decide) n mo s f lv h2; rwa [List.nil_append] at this) ?_
      intro k hk W base g v hr
      have hbad := rdNum_cut n.toNat hm [] k hk
      rw [List.append_nil] at hbad
      refine (back4_any W n mo s f lv h2 hr).mono ?_
      rintro e w' hh
      rw [rdUpto_bad _ _ hbad] at hh
      exact ⟨_, hh⟩
    · by_cases k2 : kd = 2
      · subst k2
        refine cut_walk w 2 n mo s f lv at_ hat (encText s) (by unfold encText; rw [List.length_append]; have := encNum_pos s.size; omega) (by unfold encText; rw [List.length_append, encNum_len]; have := nb_le8 s.size (by omega); simp; omega) (by omega) (fun W _ => by have := put2_any W (.slice none 0 0) [] (Rd.nil W) (by decide) n mo s f lv (by omega); rwa [List.nil_append] at this) ?_
        intro k hk W base g v hr
        have hbad := rdText_cut s (by omega) k hk
        refine (back2_any W n mo s f lv h2 (by omega) hr).mono ?_
        rintro e w' hh
        rw [hbad] at hh
        exact ⟨_, hh⟩
      · by_cases k3 : kd = 3
        · subst k3
          refine cut_walk w 3 n mo s f lv at_ hat (encFlag f) (encNum_pos _) (by unfold encFlag; rw [encNum_len]; have := nb_le8 (if f = true then 1 else 0) (by split <;> omega); omega) (by omega) (fun W _ => by have := put3_any W (.slice none 0 0) [] (Rd.nil W) (by decide) n mo s f lv; rwa [List.nil_append] at this) ?_
          intro k hk W base g v hr
          have hbad := rdNum_cut (if f then 1 else 0) (by split <;> omega) [] k hk
          rw [List.append_nil] at hbad
          refine (back3_any W n mo s f lv h2 hr).mono ?_
          rintro e w' hh
          rw [show encFlag f = encNum (if f then 1 else 0) from rfl, rdFlag_bad _ hbad] at hh
          exact ⟨_, hh⟩
        · by_cases k5 : kd = 5
          · subst k5
            exact cut_walk2 w 5 n mo s f lv at_ (encList l) (.inl ⟨rfl, by unfold encList; rw [List.length_append]; have := encNum_pos l.length; omega⟩) (fun W hu => by have := put5_any W (.slice none 0 0) [] (Rd.nil W) (by decide) n mo s f lv l (h4.upd0 hu) h5 (by omega); rwa [List.nil_append] at this)
          · exact cut_walk2 w kd n mo s f lv at_ [] (.inr ⟨rfl, by omega⟩) (fun W _ => put0_any W (.slice none 0 0) [] (Rd.nil W) (by decide) kd n mo s f lv k1 k2 k3 k4 k5)
end Go.Proofs.Ythnmlifnlmdelaa
