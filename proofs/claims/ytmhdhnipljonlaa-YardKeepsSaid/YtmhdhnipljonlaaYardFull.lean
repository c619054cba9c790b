/- The walk of YardFull. -/
import Derived.Test.YtmhdhnipljonlaaYardRuns
import Derived.Test.YtmhdhnipljonlaaWithin
namespace Go.Proofs.Ytmhdhnipljonlaa
open Go.RowKit
set_option linter.unusedSimpArgs false
set_option linter.unusedVariables false
abbrev sF : ByteArray := ⟨#[102]⟩
theorem one_find (bs : List UInt8) (s : ByteArray) : findN [(1, (s, bs))] s = 0 := by unfold findN; rw [List.takeWhile_cons]; simp
theorem one_has (bs : List UInt8) (s : ByteArray) : hasN [(1, (s, bs))] s = true := by unfold hasN; rw [one_find]; simp
theorem one_ino (bs : List UInt8) (s : ByteArray) : inoN [(1, (s, bs))] s = 1 := by unfold inoN; rw [one_find]; rfl
theorem one_bytes (bs : List UInt8) (s : ByteArray) : bytesN [(1, (s, bs))] s = bs := by unfold bytesN; rw [one_find]; rfl
theorem one_set {ν : Type} [Inhabited ν] (a b : ν) : tSet ltY [((1 : Int), a)] 1 b = [(1, b)] := by
  have hb : below ltY [((1 : Int), a)] 1 = 0 := by unfold below; rw [List.takeWhile_cons]; simp
  have hi : isIn ltY [((1 : Int), a)] 1 = true := by unfold isIn; rw [hb]; simp [nth_cons_zero]
  unfold tSet; rw [hi, hb]; rfl
theorem one_append (bs p : List UInt8) (s : ByteArray) : yAppend [(1, (s, bs))] s p = if 65536 < bs.length + p.length then (9, [(1, (s, bs))]) else (0, [(1, (s, bs ++ p))]) := by
  unfold yAppend; rw [one_has, one_ino, one_bytes, one_set]; rfl
theorem one_cut (bs : List UInt8) (k : Nat) (hk : k ≤ bs.length) (s : ByteArray) : yCut [(1, (s, bs))] s (k : Int) = (0, [(1, (s, bs.take k))]) := by
  unfold yCut; rw [one_has, one_ino, one_bytes, one_set, if_pos rfl, if_neg (by omega)]; rfl
theorem one_tell (bs : List UInt8) (s : ByteArray) : yFindF [(1, (s, bs))] s = ((1, s, (bs.length : Int)), true) := by
  unfold yFindF; rw [one_has, one_find]; rfl
set_option maxRecDepth 20000 in
set_option maxHeartbeats 4000000 in
theorem yardFull_any (w : World) (size : Int) (hsz : I64 size) (cut : Int) (hct : I64 cut) :
    Calls Try.prog 4 #[.int .i64 size, .int .i64 cut] w fun e w' => e = .returned (.bool true) ∧ Upd [] w w' := by
  have HSZ : Hid (-9223372036854775808 ≤ size ∧ size ≤ 9223372036854775807) := hsz
  have HCT : Hid (-9223372036854775808 ≤ cut ∧ cut ≤ 9223372036854775807) := hct
  obtain ⟨n1, n2⟩ := within_in size 1 5000 (by omega)
  obtain ⟨n, hn⟩ := Int.eq_ofNat_of_zero_le (show 0 ≤ within size 1 5000 by omega)
  rw [hn] at n1 n2
  have HN := Lib.hid hn
  clear hsz hct hn
  have hmk := fun u => run_mk (P := Try.prog) Try.underlying27 infoByte rfl u n n (n : Int) (n : Int) rfl rfl (Nat.le_refl _) (by omega) (by omega)
  go_enter Try.func4, Try.ntmps4
  go_wp2_with fail
  (with_reducible refine (yNew_any w _ (Upd.refl [] w)).mono ?_)
  rintro e w1 ⟨gy, rfl, ⟨G1, h1, -⟩, -⟩
  have H1 := Lib.hid h1
  clear h1
  go_wp2_with fail
  (with_reducible refine (yCreate_any sF H1.out).mono ?_)
  rintro e w2 ⟨rfl, G2, h2, -, -⟩
  have H2 : Hid (YD w w2 gy G2 [(1, (sF, []))] []) := h2
  rw [show (yCreate [] sF).1 = 0 by kernel_rfl]
  clear h2 H1
  go_wp2_with fail
  (with_reducible refine (within_any _ _ _ _ HSZ.out (by omega) (by omega) (by omega)).mono ?_)
  rintro e w' ⟨rfl, rfl⟩
  rw [HN.out]
  go_wp2_with fail
  have H3 := Lib.hid (H2.out.upd0 ((Upd.refl [] w2).alloc (.cells (List.replicate n (Value.int .u8 0)).toArray 5)))
  have HP3 : Hid (Bytes (w2.alloc (.cells (List.replicate n (Value.int .u8 0)).toArray 5)) (.slice (some ⟨w2.heap.size, 0, none⟩) n n) (List.replicate n 0)) := Rd.lit (List.replicate n 0) rfl (by rw [List.map_replicate]; rfl) (by simp) (Nat.le_refl _) (by unfold maxLen; omega)
  have HG3 : Hid (w2.heap.size ∉ G2) := fun hx => by have := (H2.out.ge _ hx).2; omega
  have HL3 : Hid (w2.heap.size < (w2.alloc (.cells (List.replicate n (Value.int .u8 0)).toArray 5)).heap.size) := by unfold Hid; simp
  go_loopw [8, 9] (fun a i wr => ∃ (k : Nat) (G : List Nat) (bs : List UInt8), k ≤ 80 ∧ i = .int .i64 k ∧ a = .int .i64 (bs.length : Int) ∧ bs.length ≤ 65536 ∧ Hid (YD w wr gy G [(1, (sF, bs))] []) ∧ Hid (Bytes wr (.slice (some ⟨w2.heap.size, 0, none⟩) n n) (List.replicate n 0)) ∧ Hid (w2.heap.size ∉ G) ∧ Hid (w2.heap.size < wr.heap.size)) (fun _ i _ => 80 - (intOf i).toNat)
  case atStart => exact ⟨0, G2, [], by omega, rfl, rfl, by simp, H3, HP3, HG3, HL3⟩
  case round =>
    clear H3 HP3 HG3 HL3
    obtain ⟨k, G, bs, hk, rfl, rfl, hbl, hs, hp, hg, hlt⟩ := hrel
    by_cases hk80 : k < 80
    · have HY := one_append bs (List.replicate n 0) sF
      rw [List.length_replicate] at HY
      by_cases hfit : bs.length + n ≤ 65536
      · rw [if_neg (by omega)] at HY
        have q1 : (bs.length : Int) + n ≤ 65536 := by omega
        have HYH := Lib.hid HY
        clear HY
        go_wp2_with fail
        (with_reducible refine (yAppend_any sF _ _ hp.out (by simp; omega) hs.out).mono ?_)
        rw [HYH.out]
        rintro e w3 ⟨rfl, G3, h3, hu3, hf3⟩
        have HS3 : Hid (YD w w3 gy G3 [(1, (sF, bs ++ List.replicate n 0))] []) := h3
        have HP3 := Lib.hid (hp.out.upd hu3 (fun x hx => by simp [blk] at hx; rw [hx]; exact hg.out))
        have HG3 : Hid (w2.heap.size ∉ G3) := fun hx => by
          rcases hf3 _ hx with q | q
          · exact hg.out q
          · have := hlt.out; omega
        have HL3 : Hid (w2.heap.size < w3.heap.size) := by have := hlt.out; have := hu3.size; unfold Hid; omega
        have hbl3 : (bs ++ List.replicate n 0).length = bs.length + n := by simp
        have HBL := Lib.hid hbl3
        clear h3 hu3 hf3 hs hp hg hlt hbl3
        by_cases h40 : k = 40
        · subst h40
          have hwI := within_in cut 0 ((bs.length : Int) + n) (by omega)
          obtain ⟨c1, c2⟩ := hwI
          obtain ⟨c, hc⟩ := Int.eq_ofNat_of_zero_le c1
          rw [hc] at c2
          have HCW := Lib.hid hc
          have hcl : c ≤ (bs ++ List.replicate n 0).length := by rw [HBL.out]; omega
          have HYC := Lib.hid (one_cut (bs ++ List.replicate n 0) c hcl sF)
          have HCL : Hid (((bs ++ List.replicate n 0).take c).length = c) := by unfold Hid; rw [List.length_take]; omega
          have HI : Hid (I64 (c : Int)) := ⟨by omega, by omega⟩
          clear hc c1 hcl
          go_wp2_with fail
          (with_reducible refine (within_any _ _ _ _ HCT.out (by omega) (by omega) (by omega)).mono ?_)
          rintro e w' ⟨rfl, rfl⟩
          rw [HCW.out]
          go_wp2_with fail
          (with_reducible refine (yCut_any sF (c : Int) HI.out HS3.out).mono ?_)
          rw [HYC.out]
          rintro e w4 ⟨rfl, G4, h4, hu4, hf4⟩
          have HS4 : Hid (YD w w4 gy G4 [(1, (sF, (bs ++ List.replicate n 0).take c))] []) := h4
          have HP4 := Lib.hid (HP3.out.upd hu4 (fun x hx => by simp [blk] at hx; rw [hx]; exact HG3.out))
          have HG4 : Hid (w2.heap.size ∉ G4) := fun hx => by
            rcases hf4 _ hx with q | q
            · exact HG3.out q
            · have := HL3.out; omega
          have HL4 : Hid (w2.heap.size < w4.heap.size) := by have := HL3.out; have := hu4.size; unfold Hid; omega
          clear h4 hu4 hf4 HS3 HP3 HG3 HL3
          go_wp2_with fail
          go_roundw
          case rel => exact ⟨41, G4, _, by omega, by go_num, by rw [HCL.out], by rw [HCL.out]; omega, HS4, HP4, HG4, HL4⟩
          case measure => simp [intOf]
        · have t40 : ((k : Int) == 40) = false := by rw [beq_eq_false_iff_ne]; omega
          clear h40
          go_wp2_with fail
          go_roundw
          case rel => exact ⟨k + 1, G3, _, by omega, by go_num, by rw [HBL.out]; go_num, by rw [HBL.out]; omega, HS3, HP3, HG3, HL3⟩
          case measure => simp [intOf]; omega
      · rw [if_pos (by omega)] at HY
        have q1 : ¬ (bs.length : Int) + n ≤ 65536 := by omega
        have HYH := Lib.hid HY
        clear HY
        go_wp2_with fail
        (with_reducible refine (yAppend_any sF _ _ hp.out (by simp; omega) hs.out).mono ?_)
        rw [HYH.out]
        rintro e w3 ⟨rfl, G3, h3, hu3, hf3⟩
        have HS3 : Hid (YD w w3 gy G3 [(1, (sF, bs))] []) := h3
        have HP3 := Lib.hid (hp.out.upd hu3 (fun x hx => by simp [blk] at hx; rw [hx]; exact hg.out))
        have HG3 : Hid (w2.heap.size ∉ G3) := fun hx => by
          rcases hf3 _ hx with q | q
          · exact hg.out q
          · have := hlt.out; omega
        have HL3 : Hid (w2.heap.size < w3.heap.size) := by have := hlt.out; have := hu3.size; unfold Hid; omega
        clear h3 hu3 hf3 hs hp hg hlt
        by_cases h40 : k = 40
        · subst h40
          have hwI := within_in cut 0 (bs.length : Int) (by omega)
          obtain ⟨c1, c2⟩ := hwI
          obtain ⟨c, hc⟩ := Int.eq_ofNat_of_zero_le c1
          rw [hc] at c2
          have HCW := Lib.hid hc
          have hcl : c ≤ bs.length := by omega
          have HYC := Lib.hid (one_cut bs c hcl sF)
          have HCL : Hid ((bs.take c).length = c) := by unfold Hid; rw [List.length_take]; omega
          have HI : Hid (I64 (c : Int)) := ⟨by omega, by omega⟩
          clear hc c1 hcl
          go_wp2_with fail
          (with_reducible refine (within_any _ _ _ _ HCT.out (by omega) (by omega) (by omega)).mono ?_)
          rintro e w' ⟨rfl, rfl⟩
          rw [HCW.out]
          go_wp2_with fail
          (with_reducible refine (yCut_any sF (c : Int) HI.out HS3.out).mono ?_)
          rw [HYC.out]
          rintro e w4 ⟨rfl, G4, h4, hu4, hf4⟩
          have HS4 : Hid (YD w w4 gy G4 [(1, (sF, bs.take c))] []) := h4
          have HP4 := Lib.hid (HP3.out.upd hu4 (fun x hx => by simp [blk] at hx; rw [hx]; exact HG3.out))
          have HG4 : Hid (w2.heap.size ∉ G4) := fun hx => by
            rcases hf4 _ hx with q | q
            · exact HG3.out q
            · have := HL3.out; omega
          have HL4 : Hid (w2.heap.size < w4.heap.size) := by have := HL3.out; have := hu4.size; unfold Hid; omega
          clear h4 hu4 hf4 HS3 HP3 HG3 HL3
          go_wp2_with fail
          go_roundw
          case rel => exact ⟨41, G4, _, by omega, by go_num, by rw [HCL.out], by rw [HCL.out]; omega, HS4, HP4, HG4, HL4⟩
          case measure => simp [intOf]
        · have t40 : ((k : Int) == 40) = false := by rw [beq_eq_false_iff_ne]; omega
          clear h40
          go_wp2_with fail
          go_roundw
          case rel => exact ⟨k + 1, G3, _, by omega, by go_num, rfl, hbl, HS3, HP3, HG3, HL3⟩
          case measure => simp [intOf]; omega
    · obtain rfl : k = 80 := by omega
      have HT := Lib.hid (one_tell bs sF)
      go_wp2_with fail
      (with_reducible refine (yFindF_any sF hs.out).mono ?_)
      rw [HT.out]
      rintro e w5 ⟨rfl, hu5⟩
      have HO5 := Lib.hid (hs.out.old.seq hu5)
      clear hu5
      go_wp2_with fail
      (with_reducible refine (yardRuns_any _).mono ?_)
      rintro e w9 ⟨rfl, hu9⟩
      go_wp2_with fail
      go_ret
      exact ⟨rfl, (HO5.out.alloc _).seq hu9⟩
end Go.Proofs.Ytmhdhnipljonlaa
