/- The walks of chapter 1's laws. -/
import Derived.Test.YtamoeipifpilgaaSumRuns
import Derived.Test.YtamoeipifpilgaaBookByte
import Derived.Test.YtamoeipifpilgaaOpen
import Derived.Test.YtamoeipifpilgaaFlip
import Derived.Deep.RegionHeld3
namespace Go.Proofs.Ytamoeipifpilgaa
open Go.RowKit
set_option linter.unusedSimpArgs false
set_option linter.unusedVariables false

theorem Roomed.rd {α : Type} [Inhabited α] {c : α → Value} {e : TypeId} {w w' : World} {v : Value} {l : List α} {m : α} (h : Roomed c e w w' v l m) (hl : l.length + 80 ≤ maxLen) : Rd c w' v (l ++ List.replicate 80 m) := by
  obtain ⟨rfl, hb, _⟩ := h
  rw [← List.append_nil ((l ++ List.replicate 80 m).map c)] at hb
  exact hb.rd_pre _ _ _ (by simp) (by omega) hl
theorem Roomed.pre {α : Type} [Inhabited α] {c : α → Value} {e : TypeId} {w w' : World} {v : Value} {l : List α} {m : α} (h : Roomed c e w w' v l m) (hl : l.length + 80 ≤ maxLen) : Rd c w' (.slice (some ⟨w.heap.size, 0, none⟩) l.length (l.length + 80)) l := by
  have h1 := h.rd hl
  obtain ⟨rfl, hb, _⟩ := h
  have h2 := h1.take l.length (by simp)
  simpa using h2

set_option maxHeartbeats 1000000 in
theorem sumTells_any (w : World) (c : BitVec 32) (v : Value) (l : List UInt8) (h : Bytes w v l) (hz : l.length ≤ 140737488351232) (u : Value) (m : List UInt8) (h2 : Bytes w u m) (hz2 : m.length ≤ 140737488351232) :
    Calls Try.prog 8 #[.int .u32 (c.toNat : Int), v, u] w fun e w' => e = .returned (.bool true) ∧ Upd [] w w' := by
  have e1 : (((sumOf [l]).toNat : Int) == ((sumOn 0#32 l).toNat : Int)) = true := beq_self_eq_true _
  have e2 : (((sumOf [l, m]).toNat : Int) == ((sumOn (sumOn 0#32 l) m).toNat : Int)) = true := beq_self_eq_true _
  have hlen : ∃ a cap, v = .slice a l.length cap := by obtain ⟨a, cap, h, _⟩ := h; exact ⟨a, cap, h⟩
  obtain ⟨a, cap, rfl⟩ := hlen
  have hlen : ∃ a cap, u = .slice a m.length cap := by obtain ⟨a, cap, h, _⟩ := h2; exact ⟨a, cap, h⟩
  obtain ⟨a2, cap2, rfl⟩ := hlen
  have hmx : l.length + 80 ≤ maxLen := by unfold maxLen; omega
  have H := Lib.hid h
  have H2 := Lib.hid h2
  have HM := Lib.hid hmx
  clear h h2 hmx
  go_enter Try.func8, Try.ntmps8
  go_wp2_with fail
  refine (roomyByte_any _ l 99 w H.out hz).mono ?_
  rintro e w1 ⟨u1, rfl, hr⟩
  have R1 := Lib.hid (hr.rd HM.out)
  have R2 := Lib.hid (hr.pre HM.out)
  obtain ⟨rfl, hb, hu⟩ := hr
  have HL := Lib.hid (H.out.upd0 hu)
  have HL2 := Lib.hid (H2.out.upd0 hu)
  have HU := Lib.hid hu
  clear hb hu H H2
  go_wp2_with fail
  refine (refOn_any 0 _ l _ HL.out).mono ?_
  rintro e w' ⟨rfl, rfl⟩
  go_wp2_with fail
  refine (on_any c _ l _ R2.out).mono ?_
  rintro e w' ⟨rfl, rfl⟩
  go_wp2_with fail
  refine (refOn_any c _ l _ HL.out).mono ?_
  rintro e w' ⟨rfl, rfl⟩
  go_wp2_with fail
  refine (of_any _ [l] _ (Parts.one _ _ (by simp) rfl rfl rfl R2.out)).mono ?_
  rintro e w' ⟨rfl, rfl⟩
  go_wp2_with fail
  refine (of_any _ [l, m] _ (Parts.two _ _ _ _ (by simp) rfl rfl rfl (R2.out.alloc _) (HL2.out.alloc _))).mono ?_
  rintro e w' ⟨rfl, rfl⟩
  go_wp2_with fail
  refine (refOn_any (sumOn 0 l) _ m _ ((HL2.out.alloc _).alloc _)).mono ?_
  rintro e w' ⟨rfl, rfl⟩
  go_wp2_with fail
  refine (intactByte_ok _ _ l 99 _ ((R1.out.alloc _).alloc _) ((HL.out.alloc _).alloc _) hz).mono ?_
  rintro e w' ⟨rfl, n0, rfl⟩
  go_wp2_with fail
  refine (sumRuns_any _).mono ?_
  rintro e w9 ⟨rfl, hu9⟩
  have HU9 := Lib.hid (((((HU.out).alloc _).alloc _).drewN n0).seq hu9)
  clear hu9
  go_wp2_with fail
  go_ret
  exact ⟨rfl, HU9.out⟩

theorem sum_eq (c : BitVec 32) (l m : List UInt8) : sumOn c l = sumOn c m ↔ onAll (~~~ c) l = onAll (~~~ c) m := by
  unfold sumOn
  constructor
  · intro h
    have := congrArg (fun x => ~~~ x) h
    simpa using this
  · intro h; rw [h]
theorem sum_turned (l m : List UInt8) (b : Bool) (h : onAll (~~~ 0) m = onAll (~~~ 0) l ↔ b = false) : ((((sumOf [m]).toNat : Int) != ((sumOf [l]).toNat : Int)) == b) = true := by
  have h1 : sumOf [m] = sumOf [l] ↔ b = false := (sum_eq 0 m l).trans h
  cases b with
  | false => rw [h1.2 rfl]; simp
  | true =>
    have h2 : sumOf [m] ≠ sumOf [l] := fun e => by have := h1.1 e; cases this
    have h3 : (((sumOf [m]).toNat : Int) != ((sumOf [l]).toNat : Int)) = true := by
      rw [bne_iff_ne]; intro e; exact h2 (BitVec.eq_of_toNat_eq (by omega))
    rw [h3]; rfl
set_option maxHeartbeats 1000000 in
theorem sumBursts_any (w : World) (v : Value) (l : List UInt8) (h : Bytes w v l) (hz : l.length ≤ 140737488351232) (at_ : Int) (hat : I64 at_) (x : BitVec 32) :
    Calls Try.prog 11 #[v, iv at_, .int .u32 (x.toNat : Int)] w fun e w' => e = .returned (.bool true) ∧ Upd [] w w' := by
  have hlen : ∃ a cap, v = .slice a l.length cap := by obtain ⟨a, cap, h, _⟩ := h; exact ⟨a, cap, h⟩
  obtain ⟨a, cap, rfl⟩ := hlen
  have H := Lib.hid h
  clear h
  by_cases hne : l = []
  · subst hne
    have e1 : (((sumOf [[]]).toNat : Int) == 0) = true := by decide +kernel
    go_enter Try.func11, Try.ntmps11
    go_wp2_with fail
    refine (of_any _ [[]] _ (Parts.one _ _ (by simp) rfl rfl rfl H.out)).mono ?_
    rintro e w' ⟨rfl, rfl⟩
    go_wp2_with fail
    refine (sumRuns_any _).mono ?_
    rintro e w9 ⟨rfl, hu9⟩
    have HU9 := Lib.hid (((Upd.refl [] w).alloc _).seq hu9)
    clear hu9
    go_wp2_with fail
    go_ret
    exact ⟨rfl, HU9.out⟩
  · have hpos : 0 < l.length := List.length_pos_iff.2 hne
    have t0 : ((l.length : Int) == 0) = false := by rw [beq_eq_false_iff_ne]; omega
    obtain ⟨hw1, hw2⟩ := within_in at_ 0 (8 * (l.length : Int) - 1) (by omega)
    have HW := Lib.hid (Int.toNat_of_nonneg hw1)
    have hw3 : (within at_ 0 (8 * (l.length : Int) - 1)).toNat < 8 * l.length := by omega
    generalize (within at_ 0 (8 * (l.length : Int) - 1)).toNat = bt at HW hw3
    clear hne hw1 hw2
    go_enter Try.func11, Try.ntmps11
    go_wp2_with (at_builtin; refine wpList_app bv_one rfl _ _ rfl Try.underlying26 infoByte rfl (.slice (some ⟨w.heap.size, 0, none⟩) 0 0) (.slice a l.length cap) [] l rfl rfl (World.ownsRow_made _ #[] 0 (Nat.le_refl _) (Nat.zero_le _) rfl) (H.out.alloc _) (by simp; omega) (by unfold maxLen; simp; omega) (by simp) ?_; intro v1 w1 ho hu hbk)
    refine (within_any _ _ _ _ hat (by omega) (by omega) (by omega)).mono ?_
    rintro e w' ⟨rfl, rfl⟩
    rw [← HW.out]
    obtain ⟨g, k1, ys, rfl, hg, hb, hk1, hk2⟩ := ho.form (by intro q; rw [List.nil_append] at q; rw [q] at hpos; simp at hpos)
    rw [List.nil_append] at hb hk1
    have HU : Hid (Upd [] w w1) := ((Upd.refl [] w).alloc _).trans hu (by simp) (by simp [blk])
    have HB := Lib.hid hb
    simp only [List.nil_append]
    clear hb hu ho hbk
    go_wp2
    have hkx : k1 ≤ 9223372036854775807 := hk2
    clear hk2
    go_loopw [9, 10] (fun tu i wr => ∃ k : Nat, k ≤ 32 ∧ i = .int .i64 k ∧ tu = .bool (turned l.length l.length bt x k) ∧ Hid (Blk wr g 5 ((flips l bt x k).map bv ++ ys)) ∧ Hid (Upd [] w wr)) (fun _ i _ => 32 - (intOf i).toNat)
    case atStart => exact ⟨0, by omega, rfl, rfl, HB, HU⟩
    case round =>
      obtain ⟨k, hk, rfl, rfl, hb, hu⟩ := hrel
      by_cases hlt : k < 32
      · by_cases hx : x.getLsbD k = true
        · have tx := (bit_test x k).2 hx
          have HX := Lib.hid hx
          clear hx
          by_cases hq : bt + k < 8 * l.length
          · have q1 : (bt : Int) + k < 8 * l.length := by omega
            have hcell : wr.cell? ⟨g, (bt + k) / 8, none⟩ = some (bv (nth (flips l bt x k) ((bt + k) / 8))) := by
              rw [hb.out.cell, List.getElem?_append_left (by simp [flips_length]; omega), List.getElem?_map, List.getElem?_eq_getElem (by rw [flips_length]; omega), nth_get _ _ (by rw [flips_length]; omega)]; rfl
            have hfr : wr.frozen? ⟨g, (bt + k) / 8, none⟩ = false := hb.out.frozen _
            go_wp2
            go_region
            go_wp2
            go_roundw
            case rel =>
              refine ⟨k + 1, by omega, by go_num, ?_, ?_, ?_⟩
              · exact congrArg Value.bool (turned_step _ _ _ _ _ HX.out hq (by omega)).symm
              · show Blk _ _ _ _
                rw [flips_step _ _ _ _ HX.out hq]
                exact flip_blk (bt + k) (by rw [flips_length]; exact hq) hb.out
              · exact (hu.out.setCell _ _ (.inr hg)).drew
            case measure => simp [intOf]; omega
          · have q1 : ¬ (bt : Int) + k < 8 * l.length := by omega
            go_wp2
            go_roundw
            case rel => exact ⟨k + 1, by omega, by go_num, congrArg Value.bool (turned_stay _ _ _ _ _ (.inr hq)).symm, by rw [flips_stay _ _ _ _ (.inr hq)]; exact hb, hu⟩
            case measure => simp [intOf]; omega
        · have tx : ¬ (bits .and .u32 ((x.toNat : Int) / 2 ^ k) 1 = 1) := fun q => hx ((bit_test x k).1 q)
          have hx' : x.getLsbD k = false := by simpa using hx
          have HX := Lib.hid hx'
          clear hx hx'
          go_wp2
          go_roundw
          case rel => exact ⟨k + 1, by omega, by go_num, congrArg Value.bool (turned_stay _ _ _ _ _ (.inl HX.out)).symm, by rw [flips_stay _ _ _ _ (.inl HX.out)]; exact hb, hu⟩
          case measure => simp [intOf]; omega
      · obtain rfl : k = 32 := by omega
        have hrd : Bytes wr (.slice (some ⟨g, 0, none⟩) l.length k1) (flips l bt x 32) := hb.out.rd_pre _ _ _ (flips_length _ _ _ _).symm hk1 hkx
        have HR := Lib.hid hrd
        have HL := Lib.hid (H.out.upd0 hu.out)
        have HE := Lib.hid (flips_sum (~~~ 0) l bt x (by omega))
        clear hrd
        go_wp2_with fail
        refine (of_any _ [flips l bt x 32] _ (Parts.one _ _ (by simp) rfl rfl rfl HR.out)).mono ?_
        rintro e w' ⟨rfl, rfl⟩
        go_wp2_with fail
        refine (of_any _ [l] _ (Parts.one _ _ (by simp) rfl rfl rfl (HL.out.alloc _))).mono ?_
        rintro e w' ⟨rfl, rfl⟩
        have tt : ((((sumOf [flips l bt x 32]).toNat : Int) != ((sumOf [l]).toNat : Int)) == turned l.length l.length bt x 32) = true := sum_turned _ _ _ HE.out
        go_wp2_with fail
        refine (sumRuns_any _).mono ?_
        rintro e w9 ⟨rfl, hu9⟩
        have HU9 := Lib.hid (((hu.out.alloc _).alloc _).seq hu9)
        clear hu9
        go_wp2_with fail
        go_ret
        exact ⟨rfl, HU9.out⟩

set_option maxHeartbeats 1000000 in
theorem sumParts_any (w : World) (v : Value) (l : List UInt8) (h : Bytes w v l) (hz : l.length ≤ 140737488351232) (at_ : Int) (hat : I64 at_) (to : Int) (hto : I64 to) :
    Calls Try.prog 9 #[v, iv at_, iv to] w fun e w' => e = .returned (.bool true) ∧ Upd [] w w' := by
  have hlen : ∃ a cap, v = .slice a l.length cap ∧ l.length ≤ cap ∧ cap ≤ 9223372036854775807 := by obtain ⟨a, cap, h, h1, h2, _⟩ := h; exact ⟨a, cap, h, h1, h2⟩
  obtain ⟨a, cap, rfl, hcap, hcap2⟩ := hlen
  have H := Lib.hid h
  clear h
  obtain ⟨hi1, hi2⟩ := within_in at_ 0 (l.length : Int) (by omega)
  have HI := Lib.hid (Int.toNat_of_nonneg hi1)
  have hi3 : (within at_ 0 (l.length : Int)).toNat ≤ l.length := by omega
  generalize (within at_ 0 (l.length : Int)).toNat = i at HI hi3
  obtain ⟨hk1, hk2⟩ := within_in to (i : Int) (l.length : Int) (by omega)
  have HK := Lib.hid (Int.toNat_of_nonneg (show 0 ≤ within to (i : Int) (l.length : Int) by omega))
  have hk3 : (within to (i : Int) (l.length : Int)).toNat ≤ l.length := by omega
  have hk4 : i ≤ (within to (i : Int) (l.length : Int)).toNat := by omega
  generalize (within to (i : Int) (l.length : Int)).toNat = k at HK hk3 hk4
  clear hi1 hi2 hk1 hk2
  go_enter Try.func9, Try.ntmps9
  go_wp2_with fail
  refine (within_any _ _ _ _ hat (by omega) (by omega) (by omega)).mono ?_
  rintro e w' ⟨rfl, rfl⟩
  rw [← HI.out]
  go_wp2_with fail
  refine (within_any _ _ _ _ hto (by omega) (by omega) (by omega)).mono ?_
  rintro e w' ⟨rfl, rfl⟩
  rw [← HK.out]
  go_wp2_with fail
  refine (of_any _ [l] _ (Parts.one _ _ (by simp) rfl rfl rfl H.out)).mono ?_
  rintro e w' ⟨rfl, rfl⟩
  go_wp2_with fail
  have q1 : (i : Int) ≤ k := by omega
  have q2 : (k : Int) ≤ l.length := by omega
  have q3 : (i : Int) ≤ l.length := by omega
  have q4 : (k : Int) ≤ cap := by omega
  have q5 : (i : Int) ≤ cap := by omega
  have q6 : (0 : Int) ≤ i := by omega
  have q7 : (0 : Int) ≤ k := by omega
  have HA := Lib.hid (H.out.take i hi3)
  have HB := Lib.hid (H.out.sub i k hk4 hk3)
  have HC := Lib.hid (H.out.drop k hk3)
  have HD := Lib.hid (H.out.drop i hi3)
  have t1 := toNat_beq (sumOf_parts l i k hk4)
  have t2 := toNat_beq (sumOf_two l i)
  have t3 := toNat_beq (sumOn_nil (sumOf [l]))
  clear H HI HK hat hto hz
  generalize (l.drop i).take (k - i) = lb at *
  generalize l.take i = la at *
  generalize l.drop k = lc at *
  generalize l.drop i = ld at *
  go_region_held3 (fun w' => True) (trivial) (first
    | (go_at_call 20; refine (of_any _ _ _ (by first | with_reducible exact (Parts.one _ la (by simp) rfl rfl rfl ((HA.out.alloc _).alloc _)).drew | exact (Parts.four _ _ _ _ la [] lb lc (by simp) rfl rfl rfl (HA.out.alloc _) (Rd.nil _) (HB.out.alloc _) (HC.out.alloc _)).drew)).mono ?_; rintro e w' ⟨rfl, rfl⟩; dsimp only)
    | (go_at_call 21; refine (on_any _ _ _ _ (by first | exact ((((HD.out.alloc _).alloc _).alloc _).drew) | exact Rd.nil _)).mono ?_; rintro e w' ⟨rfl, rfl⟩; dsimp only)
    | (go_at_call 7; refine (sumRuns_any _).mono ?_; rintro e w9 ⟨rfl, hu9⟩; dsimp only))
  have HU9 := Lib.hid (((((Upd.refl [] w).alloc _).alloc _).alloc _).drew.seq hu9)
  clear hu9
  go_wp2_with fail
  all_goals (go_ret; exact ⟨rfl, HU9.out⟩)
end Go.Proofs.Ytamoeipifpilgaa
