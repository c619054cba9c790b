/- The walk of IdentTurned. -/
import Derived.Test.YtamoeipifpilgaaIdentLaws
namespace Go.Proofs.Ytamoeipifpilgaa
open Go.RowKit
set_option linter.unusedSimpArgs false
set_option linter.unusedVariables false

theorem turned_step2 (lim len bt : Nat) (x : BitVec 32) (k : Nat) (h1 : x.getLsbD k = true) (h2 : bt + k < 8 * len) : turned lim len bt x (k + 1) = (turned lim len bt x k || decide ((bt + k) / 8 < lim)) := by
  simp only [turned, h1, decide_eq_true h2]; simp
theorem sameB_turned (l : List UInt8) (bt : Nat) (x : BitVec 32) : sameB ((min l.length 16 : Nat) : Int) (headSum l) (l.length : Int) (l.length : Int) (flips l bt x 32) = !turned 16 l.length bt x 32 := by
  rw [sameB_yes _ _ _ _ _ (by omega) (by omega) (by rw [flips_length]; omega)]
  have h := flips_take_sum (~~~ 0) l bt x _ rfl
  have h2 : sumOn 0 ((flips l bt x 32).take (min l.length 16)) = headSum l ↔ turned 16 l.length bt x 32 = false := by
    unfold headSum
    rw [show l.take 16 = l.take (min l.length 16) by rw [Nat.min_comm, List.take_eq_take_iff]; omega, sum_eq]
    exact h
  cases ht : turned 16 l.length bt x 32
  · rw [decide_eq_true (h2.2 ht)]; rfl
  · rw [decide_eq_false (fun q => by rw [h2.1 q] at ht; cases ht)]; rfl
set_option maxHeartbeats 1000000 in
theorem identTurned_any (w : World) (v : Value) (l : List UInt8) (h : Bytes w v l) (hz : l.length ≤ 140737488351232) (at_ : Int) (hat : I64 at_) (x : BitVec 32) :
    Calls Try.prog 6 #[v, iv at_, .int .u32 (x.toNat : Int)] w fun e w' => e = .returned (.bool true) ∧ Upd [] w w' := by
  have hlen : ∃ a cap, v = .slice a l.length cap := by obtain ⟨a, cap, h, _⟩ := h; exact ⟨a, cap, h⟩
  obtain ⟨a, cap, rfl⟩ := hlen
  have H := Lib.hid h
  have hV : headV l = .agg #[.int .i64 ((min l.length 16 : Nat) : Int), .int .u32 ((headSum l).toNat : Int)] := rfl
  have hT := fun bt => sameB_turned l bt x
  generalize min l.length 16 = kn at hV hT
  generalize headSum l = ks at hV hT
  have HV := Lib.hid hV
  have HT := Lib.hid hT
  clear h hV hT
  by_cases hne : l = []
  · subst hne
    have hf : flips [] 0 x 32 = [] := List.eq_nil_of_length_eq_zero (by rw [flips_length]; rfl)
    have ht : turned 16 0 0 x 32 = false := by
      rw [← Bool.not_eq_true, turned_iff]; rintro ⟨j, _, _, h, _⟩; omega
    have HS : Hid (sameB (kn : Int) ks 0 0 [] = true) := by
      have := HT.out 0
      rw [hf] at this; simp only [List.length_nil] at this; rw [ht] at this; exact this
    clear hf ht
    go_enter Try.func6, Try.ntmps6
    go_wp2_with fail
    refine (head_any _ _ [] H.out).mono ?_
    rintro e w1 ⟨rfl, hu⟩
    rw [HV.out]
    have HU1 := Lib.hid (hu.alloc (.cells #[.int .i64 (kn : Int), .int .u32 (ks.toNat : Int)] 24))
    have HB1 := Lib.hid (Blk.new w1 24 [.int .i64 (kn : Int), .int .u32 (ks.toNat : Int)])
    have hsz := hu.size
    clear hu
    go_wp2_with (at_builtin; refine wpList_app bv_one rfl _ _ rfl Try.underlying26 infoByte rfl (.slice (some ⟨w1.heap.size + 1, 0, none⟩) 0 0) (.slice a 0 cap) [] [] rfl rfl (by have := World.ownsRow_made (base := w.heap.size) (e := 5) (size := 1) (w1.alloc (.cells #[.int .i64 (kn : Int), .int .u32 (ks.toNat : Int)] 24)) #[] 0 (by simp; omega) (Nat.zero_le _) rfl; rw [World.size_alloc] at this; exact this) ((H.out.upd0 HU1.out).alloc _) (by simp) (by simp) (by simp; omega) ?_; intro v1 w2 ho hu hbk; have HR := Lib.hid ho.rd; obtain ⟨ao, co, rfl, _⟩ := ho.rd; have hX : Upd [w1.heap.size + 1] (w1.alloc (.cells #[.int .i64 (kn : Int), .int .u32 (ks.toNat : Int)] 24)) w2 := ((Upd.refl [w1.heap.size + 1] _).alloc _).trans (T := [w1.heap.size + 1]) hu (by simp) (by simp [blk]); have HU : Hid (Upd [] w w2) := HU1.out.trans (T := []) hX (by simp) (by intro x hx; simp at hx; subst hx; right; omega); have hb2 : Blk w2 w1.heap.size 24 [.int .i64 (kn : Int), .int .u32 (ks.toNat : Int)] := HB1.out.upd hX (by simp); have c0 : w2.cell? ⟨w1.heap.size, 0, none⟩ = some (.int .i64 (kn : Int)) := hb2.cell 0; have c1 : w2.cell? ⟨w1.heap.size, 1, none⟩ = some (.int .u32 (ks.toNat : Int)) := hb2.cell 1; clear hX hu ho hbk hb2)
    refine (same_any _ (kn : Int) ks 0 0 _ [] HR.out).mono ?_
    rintro e w3 ⟨rfl, hu3⟩
    rw [HS.out]
    have HU3 := Lib.hid (HU.out.seq hu3)
    clear hu3
    go_wp2_with fail
    refine (identRuns_any _).mono ?_
    rintro e w9 ⟨rfl, hu9⟩
    have HU9 := Lib.hid (HU3.out.seq hu9)
    clear hu9
    go_wp2_with fail
    go_ret
    exact ⟨rfl, HU9.out⟩
  · have hpos : 0 < l.length := List.length_pos_iff.2 hne
    have q0 : (0 : Int) < l.length := by omega
    obtain ⟨hw1, hw2⟩ := within_in at_ 0 (8 * (l.length : Int) - 1) (by omega)
    have HW := Lib.hid (Int.toNat_of_nonneg hw1)
    have hw3 : (within at_ 0 (8 * (l.length : Int) - 1)).toNat < 8 * l.length := by omega
    generalize (within at_ 0 (8 * (l.length : Int) - 1)).toNat = bt at HW hw3
    clear hne hw1 hw2
    go_enter Try.func6, Try.ntmps6
    go_wp2_with fail
    refine (head_any _ _ l H.out).mono ?_
    rintro e w1 ⟨rfl, hu⟩
    rw [HV.out]
    have HU1 := Lib.hid (hu.alloc (.cells #[.int .i64 (kn : Int), .int .u32 (ks.toNat : Int)] 24))
    have HB1 := Lib.hid (Blk.new w1 24 [.int .i64 (kn : Int), .int .u32 (ks.toNat : Int)])
    have hsz := hu.size
    clear hu
    go_wp2_with (at_builtin; refine wpList_app bv_one rfl _ _ rfl Try.underlying26 infoByte rfl (.slice (some ⟨w1.heap.size + 1, 0, none⟩) 0 0) (.slice a l.length cap) [] l rfl rfl (by have := World.ownsRow_made (base := w.heap.size) (e := 5) (size := 1) (w1.alloc (.cells #[.int .i64 (kn : Int), .int .u32 (ks.toNat : Int)] 24)) #[] 0 (by simp; omega) (Nat.zero_le _) rfl; rw [World.size_alloc] at this; exact this) ((H.out.upd0 HU1.out).alloc _) (by simp; omega) (by unfold maxLen; simp; omega) (by simp; omega) ?_; intro v1 w2 ho hu hbk; rw [List.nil_append] at ho; obtain ⟨g, k1, ys, rfl, hg, hb, hk1, hk2⟩ := ho.form (by intro q; rw [q] at hpos; simp at hpos))
    refine (within_any _ _ _ _ hat (by omega) (by omega) (by omega)).mono ?_
    rintro e w' ⟨rfl, rfl⟩
    rw [← HW.out]
    have hX : Upd [w1.heap.size + 1] (w1.alloc (.cells #[.int .i64 (kn : Int), .int .u32 (ks.toNat : Int)] 24)) w2 := ((Upd.refl [w1.heap.size + 1] _).alloc _).trans (T := [w1.heap.size + 1]) hu (by simp) (by simp [blk])
    have HU : Hid (Upd [] w w2) := HU1.out.trans (T := []) hX (by simp) (by intro x hx; simp at hx; subst hx; right; omega)
    clear hX
    have hb2 : Blk w2 w1.heap.size 24 [.int .i64 (kn : Int), .int .u32 (ks.toNat : Int)] := (HB1.out.upd ((Upd.refl [] _).alloc _) (by simp)).upd hu (by simp [blk])
    have hgne : g ≠ w1.heap.size := by
      intro e; subst e
      have e1 := hb; have e2 := hb2
      unfold Blk at e1 e2; rw [e1] at e2; injection e2 with e2; injection e2 with _ e3; exact absurd e3 (by decide)
    have HB := Lib.hid hb
    have HB2 := Lib.hid hb2
    have hkx : k1 ≤ 9223372036854775807 := hk2
    clear hb hb2 hu ho hbk hk2 HU1 HB1
    go_wp2_with fail
    go_loopw [9, 11] (fun tu i wr => ∃ k : Nat, k ≤ 32 ∧ i = .int .i64 k ∧ tu = .bool (turned 16 l.length bt x k) ∧ Hid (Blk wr g 5 ((flips l bt x k).map bv ++ ys)) ∧ Hid (Blk wr w1.heap.size 24 [.int .i64 (kn : Int), .int .u32 (ks.toNat : Int)]) ∧ Hid (Upd [] w wr)) (fun _ i _ => 32 - (intOf i).toNat)
    case atStart => exact ⟨0, by omega, rfl, rfl, HB, HB2, HU⟩
    case round =>
      obtain ⟨k, hk, rfl, rfl, hb, hb2, hu⟩ := hrel
      clear HB HB2 HU
      by_cases hlt : k < 32
      · by_cases hx : x.getLsbD k = true
        · have tx := (bit_test x k).2 hx
          have HX := Lib.hid hx
          clear hx
          by_cases hq : bt + k < 8 * l.length
          · have q1 : (bt : Int) + k < 8 * l.length := by omega
            have hcell : wr.cell? ⟨g, (bt + k) / 8, none⟩ = some (bv (nth (flips l bt x k) ((bt + k) / 8))) := by
              rw [hb.out.cell, List.getElem?_append_left (by simp [flips_length]; omega), List.getElem?_map, List.getElem?_eq_getElem (by rw [flips_length]; omega), nth_get _ _ (by rw [flips_length]; omega)]; rfl
            have hfr : wr.frozen? ⟨g, (bt + k) / 8, none⟩ = false := hb.out.frozen _
            have HR1 : Hid (Blk (wr.setCell ⟨g, (bt + k) / 8, none⟩ (.int .u8 (bits .xor .u8 ((nth (flips l bt x k) ((bt + k) / 8)).toNat : Int) ((2 : Int) ^ ((bt + k) % 8) % 256)))) g 5 ((flips l bt x (k + 1)).map bv ++ ys)) := by
              rw [flips_step _ _ _ _ HX.out hq]
              exact flip_blk (bt + k) (by rw [flips_length]; exact hq) hb.out
            have HR2 := fun u => Lib.hid (hb2.out.upd ((Upd.refl [g] wr).setCell ⟨g, (bt + k) / 8, none⟩ u (.inl (by simp))) (by simp; exact fun e => hgne e.symm))
            have HTS := Lib.hid (turned_step2 16 l.length bt x k HX.out hq)
            cases htk : turned 16 l.length bt x k
            · rw [htk] at HTS
              by_cases h16 : (bt + k) / 8 < 16
              · have q3 : ((bt : Int) + k) / 8 < 16 := by omega
                go_wp2
                go_region
                go_wp2
                go_roundw
                case rel => exact ⟨k + 1, by omega, by go_num, congrArg Value.bool (by rw [HTS.out]; simp; omega), HR1, HR2 _, (hu.out.setCell _ _ (.inr hg)).drew⟩
                case measure => simp [intOf]; omega
              · have q3 : ¬ ((bt : Int) + k) / 8 < 16 := by omega
                go_wp2
                go_region
                go_wp2
                go_roundw
                case rel => exact ⟨k + 1, by omega, by go_num, congrArg Value.bool (by rw [HTS.out]; simp; omega), HR1, HR2 _, (hu.out.setCell _ _ (.inr hg)).drew⟩
                case measure => simp [intOf]; omega
            · rw [htk] at HTS
              go_wp2
              go_region
              go_wp2
              go_roundw
              case rel => exact ⟨k + 1, by omega, by go_num, congrArg Value.bool (by rw [HTS.out]; rfl), HR1, HR2 _, (hu.out.setCell _ _ (.inr hg)).drew⟩
              case measure => simp [intOf]; omega
          · have q1 : ¬ (bt : Int) + k < 8 * l.length := by omega
            go_wp2
            go_roundw
            case rel => exact ⟨k + 1, by omega, by go_num, congrArg Value.bool (turned_stay _ _ _ _ _ (.inr hq)).symm, by rw [flips_stay _ _ _ _ (.inr hq)]; exact hb, hb2, hu⟩
            case measure => simp [intOf]; omega
        · have tx : ¬ (bits .and .u32 ((x.toNat : Int) / 2 ^ k) 1 = 1) := fun q => hx ((bit_test x k).1 q)
          have hx' : x.getLsbD k = false := by simpa using hx
          have HX := Lib.hid hx'
          clear hx hx'
          go_wp2
          go_roundw
          case rel => exact ⟨k + 1, by omega, by go_num, congrArg Value.bool (turned_stay _ _ _ _ _ (.inl HX.out)).symm, by rw [flips_stay _ _ _ _ (.inl HX.out)]; exact hb, hb2, hu⟩
          case measure => simp [intOf]; omega
      · obtain rfl : k = 32 := by omega
        have hrd : Bytes wr (.slice (some ⟨g, 0, none⟩) l.length k1) (flips l bt x 32) := hb.out.rd_pre _ _ _ (flips_length _ _ _ _).symm hk1 hkx
        have HR := Lib.hid hrd
        have c0 : wr.cell? ⟨w1.heap.size, 0, none⟩ = some (.int .i64 (kn : Int)) := hb2.out.cell 0
        have c1 : wr.cell? ⟨w1.heap.size, 1, none⟩ = some (.int .u32 (ks.toNat : Int)) := hb2.out.cell 1
        clear hrd
        go_wp2_with fail
        refine (same_any _ (kn : Int) ks (l.length : Int) (l.length : Int) _ (flips l bt x 32) HR.out).mono ?_
        rintro e w3 ⟨rfl, hu3⟩
        rw [HT.out bt]
        have HU3 := Lib.hid (hu.out.seq hu3)
        clear hu3
        go_wp2_with fail
        refine (identRuns_any _).mono ?_
        rintro e w9 ⟨rfl, hu9⟩
        have HU9 := Lib.hid (HU3.out.seq hu9)
        clear hu9
        go_wp2_with fail
        go_ret
        exact ⟨rfl, HU9.out⟩
end Go.Proofs.Ytamoeipifpilgaa
