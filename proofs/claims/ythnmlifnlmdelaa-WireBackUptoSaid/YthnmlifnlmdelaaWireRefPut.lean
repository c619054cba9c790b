/- Chapter 2: the document's Num, Text, Flag. -/
import Derived.Test.YthnmlifnlmdelaaWirePut
namespace Go.Proofs.Ythnmlifnlmdelaa
open Go.RowKit
set_option linter.unusedSimpArgs false
set_option linter.unusedVariables false
set_option maxHeartbeats 4000000 in
theorem dNumN_any (v : Value) (l : List UInt8) (m : Nat) (w : World) (h : Bytes w v l) (hz : l.length ≤ 90000000000) (hm : m < 9223372036854775808) :
    Calls Try.prog 54 #[v, .int .i64 (m : Int)] w fun e w' => ∃ x, e = .returned x ∧ Own bv w.heap.size 5 w' x (l ++ encNum m) ∧ Upd [] w w' := by
  have H := Lib.hid h
  have h8 := nb_le8 m (by omega)
  obtain ⟨a, cap, rfl, -, -, -⟩ := h
  go_enter Try.func54, Try.ntmps54
  go_wp2_with (at_builtin; refine wpList_app bv_one rfl (.tmp 9) (.tmp 10) rfl Try.underlying22 infoByte rfl (.slice (some ⟨w.heap.size, 0, none⟩) 0 0) (.slice a l.length cap) [] l rfl rfl (Own.room (base := w.heap.size) (Nat.le_refl _) rfl rfl (Nat.zero_le _)) (H.out.alloc _) (by simp; omega) (by unfold maxLen; simp; omega) (by simp) ?_; intro v1 w1 ho hu hbk; rw [List.nil_append] at ho; have HU1 : Hid (Upd [] w w1) := ((Upd.refl [] w).alloc _).trans hu (by simp) (by simp [blk]); have HO1 := Lib.hid ho; clear ho hu hbk)
  go_loop [6, 7] (fun i x => ∃ k : Nat, i = .int .i64 (k : Int) ∧ k ≤ nb m ∧ x = .int .i64 ((m / 256 ^ k : Nat) : Int)) (fun i _ => 8 - (intOf i).toNat)
  case atStart => exact ⟨0, rfl, Nat.zero_le _, by simp⟩
  case round =>
    obtain ⟨k, rfl, hk, rfl⟩ := hrel
    have hxk : m / 256 ^ k < 9223372036854775808 := Nat.lt_of_le_of_lt (Nat.div_le_self _ _) hm
    have hnx : ((m / 256 ^ k : Nat) : Int) / 256 = ((m / 256 ^ (k + 1) : Nat) : Int) := by
      rw [Nat.pow_succ, ← Nat.div_div_eq_div_mul]; omega
    by_cases hlt : k < nb m
    · have hpos : 0 < m / 256 ^ k := (nb_lt k m).1 hlt
      have hk8 : k < 8 := by omega
      obtain ⟨x, HX⟩ : ∃ x, Hid (m / 256 ^ k = x) := ⟨_, rfl⟩
      rw [HX.out] at hpos hnx hxk
      rw [HX.out]
      have HNX := Lib.hid hnx
      have hp2 : (0 : Int) < x := by omega
      clear hnx
      go_wp2_with fail
      go_round
      case rel => exact ⟨k + 1, by go_num, by omega, congrArg _ HNX.out⟩
      case measure => simp [intOf]; omega
    · have hkm : nb m = k := by omega
      have hk8 : k ≤ 8 := by omega
      have hz0 : m / 256 ^ k = 0 := Nat.eq_zero_of_not_pos (fun q => hlt ((nb_lt k m).2 q))
      rw [hz0]
      clear hnx hxk hz0
      have hkb : k < 256 := by omega
      have HLIT := Lib.hid (Rd.lit (w := w1) (c := bv) [UInt8.ofNat k] (C := #[.int .u8 (k : Int)]) (e := 5) (fr := (0, 0)) (g := w1.heap.size) (n := 1) (k := 1) rfl (by rw [List.map_singleton, byte_small k hkb]) rfl (Nat.le_refl _) (by decide))
      have HEN : Hid (l ++ encNum m = (l ++ [UInt8.ofNat k]) ++ beB k m) := by unfold Hid encNum; rw [hkm]; simp
      have hs1 := HU1.out.size
      have HKM := Lib.hid hkm
      clear hkm hlt
      go_wp2_with (at_builtin; refine wpList_app bv_one rfl (.tmp 21) (.tmp 24) rfl Try.underlying22 infoByte rfl v1 (.slice (some ⟨w1.heap.size, 0, none⟩) 1 1) l [UInt8.ofNat k] rfl rfl (HO1.out.upd ((Upd.refl [] w1).alloc _) (by simp)) HLIT.out (by simp; omega) (by unfold maxLen; simp; omega) (by simp; omega) ?_; intro v2 w2 ho hu hbk; have HU2 : Hid (Upd [] w w2) := (HU1.out.alloc _).trans hu (by simp) (fun x hx => .inr (HO1.out.ge x hx).1); have HO2 := Lib.hid ho; clear ho hu hbk)
      go_loopw [5, 8] (fun b i wr => ∃ (r : Nat) (c : List UInt8), i = .int .i64 ((r : Int) - 1) ∧ r ≤ k ∧ c.length + r = l.length + 1 + k ∧ Hid (Own bv w.heap.size 5 wr b c) ∧ Hid (Upd [] w wr) ∧ Hid (c ++ beB r m = l ++ encNum m)) (fun _ i _ => (intOf i + 1).toNat)
      case atStart => exact ⟨k, l ++ [UInt8.ofNat k], by go_num, Nat.le_refl _, by simp, HO2, HU2, HEN.out.symm⟩
      case round =>
        obtain ⟨r, c, rfl, hr, hcl, hob, hu, hen⟩ := hrel
        cases r with
        | zero =>
          have HR : Hid (c = l ++ encNum m) := by have := hen.out; unfold Hid; rw [beB, List.append_nil] at this; exact this
          go_wp2_with fail
          go_ret
          exact ⟨_, rfl, by rw [← HR.out]; exact hob.out, hu.out⟩
        | succ r =>
          have q1 : ((r + 1 : Nat) : Int) - 1 = (r : Int) := by omega
          rw [q1]
          clear q1
          have hr8 : r ≤ 8 := by omega
          have HEN2 : Hid ((c ++ [UInt8.ofNat (m / 256 ^ r)]) ++ beB r m = l ++ encNum m) := by have := hen.out; unfold Hid; rw [beB] at this; rw [← this]; simp
          have HLIT2 := Lib.hid (Rd.lit (w := wr) (c := bv) [UInt8.ofNat (m / 256 ^ r)] (C := #[.int .u8 ((m : Int) / 2 ^ (8 * r) % 256)]) (e := 5) (fr := (0, 0)) (g := wr.heap.size) (n := 1) (k := 1) rfl (by rw [List.map_singleton, byte_at]) rfl (Nat.le_refl _) (by decide))
          have hs2 := hu.out.size
          generalize UInt8.ofNat (m / 256 ^ r) = y at *
          obtain ⟨ab, cb, rfl, -⟩ := hob.out.rd
          go_wp2_with (at_builtin; refine wpList_app bv_one rfl (.tmp 32) (.tmp 38) rfl Try.underlying22 infoByte rfl (.slice ab c.length cb) (.slice (some ⟨wr.heap.size, 0, none⟩) 1 1) c [y] rfl rfl (hob.out.upd ((Upd.refl [] wr).alloc _) (by simp)) HLIT2.out (by simp; omega) (by unfold maxLen; simp; omega) (by simp; omega) ?_; intro v4 w4 ho hu4 hbk; have HU4 : Hid (Upd [] w w4) := (hu.out.alloc _).trans hu4 (by simp) (fun x hx => .inr (hob.out.ge x hx).1); have HO4 := Lib.hid ho; clear ho hu4 hbk)
          go_roundw
          case rel => exact ⟨r, c ++ [y], by go_num, by omega, by simp; omega, HO4, HU4, HEN2⟩
          case measure => simp [intOf]; try omega
set_option maxHeartbeats 4000000 in
theorem dNumNeg_any (v : Value) (l : List UInt8) (M : Int) (w : World) (h : Bytes w v l) (hz : l.length ≤ 90000000000) (hM : M < 0) (hM1 : -9223372036854775808 ≤ M) :
    Calls Try.prog 54 #[v, .int .i64 M] w fun e w' => ∃ x, e = .returned x ∧ Own bv w.heap.size 5 w' x (l ++ encNum 0) ∧ Upd [] w w' := by
  have H := Lib.hid h
  obtain ⟨a, cap, rfl, -, -, -⟩ := h
  go_enter Try.func54, Try.ntmps54
  go_wp2_with (at_builtin; refine wpList_app bv_one rfl (.tmp 9) (.tmp 10) rfl Try.underlying22 infoByte rfl (.slice (some ⟨w.heap.size, 0, none⟩) 0 0) (.slice a l.length cap) [] l rfl rfl (Own.room (base := w.heap.size) (Nat.le_refl _) rfl rfl (Nat.zero_le _)) (H.out.alloc _) (by simp; omega) (by unfold maxLen; simp; omega) (by simp) ?_; intro v1 w1 ho hu hbk; rw [List.nil_append] at ho; have HU1 : Hid (Upd [] w w1) := ((Upd.refl [] w).alloc _).trans hu (by simp) (by simp [blk]); have HO1 := Lib.hid ho; clear ho hu hbk)
  have hs1 := HU1.out.size
  go_loop [6, 7] (fun i x => i = .int .i64 0 ∧ x = .int .i64 0) (fun _ _ => 0)
  case atStart => exact ⟨rfl, rfl⟩
  case round =>
    obtain ⟨rfl, rfl⟩ := hrel
    have HLIT := Lib.hid (Rd.lit (w := w1) (c := bv) [(0 : UInt8)] (C := #[.int .u8 0]) (e := 5) (fr := (0, 0)) (g := w1.heap.size) (n := 1) (k := 1) rfl rfl rfl (Nat.le_refl _) (by decide))
    go_wp2_with (at_builtin; refine wpList_app bv_one rfl (.tmp 21) (.tmp 24) rfl Try.underlying22 infoByte rfl v1 (.slice (some ⟨w1.heap.size, 0, none⟩) 1 1) l [(0 : UInt8)] rfl rfl (HO1.out.upd ((Upd.refl [] w1).alloc _) (by simp)) HLIT.out (by simp; omega) (by unfold maxLen; simp; omega) (by simp; omega) ?_; intro v2 w2 ho hu hbk; have HU2 : Hid (Upd [] w w2) := (HU1.out.alloc _).trans hu (by simp) (fun x hx => .inr (HO1.out.ge x hx).1); have HO2 := Lib.hid ho; clear ho hu hbk)
    go_loop [5, 8] (fun b i => b = v2 ∧ i = .int .i64 (-1)) (fun _ _ => 0)
    case atStart => exact ⟨rfl, rfl⟩
    case round =>
      obtain ⟨rfl, rfl⟩ := hrel
      go_wp2_with fail
      go_ret
      exact ⟨_, rfl, by rw [enc_zero]; exact HO2.out, HU2.out⟩
theorem dNumW_any (v : Value) (l : List UInt8) (M : Int) (w : World) (h : Bytes w v l) (hz : l.length ≤ 90000000000) (hM : I64 M) :
    Calls Try.prog 54 #[v, .int .i64 M] w fun e w' => ∃ x, e = .returned x ∧ Own bv w.heap.size 5 w' x (l ++ encNum M.toNat) ∧ Upd [] w w' := by
  obtain ⟨h1, h2⟩ := hM
  by_cases hn : M < 0
  · have : M.toNat = 0 := by omega
    rw [this]; exact dNumNeg_any v l M w h hz hn h1
  · obtain ⟨m, rfl⟩ := Int.eq_ofNat_of_zero_le (show 0 ≤ M by omega)
    exact dNumN_any v l m w h hz (by omega)
theorem dFlagW_any (v : Value) (l : List UInt8) (f : Bool) (w : World) (h : Bytes w v l) (hz : l.length ≤ 90000000000) :
    Calls Try.prog 56 #[v, .bool f] w fun e w' => ∃ x, e = .returned x ∧ Own bv w.heap.size 5 w' x (l ++ encFlag f) ∧ Upd [] w w' := by
  have H := Lib.hid h
  go_enter Try.func56, Try.ntmps56
  cases f
  · go_wp2_with fail
    with_reducible refine (dNumW_any _ l 0 _ H.out hz (i64_mk (by decide) (by decide))).mono ?_
    rintro e w1 ⟨v1, rfl, ho1, hu1⟩
    go_wp2_with fail
    go_ret
    exact ⟨_, rfl, ho1, hu1⟩
  · go_wp2_with fail
    with_reducible refine (dNumW_any _ l 1 _ H.out hz (i64_mk (by decide) (by decide))).mono ?_
    rintro e w1 ⟨v1, rfl, ho1, hu1⟩
    go_wp2_with fail
    go_ret
    exact ⟨_, rfl, ho1, hu1⟩
set_option maxHeartbeats 1000000 in
theorem dTextW_any (v : Value) (l : List UInt8) (S : ByteArray) (w : World) (h : Bytes w v l) (hz : l.length ≤ 80000000000) (hs : S.size ≤ 10000000000) :
    Calls Try.prog 55 #[v, .string S] w fun e w' => ∃ x, e = .returned x ∧ Own bv w.heap.size 5 w' x (l ++ encText S) ∧ Upd [] w w' := by
  have H := Lib.hid h
  have h8 := nb_le8 S.size (by omega)
  have hel := encNum_len S.size
  have HE : Hid (l ++ encText S = (l ++ encNum S.size) ++ S.data.toList) := by unfold Hid encText; rw [List.append_assoc]
  go_enter Try.func55, Try.ntmps55
  go_wp2_with fail
  with_reducible refine (dNumW_any _ l (S.size : Int) _ H.out (by omega) (i64_mk (by omega) (by omega))).mono ?_
  rintro e w2 ⟨v2, rfl, ho2, hu2⟩
  have HO2 := Lib.hid ho2
  have HU2 := Lib.hid hu2
  have hs2 := HU2.out.size
  clear ho2 hu2
  rw [Int.toNat_natCast] at HO2
  have hl2 : (l ++ encNum S.size).length = l.length + (1 + nb S.size) := by rw [List.length_append, hel]
  generalize l ++ encNum S.size = l2 at *
  go_wp2_with (at_builtin; refine wpList_app_str rfl (.tmp 8) (.tmp 9) rfl Try.underlying22 Try.underlying9 infoByte v2 S l2 rfl rfl HO2.out (by omega) (by unfold maxLen; omega) hs2 ?_; intro v3 w3 ho hu; have HU3 : Hid (Upd [] w w3) := HU2.out.trans hu (by simp) (fun x hx => .inr (HO2.out.ge x hx).1); have HO3 := Lib.hid ho; clear ho hu)
  go_ret
  exact ⟨_, rfl, by rw [HE.out]; exact HO3.out, HU3.out⟩
end Go.Proofs.Ythnmlifnlmdelaa
