/- Chapter 2: more, Num. -/
import Derived.Test.YthnmlifnlmdelaaRows
import Derived.Test.YthnmlifnlmdelaaBookByte
import Derived.Test.YthnmlifnlmdelaaWirePlain
import Derived.Test.YthnmlifnlmdelaaOwnLit
import Derived.Test.YthnmlifnlmdelaaOpen
namespace Go.Proofs.Ythnmlifnlmdelaa
open Go.RowKit
set_option linter.unusedSimpArgs false
set_option linter.unusedVariables false
set_option maxHeartbeats 1000000 in
theorem fMore_any (v : Value) (l : List UInt8) (r : Nat) (R : Int) (hR : R = (r : Int)) (w : World) (h : Bytes w v l) (hz : l.length ≤ 100000000000) (hr : r ≤ 100000000000) :
    Calls Try.prog 51 #[v, .int .i64 R] w fun e w' => ∃ x, e = .returned x ∧ Own bv w.heap.size 5 w' x l ∧ Upd [] w w' := by
  subst hR
  have H := Lib.hid h
  obtain ⟨a, cap, rfl, -, -, -⟩ := h
  have hmk := fun u => run_mk (P := Try.prog) Try.underlying22 infoByte rfl u 0 (l.length + r) 0 ((l.length : Int) + r) (by omega) (by omega) (by omega) (by omega) (by omega)
  go_enter Try.func51, Try.ntmps51
  go_wp2_with (at_builtin; refine wpList_app bv_one rfl (.tmp 11) (.tmp 12) rfl Try.underlying22 infoByte rfl (.slice (some ⟨w.heap.size, 0, none⟩) 0 (l.length + r)) (.slice a l.length cap) [] l rfl rfl (Own.room (base := w.heap.size) (Nat.le_refl _) rfl (by simp) (by unfold maxLen; omega)) (H.out.alloc _) (by simp; omega) (by unfold maxLen; simp; omega) (by simp) ?_; intro v1 w1 ho hu hbk; rw [List.nil_append] at ho; have HU : Hid (Upd [] w w1) := ((Upd.refl [] w).alloc _).trans hu (by simp) (by simp [blk]); have HO := Lib.hid ho; clear ho hu hbk)
  go_ret
  exact ⟨_, rfl, HO.out, HU.out⟩
theorem pow256 (k : Nat) : (256 : Nat) ^ k = 2 ^ (8 * k) := by rw [Nat.pow_mul]
theorem shr_pos (m k : Nat) (h : k < nb m) : (0 : Int) < (m : Int) / 2 ^ (8 * k) := by
  have h1 := (nb_lt k m).1 h
  rw [pow256] at h1
  have : ((m / 2 ^ (8 * k) : Nat) : Int) = (m : Int) / 2 ^ (8 * k) := by rw [Int.natCast_ediv, Int.natCast_pow]; rfl
  omega
theorem shr_zero (m k : Nat) (h : ¬ k < nb m) : (m : Int) / 2 ^ (8 * k) = 0 := by
  have h1 : ¬ 0 < m / 256 ^ k := fun q => h ((nb_lt k m).2 q)
  rw [pow256] at h1
  have : ((m / 2 ^ (8 * k) : Nat) : Int) = (m : Int) / 2 ^ (8 * k) := by rw [Int.natCast_ediv, Int.natCast_pow]; rfl
  rw [← this, Nat.eq_zero_of_not_pos h1]; rfl
theorem byte_at (m k : Nat) : Value.int .u8 ((m : Int) / 2 ^ (8 * k) % 256) = bv (UInt8.ofNat (m / 256 ^ k)) := by
  have : ((m / 2 ^ (8 * k) : Nat) : Int) = (m : Int) / 2 ^ (8 * k) := by rw [Int.natCast_ediv, Int.natCast_pow]; rfl
  rw [← this, bv, UInt8.toNat_ofNat', pow256]; rfl
theorem byte_small (k : Nat) (h : k < 256) : bv (UInt8.ofNat k) = Value.int .u8 (k : Int) := by
  rw [bv, UInt8.toNat_ofNat', Nat.mod_eq_of_lt h]
set_option maxHeartbeats 4000000 in
theorem fNumN_any (v : Value) (l : List UInt8) (m : Nat) (w : World) (h : Bytes w v l) (hz : l.length ≤ 90000000000) (hm : m < 9223372036854775808) :
    Calls Try.prog 26 #[v, .int .i64 (m : Int)] w fun e w' => ∃ x, e = .returned x ∧ Own bv w.heap.size 5 w' x (l ++ encNum m) ∧ Upd [] w w' := by
  have H := Lib.hid h
  have h8 := nb_le8 m (by omega)
  obtain ⟨a, cap, rfl, -, -, -⟩ := h
  go_enter Try.func26, Try.ntmps26
  go_wp2_with fail
  with_reducible refine (fMore_any _ l 9 9 rfl _ H.out (by omega) (by omega)).mono ?_
  rintro e w1 ⟨v1, rfl, ho1, hu1⟩
  have HO1 := Lib.hid ho1
  have HU1 := Lib.hid hu1
  clear ho1 hu1
  go_wp2_with fail
  go_loop [7] (fun i => ∃ k : Nat, i = .int .i64 (k : Int) ∧ k ≤ nb m) (fun i => 8 - (intOf i).toNat)
  case atStart => exact ⟨0, rfl, Nat.zero_le _⟩
  case round =>
    obtain ⟨k, rfl, hk⟩ := hrel
    by_cases hlt : k < nb m
    · have hk8 : k < 8 := by omega
      have hsh := shr_pos m k hlt
      go_wp2_with fail
      go_round
      case rel => exact ⟨k + 1, by go_num, by omega⟩
      case measure => simp [intOf]; omega
    · have hkm : nb m = k := by omega
      have hk8 : k ≤ 8 := by omega
      have hsh := shr_zero m k hlt
      by_cases hq : k < 8
      · have hq2 : (k : Int) < 8 := by omega
        have hkb : k < 256 := by omega
        have HLIT := Lib.hid (Rd.lit (w := w1) (c := bv) [UInt8.ofNat k] (C := #[.int .u8 (k : Int)]) (e := 5) (fr := (0, 0)) (g := w1.heap.size) (n := 1) (k := 1) rfl (by rw [List.map_singleton, byte_small k hkb]) rfl (Nat.le_refl _) (by decide))
        have HEN : Hid (l ++ encNum m = (l ++ [UInt8.ofNat k]) ++ beB k m) := by unfold Hid encNum; rw [hkm]; simp
        have hs1 := HU1.out.size
        have HKM := Lib.hid hkm
        clear hkm hlt
        go_wp2_with (at_builtin; refine wpList_app bv_one rfl (.tmp 26) (.tmp 29) rfl Try.underlying22 infoByte rfl v1 (.slice (some ⟨w1.heap.size, 0, none⟩) 1 1) l [UInt8.ofNat k] rfl rfl (HO1.out.upd ((Upd.refl [] w1).alloc _) (by simp)) HLIT.out (by simp; omega) (by unfold maxLen; simp; omega) (by simp; omega) ?_; intro v2 w2 ho hu hbk; have HU2 : Hid (Upd [] w w2) := (HU1.out.alloc _).trans hu (by simp) (fun x hx => .inr (HO1.out.ge x hx).1); have HO2 := Lib.hid ho; clear ho hu hbk)
        go_loopw [5, 8] (fun b i wr => ∃ (r : Nat) (c : List UInt8), i = .int .i64 ((r : Int) - 1) ∧ r ≤ k ∧ c.length + r = l.length + 1 + k ∧ Hid (Own bv w.heap.size 5 wr b c) ∧ Hid (Upd [] w wr) ∧ Hid (c ++ beB r m = l ++ encNum m)) (fun _ i _ => (intOf i + 1).toNat)
        case atStart => exact ⟨k, l ++ [UInt8.ofNat k], by go_num, Nat.le_refl _, by simp, HO2, HU2, HEN.out.symm⟩
        case round =>
          obtain ⟨r, c, rfl, hr, hcl, hob, hu, hen⟩ := hrel
          cases r with
          | zero =>
            have HR : Hid (c = l ++ encNum m) := by have := hen.out; unfold Hid; rw [beB, List.append_nil] at this; exact this
            go_wp2_with fail
            go_ret
            exact ⟨_, rfl, by rw [← HR.out]; exact hob.out, hu.out⟩
          | succ r =>
            have q1 : ((r + 1 : Nat) : Int) - 1 = (r : Int) := by omega
            rw [q1]
            clear q1
            have hr8 : r ≤ 8 := by omega
            have HEN2 : Hid ((c ++ [UInt8.ofNat (m / 256 ^ r)]) ++ beB r m = l ++ encNum m) := by have := hen.out; unfold Hid; rw [beB] at this; rw [← this]; simp
            have HLIT2 := Lib.hid (Rd.lit (w := wr) (c := bv) [UInt8.ofNat (m / 256 ^ r)] (C := #[.int .u8 ((m : Int) / 2 ^ (8 * r) % 256)]) (e := 5) (fr := (0, 0)) (g := wr.heap.size) (n := 1) (k := 1) rfl (by rw [List.map_singleton, byte_at]) rfl (Nat.le_refl _) (by decide))
            have hs2 := hu.out.size
            generalize UInt8.ofNat (m / 256 ^ r) = y at *
            obtain ⟨ab, cb, rfl, -⟩ := hob.out.rd
            go_wp2_with (at_builtin; refine wpList_app bv_one rfl (.tmp 37) (.tmp 44) rfl Try.underlying22 infoByte rfl (.slice ab c.length cb) (.slice (some ⟨wr.heap.size, 0, none⟩) 1 1) c [y] rfl rfl (hob.out.upd ((Upd.refl [] wr).alloc _) (by simp)) HLIT2.out (by simp; omega) (by unfold maxLen; simp; omega) (by simp; omega) ?_; intro v4 w4 ho hu4 hbk; have HU4 : Hid (Upd [] w w4) := (hu.out.alloc _).trans hu4 (by simp) (fun x hx => .inr (hob.out.ge x hx).1); have HO4 := Lib.hid ho; clear ho hu4 hbk)
            go_roundw
            case rel => exact ⟨r, c ++ [y], by go_num, by omega, by simp; omega, HO4, HU4, HEN2⟩
            case measure => simp [intOf]; try omega
      · have hq2 : ¬ (k : Int) < 8 := by omega
        have hkb : k < 256 := by omega
        have HLIT := Lib.hid (Rd.lit (w := w1) (c := bv) [UInt8.ofNat k] (C := #[.int .u8 (k : Int)]) (e := 5) (fr := (0, 0)) (g := w1.heap.size) (n := 1) (k := 1) rfl (by rw [List.map_singleton, byte_small k hkb]) rfl (Nat.le_refl _) (by decide))
        have HEN : Hid (l ++ encNum m = (l ++ [UInt8.ofNat k]) ++ beB k m) := by unfold Hid encNum; rw [hkm]; simp
        have hs1 := HU1.out.size
        have HKM := Lib.hid hkm
        clear hkm hlt
        go_wp2_with (at_builtin; refine wpList_app bv_one rfl (.tmp 26) (.tmp 29) rfl Try.underlying22 infoByte rfl v1 (.slice (some ⟨w1.heap.size, 0, none⟩) 1 1) l [UInt8.ofNat k] rfl rfl (HO1.out.upd ((Upd.refl [] w1).alloc _) (by simp)) HLIT.out (by simp; omega) (by unfold maxLen; simp; omega) (by simp; omega) ?_; intro v2 w2 ho hu hbk; have HU2 : Hid (Upd [] w w2) := (HU1.out.alloc _).trans hu (by simp) (fun x hx => .inr (HO1.out.ge x hx).1); have HO2 := Lib.hid ho; clear ho hu hbk)
        go_loopw [5, 8] (fun b i wr => ∃ (r : Nat) (c : List UInt8), i = .int .i64 ((r : Int) - 1) ∧ r ≤ k ∧ c.length + r = l.length + 1 + k ∧ Hid (Own bv w.heap.size 5 wr b c) ∧ Hid (Upd [] w wr) ∧ Hid (c ++ beB r m = l ++ encNum m)) (fun _ i _ => (intOf i + 1).toNat)
        case atStart => exact ⟨k, l ++ [UInt8.ofNat k], by go_num, Nat.le_refl _, by simp, HO2, HU2, HEN.out.symm⟩
        case round =>
          obtain ⟨r, c, rfl, hr, hcl, hob, hu, hen⟩ := hrel
          cases r with
          | zero =>
            have HR : Hid (c = l ++ encNum m) := by have := hen.out; unfold Hid; rw [beB, List.append_nil] at this; exact this
            go_wp2_with fail
            go_ret
            exact ⟨_, rfl, by rw [← HR.out]; exact hob.out, hu.out⟩
          | succ r =>
            have q1 : ((r + 1 : Nat) : Int) - 1 = (r : Int) := by omega
            rw [q1]
            clear q1
            have hr8 : r ≤ 8 := by omega
            have HEN2 : Hid ((c ++ [UInt8.ofNat (m / 256 ^ r)]) ++ beB r m = l ++ encNum m) := by have := hen.out; unfold Hid; rw [beB] at this; rw [← this]; simp
            have HLIT2 := Lib.hid (Rd.lit (w := wr) (c := bv) [UInt8.ofNat (m / 256 ^ r)] (C := #[.int .u8 ((m : Int) / 2 ^ (8 * r) % 256)]) (e := 5) (fr := (0, 0)) (g := wr.heap.size) (n := 1) (k := 1) rfl (by rw [List.map_singleton, byte_at]) rfl (Nat.le_refl _) (by decide))
            have hs2 := hu.out.size
            generalize UInt8.ofNat (m / 256 ^ r) = y at *
            obtain ⟨ab, cb, rfl, -⟩ := hob.out.rd
            go_wp2_with (at_builtin; refine wpList_app bv_one rfl (.tmp 37) (.tmp 44) rfl Try.underlying22 infoByte rfl (.slice ab c.length cb) (.slice (some ⟨wr.heap.size, 0, none⟩) 1 1) c [y] rfl rfl (hob.out.upd ((Upd.refl [] wr).alloc _) (by simp)) HLIT2.out (by simp; omega) (by unfold maxLen; simp; omega) (by simp; omega) ?_; intro v4 w4 ho hu4 hbk; have HU4 : Hid (Upd [] w w4) := (hu.out.alloc _).trans hu4 (by simp) (fun x hx => .inr (hob.out.ge x hx).1); have HO4 := Lib.hid ho; clear ho hu4 hbk)
            go_roundw
            case rel => exact ⟨r, c ++ [y], by go_num, by omega, by simp; omega, HO4, HU4, HEN2⟩
            case measure => simp [intOf]; try omega
theorem enc_zero : encNum 0 = [0] := by unfold encNum; rw [nb_zero]; rfl
set_option maxHeartbeats 4000000 in
theorem fNumNeg_any (v : Value) (l : List UInt8) (M : Int) (w : World) (h : Bytes w v l) (hz : l.length ≤ 90000000000) (hM : M < 0) (hM1 : -9223372036854775808 ≤ M) :
    Calls Try.prog 26 #[v, .int .i64 M] w fun e w' => ∃ x, e = .returned x ∧ Own bv w.heap.size 5 w' x (l ++ encNum 0) ∧ Upd [] w w' := by
  have H := Lib.hid h
  obtain ⟨a, cap, rfl, -, -, -⟩ := h
  go_enter Try.func26, Try.ntmps26
  go_wp2_with fail
  with_reducible refine (fMore_any _ l 9 9 rfl _ H.out (by omega) (by omega)).mono ?_
  rintro e w1 ⟨v1, rfl, ho1, hu1⟩
  have HO1 := Lib.hid ho1
  have HU1 := Lib.hid hu1
  have hs1 := HU1.out.size
  clear ho1 hu1
  go_wp2_with fail
  go_loop [7] (fun i => i = .int .i64 0) (fun _ => 0)
  case atStart => rfl
  case round =>
    subst hrel
    have HLIT := Lib.hid (Rd.lit (w := w1) (c := bv) [(0 : UInt8)] (C := #[.int .u8 0]) (e := 5) (fr := (0, 0)) (g := w1.heap.size) (n := 1) (k := 1) rfl rfl rfl (Nat.le_refl _) (by decide))
    go_wp2_with (at_builtin; refine wpList_app bv_one rfl (.tmp 26) (.tmp 29) rfl Try.underlying22 infoByte rfl v1 (.slice (some ⟨w1.heap.size, 0, none⟩) 1 1) l [(0 : UInt8)] rfl rfl (HO1.out.upd ((Upd.refl [] w1).alloc _) (by simp)) HLIT.out (by simp; omega) (by unfold maxLen; simp; omega) (by simp; omega) ?_; intro v2 w2 ho hu hbk; have HU2 : Hid (Upd [] w w2) := (HU1.out.alloc _).trans hu (by simp) (fun x hx => .inr (HO1.out.ge x hx).1); have HO2 := Lib.hid ho; clear ho hu hbk)
    go_loop [5, 8] (fun b i => b = v2 ∧ i = .int .i64 (-1)) (fun _ _ => 0)
    case atStart => exact ⟨rfl, rfl⟩
    case round =>
      obtain ⟨rfl, rfl⟩ := hrel
      go_wp2_with fail
      go_ret
      exact ⟨_, rfl, by rw [enc_zero]; exact HO2.out, HU2.out⟩
/-- Num, of any number. -/
theorem fNum_any (v : Value) (l : List UInt8) (M : Int) (w : World) (h : Bytes w v l) (hz : l.length ≤ 90000000000) (hM : I64 M) :
    Calls Try.prog 26 #[v, .int .i64 M] w fun e w' => ∃ x, e = .returned x ∧ Own bv w.heap.size 5 w' x (l ++ encNum M.toNat) ∧ Upd [] w w' := by
  obtain ⟨h1, h2⟩ := hM
  by_cases hn : M < 0
  · have : M.toNat = 0 := by omega
    rw [this]; exact fNumNeg_any v l M w h hz hn h1
  · obtain ⟨m, rfl⟩ := Int.eq_ofNat_of_zero_le (show 0 ≤ M by omega)
    exact fNumN_any v l m w h hz (by omega)
end Go.Proofs.Ythnmlifnlmdelaa
