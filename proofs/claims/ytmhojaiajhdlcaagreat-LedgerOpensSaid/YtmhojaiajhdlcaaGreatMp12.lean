/- Texts of the proof, joined: Chapter 2: the document's Num, Text, Flag. A record as bytes: the document's walk. Chapter 25: how many records there are; the records from a number on; records held against each other. Chapter 25: the document's ledger in memory; is a key there?. The document's Frame. -/
import Derived.Test.YtmhojaiajhdlcaaGreatMp1
import Derived.Test.YtmhojaiajhdlcaaGreatMp3
import Derived.Deep.RegionHeld3
import Derived.Test.YtmhojaiajhdlcaaGreatMp7
import Derived.Test.YtmhojaiajhdlcaaGreatMp2
import Derived.Test.YtmhojaiajhdlcaaGreatMp9
import Derived.Test.YtmhojaiajhdlcaaGreatMp11
import Derived.Test.YtmhojaiajhdlcaaGreatMp10
namespace Go.Proofs.YtmhojaiajhdlcaaGreat
open Go.RowKit
set_option linter.unusedSimpArgs false
set_option linter.unusedVariables false
set_option maxHeartbeats 4000000 in
theorem dNumN_any (v : Value) (l : List UInt8) (m : Nat) (w : World) (h : Bytes w v l) (hz : l.length ≤ 90000000000) (hm : m < 9223372036854775808) :
    Calls Tryz.prog 47 #[v, .int .i64 (m : Int)] w fun e w' => ∃ x, e = .returned x ∧ Own bv w.heap.size 5 w' x (l ++ encNum m) ∧ Upd [] w w' := by
  have H := Lib.hid h
  have h8 := nb_le8 m (by omega)
  obtain ⟨a, cap, rfl, -, -, -⟩ := h
  go_enter Tryz.func47, Tryz.ntmps47
  go_wp2_with (at_builtin; refine wpList_app bv_one rfl (.tmp 9) (.tmp 10) rfl Tryz.underlying28 infoByte rfl (.slice (some ⟨w.heap.size, 0, none⟩) 0 0) (.slice a l.length cap) [] l rfl rfl (Own.room (base := w.heap.size) (Nat.le_refl _) rfl rfl (Nat.zero_le _)) (H.out.alloc _) (by simp; omega) (by unfold maxLen; simp; omega) (by simp) ?_; intro v1 w1 ho hu hbk; rw [List.nil_append] at ho; have HU1 : Hid (Upd [] w w1) := ((Upd.refl [] w).alloc _).trans hu (by simp) (by simp [blk]); have HO1 := Lib.hid ho; clear ho hu hbk)
  go_loop [6, 7] (fun i x => ∃ k : Nat, i = .int .i64 (k : Int) ∧ k ≤ nb m ∧ x = .int .i64 ((m / 256 ^ k : Nat) : Int)) (fun i _ => 8 - (intOf i).toNat)
  case atStart => exact ⟨0, rfl, Nat.zero_le _, by simp⟩
  case round =>
    obtain ⟨k, rfl, hk, rfl⟩ := hrel
    have hxk : m / 256 ^ k < 9223372036854775808 := Nat.lt_of_le_of_lt (Nat.div_le_self _ _) hm
    have hnx : ((m / 256 ^ k : Nat) : Int) / 256 = ((m / 256 ^ (k + 1) : Nat) : Int) := by
      rw [Nat.pow_succ, ← Nat.div_div_eq_div_mul]; omega
    by_cases hlt : k < nb m
    · have hpos : 0 < m / 256 ^ k := (nb_lt k m).1 hlt
      have hk8 : k < 8 := by omega
      obtain ⟨x, HX⟩ : ∃ x, Hid (m / 256 ^ k = x) := ⟨_, rfl⟩
      rw [HX.out] at hpos hnx hxk
      rw [HX.out]
      have HNX := Lib.hid hnx
      have hp2 : (0 : Int) < x := by omega
      clear hnx
      go_wp2_with fail
      go_round
      case rel => exact ⟨k + 1, by go_num, by omega, congrArg _ HNX.out⟩
      case measure => simp [intOf]; omega
    · have hkm : nb m = k := by omega
      have hk8 : k ≤ 8 := by omega
      have hz0 : m / 256 ^ k = 0 := Nat.eq_zero_of_not_pos (fun q => hlt ((nb_lt k m).2 q))
      rw [hz0]
      clear hnx hxk hz0
      have hkb : k < 256 := by omega
      have HLIT := Lib.hid (Rd.lit (w := w1) (c := bv) [UInt8.ofNat k] (C := #[.int .u8 (k : Int)]) (e := 5) (fr := (0, 0)) (g := w1.heap.size) (n := 1) (k := 1) rfl (by rw [List.map_singleton, byte_small k hkb]) rfl (Nat.le_refl _) (by decide))
      have HEN : Hid (l ++ encNum m = (l ++ [UInt8.ofNat k]) ++ beB k m) := by unfold Hid encNum; rw [hkm]; simp
      have hs1 := HU1.out.size
      have HKM := Lib.hid hkm
      clear hkm hlt
      go_wp2_with (at_builtin; refine wpList_app bv_one rfl (.tmp 21) (.tmp 24) rfl Tryz.underlying28 infoByte rfl v1 (.slice (some ⟨w1.heap.size, 0, none⟩) 1 1) l [UInt8.ofNat k] rfl rfl (HO1.out.upd ((Upd.refl [] w1).alloc _) (by simp)) HLIT.out (by simp; omega) (by unfold maxLen; simp; omega) (by simp; omega) ?_; intro v2 w2 ho hu hbk; have HU2 : Hid (Upd [] w w2) := (HU1.out.alloc _).trans hu (by simp) (fun x hx => .inr (HO1.out.ge x hx).1); have HO2 := Lib.hid ho; clear ho hu hbk)
      go_loopw [5, 8] (fun b i wr => ∃ (r : Nat) (c : List UInt8), i = .int .i64 ((r : Int) - 1) ∧ r ≤ k ∧ c.length + r = l.length + 1 + k ∧ Hid (Own bv w.heap.size 5 wr b c) ∧ Hid (Upd [] w wr) ∧ Hid (c ++ beB r m = l ++ encNum m)) (fun _ i _ => (intOf i + 1).toNat)
      case atStart => exact ⟨k, l ++ [UInt8.ofNat k], by go_num, Nat.le_refl _, by simp, HO2, HU2, HEN.out.symm⟩
      case round =>
        obtain ⟨r, c, rfl, hr, hcl, hob, hu, hen⟩ := hrel
        cases r with
        | zero =>
          have HR : Hid (c = l ++ encNum m) := by have := hen.out; unfold Hid; rw [beB, List.append_nil] at this; exact this
          go_wp2_with fail
          go_ret
          exact ⟨_, rfl, by rw [← HR.out]; exact hob.out, hu.out⟩
        | succ r =>
          have q1 : ((r + 1 : Nat) : Int) - 1 = (r : Int) := by omega
          rw [q1]
          clear q1
          have hr8 : r ≤ 8 := by omega
          have HEN2 : Hid ((c ++ [UInt8.ofNat (m / 256 ^ r)]) ++ beB r m = l ++ encNum m) := by have := hen.out; unfold Hid; rw [beB] at this; rw [← this]; simp
          have HLIT2 := Lib.hid (Rd.lit (w := wr) (c := bv) [UInt8.ofNat (m / 256 ^ r)] (C := #[.int .u8 ((m : Int) / 2 ^ (8 * r) % 256)]) (e := 5) (fr := (0, 0)) (g := wr.heap.size) (n := 1) (k := 1) rfl (by rw [List.map_singleton, byte_at]) rfl (Nat.le_refl _) (by decide))
          have hs2 := hu.out.size
          generalize UInt8.ofNat (m / 256 ^ r) = y at *
          obtain ⟨ab, cb, rfl, -⟩ := hob.out.rd
          go_wp2_with (at_builtin; refine wpList_app bv_one rfl (.tmp 32) (.tmp 38) rfl Tryz.underlying28 infoByte rfl (.slice ab c.length cb) (.slice (some ⟨wr.heap.size, 0, none⟩) 1 1) c [y] rfl rfl (hob.out.upd ((Upd.refl [] wr).alloc _) (by simp)) HLIT2.out (by simp; omega) (by unfold maxLen; simp; omega) (by simp; omega) ?_; intro v4 w4 ho hu4 hbk; have HU4 : Hid (Upd [] w w4) := (hu.out.alloc _).trans hu4 (by simp) (fun x hx => .inr (hob.out.ge x hx).1); have HO4 := Lib.hid ho; clear ho hu4 hbk)
          go_roundw
          case rel => exact ⟨r, c ++ [y], by go_num, by omega, by simp; omega, HO4, HU4, HEN2⟩
          case measure => simp [intOf]; try omega
set_option maxHeartbeats 4000000 in
theorem dNumNeg_any (v : Value) (l : List UInt8) (M : Int) (w : World) (h : Bytes w v l) (hz : l.length ≤ 90000000000) (hM : M < 0) (hM1 : -9223372036854775808 ≤ M) :
    Calls Tryz.prog 47 #[v, .int .i64 M] w fun e w' => ∃ x, e = .returned x ∧ Own bv w.heap.size 5 w' x (l ++ encNum 0) ∧ Upd [] w w' := by
  have H := Lib.hid h
  obtain ⟨a, cap, rfl, -, -, -⟩ := h
  go_enter Tryz.func47, Tryz.ntmps47
  go_wp2_with (at_builtin; refine wpList_app bv_one rfl (.tmp 9) (.tmp 10) rfl Tryz.underlying28 infoByte rfl (.slice (some ⟨w.heap.size, 0, none⟩) 0 0) (.slice a l.length cap) [] l rfl rfl (Own.room (base := w.heap.size) (Nat.le_refl _) rfl rfl (Nat.zero_le _)) (H.out.alloc _) (by simp; omega) (by unfold maxLen; simp; omega) (by simp) ?_; intro v1 w1 ho hu hbk; rw [List.nil_append] at ho; have HU1 : Hid (Upd [] w w1) := ((Upd.refl [] w).alloc _).trans hu (by simp) (by simp [blk]); have HO1 := Lib.hid ho; clear ho hu hbk)
  have hs1 := HU1.out.size
  go_loop [6, 7] (fun i x => i = .int .i64 0 ∧ x = .int .i64 0) (fun _ _ => 0)
  case atStart => exact ⟨rfl, rfl⟩
  case round =>
    obtain ⟨rfl, rfl⟩ := hrel
    have HLIT := Lib.hid (Rd.lit (w := w1) (c := bv) [(0 : UInt8)] (C := #[.int .u8 0]) (e := 5) (fr := (0, 0)) (g := w1.heap.size) (n := 1) (k := 1) rfl rfl rfl (Nat.le_refl _) (by decide))
    go_wp2_with (at_builtin; refine wpList_app bv_one rfl (.tmp 21) (.tmp 24) rfl Tryz.underlying28 infoByte rfl v1 (.slice (some ⟨w1.heap.size, 0, none⟩) 1 1) l [(0 : UInt8)] rfl rfl (HO1.out.upd ((Upd.refl [] w1).alloc _) (by simp)) HLIT.out (by simp; omega) (by unfold maxLen; simp; omega) (by simp; omega) ?_; intro v2 w2 ho hu hbk; have HU2 : Hid (Upd [] w w2) := (HU1.out.alloc _).trans hu (by simp) (fun x hx => .inr (HO1.out.ge x hx).1); have HO2 := Lib.hid ho; clear ho hu hbk)
    go_loop [5, 8] (fun b i => b = v2 ∧ i = .int .i64 (-1)) (fun _ _ => 0)
    case atStart => exact ⟨rfl, rfl⟩
    case round =>
      obtain ⟨rfl, rfl⟩ := hrel
      go_wp2_with fail
      go_ret
      exact ⟨_, rfl, by rw [enc_zero]; exact HO2.out, HU2.out⟩
theorem dNumW_any (v : Value) (l : List UInt8) (M : Int) (w : World) (h : Bytes w v l) (hz : l.length ≤ 90000000000) (hM : I64 M) :
    Calls Tryz.prog 47 #[v, .int .i64 M] w fun e w' => ∃ x, e = .returned x ∧ Own bv w.heap.size 5 w' x (l ++ encNum M.toNat) ∧ Upd [] w w' := by
  obtain ⟨h1, h2⟩ := hM
  by_cases hn : M < 0
  · have : M.toNat = 0 := by omega
    rw [this]; exact dNumNeg_any v l M w h hz hn h1
  · obtain ⟨m, rfl⟩ := Int.eq_ofNat_of_zero_le (show 0 ≤ M by omega)
    exact dNumN_any v l m w h hz (by omega)
set_option maxHeartbeats 1000000 in
theorem dTextW_any (v : Value) (l : List UInt8) (S : ByteArray) (w : World) (h : Bytes w v l) (hz : l.length ≤ 80000000000) (hs : S.size ≤ 10000000000) :
    Calls Tryz.prog 48 #[v, .string S] w fun e w' => ∃ x, e = .returned x ∧ Own bv w.heap.size 5 w' x (l ++ encText S) ∧ Upd [] w w' := by
  have H := Lib.hid h
  have h8 := nb_le8 S.size (by omega)
  have hel := encNum_len S.size
  have HE : Hid (l ++ encText S = (l ++ encNum S.size) ++ S.data.toList) := by unfold Hid encText; rw [List.append_assoc]
  go_enter Tryz.func48, Tryz.ntmps48
  go_wp2_with fail
  with_reducible refine (dNumW_any _ l (S.size : Int) _ H.out (by omega) (i64_mk (by omega) (by omega))).mono ?_
  rintro e w2 ⟨v2, rfl, ho2, hu2⟩
  have HO2 := Lib.hid ho2
  have HU2 := Lib.hid hu2
  have hs2 := HU2.out.size
  clear ho2 hu2
  rw [Int.toNat_natCast] at HO2
  have hl2 : (l ++ encNum S.size).length = l.length + (1 + nb S.size) := by rw [List.length_append, hel]
  generalize l ++ encNum S.size = l2 at *
  go_wp2_with (at_builtin; refine wpList_app_str rfl (.tmp 8) (.tmp 9) rfl Tryz.underlying28 Tryz.underlying9 infoByte v2 S l2 rfl rfl HO2.out (by omega) (by unfold maxLen; omega) hs2 ?_; intro v3 w3 ho hu; have HU3 : Hid (Upd [] w w3) := HU2.out.trans hu (by simp) (fun x hx => .inr (HO2.out.ge x hx).1); have HO3 := Lib.hid ho; clear ho hu)
  go_ret
  exact ⟨_, rfl, by rw [HE.out]; exact HO3.out, HU3.out⟩
end Go.Proofs.YtmhojaiajhdlcaaGreat
namespace Go.Proofs.YtmhojaiajhdlcaaGreat
open Go.RowKit
set_option linter.unusedSimpArgs false
set_option linter.unusedVariables false
/-- A number behind bytes, at any world behind w. -/
theorem dnum_at (b : Nat) (w W : World) (v : Value) (l : List UInt8) (M : Int) (hb : b ≤ w.heap.size) (ho : Own bv b 5 W v l) (hu : Upd [] w W) (hl : l.length ≤ 100000) (hM : I64 M) :
    Calls Tryz.prog 47 #[v, .int .i64 M] W fun e w' => ∃ a n k, e = .returned (.slice a n k) ∧ Hid (Own bv b 5 w' (.slice a n k) (l ++ encNum M.toNat)) ∧ Upd [] w w' := by
  refine (dNumW_any _ l M _ ho.rd (by omega) hM).mono ?_
  rintro e w' ⟨x, rfl, h, hu2⟩
  obtain ⟨a, k, rfl, -⟩ := h.rd
  exact ⟨a, _, k, rfl, h.base_le (Nat.le_trans hb hu.size), hu.seq hu2⟩
theorem dtext_at (b : Nat) (w W : World) (v : Value) (l : List UInt8) (S : ByteArray) (hb : b ≤ w.heap.size) (ho : Own bv b 5 W v l) (hu : Upd [] w W) (hl : l.length ≤ 100000) (hM : S.size ≤ 1000000) :
    Calls Tryz.prog 48 #[v, .string S] W fun e w' => ∃ a n k, e = .returned (.slice a n k) ∧ Hid (Own bv b 5 w' (.slice a n k) (l ++ encText S)) ∧ Upd [] w w' := by
  refine (dTextW_any _ l S _ ho.rd (by omega) (by omega)).mono ?_
  rintro e w' ⟨x, rfl, h, hu2⟩
  obtain ⟨a, k, rfl, -⟩ := h.rd
  exact ⟨a, _, k, rfl, h.base_le (Nat.le_trans hb hu.size), hu.seq hu2⟩
set_option maxRecDepth 20000 in
set_option maxHeartbeats 8000000 in
theorem rfPut_c (w : World) (ino gen at_ : Int) (rule : ByteArray) (kind c0 c1 c2 c3 c4 c5 c6 c7 c8 c9 : Int) (hok : recOk (mkRec ino gen at_ rule kind c0 c1 c2 c3 c4 c5 c6 c7 c8 c9) = true) :
    Calls Tryz.prog 9 #[mkVal ino gen at_ rule kind c0 c1 c2 c3 c4 c5 c6 c7 c8 c9] w fun e w' => ∃ v, e = .returned v ∧ Own bv w.heap.size 5 w' v (encRec (mkRec ino gen at_ rule kind c0 c1 c2 c3 c4 c5 c6 c7 c8 c9)) ∧ Upd [] w w' := by
  have hu0 : Upd [] w (w.alloc (.cells #[.int .i64 ino, .int .i64 gen, .int .i64 at_, .string rule, .int .i64 kind, .int .i64 c0, .int .i64 c1, .int .i64 c2, .int .i64 c3, .int .i64 c4, .int .i64 c5, .int .i64 c6, .int .i64 c7, .int .i64 c8, .int .i64 c9] 27)) := (Upd.refl [] w).alloc _
  have HU0 := Lib.hid hu0
  have hb0 : Blk (w.alloc (.cells #[.int .i64 ino, .int .i64 gen, .int .i64 at_, .string rule, .int .i64 kind, .int .i64 c0, .int .i64 c1, .int .i64 c2, .int .i64 c3, .int .i64 c4, .int .i64 c5, .int .i64 c6, .int .i64 c7, .int .i64 c8, .int .i64 c9] 27)) w.heap.size 27 [.int .i64 ino, .int .i64 gen, .int .i64 at_, .string rule, .int .i64 kind, .int .i64 c0, .int .i64 c1, .int .i64 c2, .int .i64 c3, .int .i64 c4, .int .i64 c5, .int .i64 c6, .int .i64 c7, .int .i64 c8, .int .i64 c9] := Blk.new w _ [.int .i64 ino, .int .i64 gen, .int .i64 at_, .string rule, .int .i64 kind, .int .i64 c0, .int .i64 c1, .int .i64 c2, .int .i64 c3, .int .i64 c4, .int .i64 c5, .int .i64 c6, .int .i64 c7, .int .i64 c8, .int .i64 c9]
  have HB0 := Lib.hid hb0
  have HOK := Lib.hid hok
  have hi := recOk_in hok
  have HI := Lib.hid hi
  have HIA : Hid (I64 ino) := ⟨by have := hi.ino; dsimp only at this; omega, by have := hi.ino; dsimp only at this; omega⟩
  have HIG : Hid (I64 gen) := ⟨by have := hi.gen; dsimp only at this; omega, by have := hi.gen; dsimp only at this; omega⟩
  have HIT : Hid (I64 at_) := ⟨by have := hi.at_; dsimp only at this; omega, by have := hi.at_; dsimp only at this; omega⟩
  have HIK : Hid (I64 kind) := ⟨by have := hi.kind; dsimp only at this; omega, by have := hi.kind; dsimp only at this; omega⟩
  have HIR : Hid (rule.size ≤ 32) := hi.rule
  have HIC : Hid (∀ c ∈ [c0, c1, c2, c3, c4, c5, c6, c7, c8, c9], -1 ≤ c ∧ c ≤ 500) := hi.caps
  obtain ⟨L1, hL1⟩ : ∃ L, encNum ino.toNat = L := ⟨_, rfl⟩
  obtain ⟨L2, hL2⟩ : ∃ L, L1 ++ encNum gen.toNat = L := ⟨_, rfl⟩
  obtain ⟨L3, hL3⟩ : ∃ L, L2 ++ encNum at_.toNat = L := ⟨_, rfl⟩
  obtain ⟨L4, hL4⟩ : ∃ L, L3 ++ encText rule = L := ⟨_, rfl⟩
  obtain ⟨L5, hL5⟩ : ∃ L, L4 ++ encNum kind.toNat = L := ⟨_, rfl⟩
  have i1 := hi.ino
  have i2 := hi.gen
  have i3 := hi.at_
  have i4 := hi.rule
  have i5 := hi.kind
  dsimp only at i1 i2 i3 i4 i5
  have b1 := encNum_le ino.toNat (by omega)
  have b2 := encNum_le gen.toNat (by omega)
  have b3 := encNum_le at_.toNat (by omega)
  have b4 := encNum_le rule.size (by omega)
  have b5 := encNum_le kind.toNat (by omega)
  have ht : (encText rule).length ≤ 41 := by unfold encText; rw [List.length_append, size_toList]; omega
  have l1 : L1.length ≤ 9 := by rw [← hL1]; exact b1
  have l2 : L2.length ≤ 18 := by rw [← hL2, List.length_append]; omega
  have l3 : L3.length ≤ 27 := by rw [← hL3, List.length_append]; omega
  have l4 : L4.length ≤ 70 := by rw [← hL4, List.length_append]; omega
  have l5 : L5.length ≤ 79 := by rw [← hL5, List.length_append]; omega
  have HL1 : Hid (L1.length ≤ 100000) := by unfold Hid; omega
  have HL2 : Hid (L2.length ≤ 100000) := by unfold Hid; omega
  have HL3 : Hid (L3.length ≤ 100000) := by unfold Hid; omega
  have HL4 : Hid (L4.length ≤ 100000) := by unfold Hid; omega
  have HL5 : Hid (L5.length ≤ 79) := l5
  have HEN : Hid (encRec (mkRec ino gen at_ rule kind c0 c1 c2 c3 c4 c5 c6 c7 c8 c9) = L5 ++ encCaps [c0, c1, c2, c3, c4, c5, c6, c7, c8, c9]) := by
    unfold Hid encRec
    rw [← hL5, ← hL4, ← hL3, ← hL2, ← hL1]
  have HQ1 := Lib.hid hL1
  have HQ2 := Lib.hid hL2
  have HQ3 := Lib.hid hL3
  have HQ4 := Lib.hid hL4
  have HQ5 := Lib.hid hL5
  rw [HEN.out]
  clear hok hi i1 i2 i3 i4 i5 b1 b2 b3 b4 b5 ht l1 l2 l3 l4 l5 hL1 hL2 hL3 hL4 hL5 hb0 hu0
  go_enter Tryz.func9, Tryz.ntmps9
  go_wp2_with fail
  have hb1 := HB0.out
  have HU1 : Hid (Upd [] w (w.alloc (.cells #[.int .i64 ino, .int .i64 gen, .int .i64 at_, .string rule, .int .i64 kind, .int .i64 c0, .int .i64 c1, .int .i64 c2, .int .i64 c3, .int .i64 c4, .int .i64 c5, .int .i64 c6, .int .i64 c7, .int .i64 c8, .int .i64 c9] 27))) := HU0.out
  have HSZ : Hid (w.heap.size ≤ (w.alloc (.cells #[.int .i64 ino, .int .i64 gen, .int .i64 at_, .string rule, .int .i64 kind, .int .i64 c0, .int .i64 c1, .int .i64 c2, .int .i64 c3, .int .i64 c4, .int .i64 c5, .int .i64 c6, .int .i64 c7, .int .i64 c8, .int .i64 c9] 27)).heap.size) := HU0.out.size
  generalize w.alloc (.cells #[.int .i64 ino, .int .i64 gen, .int .i64 at_, .string rule, .int .i64 kind, .int .i64 c0, .int .i64 c1, .int .i64 c2, .int .i64 c3, .int .i64 c4, .int .i64 c5, .int .i64 c6, .int .i64 c7, .int .i64 c8, .int .i64 c9] 27) = w1 at *
  have d0 := hb1.cell 0
  have d1 := hb1.cell 1
  have d2 := hb1.cell 2
  simp only [List.getElem?_cons_zero, List.getElem?_cons_succ] at d0 d1 d2
  have HB1 := Lib.hid hb1
  have C0 := Lib.hid d0
  have C1 := Lib.hid d1
  have C2 := Lib.hid d2
  clear hb1 HU0 HB0
  have HC1 : Hid (∀ W, Upd [] w1 W → Calls Tryz.prog 47 #[.slice none 0 0, .int .i64 ino] W fun e w' => ∃ a n k, e = .returned (.slice a n k) ∧ Hid (Own bv w.heap.size 5 w' (.slice a n k) L1) ∧ Upd [] w1 w') := fun W hu => by
    have := dnum_at w.heap.size w1 W _ [] ino HSZ.out (own_nil8 _ _) hu (by simp) HIA.out
    rw [List.nil_append, HQ1.out] at this; exact this
  have HC2 : Hid (∀ W a n k, Own bv w.heap.size 5 W (.slice a n k) L1 → Upd [] w1 W → Calls Tryz.prog 47 #[.slice a n k, .int .i64 gen] W fun e w' => ∃ a n k, e = .returned (.slice a n k) ∧ Hid (Own bv w.heap.size 5 w' (.slice a n k) L2) ∧ Upd [] w1 w') := fun W a n k ho hu => by
    have := dnum_at w.heap.size w1 W _ L1 gen HSZ.out ho hu HL1.out HIG.out
    rw [HQ2.out] at this; exact this
  have HC3 : Hid (∀ W a n k, Own bv w.heap.size 5 W (.slice a n k) L2 → Upd [] w1 W → Calls Tryz.prog 47 #[.slice a n k, .int .i64 at_] W fun e w' => ∃ a n k, e = .returned (.slice a n k) ∧ Hid (Own bv w.heap.size 5 w' (.slice a n k) L3) ∧ Upd [] w1 w') := fun W a n k ho hu => by
    have := dnum_at w.heap.size w1 W _ L2 at_ HSZ.out ho hu HL2.out HIT.out
    rw [HQ3.out] at this; exact this
  have HC4 : Hid (∀ W a n k, Own bv w.heap.size 5 W (.slice a n k) L3 → Upd [] w1 W → Calls Tryz.prog 48 #[.slice a n k, .string rule] W fun e w' => ∃ a n k, e = .returned (.slice a n k) ∧ Hid (Own bv w.heap.size 5 w' (.slice a n k) L4) ∧ Upd [] w1 w') := fun W a n k ho hu => by
    have := dtext_at w.heap.size w1 W _ L3 rule HSZ.out ho hu HL3.out (by have := HIR.out; omega)
    rw [HQ4.out] at this; exact this
  have HC5 : Hid (∀ W a n k, Own bv w.heap.size 5 W (.slice a n k) L4 → Upd [] w1 W → Calls Tryz.prog 47 #[.slice a n k, .int .i64 kind] W fun e w' => ∃ a n k, e = .returned (.slice a n k) ∧ Hid (Own bv w.heap.size 5 w' (.slice a n k) L5) ∧ Upd [] w1 w') := fun W a n k ho hu => by
    have := dnum_at w.heap.size w1 W _ L4 kind HSZ.out ho hu HL4.out HIK.out
    rw [HQ5.out] at this; exact this
  have ru := Upd.refl [] w1
  go_wp2_with fail
  go_region_held3 (fun w' => w'.cell? ⟨w.heap.size, 0, none⟩ = some (.int .i64 ino) ∧ w'.cell? ⟨w.heap.size, 1, none⟩ = some (.int .i64 gen) ∧ w'.cell? ⟨w.heap.size, 2, none⟩ = some (.int .i64 at_)) (first | go_keep | exact ⟨ru.cell C0.out (by simp), ru.cell C1.out (by simp), ru.cell C2.out (by simp)⟩)
    (first
      | (go_at_call 47; (with_reducible refine (HC1.out _ (Upd.seq ru ?_)).mono ?_); (repeat (first | exact Upd.refl _ _ | apply Upd.drew | apply Upd.drewN | apply Upd.alloc)); (rintro _ W1 ⟨a1, n1, k1, rfl, ho1, ru⟩; dsimp only))
      | (go_at_call 47; (with_reducible refine (HC2.out _ a1 n1 k1 (Own.upd (S := []) ho1.out ?_ (by simp)) (Upd.seq ru ?_)).mono ?_); (repeat (first | exact Upd.refl _ _ | apply Upd.drew | apply Upd.drewN | apply Upd.alloc)); (rintro _ W2 ⟨a2, n2, k2, rfl, ho2, ru⟩; dsimp only))
      | (go_at_call 47; (with_reducible refine (HC3.out _ a2 n2 k2 (Own.upd (S := []) ho2.out ?_ (by simp)) (Upd.seq ru ?_)).mono ?_); (repeat (first | exact Upd.refl _ _ | apply Upd.drew | apply Upd.drewN | apply Upd.alloc)); (rintro _ W3 ⟨a3, n3, k3, rfl, ho3, ru⟩; dsimp only)))
  all_goals
    have C3 := Lib.hid (HB1.out.cell 3)
    have C4 := Lib.hid (HB1.out.cell 4)
    simp only [List.getElem?_cons_zero, List.getElem?_cons_succ] at C3 C4
    have d3 := ru.cell C3.out (by simp)
    have d4 := ru.cell C4.out (by simp)
    clear HC1 HC2 HC3 d0 d1 d2 ho1 ho2 C0 C1 C2
    go_wp2_with fail
    go_region_held3 (fun w' => w'.cell? ⟨w.heap.size, 3, none⟩ = some (.string rule) ∧ w'.cell? ⟨w.heap.size, 4, none⟩ = some (.int .i64 kind)) (first | go_keep | exact ⟨ru.cell C3.out (by simp), ru.cell C4.out (by simp)⟩)
      (first
        | (go_at_call 48; (with_reducible refine (HC4.out _ a3 n3 k3 (Own.upd (S := []) ho3.out ?_ (by simp)) (Upd.seq ru ?_)).mono ?_); (repeat (first | exact Upd.refl _ _ | apply Upd.drew | apply Upd.drewN | apply Upd.alloc)); (rintro _ W4 ⟨a4, n4, k4, rfl, ho4, ru⟩; dsimp only))
        | (go_at_call 47; (with_reducible refine (HC5.out _ a4 n4 k4 (Own.upd (S := []) ho4.out ?_ (by simp)) (Upd.seq ru ?_)).mono ?_); (repeat (first | exact Upd.refl _ _ | apply Upd.drew | apply Upd.drewN | apply Upd.alloc)); (rintro _ W5 ⟨a5, n5, k5, rfl, ho5, ru⟩; dsimp only)))
    all_goals
      have HB5 := Lib.hid (HB1.out.upd ru (by simp))
      have e5 := HB5.out.cell 5
      have e6 := HB5.out.cell 6
      have e7 := HB5.out.cell 7
      have e8 := HB5.out.cell 8
      have e9 := HB5.out.cell 9
      have e10 := HB5.out.cell 10
      have e11 := HB5.out.cell 11
      have e12 := HB5.out.cell 12
      have e13 := HB5.out.cell 13
      have e14 := HB5.out.cell 14
      simp only [List.getElem?_cons_zero, List.getElem?_cons_succ] at e5 e6 e7 e8 e9 e10 e11 e12 e13 e14
      have HU5 := Lib.hid (HU1.out.seq ru)
      clear HC4 HC5 d3 d4 ho3 ho4 C3 C4 ru
      go_wp2_with fail
      go_loopw [3, 4] (fun v i wr => ∃ (k : Nat) (a : Option Addr) (n cp : Nat), k ≤ 10 ∧ i = .int .i64 k ∧ v = .slice a n cp ∧ Hid (Own bv w.heap.size 5 wr (.slice a n cp) (L5 ++ encCaps ([c0, c1, c2, c3, c4, c5, c6, c7, c8, c9].take k))) ∧ Hid (Upd [] W5 wr)) (fun _ i _ => 10 - (intOf i).toNat)
      case atStart => exact ⟨0, a5, n5, k5, Nat.zero_le _, rfl, rfl, by unfold Hid; rw [List.take_zero, show encCaps [] = [] from rfl, List.append_nil]; exact ho5.out, Upd.refl _ _⟩
      case round =>
        obtain ⟨k, a, n, cp, hk, rfl, rfl, ho, hu5⟩ := hrel
        have hu := Lib.hid (HU5.out.seq hu5.out)
        clear ho5 e5 e6 e7 e8 e9 e10 e11 e12 e13 e14
        by_cases hlt : k < 10
        · have q0 : (0 : Int) ≤ k := by omega
          have q1 : (k : Int) < 10 := by omega
          have hck : wr.cell? ⟨w.heap.size, 5 + k, none⟩ = some (.int .i64 (nth [c0, c1, c2, c3, c4, c5, c6, c7, c8, c9] k)) := by
            rw [(HB5.out.upd hu5.out (by simp)).cell]
            rcases (show k = 0 ∨ k = 1 ∨ k = 2 ∨ k = 3 ∨ k = 4 ∨ k = 5 ∨ k = 6 ∨ k = 7 ∨ k = 8 ∨ k = 9 by omega) with rfl | rfl | rfl | rfl | rfl | rfl | rfl | rfl | rfl | rfl <;> rfl
          have HTK : Hid (encCaps ([c0, c1, c2, c3, c4, c5, c6, c7, c8, c9].take (k + 1)) = encCaps ([c0, c1, c2, c3, c4, c5, c6, c7, c8, c9].take k) ++ encNum (nth [c0, c1, c2, c3, c4, c5, c6, c7, c8, c9] k + 1).toNat) := by
            unfold Hid
            rw [take_snoc [c0, c1, c2, c3, c4, c5, c6, c7, c8, c9] k hlt, encCaps_app, encCaps_cons]; simp [encCaps]
          have HLE : Hid ((L5 ++ encCaps ([c0, c1, c2, c3, c4, c5, c6, c7, c8, c9].take k)).length ≤ 100000) := by
            have h1 := encCaps_le ([c0, c1, c2, c3, c4, c5, c6, c7, c8, c9].take k) (fun c hc => (HIC.out c (List.mem_of_mem_take hc)).2)
            have h2 := HL5.out
            have h3 : ([c0, c1, c2, c3, c4, c5, c6, c7, c8, c9].take k).length ≤ 10 := by rw [List.length_take]; omega
            unfold Hid; rw [List.length_append]; omega
          have hd := HIC.out (nth [c0, c1, c2, c3, c4, c5, c6, c7, c8, c9] k) (nth_in (l := [c0, c1, c2, c3, c4, c5, c6, c7, c8, c9]) k hlt)
          obtain ⟨hd1, hd2⟩ := hd
          generalize encCaps ([c0, c1, c2, c3, c4, c5, c6, c7, c8, c9].take k) = E at *
          generalize nth [c0, c1, c2, c3, c4, c5, c6, c7, c8, c9] k = d at *
          have hwr : IntKind.i64.wrap (d + 1) = d + 1 := by rw [IntKind.wrap_i64]; omega
          have HID : Hid (I64 (d + 1)) := ⟨by omega, by omega⟩
          clear hd1 hd2
          go_wp2_with fail
          (with_reducible refine (dnum_at w.heap.size W5 wr _ (L5 ++ E) (d + 1) HU5.out.size ho.out hu5.out HLE.out HID.out).mono ?_)
          rintro e W6 ⟨a6, n6, k6, rfl, ho6, hu6⟩
          have HO6 : Hid (Own bv w.heap.size 5 W6 (.slice a6 n6 k6) (L5 ++ encCaps ([c0, c1, c2, c3, c4, c5, c6, c7, c8, c9].take (k + 1)))) := by unfold Hid; rw [HTK.out, ← List.append_assoc]; exact ho6.out
          have HU6 := Lib.hid hu6
          clear ho6 hu6
          go_wp2_with fail
          go_roundw
          case rel => exact ⟨k + 1, a6, n6, k6, by omega, by go_num, rfl, HO6, HU6⟩
          case measure => simp [intOf]; omega
        · obtain rfl : k = 10 := by omega
          go_wp2_with fail
          go_ret
          exact ⟨_, rfl, ho.out, hu.out⟩
theorem rfPut_any2 (w : World) (r : Rec) (hok : recOk r = true) : Calls Tryz.prog 9 #[recVal r] w fun e w' => ∃ v, e = .returned v ∧ Own bv w.heap.size 5 w' v (encRec r) ∧ Upd [] w w' := by
  obtain ⟨ino, gen, at_, rule, kind, c0, c1, c2, c3, c4, c5, c6, c7, c8, c9, rfl⟩ := rec_mk r
  exact rfPut_c w ino gen at_ rule kind c0 c1 c2 c3 c4 c5 c6 c7 c8 c9 hok
end Go.Proofs.YtmhojaiajhdlcaaGreat
namespace Go.Proofs.YtmhojaiajhdlcaaGreat
open Go.RowKit
set_option linter.unusedSimpArgs false
set_option linter.unusedVariables false
theorem RdN.drop {α : Type} [Inhabited α] {sz : Nat} {c : α → List Value} {w : World} {a : Option Addr} {n cap : Nat} {l : List α} (h : RdN sz c w (.slice a n cap) l) (k : Nat) (hk : k ≤ l.length) :
    RdN sz c w (.slice (if cap = k then a else a.map (·.add (k * sz))) (n - k) (cap - k)) (l.drop k) := by
  obtain ⟨a', cap', he, h1, h2, h3⟩ := h
  injection he with e1 e2 e3; subst e1; subst e2; subst e3
  refine ⟨_, _, by rw [List.length_drop], by rw [List.length_drop]; omega, by omega, fun hne => ?_⟩
  have hlt : k < l.length := by
    rcases Nat.lt_or_ge k l.length with q | q
    · exact q
    · exact absurd (List.drop_eq_nil_of_le q) hne
  obtain ⟨b, off, rfl, hc⟩ := h3 (fun q => by subst q; simp at hlt)
  refine ⟨b, off + k * sz, by rw [if_neg (by omega)]; simp [add_none], fun j hj i hi => ?_⟩
  rw [List.length_drop] at hj
  rw [nth_drop, ← hc (k + j) (by omega) i hi, Nat.add_mul]
  congr 2; omega
theorem RdN.take {α : Type} [Inhabited α] {sz : Nat} {c : α → List Value} {w : World} {a : Option Addr} {n cap : Nat} {l : List α} (h : RdN sz c w (.slice a n cap) l) (k : Nat) (hk : k ≤ l.length) : RdN sz c w (.slice a k cap) (l.take k) := by
  obtain ⟨a', cap', he, h1, h2, h3⟩ := h
  injection he with e1 e2 e3; subst e1; subst e2; subst e3
  refine ⟨_, _, by rw [List.length_take, Nat.min_eq_left hk], by rw [List.length_take]; omega, h2, fun hne => ?_⟩
  obtain ⟨b, off, rfl, hc⟩ := h3 (fun q => hne (by rw [q]; simp))
  refine ⟨b, off, rfl, fun j hj i hi => ?_⟩
  rw [List.length_take] at hj
  rw [nth_take l k j (by omega)]; exact hc j (by omega) i hi
section
variable {w0 w w' : World} {gl gd gm : Nat} {lv : Value} {rl : List Rec}
set_option maxRecDepth 20000 in
theorem ledLen_any (h : LC w0 w gl gd gm lv rl) :
    Calls Tryz.prog 30 #[.pointer (some ⟨gl, 0, none⟩)] w fun e w' => e = .returned (.int .i64 (rl.length : Int)) ∧ w = w' := by
  obtain ⟨a, k, rfl, -⟩ := own_slice h.rows
  have c1 : w.cell? ⟨gl, 1, none⟩ = some (.slice a rl.length k) := h.top.cell 1
  clear h
  go_enter Tryz.func30, Tryz.ntmps30
  go_wp2
  go_ret
  exact ⟨rfl, rfl⟩
set_option maxRecDepth 20000 in
set_option maxHeartbeats 1000000 in
/-- The records from a number on. -/
theorem ledList_any (h : LC w0 w gl gd gm lv rl) (n : Int) (m : Nat) (hm : m ≤ rl.length) (hn : (n < 0 ∧ m = 0) ∨ (n = (m : Int)) ∨ (((rl.length : Int) < n) ∧ m = rl.length)) (hl : rl.length ≤ 100000000) :
    Calls Tryz.prog 26 #[.pointer (some ⟨gl, 0, none⟩), .int .i64 n] w fun e w' => ∃ a q k, e = .returned (.slice a q k) ∧ OwnN 15 recCells w.heap.size 27 w' (.slice a q k) (rl.drop m) ∧ Upd [] w w' := by
  obtain ⟨a, k, rfl, hk1, hk2⟩ := own_slice h.rows
  have c1 : w.cell? ⟨gl, 1, none⟩ = some (.slice a rl.length k) := h.top.cell 1
  have hk3 : k ≤ 9223372036854775807 := by unfold maxLen at hk2; omega
  obtain ⟨A, hA, hcut⟩ : ∃ A : Option Addr, A = (if k = m then a else a.map (·.add (m * 15))) ∧ ∀ W, (Instr.slice 36 (.slice a rl.length k) (some (.int .i64 (m : Int))) none none).run Tryz.prog W = .ok (.slice A (rl.length - m) (k - m)) W :=
    ⟨_, rfl, fun W => run_cut (P := Tryz.prog) (size := 15) undRec infoRec a rl.length k m hm W⟩
  have hrd : RdN 15 recCells w (.slice A (rl.length - m) (k - m)) (rl.drop m) := by
    rw [hA]; exact (h.rows.rd recCells_len).drop m hm
  have HRUN := Lib.hid (fun ty => run_appN (P := Tryz.prog) (w := w) (ty := ty) recCells_len (by decide) recCells_one undRec infoRec3 rfl (.slice none 0 0) (.slice A (rl.length - m) (k - m)) [] (rl.drop m) (OwnN.nil w.heap.size _ w) hrd (by simp; omega) (by simp [maxLen]; omega) (Nat.le_refl _))
  have HM := Lib.hid hm
  have HRUN0 := Lib.hid (fun ty => run_appN (P := Tryz.prog) (w := w) (ty := ty) recCells_len (by decide) recCells_one undRec infoRec3 rfl (.slice none 0 0) (.slice a rl.length k) [] rl (OwnN.nil w.heap.size _ w) (h.rows.rd recCells_len) (by simp; omega) (by simp [maxLen]; omega) (Nat.le_refl _))
  obtain ⟨Q, hQ⟩ : ∃ Q, rl.length - m = Q := ⟨_, rfl⟩
  obtain ⟨R, hR⟩ : ∃ R, k - m = R := ⟨_, rfl⟩
  rw [hQ, hR] at HRUN hcut
  clear hrd h hA hQ hR
  rcases hn with ⟨n1, rfl⟩ | rfl | ⟨n1, rfl⟩
  · have n2 : ¬ (0 : Int) < n := by omega
    have n3 : ¬ ((rl.length : Nat) : Int) < 0 := by omega
    clear HRUN hcut
    go_enter Tryz.func26, Tryz.ntmps26
    go_wp2_with (at_builtin; go_must (refine wpList_app_of rfl _ _ rfl (.slice none 0 0) (.slice a rl.length k) rfl rfl (HRUN0.out _) ?_; rintro v2 w2 ⟨ho2, hu2, hk2⟩; have HO2 := Lib.hid ho2; have HU2 := Lib.hid hu2; clear ho2 hu2 hk2 HRUN0; dsimp only))
    obtain ⟨a2, k2, rfl, -⟩ := own_slice HO2.out
    go_ret
    exact ⟨_, _, _, rfl, (by have := HO2.out; rw [List.nil_append] at this; exact this), HU2.out.mono (by simp [blk])⟩
  · have n2 : (0 : Int) ≤ m := by omega
    have n3 : (m : Int) ≤ rl.length := by omega
    go_enter Tryz.func26, Tryz.ntmps26
    go_wp2_with (at_builtin; go_must (refine wpList_app_of rfl _ _ rfl (.slice none 0 0) (.slice A Q R) rfl rfl (HRUN.out _) ?_; rintro v2 w2 ⟨ho2, hu2, hk2⟩; have HO2 := Lib.hid ho2; have HU2 := Lib.hid hu2; clear ho2 hu2 hk2 HRUN; dsimp only))
    obtain ⟨a2, k2, rfl, -⟩ := own_slice HO2.out
    go_ret
    exact ⟨_, _, _, rfl, HO2.out, HU2.out.mono (by simp [blk])⟩
  · have n2 : (0 : Int) < n := by omega
    go_enter Tryz.func26, Tryz.ntmps26
    go_wp2_with (at_builtin; go_must (refine wpList_app_of rfl _ _ rfl (.slice none 0 0) (.slice A Q R) rfl rfl (HRUN.out _) ?_; rintro v2 w2 ⟨ho2, hu2, hk2⟩; have HO2 := Lib.hid ho2; have HU2 := Lib.hid hu2; clear ho2 hu2 hk2 HRUN; dsimp only))
    obtain ⟨a2, k2, rfl, -⟩ := own_slice HO2.out
    go_ret
    exact ⟨_, _, _, rfl, HO2.out, HU2.out.mono (by simp [blk])⟩
end
/-- Two records. -/
abbrev reqs (ino gen at_ : Int) (rule : ByteArray) (kind c0 c1 c2 c3 c4 c5 c6 c7 c8 c9 : Int) (ino' gen' at' : Int) (rule' : ByteArray) (kind' d0 d1 d2 d3 d4 d5 d6 d7 d8 d9 : Int) : Prop := ((ino = ino' ∧ gen = gen' ∧ at_ = at' ∧ rule = rule') ∧ kind = kind' ∧ c0 = d0 ∧ c1 = d1 ∧ c2 = d2 ∧ c3 = d3 ∧ c4 = d4 ∧ c5 = d5 ∧ c6 = d6 ∧ c7 = d7 ∧ c8 = d8 ∧ c9 = d9)
theorem rec_eq (ino gen at_ : Int) (rule : ByteArray) (kind c0 c1 c2 c3 c4 c5 c6 c7 c8 c9 : Int) (ino' gen' at' : Int) (rule' : ByteArray) (kind' d0 d1 d2 d3 d4 d5 d6 d7 d8 d9 : Int) : mkRec ino gen at_ rule kind c0 c1 c2 c3 c4 c5 c6 c7 c8 c9 = mkRec ino' gen' at' rule' kind' d0 d1 d2 d3 d4 d5 d6 d7 d8 d9 ↔ reqs ino gen at_ rule kind c0 c1 c2 c3 c4 c5 c6 c7 c8 c9 ino' gen' at' rule' kind' d0 d1 d2 d3 d4 d5 d6 d7 d8 d9 := by
  constructor
  · intro h
    have h1 := congrArg Rec.key h
    have h2 := congrArg Rec.kind h
    have h3 := congrArg (fun r => r.caps.1) h
    have k1 := congrArg Key.ino h1
    have k2 := congrArg Key.gen h1
    have k3 := congrArg Key.at_ h1
    have k4 := congrArg Key.rule h1
    simp at h3
    exact ⟨⟨k1, k2, k3, k4⟩, h2, h3⟩
  · rintro ⟨⟨rfl, rfl, rfl, rfl⟩, rfl, rfl, rfl, rfl, rfl, rfl, rfl, rfl, rfl, rfl, rfl⟩
    rfl
theorem str_beq (a b : ByteArray) : (a.toList == b.toList) = decide (a = b) := by
  by_cases h : a = b
  · rw [h]; simp
  · rw [decide_eq_false h, beq_eq_false_iff_ne]; exact fun q => h (str_inj _ _ q)
theorem undKeyF : Tryz.prog.underlying 23 = some (.struct (Tryz.prog.fieldsOf 23)) := by kernel_rfl
theorem undRecF : Tryz.prog.underlying 27 = some (.struct (Tryz.prog.fieldsOf 27)) := by kernel_rfl
set_option maxRecDepth 20000 in
theorem keyEq_run (d : Nat) (w : World) (ino gen at_ : Int) (rule : ByteArray) (ino' gen' at' : Int) (rule' : ByteArray) : (Op.equalIn (d + 2) 23 (.agg #[.int .i64 ino, .int .i64 gen, .int .i64 at_, .string rule]) (.agg #[.int .i64 ino', .int .i64 gen', .int .i64 at', .string rule'])).run Tryz.prog w = .ok (decide (ino = ino' ∧ gen = gen' ∧ at_ = at' ∧ rule = rule')) w := by
  rw [run_equalIn_struct w (d + 1) _ _ _ undKeyF (by kernel_rfl)]
  simp only [Program.fieldsOf, Tryz.underlying23]
  simp [Op.eqFields, part, go_sem, run_equalIn_int w d 3 .i64 .i64 _ _ Tryz.underlying3, run_equalIn_string w d 9 _ _ Tryz.underlying9, str_beq]
  repeat' split
  all_goals simp_all
set_option maxRecDepth 20000 in
theorem capsEq_d (d : Nat) (w : World) (c0 c1 c2 c3 c4 c5 c6 c7 c8 c9 d0 d1 d2 d3 d4 d5 d6 d7 d8 d9 : Int) : (Op.equalIn (d + 2) 25 (.agg #[.int .i64 c0, .int .i64 c1, .int .i64 c2, .int .i64 c3, .int .i64 c4, .int .i64 c5, .int .i64 c6, .int .i64 c7, .int .i64 c8, .int .i64 c9]) (.agg #[.int .i64 d0, .int .i64 d1, .int .i64 d2, .int .i64 d3, .int .i64 d4, .int .i64 d5, .int .i64 d6, .int .i64 d7, .int .i64 d8, .int .i64 d9])).run Tryz.prog w = .ok (decide (c0 = d0 ∧ c1 = d1 ∧ c2 = d2 ∧ c3 = d3 ∧ c4 = d4 ∧ c5 = d5 ∧ c6 = d6 ∧ c7 = d7 ∧ c8 = d8 ∧ c9 = d9)) w := by
  obtain ⟨i, hi⟩ := infoI
  rw [run_equalIn_array w (d + 1) _ _ Tryz.underlying25 hi, cellsI]
  simp [Op.eqItems, List.range_succ, part, go_sem, run_equalIn_int w d 3 .i64 .i64 _ _ Tryz.underlying3]
  repeat' split
  all_goals simp_all
theorem part_key (w : World) (ino gen at_ : Int) (rule : ByteArray) (kind c0 c1 c2 c3 c4 c5 c6 c7 c8 c9 : Int) : (part 23 #[.int .i64 ino, .int .i64 gen, .int .i64 at_, .string rule, .int .i64 kind, .int .i64 c0, .int .i64 c1, .int .i64 c2, .int .i64 c3, .int .i64 c4, .int .i64 c5, .int .i64 c6, .int .i64 c7, .int .i64 c8, .int .i64 c9] 0).run Tryz.prog w = .ok (.agg #[.int .i64 ino, .int .i64 gen, .int .i64 at_, .string rule]) w := by kernel_rfl
theorem part_caps (w : World) (ino gen at_ : Int) (rule : ByteArray) (kind c0 c1 c2 c3 c4 c5 c6 c7 c8 c9 : Int) : (part 25 #[.int .i64 ino, .int .i64 gen, .int .i64 at_, .string rule, .int .i64 kind, .int .i64 c0, .int .i64 c1, .int .i64 c2, .int .i64 c3, .int .i64 c4, .int .i64 c5, .int .i64 c6, .int .i64 c7, .int .i64 c8, .int .i64 c9] 5).run Tryz.prog w = .ok (.agg #[.int .i64 c0, .int .i64 c1, .int .i64 c2, .int .i64 c3, .int .i64 c4, .int .i64 c5, .int .i64 c6, .int .i64 c7, .int .i64 c8, .int .i64 c9]) w := by kernel_rfl
theorem part_kind (w : World) (ino gen at_ : Int) (rule : ByteArray) (kind c0 c1 c2 c3 c4 c5 c6 c7 c8 c9 : Int) : (part 3 #[.int .i64 ino, .int .i64 gen, .int .i64 at_, .string rule, .int .i64 kind, .int .i64 c0, .int .i64 c1, .int .i64 c2, .int .i64 c3, .int .i64 c4, .int .i64 c5, .int .i64 c6, .int .i64 c7, .int .i64 c8, .int .i64 c9] 4).run Tryz.prog w = .ok (.int .i64 kind) w := by kernel_rfl
set_option maxRecDepth 20000 in
theorem recEq_run (w : World) (ino gen at_ : Int) (rule : ByteArray) (kind c0 c1 c2 c3 c4 c5 c6 c7 c8 c9 : Int) (ino' gen' at' : Int) (rule' : ByteArray) (kind' d0 d1 d2 d3 d4 d5 d6 d7 d8 d9 : Int) : (Op.equalIn 10000 27 (mkVal ino gen at_ rule kind c0 c1 c2 c3 c4 c5 c6 c7 c8 c9) (mkVal ino' gen' at' rule' kind' d0 d1 d2 d3 d4 d5 d6 d7 d8 d9)).run Tryz.prog w = .ok (decide (mkRec ino gen at_ rule kind c0 c1 c2 c3 c4 c5 c6 c7 c8 c9 = mkRec ino' gen' at' rule' kind' d0 d1 d2 d3 d4 d5 d6 d7 d8 d9)) w := by
  rw [run_equalIn_struct w 9999 _ _ _ undRecF (by kernel_rfl)]
  have h1 := fun W => keyEq_run 9997 W ino gen at_ rule ino' gen' at' rule'
  have h2 := fun W => capsEq_d 9997 W c0 c1 c2 c3 c4 c5 c6 c7 c8 c9 d0 d1 d2 d3 d4 d5 d6 d7 d8 d9
  have h3 := fun W => run_equalIn_int W 9998 3 .i64 .i64 kind kind' Tryz.underlying3
  simp only [Program.fieldsOf, Tryz.underlying27]
  simp only [Op.eqFields, Sem.run_bind, Sem.run_ite, part_key, part_caps, part_kind, Result.andThen_ok, h1, h2, h3, Sem.run_pure]
  simp only [rec_eq]
  by_cases k1 : ino = ino' ∧ gen = gen' ∧ at_ = at' ∧ rule = rule'
  · by_cases k2 : kind = kind'
    · by_cases k3 : c0 = d0 ∧ c1 = d1 ∧ c2 = d2 ∧ c3 = d3 ∧ c4 = d4 ∧ c5 = d5 ∧ c6 = d6 ∧ c7 = d7 ∧ c8 = d8 ∧ c9 = d9
      · rw [decide_eq_true k1, decide_eq_true k3, decide_eq_true (show reqs ino gen at_ rule kind c0 c1 c2 c3 c4 c5 c6 c7 c8 c9 ino' gen' at' rule' kind' d0 d1 d2 d3 d4 d5 d6 d7 d8 d9 from ⟨k1, k2, k3⟩), k2]; simp
      · rw [decide_eq_true k1, decide_eq_false k3, decide_eq_false (show ¬ reqs ino gen at_ rule kind c0 c1 c2 c3 c4 c5 c6 c7 c8 c9 ino' gen' at' rule' kind' d0 d1 d2 d3 d4 d5 d6 d7 d8 d9 from fun h => k3 h.2.2), k2]; simp
    · rw [decide_eq_true k1, decide_eq_false (show ¬ reqs ino gen at_ rule kind c0 c1 c2 c3 c4 c5 c6 c7 c8 c9 ino' gen' at' rule' kind' d0 d1 d2 d3 d4 d5 d6 d7 d8 d9 from fun h => k2 h.2.1)]; simp [k2]
  · rw [decide_eq_false k1, decide_eq_false (show ¬ reqs ino gen at_ rule kind c0 c1 c2 c3 c4 c5 c6 c7 c8 c9 ino' gen' at' rule' kind' d0 d1 d2 d3 d4 d5 d6 d7 d8 d9 from fun h => k1 h.1)]; simp
end Go.Proofs.YtmhojaiajhdlcaaGreat
namespace Go.Proofs.YtmhojaiajhdlcaaGreat
open Go.RowKit
set_option linter.unusedSimpArgs false
set_option linter.unusedVariables false
/-- The document's ledger at gk, on the disk at gr; its rows. -/
structure RK (w0 w : World) (gk gr : Nat) (lv : Value) (rl : List Rec) : Prop where
  top : Blk w gk 57 [.pointer (some ⟨gr, 0, none⟩), lv]
  rows : OwnN 15 recCells w0.heap.size 27 w lv rl
  glb : w0.heap.size ≤ gk
  old : Upd [] w0 w
abbrev kfoot (gk : Nat) (lv : Value) : List Nat := gk :: blk lv
section
variable {w0 w w' : World} {gk gr : Nat} {lv : Value} {rl : List Rec}
theorem kf_top (gk : Nat) (lv : Value) : gk ∈ kfoot gk lv := List.mem_cons_self
theorem kf_row {gk : Nat} {lv : Value} {x : Nat} (h : x ∈ blk lv) : x ∈ kfoot gk lv := List.mem_cons_of_mem _ h
theorem RK.gll (h : RK w0 w gk gr lv rl) : gk ∉ blk lv := by
  intro hx
  obtain ⟨C, f, h1⟩ := h.rows.typ gk hx
  have h2 : w.heap[gk]? = some (.cells _ _ _) := h.top
  rw [h1] at h2
  injection h2 with h2; injection h2 with _ h2
  exact absurd h2 (by decide)
theorem RK.upd (h : RK w0 w gk gr lv rl) {S : List Nat} (hu : Upd S w w') (hs : ∀ x ∈ kfoot gk lv, x ∉ S) (hS : ∀ x ∈ S, w0.heap.size ≤ x) : RK w0 w' gk gr lv rl :=
  ⟨h.top.upd hu (hs gk (by simp)), h.rows.upd hu (fun x hx => hs x (by simp [hx])), h.glb, h.old.trans hu (by simp) (fun x hx => .inr (hS x hx))⟩
theorem RK.upd0 (h : RK w0 w gk gr lv rl) (hu : Upd [] w w') : RK w0 w' gk gr lv rl := h.upd hu (by simp) (by simp)
theorem RK.ge (h : RK w0 w gk gr lv rl) : ∀ x ∈ kfoot gk lv, w0.heap.size ≤ x ∧ x < w.heap.size := by
  intro x hx
  rcases List.mem_cons.1 hx with rfl | hx
  · exact ⟨h.glb, h.top.lt⟩
  · exact h.rows.ge x hx
theorem RK.rebase {W : World} (h : RK w W gk gr lv rl) (hu : Upd [] w0 w) : RK w0 W gk gr lv rl :=
  ⟨h.top, h.rows.base_le hu.size, Nat.le_trans hu.size h.glb, hu.seq h.old⟩
theorem RK.new (w : World) (gr : Nat) : RK w (w.alloc (.cells #[.pointer (some ⟨gr, 0, none⟩), .slice none 0 0] 57)) w.heap.size gr (.slice none 0 0) [] :=
  ⟨Blk.new w _ [.pointer (some ⟨gr, 0, none⟩), .slice none 0 0], OwnN.nil _ _ _, Nat.le_refl _, (Upd.refl [] w).alloc _⟩
/-- A ledger of the document and its disk. -/
structure RKD (w0 w : World) (gr gk : Nat) (F G : List Nat) (rl : List Rec) (s : DS) : Prop where
  rk : ∃ lv, RK w0 w gk gr lv rl ∧ F = kfoot gk lv
  rd : RD w0 w gr G s
  ap : Ap F G
def RKOut (w0 w : World) (gr gk : Nat) (S : List Nat) (rl : List Rec) (s : DS) (w' : World) : Prop := ∃ F' G', RKD w0 w' gr gk F' G' rl s ∧ Upd S w w' ∧ (∀ x ∈ F', x ∈ S ∨ w.heap.size ≤ x) ∧ (∀ x ∈ G', x ∈ S ∨ w.heap.size ≤ x)
section
variable {F G : List Nat} {s s' : DS}
theorem RKD.old (h : RKD w0 w gr gk F G rl s) : Upd [] w0 w := h.rd.old
theorem RKD.geF (h : RKD w0 w gr gk F G rl s) : ∀ x ∈ F, w0.heap.size ≤ x ∧ x < w.heap.size := by
  obtain ⟨lv, hc, rfl⟩ := h.rk
  exact hc.ge
theorem RKD.upd (h : RKD w0 w gr gk F G rl s) {S : List Nat} (hu : Upd S w w') (h1 : ∀ x ∈ F, x ∉ S) (h2 : ∀ x ∈ G, x ∉ S) (hS : ∀ x ∈ S, w0.heap.size ≤ x) : RKD w0 w' gr gk F G rl s := by
  obtain ⟨lv, hc, rfl⟩ := h.rk
  exact ⟨⟨lv, hc.upd hu h1 hS, rfl⟩, h.rd.upd hu h2 hS, h.ap⟩
theorem RKD.upd0 (h : RKD w0 w gr gk F G rl s) (hu : Upd [] w w') : RKD w0 w' gr gk F G rl s := h.upd hu (by simp) (by simp) (by simp)
theorem RKD.out0 (h : RKD w0 w gr gk F G rl s) (hu : Upd [] w w') : RKOut w0 w gr gk (F ++ G) rl s w' :=
  ⟨F, G, h.upd0 hu, hu.mono (by simp), fun x hx => .inl (List.mem_append.2 (.inl hx)), fun x hx => .inl (List.mem_append.2 (.inr hx))⟩
/-- Behind a call on the disk alone. -/
theorem RKD.disk (h : RKD w0 w gr gk F G rl s) {w1 : World} (hu : Upd [] w w1) (hd : ROut w0 w1 gr G s' w') : ∃ G', RKD w0 w' gr gk F G' rl s' ∧ Upd G w w' ∧ (∀ x ∈ G', x ∈ G ∨ w.heap.size ≤ x) := by
  obtain ⟨G', k1, k2, k3⟩ := hd
  have h1 := h.upd0 hu
  have hs := hu.size
  obtain ⟨lv, hc, rfl⟩ := h1.rk
  refine ⟨G', ⟨⟨lv, hc.upd k2 h.ap (fun x hx => (h.rd.ge x hx).1), rfl⟩, k1, fun x hx hg => ?_⟩, hu.trans k2 (by simp) (fun x hx => .inl hx), fun x hx => (k3 x hx).imp id (fun q => by omega)⟩
  rcases k3 x hg with q | q
  · exact h.ap x hx q
  · have := (hc.ge x hx).2; omega
theorem RKD.out (h : RKD w0 w gr gk F G rl s) {G' : List Nat} (h2 : RKD w0 w' gr gk F G' rl s') (hu : Upd G w w') (hf : ∀ x ∈ G', x ∈ G ∨ w.heap.size ≤ x) : RKOut w0 w gr gk (F ++ G) rl s' w' :=
  ⟨F, G', h2, hu.mono (fun x hx => .inl (List.mem_append.2 (.inr hx))), fun x hx => .inl (List.mem_append.2 (.inl hx)), fun x hx => (hf x hx).imp (fun q => List.mem_append.2 (.inr q)) id⟩
end
set_option maxRecDepth 20000 in
set_option maxHeartbeats 4000000 in
theorem rfHas_c (h : RK w0 w gk gr lv rl) (ino gen at_ : Int) (rule : ByteArray) :
    Calls Tryz.prog 34 #[.pointer (some ⟨gk, 0, none⟩), .agg #[.int .i64 ino, .int .i64 gen, .int .i64 at_, .string rule]] w fun e w' => e = .returned (.bool (hasK rl ⟨ino, gen, at_, rule⟩)) ∧ Upd [] w w' := by
  have hu : Upd [] w (w.alloc (.cells #[.int .i64 ino, .int .i64 gen, .int .i64 at_, .string rule] 23)) := (Upd.refl [] w).alloc _
  have HU := Lib.hid hu
  have HB : Hid (Blk (w.alloc (.cells #[.int .i64 ino, .int .i64 gen, .int .i64 at_, .string rule] 23)) w.heap.size 23 [.int .i64 ino, .int .i64 gen, .int .i64 at_, .string rule]) := Blk.new w _ [.int .i64 ino, .int .i64 gen, .int .i64 at_, .string rule]
  have H1 := Lib.hid (h.upd0 hu)
  obtain ⟨la, lk, rfl, hlk, hlm⟩ := own_slice h.rows
  have hlk2 : lk ≤ 9223372036854775807 := by unfold maxLen at hlm; omega
  clear h hu hlm
  go_enter Tryz.func34, Tryz.ntmps34
  go_wp2_with fail
  generalize w.alloc (.cells #[.int .i64 ino, .int .i64 gen, .int .i64 at_, .string rule] 23) = w1 at *
  go_loopw [5] (fun i wr => ∃ k : Nat, k ≤ rl.length ∧ i = .int .i64 k ∧ Hid (Upd [] w1 wr) ∧ Hid (∀ j, j < k → (nth rl j).key ≠ ⟨ino, gen, at_, rule⟩)) (fun i _ => rl.length - (intOf i).toNat)
  case atStart => exact ⟨0, Nat.zero_le _, rfl, Upd.refl _ _, fun j h => absurd h (by omega)⟩
  case round =>
    obtain ⟨k, hk, rfl, hu, hne⟩ := hrel
    have hk1 := H1.out.upd0 hu.out
    have gc1 : wr.cell? ⟨gk, 1, none⟩ = some (.slice la rl.length lk) := hk1.top.cell 1
    by_cases hlt : k < rl.length
    · obtain ⟨a9, c9, he9, -, -, hca⟩ := hk1.rows.rd recCells_len
      injection he9 with e1 e2 e3
      subst e1; subst e3
      obtain ⟨lb, loff, rfl, hcb⟩ := hca (by intro h; simp [h] at hlt)
      clear hca e2
      have hc1 : ∀ i, i < 15 → wr.cell? ⟨lb, loff + (k * 15 + i), none⟩ = (recCells (nth rl k))[i]? := hcb k hlt
      have hbx := HB.out.upd hu.out (by simp)
      have d0 := hbx.cell 0
      have d1 := hbx.cell 1
      have d2 := hbx.cell 2
      have d3 := hbx.cell 3
      simp only [List.getElem?_cons_zero, List.getElem?_cons_succ] at d0 d1 d2 d3
      have HF : Hid ((nth rl k).key = ⟨ino, gen, at_, rule⟩ → hasK rl ⟨ino, gen, at_, rule⟩ = true) := fun he => (hasK_iff _ _).2 ⟨k, hlt, he⟩
      have HN : Hid ((nth rl k).key ≠ ⟨ino, gen, at_, rule⟩ → ∀ j, j < k + 1 → (nth rl j).key ≠ ⟨ino, gen, at_, rule⟩) := fun he j hj => by
        rcases Nat.lt_or_eq_of_le (Nat.le_of_lt_succ hj) with q | q
        · exact hne.out j q
        · subst q; exact he
      generalize nth rl k = rk at hc1 HF HN
      obtain ⟨⟨ino', gen', at', rule'⟩, kind', ⟨cs', hcs'⟩⟩ := rk
      have f0 : wr.cell? ⟨lb, loff + k * 15, none⟩ = some (.int .i64 ino') := hc1 0 (by omega)
      have f1 : wr.cell? ⟨lb, loff + k * 15 + 1, none⟩ = some (.int .i64 gen') := hc1 1 (by omega)
      have f2 : wr.cell? ⟨lb, loff + k * 15 + 2, none⟩ = some (.int .i64 at') := hc1 2 (by omega)
      have f3 : wr.cell? ⟨lb, loff + k * 15 + 3, none⟩ = some (.string rule') := hc1 3 (by omega)
      have hq := fun W => keyEq_run 9998 W ino' gen' at' rule' ino gen at_ rule
      have r2 : (k : Int) < rl.length := by omega
      have r3 : (0 : Int) ≤ k := by omega
      clear hcb hc1 hne hk1 hbx
      by_cases hkf : ino' = ino ∧ gen' = gen ∧ at' = at_ ∧ rule' = rule
      · rw [decide_eq_true hkf] at hq
        have HT := Lib.hid (HF.out (Key.ext' hkf.1 hkf.2.1 hkf.2.2.1 hkf.2.2.2))
        clear hkf HF HN
        go_wp2_with fail
        go_quiet (fail)
        go_wp2_with fail
        go_ret
        exact ⟨by rw [HT.out]; rfl, HU.out.seq (hu.out.trans (by repeat (first | exact Upd.refl [] _ | apply Upd.drew | apply Upd.drewN)) (by simp) (by simp))⟩
      · rw [decide_eq_false hkf] at hq
        have HT := Lib.hid (HN.out (fun q => hkf (by injection q with a b c d; exact ⟨a, b, c, d⟩)))
        clear hkf HF HN
        go_wp2_with fail
        go_quiet (fail)
        go_wp2_with fail
        go_roundw
        case rel => exact ⟨k + 1, by omega, by go_num, hu.out.trans (by repeat (first | exact Upd.refl [] _ | apply Upd.drew | apply Upd.drewN)) (by simp) (by simp), HT⟩
        case measure => simp [intOf]; omega
    · obtain rfl : k = rl.length := by omega
      have HT : Hid (hasK rl ⟨ino, gen, at_, rule⟩ = false) := by
        unfold Hid
        cases hb : hasK rl ⟨ino, gen, at_, rule⟩ with
        | false => rfl
        | true =>
          obtain ⟨j, hj, he⟩ := (hasK_iff _ _).1 hb
          exact absurd he (hne.out j hj)
      clear hne hk1
      go_wp2_with fail
      go_ret
      exact ⟨by rw [HT.out]; rfl, HU.out.seq hu.out⟩
end
end Go.Proofs.YtmhojaiajhdlcaaGreat
namespace Go.Proofs.YtmhojaiajhdlcaaGreat
open Go.RowKit
set_option linter.unusedSimpArgs false
set_option linter.unusedVariables false
set_option maxHeartbeats 4000000 in
theorem rFrame_any (v u : Value) (l p : List UInt8) (w : World) (h : Bytes w v l) (h2 : Bytes w u p) (hz : l.length ≤ 1000000000) (hz2 : p.length ≤ 1000000000) :
    Calls Tryz.prog 16 #[v, u] w fun e w' => ∃ x, e = .returned x ∧ Own bv w.heap.size 5 w' x (putF l p) ∧ Upd [] w w' := by
  have H := Lib.hid h
  have H2 := Lib.hid h2
  obtain ⟨a, cap, rfl, -, -, -⟩ := h
  obtain ⟨a2, cap2, rfl, -, -, -⟩ := h2
  by_cases hp : p.length < 1 ∨ 262144 < p.length
  · have HF : Hid (putF l p = l) := if_pos hp
    go_enter Tryz.func16, Tryz.ntmps16
    rcases hp with hp | hp
    · obtain hp0 : p.length = 0 := by omega
      go_wp2_with (at_builtin; refine wpList_app bv_one rfl (.tmp 7) (.tmp 8) rfl Tryz.underlying28 infoByte rfl (.slice (some ⟨w.heap.size, 0, none⟩) 0 0) (.slice a l.length cap) [] l rfl rfl (Own.room (base := w.heap.size) (Nat.le_refl _) rfl rfl (Nat.zero_le _)) (H.out.alloc _) (by simp; omega) (by unfold maxLen; simp; omega) (by simp) ?_; intro v1 w1 ho hu hbk; rw [List.nil_append] at ho; have HU : Hid (Upd [] w w1) := ((Upd.refl [] w).alloc _).trans hu (by simp) (by simp [blk]); have HO := Lib.hid ho; clear ho hu hbk)
      go_ret
      exact ⟨_, rfl, by rw [HF.out]; exact HO.out, HU.out⟩
    · have hp1 : ((p.length : Int) == 0) = false := by rw [beq_eq_false_iff_ne]; omega
      have hp2 : (262144 : Int) < p.length := by omega
      go_wp2_with (at_builtin; refine wpList_app bv_one rfl (.tmp 7) (.tmp 8) rfl Tryz.underlying28 infoByte rfl (.slice (some ⟨w.heap.size, 0, none⟩) 0 0) (.slice a l.length cap) [] l rfl rfl (Own.room (base := w.heap.size) (Nat.le_refl _) rfl rfl (Nat.zero_le _)) (H.out.alloc _) (by simp; omega) (by unfold maxLen; simp; omega) (by simp) ?_; intro v1 w1 ho hu hbk; rw [List.nil_append] at ho; have HU : Hid (Upd [] w w1) := ((Upd.refl [] w).alloc _).trans hu (by simp) (by simp [blk]); have HO := Lib.hid ho; clear ho hu hbk)
      go_ret
      exact ⟨_, rfl, by rw [HF.out]; exact HO.out, HU.out⟩
  · have HF : Hid (putF l p = l ++ frameOf p) := if_neg hp
    have hp1 : ((p.length : Int) == 0) = false := by rw [beq_eq_false_iff_ne]; omega
    have hp2 : ¬ (262144 : Int) < p.length := by omega
    have hp3 : p.length ≤ 262144 := by omega
    go_enter Tryz.func16, Tryz.ntmps16
    go_wp2_with (at_builtin; refine wpList_app bv_one rfl (.tmp 7) (.tmp 8) rfl Tryz.underlying28 infoByte rfl (.slice (some ⟨w.heap.size, 0, none⟩) 0 0) (.slice a l.length cap) [] l rfl rfl (Own.room (base := w.heap.size) (Nat.le_refl _) rfl rfl (Nat.zero_le _)) (H.out.alloc _) (by simp; omega) (by unfold maxLen; simp; omega) (by simp) ?_; intro v1 w1 ho hu hbk; rw [List.nil_append] at ho; have HU : Hid (Upd [] w w1) := ((Upd.refl [] w).alloc _).trans hu (by simp) (by simp [blk]); have HO := Lib.hid ho; clear ho hu hbk)
    refine (rfFour_any p.length (by omega) _).mono ?_
    rintro e w2 ⟨rfl, ho2, hu2⟩
    have HO1 := Lib.hid (HO.out.upd hu2 (by simp))
    have HO2 := Lib.hid ho2
    have HU2 := Lib.hid (HU.out.seq hu2)
    have HD : Hid (∀ x ∈ blk (.slice (some ⟨w1.heap.size, 0, none⟩) 4 4), x ∉ blk v1) := fun x h1 h2 => by have := (ho2.ge x h1).1; have := (HO.out.ge x h2).2; omega
    have hs2 := HU2.out.size
    have hq : (four p.length).length = 4 := rfl
    clear ho2 hu2 HU HO
    go_wp2_with (at_builtin; refine wpList_app bv_one rfl (.tmp 22) (.tmp 23) rfl Tryz.underlying28 infoByte rfl v1 (.slice (some ⟨w1.heap.size, 0, none⟩) 4 4) l (four p.length) rfl rfl HO1.out HO2.out.rd (by simp [hq]; omega) (by unfold maxLen; simp [hq]; omega) hs2 ?_; intro v3 w3 ho hu hbk; have HU3 : Hid (Upd [] w w3) := HU2.out.trans hu (by simp) (fun x hx => .inr (HO1.out.ge x hx).1); have HO3 := Lib.hid ho; have HV3 := Lib.hid (HO2.out.upd hu HD.out); clear ho hu hbk)
    have HP := Lib.hid (H2.out.upd0 HU3.out)
    refine (refOn_any 0#32 _ _ _ HV3.out.rd).mono ?_
    rintro e w4 ⟨rfl, rfl⟩
    go_wp2_with fail
    refine (refOn_any _ _ _ _ HP.out).mono ?_
    rintro e w4 ⟨rfl, rfl⟩
    have HS : Hid ((sumOf [four p.length, p]).toNat < 4294967296) := (sumOf [four p.length, p]).isLt
    have HF2 : Hid (frameOf p = four p.length ++ (four (sumOf [four p.length, p]).toNat ++ p)) := rfl
    have HSE : sumOn (sumOn 0#32 (four p.length)) p = sumOf [four p.length, p] := rfl
    rw [HSE]
    generalize (sumOf [four p.length, p]).toNat = sm at *
    have hq4 : (l ++ four p.length).length = l.length + 4 := by rw [List.length_append, hq]
    have HLE : Hid (l ++ four p.length ++ four sm ++ p = putF l p) := by unfold Hid; rw [HF.out, HF2.out]; simp only [List.append_assoc]
    generalize l ++ four p.length = l4 at *
    clear HV3 HP HD HO1 HO2 HU2 HF2 HF HSE
    have hsm := HS.out
    go_wp2_with fail
    refine (rfFour_any sm HS.out _).mono ?_
    rintro e w5 ⟨rfl, ho5, hu5⟩
    have HO5 := Lib.hid (HO3.out.upd hu5 (by simp))
    have HR5 := Lib.hid ho5.rd
    have HU5 := Lib.hid (HU3.out.seq hu5)
    have hs5 := HU5.out.size
    have hq5 : (four sm).length = 4 := rfl
    have hq6 : (l4 ++ four sm).length = l.length + 8 := by rw [List.length_append, hq5, hq4]
    generalize four sm = fs at *
    generalize (.slice (some ⟨w3.heap.size, 0, none⟩) 4 4 : Value) = v5 at *
    clear ho5 hu5 HU3 HO3
    go_wp2_with (first
      | (at_builtin; refine wpList_app bv_one rfl (.tmp 24) (.tmp 30) rfl Tryz.underlying28 infoByte rfl v3 v5 l4 fs rfl rfl HO5.out HR5.out (by simp [hq4, hq5]; omega) (by unfold maxLen; simp [hq4, hq5]; omega) hs5 ?_; intro v6 w6 ho hu hbk; have HU6 : Hid (Upd [] w w6) := HU5.out.trans hu (by simp) (fun x hx => .inr (HO5.out.ge x hx).1); have HO6 := Lib.hid ho; have HP6 := Lib.hid (H2.out.upd0 HU6.out); have hs6 := HU6.out.size; clear ho hu hbk; generalize l4 ++ fs = l6 at *)
      | (at_builtin; refine wpList_app bv_one rfl (.tmp 32) (.tmp 33) rfl Tryz.underlying28 infoByte rfl v6 (.slice a2 p.length cap2) l6 p rfl rfl HO6.out HP6.out (by simp [hq6]; omega) (by unfold maxLen; simp [hq6]; omega) hs6 ?_; intro v7 w7 ho hu hbk; have HU7 : Hid (Upd [] w w7) := HU6.out.trans hu (by simp) (fun x hx => .inr (HO6.out.ge x hx).1); have HO7 := Lib.hid ho; clear ho hu hbk))
    go_ret
    exact ⟨_, rfl, by rw [← HLE.out]; exact HO7.out, HU7.out⟩
end Go.Proofs.YtmhojaiajhdlcaaGreat
