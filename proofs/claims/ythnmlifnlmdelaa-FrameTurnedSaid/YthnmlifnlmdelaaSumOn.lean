/- The sum's functions: what they compute, over bytes that a world holds. -/
import Derived.Test.YthnmlifnlmdelaaRows
import Derived.Test.YthnmlifnlmdelaaFlip
namespace Go.Proofs.Ythnmlifnlmdelaa
open Go.RowKit
set_option linter.unusedSimpArgs false
set_option linter.unusedVariables false

theorem onAll_take (s : BitVec 32) (l : List UInt8) (k : Nat) (h : k < l.length) : onAll s (l.take (k + 1)) = onByte (onAll s (l.take k)) (nth l k) := by
  unfold onAll
  rw [List.take_succ_eq_append_getElem h, List.foldl_append]
  simp [nth_get l k h]

theorem ofInt_toNat (s : BitVec 32) : BitVec.ofInt 32 (s.toNat : Int) = s := by
  rw [BitVec.ofInt_natCast, BitVec.ofNat_toNat]; simp
theorem wrap_toNat (s : BitVec 32) : IntKind.u32.wrap (s.toNat : Int) = (s.toNat : Int) := by
  have := s.isLt
  rw [IntKind.wrap_u32']; omega
theorem bits_xor (s t : BitVec 32) : bits .xor .u32 (s.toNat : Int) (t.toNat : Int) = ((s ^^^ t).toNat : Int) := by
  rw [u32_xor_nat _ _ s.isLt t.isLt, BitVec.toNat_xor]
theorem bits_and1 (s : BitVec 32) : (bits .and .u32 (s.toNat : Int) 1 == 1) = decide (s &&& 1 = 1) := by
  have h : bits .and .u32 (s.toNat : Int) ((1 : BitVec 32).toNat : Int) = ((s &&& 1).toNat : Int) := by
    rw [u32_and_nat _ _ s.isLt (by decide), BitVec.toNat_and]
  have h1 : (((1 : BitVec 32).toNat : Nat) : Int) = 1 := rfl
  rw [h1] at h
  rw [h]
  by_cases g : s &&& 1 = 1
  · rw [g]; rfl
  · have : ((s &&& 1).toNat : Int) ≠ 1 := fun e => g (BitVec.eq_of_toNat_eq (by rw [show (s &&& 1).toNat = 1 by omega]; rfl))
    rw [decide_eq_false g]; exact beq_eq_false_iff_ne.2 this
theorem bits_not (s : BitVec 32) : bits .xor .u32 IntKind.u32.max (s.toNat : Int) = ((~~~ s).toNat : Int) := by
  have h1 : IntKind.u32.max = (((0xFFFFFFFF : BitVec 32).toNat : Nat) : Int) := rfl
  rw [h1, bits_xor]
  congr 2
theorem half (s : BitVec 32) : (s.toNat : Int) / (2 : Int) = ((s >>> 1).toNat : Int) := by
  rw [BitVec.toNat_ushiftRight, Nat.shiftRight_eq_div_pow]; omega


theorem onStep_odd (s : BitVec 32) (h : (bits .and .u32 (s.toNat : Int) 1 == 1) = true) : bits .xor .u32 ((s.toNat : Int) / 2) 2197175160 = ((onStep s).toNat : Int) := by
  rw [bits_and1] at h
  rw [half, show (2197175160 : Int) = (((0x82F63B78 : BitVec 32).toNat : Nat) : Int) from rfl, bits_xor, onStep, if_pos (of_decide_eq_true h)]
theorem onStep_even (s : BitVec 32) (h : (bits .and .u32 (s.toNat : Int) 1 == 1) = false) : (s.toNat : Int) / 2 = ((onStep s).toNat : Int) := by
  rw [bits_and1] at h
  rw [half, onStep, if_neg (of_decide_eq_false h)]
theorem bits_byte (s : BitVec 32) (x : UInt8) : bits .xor .u32 (s.toNat : Int) (x.toNat : Int) = ((s ^^^ BitVec.ofNat 32 x.toNat).toNat : Int) := by
  have hx : x.toNat < 256 := x.toNat_lt
  have h1 : ((x.toNat : Nat) : Int) = ((BitVec.ofNat 32 x.toNat).toNat : Int) := by
    rw [BitVec.toNat_ofNat, Nat.mod_eq_of_lt (by omega)]
  rw [h1, bits_xor]
theorem bits_byte' (s : BitVec 32) (x : UInt8) : bits .xor .u32 (s.toNat : Int) ((x.toNat : Int) % 4294967296) = ((s ^^^ BitVec.ofNat 32 x.toNat).toNat : Int) := by
  have hx : x.toNat < 256 := x.toNat_lt
  rw [← bits_byte]; congr 1; omega

set_option maxHeartbeats 400000 in
theorem on_any (c : BitVec 32) (v : Value) (l : List UInt8) (w : World) (h : Bytes w v l) :
    Calls Try.prog 64 #[.int .u32 (c.toNat : Int), v] w fun e w' => e = .returned (.int .u32 ((sumOn c l).toNat : Int)) ∧ w = w' := by
  obtain ⟨a, cap, rfl, hlc, hm, hc⟩ := h
  have hm' : l.length ≤ 9223372036854775807 := by unfold maxLen at hm; omega
  clear hm hlc
  go_enter Try.func64, Try.ntmps64
  go_wp2
  go_loop [5, 13] (fun s i => ∃ k : Nat, k ≤ l.length ∧ i = .int .i64 k ∧ s = .int .u32 ((onAll (~~~ c) (l.take k)).toNat : Int)) (fun _ i => l.length - (intOf i).toNat)
  case atStart => exact ⟨0, Nat.zero_le _, rfl, by rw [bits_not]; rfl⟩
  case round =>
    obtain ⟨k, hk, rfl, rfl⟩ := hrel
    by_cases hlt : k < l.length
    · obtain ⟨b, off, rfl, hc'⟩ := hc (by intro h; simp [h] at hlt)
      have hck := hc' k hlt
      have HT := Lib.hid (onAll_take (~~~ c) l k hlt)
      clear hc hc'
      go_wp2
      go_loop [5, 21] (fun s i => ∃ j : Nat, j ≤ 8 ∧ i = .int .i64 j ∧ s = .int .u32 ((onBits ((onAll (~~~ c) (l.take k)) ^^^ BitVec.ofNat 32 (nth l k).toNat) j).toNat : Int)) (fun _ i => 8 - (intOf i).toNat)
      case atStart => exact ⟨0, Nat.zero_le _, rfl, congrArg _ (by exact bits_byte' _ _)⟩
      case round =>
        obtain ⟨j, hj, rfl, rfl⟩ := hrel
        by_cases hlt2 : j < 8
        · go_wp2
          · go_round
            case rel => exact ⟨j + 1, by omega, by go_num, congrArg _ (onStep_odd _ (by assumption))⟩
            case measure => simp [intOf]; omega
          · go_round
            case rel => exact ⟨j + 1, by omega, by go_num, congrArg _ (onStep_even _ (by assumption))⟩
            case measure => simp [intOf]; omega
        · obtain rfl : j = 8 := by omega
          go_wp2
          go_round
          case rel => exact ⟨k + 1, by omega, by go_num, by rw [HT.out]; rfl⟩
          case measure => simp [intOf]; omega
    · obtain rfl : k = l.length := by omega
      go_wp2
      go_ret
      exact ⟨congrArg (fun n => Ending.returned (.int .u32 n)) (by rw [bits_not]; rfl), rfl⟩

set_option maxHeartbeats 400000 in
theorem refOn_any (c : BitVec 32) (v : Value) (l : List UInt8) (w : World) (h : Bytes w v l) :
    Calls Try.prog 50 #[.int .u32 (c.toNat : Int), v] w fun e w' => e = .returned (.int .u32 ((sumOn c l).toNat : Int)) ∧ w = w' := by
  obtain ⟨a, cap, rfl, hlc, hm, hc⟩ := h
  have hm' : l.length ≤ 9223372036854775807 := by unfold maxLen at hm; omega
  clear hm hlc
  go_enter Try.func50, Try.ntmps50
  go_wp2
  go_loop [5, 6] (fun s i => ∃ k : Nat, k ≤ l.length ∧ i = .int .i64 k ∧ s = .int .u32 ((onAll (~~~ c) (l.take k)).toNat : Int)) (fun _ i => l.length - (intOf i).toNat)
  case atStart => exact ⟨0, Nat.zero_le _, rfl, by rw [bits_not]; rfl⟩
  case round =>
    obtain ⟨k, hk, rfl, rfl⟩ := hrel
    by_cases hlt : k < l.length
    · obtain ⟨b, off, rfl, hc'⟩ := hc (by intro h; simp [h] at hlt)
      have hck := hc' k hlt
      have HT := Lib.hid (onAll_take (~~~ c) l k hlt)
      clear hc hc'
      go_wp2
      go_loop [5, 7] (fun s i => ∃ j : Nat, j ≤ 8 ∧ i = .int .i64 j ∧ s = .int .u32 ((onBits ((onAll (~~~ c) (l.take k)) ^^^ BitVec.ofNat 32 (nth l k).toNat) j).toNat : Int)) (fun _ i => 8 - (intOf i).toNat)
      case atStart => exact ⟨0, Nat.zero_le _, rfl, congrArg _ (by exact bits_byte' _ _)⟩
      case round =>
        obtain ⟨j, hj, rfl, rfl⟩ := hrel
        by_cases hlt2 : j < 8
        · go_wp2
          · go_round
            case rel => exact ⟨j + 1, by omega, by go_num, congrArg _ (onStep_odd _ (by assumption))⟩
            case measure => simp [intOf]; omega
          · go_round
            case rel => exact ⟨j + 1, by omega, by go_num, congrArg _ (onStep_even _ (by assumption))⟩
            case measure => simp [intOf]; omega
        · obtain rfl : j = 8 := by omega
          go_wp2
          go_round
          case rel => exact ⟨k + 1, by omega, by go_num, by rw [HT.out]; rfl⟩
          case measure => simp [intOf]; omega
    · obtain rfl : k = l.length := by omega
      go_wp2
      go_ret
      exact ⟨congrArg (fun n => Ending.returned (.int .u32 n)) (by rw [bits_not]; rfl), rfl⟩

/-- Lists of bytes that a slice of slices shows. -/
def Parts (w : World) (v : Value) (ls : List (List UInt8)) : Prop :=
  ∃ vs : List Value, vs.length = ls.length ∧ Rd id w v vs ∧ ∀ j, j < ls.length → Bytes w (nth vs j) (nth ls j)
theorem sumOf_take (ls : List (List UInt8)) (k : Nat) (h : k < ls.length) : sumOf (ls.take (k + 1)) = sumOn (sumOf (ls.take k)) (nth ls k) := by
  unfold sumOf
  rw [List.take_succ_eq_append_getElem h, List.foldl_append]
  simp [nth_get ls k h]

set_option maxHeartbeats 400000 in
theorem of_any (v : Value) (ls : List (List UInt8)) (w : World) (h : Parts w v ls) :
    Calls Try.prog 47 #[v] w fun e w' => e = .returned (.int .u32 ((sumOf ls).toNat : Int)) ∧ w = w' := by
  obtain ⟨vs, hvl, ⟨a, cap, rfl, hlc, hm, hc⟩, hb⟩ := h
  have hm' : vs.length ≤ 9223372036854775807 := by unfold maxLen at hm; omega
  clear hm hlc
  have HL := Lib.hid hvl
  have HB := Lib.hid hb
  have HC := Lib.hid hc
  clear hvl hb hc
  go_enter Try.func47, Try.ntmps47
  go_wp2
  go_loop [3, 8] (fun s i => ∃ k : Nat, k ≤ vs.length ∧ i = .int .i64 k ∧ s = .int .u32 ((sumOf (ls.take k)).toNat : Int)) (fun _ i => vs.length - (intOf i).toNat)
  case atStart => exact ⟨0, Nat.zero_le _, rfl, rfl⟩
  case round =>
    obtain ⟨k, hk, rfl, rfl⟩ := hrel
    by_cases hlt : k < vs.length
    · obtain ⟨b, off, rfl, hc'⟩ := HC.out (by intro h; simp [h] at hlt)
      have hck := hc' k hlt
      have hbk := Lib.hid (HB.out k (by rw [← HL.out]; exact hlt))
      have HT := Lib.hid (sumOf_take ls k (by rw [← HL.out]; exact hlt))
      simp only [id] at hck
      clear hc'
      go_wp2_with (go_at_call 64; refine (on_any _ _ _ _ hbk.out).mono ?_; rintro e w' ⟨rfl, rfl⟩)
      go_round
      case rel => exact ⟨k + 1, by omega, by go_num, by rw [HT.out]⟩
      case measure => simp [intOf]; omega
    · obtain rfl : k = vs.length := by omega
      go_wp2
      go_ret
      exact ⟨congrArg (fun n => Ending.returned (.int .u32 n)) (by rw [HL.out, List.take_length]), rfl⟩

theorem Parts.lit {w : World} (vs : List Value) (ls : List (List UInt8)) {C : Array Value} {e : TypeId} {g n k : Nat} (hg : g = w.heap.size) (hC : C = vs.toArray) (hn : n = ls.length) (hv : vs.length = ls.length) (hk : n ≤ k) (hm : k ≤ maxLen)
    (h : ∀ j, j < ls.length → Bytes w (nth vs j) (nth ls j)) : Parts (w.alloc (.cells C e)) (.slice (some ⟨g, 0, none⟩) n k) ls :=
  ⟨vs, hv, Rd.lit vs hg (by simp [hC]) (by rw [hn, hv]) hk hm, fun j hj => (h j hj).alloc _⟩
theorem Parts.nil (w : World) : Parts w (.slice none 0 0) [] := ⟨[], rfl, Rd.nil w, fun j hj => absurd hj (by simp)⟩
theorem Parts.one {w : World} (v : Value) (l : List UInt8) {C : Array Value} {e : TypeId} {g n k : Nat} (hg : g = w.heap.size) (hC : C = #[v]) (hn : n = 1) (hk : k = 1) (h : Bytes w v l) : Parts (w.alloc (.cells C e)) (.slice (some ⟨g, 0, none⟩) n k) [l] :=
  Parts.lit [v] [l] hg (by rw [hC]) hn rfl (by omega) (by unfold maxLen; omega) (fun j hj => by
    match j, hj with
    | 0, _ => exact h)
theorem Parts.two {w : World} (v v' : Value) (l l' : List UInt8) {C : Array Value} {e : TypeId} {g n k : Nat} (hg : g = w.heap.size) (hC : C = #[v, v']) (hn : n = 2) (hk : k = 2) (h : Bytes w v l) (h' : Bytes w v' l') : Parts (w.alloc (.cells C e)) (.slice (some ⟨g, 0, none⟩) n k) [l, l'] :=
  Parts.lit [v, v'] [l, l'] hg (by rw [hC]) hn rfl (by omega) (by unfold maxLen; omega) (fun j hj => by
    match j, hj with
    | 0, _ => exact h
    | 1, _ => exact h')

theorem bit_test (x : BitVec 32) (k : Nat) : (bits .and .u32 ((x.toNat : Int) / 2 ^ k) 1 = 1) ↔ x.getLsbD k = true := by
  have h : bits .and .u32 (((x >>> k).toNat : Nat) : Int) 1 = 1 ↔ (x >>> k) &&& 1 = 1 := by
    have := bits_and1 (x >>> k)
    constructor
    · intro q; rw [q] at this; exact of_decide_eq_true this.symm
    · intro q; rw [decide_eq_true q] at this; exact beq_iff_eq.1 this
  have e : (x.toNat : Int) / 2 ^ k = (((x >>> k).toNat : Nat) : Int) := by
    rw [BitVec.toNat_ushiftRight, Nat.shiftRight_eq_div_pow, Int.natCast_ediv, Int.natCast_pow]; rfl
  rw [e, h, and_one, BitVec.getLsbD_ushiftRight]; rfl

theorem flip_bits (a : UInt8) (r : Nat) (hr : r < 8) : bits .xor .u8 (a.toNat : Int) ((2 : Int) ^ r % 256) = ((UInt8.ofNat (a.toNat ^^^ 2 ^ r)).toNat : Int) := by
  have h1 : 2 ^ r < 2 ^ 8 := Nat.pow_lt_pow_right (by omega) hr
  have h2 : ((2 : Int) ^ r % 256) = ((2 ^ r : Nat) : Int) := by
    rw [Int.natCast_pow]
    have : ((2 ^ r : Nat) : Int) < 256 := by omega
    rw [Int.natCast_pow] at this
    have h0 : (0 : Int) ≤ ((2 : Nat) : Int) ^ r := Int.le_of_lt (Int.pow_pos (by decide))
    exact Int.emod_eq_of_lt h0 this
  rw [h2, u8_xor_nat _ _ a.toNat_lt h1, toNat_flip _ _ a.toNat_lt hr]
/-- One turned bit, as the program stores it. -/
theorem flip_blk {w : World} {g : Nat} {e : TypeId} {l : List UInt8} {ys : List Value} (n : Nat) (hn : n < 8 * l.length) (h : Blk w g e (l.map bv ++ ys)) :
    Blk (w.setCell ⟨g, n / 8, none⟩ (.int .u8 (bits .xor .u8 ((nth l (n / 8)).toNat : Int) ((2 : Int) ^ (n % 8) % 256)))) g e ((flip1 l n).map bv ++ ys) := by
  rw [flip_bits _ _ (by omega)]
  have := h.set_ (n / 8) (bv (UInt8.ofNat ((nth l (n / 8)).toNat ^^^ 2 ^ (n % 8))))
  rw [List.set_append_left _ _ (by simp; omega), ← List.map_set] at this
  exact this
theorem turned_step (lim len bt : Nat) (x : BitVec 32) (k : Nat) (h1 : x.getLsbD k = true) (h2 : bt + k < 8 * len) (h3 : (bt + k) / 8 < lim) : turned lim len bt x (k + 1) = true := by
  simp only [turned, h1, decide_eq_true h2, decide_eq_true h3]; simp
theorem turned_stay (lim len bt : Nat) (x : BitVec 32) (k : Nat) (h : x.getLsbD k = false ∨ ¬ bt + k < 8 * len) : turned lim len bt x (k + 1) = turned lim len bt x k := by
  rcases h with h | h <;> simp [turned, h]
theorem flips_step (l : List UInt8) (bt : Nat) (x : BitVec 32) (k : Nat) (h1 : x.getLsbD k = true) (h2 : bt + k < 8 * l.length) : flips l bt x (k + 1) = flip1 (flips l bt x k) (bt + k) := by
  simp only [flips, h1, decide_eq_true h2]; simp
theorem flips_stay (l : List UInt8) (bt : Nat) (x : BitVec 32) (k : Nat) (h : x.getLsbD k = false ∨ ¬ bt + k < 8 * l.length) : flips l bt x (k + 1) = flips l bt x k := by
  rcases h with h | h <;> simp [flips, h]

theorem Parts.drew {w : World} {v : Value} {ls : List (List UInt8)} (h : Parts w v ls) : Parts w.drew v ls := h
theorem Parts.four {w : World} (v0 v1 v2 v3 : Value) (l0 l1 l2 l3 : List UInt8) {C : Array Value} {e : TypeId} {g n k : Nat} (hg : g = w.heap.size) (hC : C = #[v0, v1, v2, v3]) (hn : n = 4) (hk : k = 4) (h0 : Bytes w v0 l0) (h1 : Bytes w v1 l1) (h2 : Bytes w v2 l2) (h3 : Bytes w v3 l3) : Parts (w.alloc (.cells C e)) (.slice (some ⟨g, 0, none⟩) n k) [l0, l1, l2, l3] :=
  Parts.lit [v0, v1, v2, v3] [l0, l1, l2, l3] hg (by rw [hC]) hn rfl (by omega) (by unfold maxLen; omega) (fun j hj => by
    match j, hj with
    | 0, _ => exact h0
    | 1, _ => exact h1
    | 2, _ => exact h2
    | 3, _ => exact h3)
theorem sumOf_parts (l : List UInt8) (i k : Nat) (hi : i ≤ k) : sumOf [l.take i, [], (l.drop i).take (k - i), l.drop k] = sumOf [l] := by
  show sumOn (sumOn (sumOn (sumOn 0 (l.take i)) []) ((l.drop i).take (k - i))) (l.drop k) = sumOn 0 l
  rw [← sumOn_append, ← sumOn_append, ← sumOn_append]
  congr 1
  rw [List.nil_append]
  have : (l.drop i).take (k - i) ++ l.drop k = l.drop i := by
    rw [show l.drop k = (l.drop i).drop (k - i) by rw [List.drop_drop]; congr 1; omega, List.take_append_drop]
  rw [this, List.take_append_drop]
theorem sumOf_two (l : List UInt8) (i : Nat) : sumOn (sumOf [l.take i]) (l.drop i) = sumOf [l] := by
  show sumOn (sumOn 0 (l.take i)) (l.drop i) = sumOn 0 l
  rw [← sumOn_append, List.take_append_drop]
theorem sumOn_nil (c : BitVec 32) : sumOn c [] = c := by unfold sumOn; simp [onAll]
theorem toNat_beq {a b : BitVec 32} (h : a = b) : ((a.toNat : Int) == (b.toNat : Int)) = true := by rw [h]; simp
end Go.Proofs.Ythnmlifnlmdelaa
