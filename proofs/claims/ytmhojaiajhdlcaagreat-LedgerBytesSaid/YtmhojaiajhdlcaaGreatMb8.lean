/- Texts of the proof, joined: A record as bytes: the program's walk. Chapter 2: the document's Num, Text, Flag. A record as bytes: the document's walk. Chapter 25: the keys of a ledger as a map. Chapter 25: a ledger in memory; is a key there?. Chapter 25: a record more. The sum as plain mathematics: it is linear, and a burst of 32 bits turns it. Bits of bytes that are turned one by one. The sum's functions: what they compute, over bytes that a world holds. Chapter 23's inner functions: four bytes of a number, a number of four bytes. -/
import Derived.Test.YtmhojaiajhdlcaaGreatMb2
import Derived.Deep.RegionHeld3
import Derived.Test.YtmhojaiajhdlcaaGreatMb1
import Derived.Maps.OwnOps
import Derived.Maps.Views
import Derived.DeepKeys4
import Derived.Test.YtmhojaiajhdlcaaGreatMb3
import Derived.StillTailTactics
import Derived.Deep.RegionLaw
import Derived.Test.YtmhojaiajhdlcaaGreatRows
namespace Go.Proofs.YtmhojaiajhdlcaaGreat
open Go.RowKit
set_option linter.unusedSimpArgs false
set_option linter.unusedVariables false
theorem take_snoc {α : Type} [Inhabited α] (l : List α) (k : Nat) (h : k < l.length) : l.take (k + 1) = l.take k ++ [nth l k] := by rw [List.take_add_one, nth_get _ _ h, List.getElem?_eq_getElem h]; rfl
theorem own_nil8 (b : Nat) (W : World) : Own bv b 5 W (.slice none 0 0) [] := World.ownsRow_nil _ _ _ _
/-- A number behind bytes, at any world behind w. -/
theorem num_at (b : Nat) (w W : World) (v : Value) (l : List UInt8) (M : Int) (hb : b ≤ w.heap.size) (ho : Own bv b 5 W v l) (hu : Upd [] w W) (hl : l.length ≤ 100000) (hM : I64 M) :
    Calls Tryz.prog 58 #[v, .int .i64 M] W fun e w' => ∃ a n k, e = .returned (.slice a n k) ∧ Hid (Own bv b 5 w' (.slice a n k) (l ++ encNum M.toNat)) ∧ Upd [] w w' := by
  refine (fNum_any _ l M _ ho.rd (by omega) hM).mono ?_
  rintro e w' ⟨x, rfl, h, hu2⟩
  obtain ⟨a, k, rfl, -⟩ := h.rd
  exact ⟨a, _, k, rfl, h.base_le (Nat.le_trans hb hu.size), hu.seq hu2⟩
theorem text_at (b : Nat) (w W : World) (v : Value) (l : List UInt8) (S : ByteArray) (hb : b ≤ w.heap.size) (ho : Own bv b 5 W v l) (hu : Upd [] w W) (hl : l.length ≤ 100000) (hM : S.size ≤ 1000000) :
    Calls Tryz.prog 59 #[v, .string S] W fun e w' => ∃ a n k, e = .returned (.slice a n k) ∧ Hid (Own bv b 5 w' (.slice a n k) (l ++ encText S)) ∧ Upd [] w w' := by
  refine (fText_any _ l S _ ho.rd (by omega) (by omega)).mono ?_
  rintro e w' ⟨x, rfl, h, hu2⟩
  obtain ⟨a, k, rfl, -⟩ := h.rd
  exact ⟨a, _, k, rfl, h.base_le (Nat.le_trans hb hu.size), hu.seq hu2⟩
theorem encNum_le (n : Nat) (h : n < 18446744073709551616) : (encNum n).length ≤ 9 := by have := nb_le8 n h; rw [encNum_len]; omega
theorem encCaps_le (l : List Int) (h : ∀ c ∈ l, c ≤ 500) : (encCaps l).length ≤ 9 * l.length := by
  induction l with
  | nil => simp [encCaps]
  | cons c l ih =>
    have h1 := ih (fun x hx => h x (by simp [hx]))
    have h2 := h c (by simp)
    have h3 := encNum_le (c + 1).toNat (by omega)
    rw [encCaps_cons, List.length_append, List.length_cons]; omega
set_option maxRecDepth 20000 in
set_option maxHeartbeats 8000000 in
theorem ledPut_c (w : World) (ino gen at_ : Int) (rule : ByteArray) (kind c0 c1 c2 c3 c4 c5 c6 c7 c8 c9 : Int) :
    Calls Tryz.prog 14 #[mkVal ino gen at_ rule kind c0 c1 c2 c3 c4 c5 c6 c7 c8 c9] w fun e w' => ∃ v, e = .returned v ∧ Own bv w.heap.size 5 w' v (if recOk (mkRec ino gen at_ rule kind c0 c1 c2 c3 c4 c5 c6 c7 c8 c9) then encRec (mkRec ino gen at_ rule kind c0 c1 c2 c3 c4 c5 c6 c7 c8 c9) else []) ∧ Upd [] w w' := by
  have hu0 : Upd [] w (w.alloc (.cells #[.int .i64 ino, .int .i64 gen, .int .i64 at_, .string rule, .int .i64 kind, .int .i64 c0, .int .i64 c1, .int .i64 c2, .int .i64 c3, .int .i64 c4, .int .i64 c5, .int .i64 c6, .int .i64 c7, .int .i64 c8, .int .i64 c9] 27)) := (Upd.refl [] w).alloc _
  have HU0 := Lib.hid hu0
  have hb0 : Blk (w.alloc (.cells #[.int .i64 ino, .int .i64 gen, .int .i64 at_, .string rule, .int .i64 kind, .int .i64 c0, .int .i64 c1, .int .i64 c2, .int .i64 c3, .int .i64 c4, .int .i64 c5, .int .i64 c6, .int .i64 c7, .int .i64 c8, .int .i64 c9] 27)) w.heap.size 27 [.int .i64 ino, .int .i64 gen, .int .i64 at_, .string rule, .int .i64 kind, .int .i64 c0, .int .i64 c1, .int .i64 c2, .int .i64 c3, .int .i64 c4, .int .i64 c5, .int .i64 c6, .int .i64 c7, .int .i64 c8, .int .i64 c9] := Blk.new w _ [.int .i64 ino, .int .i64 gen, .int .i64 at_, .string rule, .int .i64 kind, .int .i64 c0, .int .i64 c1, .int .i64 c2, .int .i64 c3, .int .i64 c4, .int .i64 c5, .int .i64 c6, .int .i64 c7, .int .i64 c8, .int .i64 c9]
  have HB0 := Lib.hid hb0
  cases hok : recOk (mkRec ino gen at_ rule kind c0 c1 c2 c3 c4 c5 c6 c7 c8 c9) with
  | false =>
    have HOK := Lib.hid hok
    clear hok
    go_enter Tryz.func14, Tryz.ntmps14
    go_wp2_with fail
    (with_reducible refine (ledRight_c _ ino gen at_ rule kind c0 c1 c2 c3 c4 c5 c6 c7 c8 c9).mono ?_)
    rw [HOK.out]
    rintro e w1 ⟨rfl, hu1⟩
    have HU1 := Lib.hid (HU0.out.seq hu1)
    clear hu1
    go_wp2_with fail
    go_ret
    exact ⟨_, rfl, own_nil8 _ _, HU1.out⟩
  | true =>
    have HOK := Lib.hid hok
    have hi := recOk_in hok
    have HI := Lib.hid hi
    have HIA : Hid (I64 ino) := ⟨by have := hi.ino; dsimp only at this; omega, by have := hi.ino; dsimp only at this; omega⟩
    have HIG : Hid (I64 gen) := ⟨by have := hi.gen; dsimp only at this; omega, by have := hi.gen; dsimp only at this; omega⟩
    have HIT : Hid (I64 at_) := ⟨by have := hi.at_; dsimp only at this; omega, by have := hi.at_; dsimp only at this; omega⟩
    have HIK : Hid (I64 kind) := ⟨by have := hi.kind; dsimp only at this; omega, by have := hi.kind; dsimp only at this; omega⟩
    have HIR : Hid (rule.size ≤ 32) := hi.rule
    have HIC : Hid (∀ c ∈ [c0, c1, c2, c3, c4, c5, c6, c7, c8, c9], -1 ≤ c ∧ c ≤ 500) := hi.caps
    obtain ⟨L1, hL1⟩ : ∃ L, encNum ino.toNat = L := ⟨_, rfl⟩
    obtain ⟨L2, hL2⟩ : ∃ L, L1 ++ encNum gen.toNat = L := ⟨_, rfl⟩
    obtain ⟨L3, hL3⟩ : ∃ L, L2 ++ encNum at_.toNat = L := ⟨_, rfl⟩
    obtain ⟨L4, hL4⟩ : ∃ L, L3 ++ encText rule = L := ⟨_, rfl⟩
    obtain ⟨L5, hL5⟩ : ∃ L, L4 ++ encNum kind.toNat = L := ⟨_, rfl⟩
    have i1 := hi.ino
    have i2 := hi.gen
    have i3 := hi.at_
    have i4 := hi.rule
    have i5 := hi.kind
    dsimp only at i1 i2 i3 i4 i5
    have b1 := encNum_le ino.toNat (by omega)
    have b2 := encNum_le gen.toNat (by omega)
    have b3 := encNum_le at_.toNat (by omega)
    have b4 := encNum_le rule.size (by omega)
    have b5 := encNum_le kind.toNat (by omega)
    have ht : (encText rule).length ≤ 41 := by unfold encText; rw [List.length_append, size_toList]; omega
    have l1 : L1.length ≤ 9 := by rw [← hL1]; exact b1
    have l2 : L2.length ≤ 18 := by rw [← hL2, List.length_append]; omega
    have l3 : L3.length ≤ 27 := by rw [← hL3, List.length_append]; omega
    have l4 : L4.length ≤ 70 := by rw [← hL4, List.length_append]; omega
    have l5 : L5.length ≤ 79 := by rw [← hL5, List.length_append]; omega
    have HL1 : Hid (L1.length ≤ 100000) := by unfold Hid; omega
    have HL2 : Hid (L2.length ≤ 100000) := by unfold Hid; omega
    have HL3 : Hid (L3.length ≤ 100000) := by unfold Hid; omega
    have HL4 : Hid (L4.length ≤ 100000) := by unfold Hid; omega
    have HL5 : Hid (L5.length ≤ 79) := l5
    have HEN : Hid (encRec (mkRec ino gen at_ rule kind c0 c1 c2 c3 c4 c5 c6 c7 c8 c9) = L5 ++ encCaps [c0, c1, c2, c3, c4, c5, c6, c7, c8, c9]) := by
      unfold Hid encRec
      rw [← hL5, ← hL4, ← hL3, ← hL2, ← hL1]
    have HQ1 := Lib.hid hL1
    have HQ2 := Lib.hid hL2
    have HQ3 := Lib.hid hL3
    have HQ4 := Lib.hid hL4
    have HQ5 := Lib.hid hL5
    rw [if_pos rfl, HEN.out]
    clear hok hi i1 i2 i3 i4 i5 b1 b2 b3 b4 b5 ht l1 l2 l3 l4 l5 hL1 hL2 hL3 hL4 hL5 hb0 hu0
    go_enter Tryz.func14, Tryz.ntmps14
    go_wp2_with fail
    (with_reducible refine (ledRight_c _ ino gen at_ rule kind c0 c1 c2 c3 c4 c5 c6 c7 c8 c9).mono ?_)
    rw [HOK.out]
    rintro e w1 ⟨rfl, hu1⟩
    have hb1 := HB0.out.upd hu1 (by simp)
    have d0 := hb1.cell 0
    have d1 := hb1.cell 1
    have d2 := hb1.cell 2
    simp only [List.getElem?_cons_zero, List.getElem?_cons_succ] at d0 d1 d2
    have HB1 := Lib.hid hb1
    have HU1 := Lib.hid (HU0.out.seq hu1)
    have HSZ : Hid (w.heap.size ≤ w1.heap.size) := HU1.out.size
    have C0 := Lib.hid d0
    have C1 := Lib.hid d1
    have C2 := Lib.hid d2
    clear hu1 hb1
    have HC1 : Hid (∀ W, Upd [] w1 W → Calls Tryz.prog 58 #[.slice none 0 0, .int .i64 ino] W fun e w' => ∃ a n k, e = .returned (.slice a n k) ∧ Hid (Own bv w.heap.size 5 w' (.slice a n k) L1) ∧ Upd [] w1 w') := fun W hu => by
      have := num_at w.heap.size w1 W _ [] ino HSZ.out (own_nil8 _ _) hu (by simp) HIA.out
      rw [List.nil_append, HQ1.out] at this; exact this
    have HC2 : Hid (∀ W a n k, Own bv w.heap.size 5 W (.slice a n k) L1 → Upd [] w1 W → Calls Tryz.prog 58 #[.slice a n k, .int .i64 gen] W fun e w' => ∃ a n k, e = .returned (.slice a n k) ∧ Hid (Own bv w.heap.size 5 w' (.slice a n k) L2) ∧ Upd [] w1 w') := fun W a n k ho hu => by
      have := num_at w.heap.size w1 W _ L1 gen HSZ.out ho hu HL1.out HIG.out
      rw [HQ2.out] at this; exact this
    have HC3 : Hid (∀ W a n k, Own bv w.heap.size 5 W (.slice a n k) L2 → Upd [] w1 W → Calls Tryz.prog 58 #[.slice a n k, .int .i64 at_] W fun e w' => ∃ a n k, e = .returned (.slice a n k) ∧ Hid (Own bv w.heap.size 5 w' (.slice a n k) L3) ∧ Upd [] w1 w') := fun W a n k ho hu => by
      have := num_at w.heap.size w1 W _ L2 at_ HSZ.out ho hu HL2.out HIT.out
      rw [HQ3.out] at this; exact this
    have HC4 : Hid (∀ W a n k, Own bv w.heap.size 5 W (.slice a n k) L3 → Upd [] w1 W → Calls Tryz.prog 59 #[.slice a n k, .string rule] W fun e w' => ∃ a n k, e = .returned (.slice a n k) ∧ Hid (Own bv w.heap.size 5 w' (.slice a n k) L4) ∧ Upd [] w1 w') := fun W a n k ho hu => by
      have := text_at w.heap.size w1 W _ L3 rule HSZ.out ho hu HL3.out (by have := HIR.out; omega)
      rw [HQ4.out] at this; exact this
    have HC5 : Hid (∀ W a n k, Own bv w.heap.size 5 W (.slice a n k) L4 → Upd [] w1 W → Calls Tryz.prog 58 #[.slice a n k, .int .i64 kind] W fun e w' => ∃ a n k, e = .returned (.slice a n k) ∧ Hid (Own bv w.heap.size 5 w' (.slice a n k) L5) ∧ Upd [] w1 w') := fun W a n k ho hu => by
      have := num_at w.heap.size w1 W _ L4 kind HSZ.out ho hu HL4.out HIK.out
      rw [HQ5.out] at this; exact this
    have ru := Upd.refl [] w1
    go_wp2_with fail
    go_region_held3 (fun w' => w'.cell? ⟨w.heap.size, 0, none⟩ = some (.int .i64 ino) ∧ w'.cell? ⟨w.heap.size, 1, none⟩ = some (.int .i64 gen) ∧ w'.cell? ⟨w.heap.size, 2, none⟩ = some (.int .i64 at_)) (first | go_keep | exact ⟨ru.cell C0.out (by simp), ru.cell C1.out (by simp), ru.cell C2.out (by simp)⟩)
      (first
        | (go_at_call 58; (with_reducible refine (HC1.out _ (Upd.seq ru ?_)).mono ?_); (repeat (first | exact Upd.refl _ _ | apply Upd.drew | apply Upd.drewN | apply Upd.alloc)); (rintro _ W1 ⟨a1, n1, k1, rfl, ho1, ru⟩; dsimp only))
        | (go_at_call 58; (with_reducible refine (HC2.out _ a1 n1 k1 (Own.upd (S := []) ho1.out ?_ (by simp)) (Upd.seq ru ?_)).mono ?_); (repeat (first | exact Upd.refl _ _ | apply Upd.drew | apply Upd.drewN | apply Upd.alloc)); (rintro _ W2 ⟨a2, n2, k2, rfl, ho2, ru⟩; dsimp only))
        | (go_at_call 58; (with_reducible refine (HC3.out _ a2 n2 k2 (Own.upd (S := []) ho2.out ?_ (by simp)) (Upd.seq ru ?_)).mono ?_); (repeat (first | exact Upd.refl _ _ | apply Upd.drew | apply Upd.drewN | apply Upd.alloc)); (rintro _ W3 ⟨a3, n3, k3, rfl, ho3, ru⟩; dsimp only)))
    all_goals
      have C3 := Lib.hid (HB1.out.cell 3)
      have C4 := Lib.hid (HB1.out.cell 4)
      simp only [List.getElem?_cons_zero, List.getElem?_cons_succ] at C3 C4
      have d3 := ru.cell C3.out (by simp)
      have d4 := ru.cell C4.out (by simp)
      clear HC1 HC2 HC3 d0 d1 d2 ho1 ho2 C0 C1 C2
      go_wp2_with fail
      go_region_held3 (fun w' => w'.cell? ⟨w.heap.size, 3, none⟩ = some (.string rule) ∧ w'.cell? ⟨w.heap.size, 4, none⟩ = some (.int .i64 kind)) (first | go_keep | exact ⟨ru.cell C3.out (by simp), ru.cell C4.out (by simp)⟩)
        (first
          | (go_at_call 59; (with_reducible refine (HC4.out _ a3 n3 k3 (Own.upd (S := []) ho3.out ?_ (by simp)) (Upd.seq ru ?_)).mono ?_); (repeat (first | exact Upd.refl _ _ | apply Upd.drew | apply Upd.drewN | apply Upd.alloc)); (rintro _ W4 ⟨a4, n4, k4, rfl, ho4, ru⟩; dsimp only))
          | (go_at_call 58; (with_reducible refine (HC5.out _ a4 n4 k4 (Own.upd (S := []) ho4.out ?_ (by simp)) (Upd.seq ru ?_)).mono ?_); (repeat (first | exact Upd.refl _ _ | apply Upd.drew | apply Upd.drewN | apply Upd.alloc)); (rintro _ W5 ⟨a5, n5, k5, rfl, ho5, ru⟩; dsimp only)))
      all_goals
        have HB5 := Lib.hid (HB1.out.upd ru (by simp))
        have e5 := HB5.out.cell 5
        have e6 := HB5.out.cell 6
        have e7 := HB5.out.cell 7
        have e8 := HB5.out.cell 8
        have e9 := HB5.out.cell 9
        have e10 := HB5.out.cell 10
        have e11 := HB5.out.cell 11
        have e12 := HB5.out.cell 12
        have e13 := HB5.out.cell 13
        have e14 := HB5.out.cell 14
        simp only [List.getElem?_cons_zero, List.getElem?_cons_succ] at e5 e6 e7 e8 e9 e10 e11 e12 e13 e14
        have HU5 := Lib.hid (HU1.out.seq ru)
        clear HC4 HC5 d3 d4 ho3 ho4 C3 C4 ru
        go_wp2_with fail
        go_loopw [3, 31] (fun v i wr => ∃ (k : Nat) (a : Option Addr) (n cp : Nat), k ≤ 10 ∧ i = .int .i64 k ∧ v = .slice a n cp ∧ Hid (Own bv w.heap.size 5 wr (.slice a n cp) (L5 ++ encCaps ([c0, c1, c2, c3, c4, c5, c6, c7, c8, c9].take k))) ∧ Hid (Upd [] w wr)) (fun _ i _ => 10 - (intOf i).toNat)
        case atStart => exact ⟨0, a5, n5, k5, Nat.zero_le _, rfl, rfl, by unfold Hid; rw [List.take_zero, show encCaps [] = [] from rfl, List.append_nil]; exact ho5.out, HU5.out⟩
        case round =>
          obtain ⟨k, a, n, cp, hk, rfl, rfl, ho, hu⟩ := hrel
          clear ho5 HB5 e5 e6 e7 e8 e9 e10 e11 e12 e13 e14
          by_cases hlt : k < 10
          · have q0 : (0 : Int) ≤ k := by omega
            have q1 : (k : Int) < 10 := by omega
            have hix := fun W => idx_caps c0 c1 c2 c3 c4 c5 c6 c7 c8 c9 k hlt W
            have HTK : Hid (encCaps ([c0, c1, c2, c3, c4, c5, c6, c7, c8, c9].take (k + 1)) = encCaps ([c0, c1, c2, c3, c4, c5, c6, c7, c8, c9].take k) ++ encNum (nth [c0, c1, c2, c3, c4, c5, c6, c7, c8, c9] k + 1).toNat) := by
              unfold Hid
              rw [take_snoc [c0, c1, c2, c3, c4, c5, c6, c7, c8, c9] k hlt, encCaps_app, encCaps_cons]; simp [encCaps]
            have HLE : Hid ((L5 ++ encCaps ([c0, c1, c2, c3, c4, c5, c6, c7, c8, c9].take k)).length ≤ 100000) := by
              have h1 := encCaps_le ([c0, c1, c2, c3, c4, c5, c6, c7, c8, c9].take k) (fun c hc => (HIC.out c (List.mem_of_mem_take hc)).2)
              have h2 := HL5.out
              have h3 : ([c0, c1, c2, c3, c4, c5, c6, c7, c8, c9].take k).length ≤ 10 := by rw [List.length_take]; omega
              unfold Hid; rw [List.length_append]; omega
            have hd := HIC.out (nth [c0, c1, c2, c3, c4, c5, c6, c7, c8, c9] k) (nth_in (l := [c0, c1, c2, c3, c4, c5, c6, c7, c8, c9]) k hlt)
            obtain ⟨hd1, hd2⟩ := hd
            generalize encCaps ([c0, c1, c2, c3, c4, c5, c6, c7, c8, c9].take k) = E at *
            generalize nth [c0, c1, c2, c3, c4, c5, c6, c7, c8, c9] k = d at *
            have hwr : IntKind.i64.wrap (d + 1) = d + 1 := by rw [IntKind.wrap_i64]; omega
            have HID : Hid (I64 (d + 1)) := ⟨by omega, by omega⟩
            clear hd1 hd2
            go_wp2_with fail
            (with_reducible refine (num_at w.heap.size w wr _ (L5 ++ E) (d + 1) (Nat.le_refl _) ho.out hu.out HLE.out HID.out).mono ?_)
            rintro e W6 ⟨a6, n6, k6, rfl, ho6, hu6⟩
            have HO6 : Hid (Own bv w.heap.size 5 W6 (.slice a6 n6 k6) (L5 ++ encCaps ([c0, c1, c2, c3, c4, c5, c6, c7, c8, c9].take (k + 1)))) := by unfold Hid; rw [HTK.out, ← List.append_assoc]; exact ho6.out
            have HU6 := Lib.hid hu6
            clear ho6 hu6
            go_wp2_with fail
            go_roundw
            case rel => exact ⟨k + 1, a6, n6, k6, by omega, by go_num, rfl, HO6, HU6⟩
            case measure => simp [intOf]; omega
          · obtain rfl : k = 10 := by omega
            go_wp2_with fail
            go_ret
            exact ⟨_, rfl, ho.out, hu.out⟩
theorem ledPut_any (w : World) (r : Rec) : Calls Tryz.prog 14 #[recVal r] w fun e w' => ∃ v, e = .returned v ∧ Own bv w.heap.size 5 w' v (if recOk r then encRec r else []) ∧ Upd [] w w' := by
  obtain ⟨ino, gen, at_, rule, kind, c0, c1, c2, c3, c4, c5, c6, c7, c8, c9, rfl⟩ := rec_mk r
  exact ledPut_c w ino gen at_ rule kind c0 c1 c2 c3 c4 c5 c6 c7 c8 c9
end Go.Proofs.YtmhojaiajhdlcaaGreat
namespace Go.Proofs.YtmhojaiajhdlcaaGreat
open Go.RowKit
set_option linter.unusedSimpArgs false
set_option linter.unusedVariables false
set_option maxHeartbeats 4000000 in
theorem dNumN_any (v : Value) (l : List UInt8) (m : Nat) (w : World) (h : Bytes w v l) (hz : l.length ≤ 90000000000) (hm : m < 9223372036854775808) :
    Calls Tryz.prog 47 #[v, .int .i64 (m : Int)] w fun e w' => ∃ x, e = .returned x ∧ Own bv w.heap.size 5 w' x (l ++ encNum m) ∧ Upd [] w w' := by
  have H := Lib.hid h
  have h8 := nb_le8 m (by omega)
  obtain ⟨a, cap, rfl, -, -, -⟩ := h
  go_enter Tryz.func47, Tryz.ntmps47
  go_wp2_with (at_builtin; refine wpList_app bv_one rfl (.tmp 9) (.tmp 10) rfl Tryz.underlying28 infoByte rfl (.slice (some ⟨w.heap.size, 0, none⟩) 0 0) (.slice a l.length cap) [] l rfl rfl (Own.room (base := w.heap.size) (Nat.le_refl _) rfl rfl (Nat.zero_le _)) (H.out.alloc _) (by simp; omega) (by unfold maxLen; simp; omega) (by simp) ?_; intro v1 w1 ho hu hbk; rw [List.nil_append] at ho; have HU1 : Hid (Upd [] w w1) := ((Upd.refl [] w).alloc _).trans hu (by simp) (by simp [blk]); have HO1 := Lib.hid ho; clear ho hu hbk)
  go_loop [6, 7] (fun i x => ∃ k : Nat, i = .int .i64 (k : Int) ∧ k ≤ nb m ∧ x = .int .i64 ((m / 256 ^ k : Nat) : Int)) (fun i _ => 8 - (intOf i).toNat)
  case atStart => exact ⟨0, rfl, Nat.zero_le _, by simp⟩
  case round =>
    obtain ⟨k, rfl, hk, rfl⟩ := hrel
    have hxk : m / 256 ^ k < 9223372036854775808 := Nat.lt_of_le_of_lt (Nat.div_le_self _ _) hm
    have hnx : ((m / 256 ^ k : Nat) : Int) / 256 = ((m / 256 ^ (k + 1) : Nat) : Int) := by
      rw [Nat.pow_succ, ← Nat.div_div_eq_div_mul]; omega
    by_cases hlt : k < nb m
    · have hpos : 0 < m / 256 ^ k := (nb_lt k m).1 hlt
      have hk8 : k < 8 := by omega
      obtain ⟨x, HX⟩ : ∃ x, Hid (m / 256 ^ k = x) := ⟨_, rfl⟩
      rw [HX.out] at hpos hnx hxk
      rw [HX.out]
      have HNX := Lib.hid hnx
      have hp2 : (0 : Int) < x := by omega
      clear hnx
      go_wp2_with fail
      go_round
      case rel => exact ⟨k + 1, by go_num, by omega, congrArg _ HNX.out⟩
      case measure => simp [intOf]; omega
    · have hkm : nb m = k := by omega
      have hk8 : k ≤ 8 := by omega
      have hz0 : m / 256 ^ k = 0 := Nat.eq_zero_of_not_pos (fun q => hlt ((nb_lt k m).2 q))
      rw [hz0]
      clear hnx hxk hz0
      have hkb : k < 256 := by omega
      have HLIT := Lib.hid (Rd.lit (w := w1) (c := bv) [UInt8.ofNat k] (C := #[.int .u8 (k : Int)]) (e := 5) (fr := (0, 0)) (g := w1.heap.size) (n := 1) (k := 1) rfl (by rw [List.map_singleton, byte_small k hkb]) rfl (Nat.le_refl _) (by decide))
      have HEN : Hid (l ++ encNum m = (l ++ [UInt8.ofNat k]) ++ beB k m) := by unfold Hid encNum; rw [hkm]; simp
      have hs1 := HU1.out.size
      have HKM := Lib.hid hkm
      clear hkm hlt
      go_wp2_with (at_builtin; refine wpList_app bv_one rfl (.tmp 21) (.tmp 24) rfl Tryz.underlying28 infoByte rfl v1 (.slice (some ⟨w1.heap.size, 0, none⟩) 1 1) l [UInt8.ofNat k] rfl rfl (HO1.out.upd ((Upd.refl [] w1).alloc _) (by simp)) HLIT.out (by simp; omega) (by unfold maxLen; simp; omega) (by simp; omega) ?_; intro v2 w2 ho hu hbk; have HU2 : Hid (Upd [] w w2) := (HU1.out.alloc _).trans hu (by simp) (fun x hx => .inr (HO1.out.ge x hx).1); have HO2 := Lib.hid ho; clear ho hu hbk)
      go_loopw [5, 8] (fun b i wr => ∃ (r : Nat) (c : List UInt8), i = .int .i64 ((r : Int) - 1) ∧ r ≤ k ∧ c.length + r = l.length + 1 + k ∧ Hid (Own bv w.heap.size 5 wr b c) ∧ Hid (Upd [] w wr) ∧ Hid (c ++ beB r m = l ++ encNum m)) (fun _ i _ => (intOf i + 1).toNat)
      case atStart => exact ⟨k, l ++ [UInt8.ofNat k], by go_num, Nat.le_refl _, by simp, HO2, HU2, HEN.out.symm⟩
      case round =>
        obtain ⟨r, c, rfl, hr, hcl, hob, hu, hen⟩ := hrel
        cases r with
        | zero =>
          have HR : Hid (c = l ++ encNum m) := by have := hen.out; unfold Hid; rw [beB, List.append_nil] at this; exact this
          go_wp2_with fail
          go_ret
          exact ⟨_, rfl, by rw [← HR.out]; exact hob.out, hu.out⟩
        | succ r =>
          have q1 : ((r + 1 : Nat) : Int) - 1 = (r : Int) := by omega
          rw [q1]
          clear q1
          have hr8 : r ≤ 8 := by omega
          have HEN2 : Hid ((c ++ [UInt8.ofNat (m / 256 ^ r)]) ++ beB r m = l ++ encNum m) := by have := hen.out; unfold Hid; rw [beB] at this; rw [← this]; simp
          have HLIT2 := Lib.hid (Rd.lit (w := wr) (c := bv) [UInt8.ofNat (m / 256 ^ r)] (C := #[.int .u8 ((m : Int) / 2 ^ (8 * r) % 256)]) (e := 5) (fr := (0, 0)) (g := wr.heap.size) (n := 1) (k := 1) rfl (by rw [List.map_singleton, byte_at]) rfl (Nat.le_refl _) (by decide))
          have hs2 := hu.out.size
          generalize UInt8.ofNat (m / 256 ^ r) = y at *
          obtain ⟨ab, cb, rfl, -⟩ := hob.out.rd
          go_wp2_with (at_builtin; refine wpList_app bv_one rfl (.tmp 32) (.tmp 38) rfl Tryz.underlying28 infoByte rfl (.slice ab c.length cb) (.slice (some ⟨wr.heap.size, 0, none⟩) 1 1) c [y] rfl rfl (hob.out.upd ((Upd.refl [] wr).alloc _) (by simp)) HLIT2.out (by simp; omega) (by unfold maxLen; simp; omega) (by simp; omega) ?_; intro v4 w4 ho hu4 hbk; have HU4 : Hid (Upd [] w w4) := (hu.out.alloc _).trans hu4 (by simp) (fun x hx => .inr (hob.out.ge x hx).1); have HO4 := Lib.hid ho; clear ho hu4 hbk)
          go_roundw
          case rel => exact ⟨r, c ++ [y], by go_num, by omega, by simp; omega, HO4, HU4, HEN2⟩
          case measure => simp [intOf]; try omega
set_option maxHeartbeats 4000000 in
theorem dNumNeg_any (v : Value) (l : List UInt8) (M : Int) (w : World) (h : Bytes w v l) (hz : l.length ≤ 90000000000) (hM : M < 0) (hM1 : -9223372036854775808 ≤ M) :
    Calls Tryz.prog 47 #[v, .int .i64 M] w fun e w' => ∃ x, e = .returned x ∧ Own bv w.heap.size 5 w' x (l ++ encNum 0) ∧ Upd [] w w' := by
  have H := Lib.hid h
  obtain ⟨a, cap, rfl, -, -, -⟩ := h
  go_enter Tryz.func47, Tryz.ntmps47
  go_wp2_with (at_builtin; refine wpList_app bv_one rfl (.tmp 9) (.tmp 10) rfl Tryz.underlying28 infoByte rfl (.slice (some ⟨w.heap.size, 0, none⟩) 0 0) (.slice a l.length cap) [] l rfl rfl (Own.room (base := w.heap.size) (Nat.le_refl _) rfl rfl (Nat.zero_le _)) (H.out.alloc _) (by simp; omega) (by unfold maxLen; simp; omega) (by simp) ?_; intro v1 w1 ho hu hbk; rw [List.nil_append] at ho; have HU1 : Hid (Upd [] w w1) := ((Upd.refl [] w).alloc _).trans hu (by simp) (by simp [blk]); have HO1 := Lib.hid ho; clear ho hu hbk)
  have hs1 := HU1.out.size
  go_loop [6, 7] (fun i x => i = .int .i64 0 ∧ x = .int .i64 0) (fun _ _ => 0)
  case atStart => exact ⟨rfl, rfl⟩
  case round =>
    obtain ⟨rfl, rfl⟩ := hrel
    have HLIT := Lib.hid (Rd.lit (w := w1) (c := bv) [(0 : UInt8)] (C := #[.int .u8 0]) (e := 5) (fr := (0, 0)) (g := w1.heap.size) (n := 1) (k := 1) rfl rfl rfl (Nat.le_refl _) (by decide))
    go_wp2_with (at_builtin; refine wpList_app bv_one rfl (.tmp 21) (.tmp 24) rfl Tryz.underlying28 infoByte rfl v1 (.slice (some ⟨w1.heap.size, 0, none⟩) 1 1) l [(0 : UInt8)] rfl rfl (HO1.out.upd ((Upd.refl [] w1).alloc _) (by simp)) HLIT.out (by simp; omega) (by unfold maxLen; simp; omega) (by simp; omega) ?_; intro v2 w2 ho hu hbk; have HU2 : Hid (Upd [] w w2) := (HU1.out.alloc _).trans hu (by simp) (fun x hx => .inr (HO1.out.ge x hx).1); have HO2 := Lib.hid ho; clear ho hu hbk)
    go_loop [5, 8] (fun b i => b = v2 ∧ i = .int .i64 (-1)) (fun _ _ => 0)
    case atStart => exact ⟨rfl, rfl⟩
    case round =>
      obtain ⟨rfl, rfl⟩ := hrel
      go_wp2_with fail
      go_ret
      exact ⟨_, rfl, by rw [enc_zero]; exact HO2.out, HU2.out⟩
theorem dNumW_any (v : Value) (l : List UInt8) (M : Int) (w : World) (h : Bytes w v l) (hz : l.length ≤ 90000000000) (hM : I64 M) :
    Calls Tryz.prog 47 #[v, .int .i64 M] w fun e w' => ∃ x, e = .returned x ∧ Own bv w.heap.size 5 w' x (l ++ encNum M.toNat) ∧ Upd [] w w' := by
  obtain ⟨h1, h2⟩ := hM
  by_cases hn : M < 0
  · have : M.toNat = 0 := by omega
    rw [this]; exact dNumNeg_any v l M w h hz hn h1
  · obtain ⟨m, rfl⟩ := Int.eq_ofNat_of_zero_le (show 0 ≤ M by omega)
    exact dNumN_any v l m w h hz (by omega)
set_option maxHeartbeats 1000000 in
theorem dTextW_any (v : Value) (l : List UInt8) (S : ByteArray) (w : World) (h : Bytes w v l) (hz : l.length ≤ 80000000000) (hs : S.size ≤ 10000000000) :
    Calls Tryz.prog 48 #[v, .string S] w fun e w' => ∃ x, e = .returned x ∧ Own bv w.heap.size 5 w' x (l ++ encText S) ∧ Upd [] w w' := by
  have H := Lib.hid h
  have h8 := nb_le8 S.size (by omega)
  have hel := encNum_len S.size
  have HE : Hid (l ++ encText S = (l ++ encNum S.size) ++ S.data.toList) := by unfold Hid encText; rw [List.append_assoc]
  go_enter Tryz.func48, Tryz.ntmps48
  go_wp2_with fail
  with_reducible refine (dNumW_any _ l (S.size : Int) _ H.out (by omega) (i64_mk (by omega) (by omega))).mono ?_
  rintro e w2 ⟨v2, rfl, ho2, hu2⟩
  have HO2 := Lib.hid ho2
  have HU2 := Lib.hid hu2
  have hs2 := HU2.out.size
  clear ho2 hu2
  rw [Int.toNat_natCast] at HO2
  have hl2 : (l ++ encNum S.size).length = l.length + (1 + nb S.size) := by rw [List.length_append, hel]
  generalize l ++ encNum S.size = l2 at *
  go_wp2_with (at_builtin; refine wpList_app_str rfl (.tmp 8) (.tmp 9) rfl Tryz.underlying28 Tryz.underlying9 infoByte v2 S l2 rfl rfl HO2.out (by omega) (by unfold maxLen; omega) hs2 ?_; intro v3 w3 ho hu; have HU3 : Hid (Upd [] w w3) := HU2.out.trans hu (by simp) (fun x hx => .inr (HO2.out.ge x hx).1); have HO3 := Lib.hid ho; clear ho hu)
  go_ret
  exact ⟨_, rfl, by rw [HE.out]; exact HO3.out, HU3.out⟩
end Go.Proofs.YtmhojaiajhdlcaaGreat
namespace Go.Proofs.YtmhojaiajhdlcaaGreat
open Go.RowKit
set_option linter.unusedSimpArgs false
set_option linter.unusedVariables false
/-- A number behind bytes, at any world behind w. -/
theorem dnum_at (b : Nat) (w W : World) (v : Value) (l : List UInt8) (M : Int) (hb : b ≤ w.heap.size) (ho : Own bv b 5 W v l) (hu : Upd [] w W) (hl : l.length ≤ 100000) (hM : I64 M) :
    Calls Tryz.prog 47 #[v, .int .i64 M] W fun e w' => ∃ a n k, e = .returned (.slice a n k) ∧ Hid (Own bv b 5 w' (.slice a n k) (l ++ encNum M.toNat)) ∧ Upd [] w w' := by
  refine (dNumW_any _ l M _ ho.rd (by omega) hM).mono ?_
  rintro e w' ⟨x, rfl, h, hu2⟩
  obtain ⟨a, k, rfl, -⟩ := h.rd
  exact ⟨a, _, k, rfl, h.base_le (Nat.le_trans hb hu.size), hu.seq hu2⟩
theorem dtext_at (b : Nat) (w W : World) (v : Value) (l : List UInt8) (S : ByteArray) (hb : b ≤ w.heap.size) (ho : Own bv b 5 W v l) (hu : Upd [] w W) (hl : l.length ≤ 100000) (hM : S.size ≤ 1000000) :
    Calls Tryz.prog 48 #[v, .string S] W fun e w' => ∃ a n k, e = .returned (.slice a n k) ∧ Hid (Own bv b 5 w' (.slice a n k) (l ++ encText S)) ∧ Upd [] w w' := by
  refine (dTextW_any _ l S _ ho.rd (by omega) (by omega)).mono ?_
  rintro e w' ⟨x, rfl, h, hu2⟩
  obtain ⟨a, k, rfl, -⟩ := h.rd
  exact ⟨a, _, k, rfl, h.base_le (Nat.le_trans hb hu.size), hu.seq hu2⟩
set_option maxRecDepth 20000 in
set_option maxHeartbeats 8000000 in
theorem rfPut_c (w : World) (ino gen at_ : Int) (rule : ByteArray) (kind c0 c1 c2 c3 c4 c5 c6 c7 c8 c9 : Int) (hok : recOk (mkRec ino gen at_ rule kind c0 c1 c2 c3 c4 c5 c6 c7 c8 c9) = true) :
    Calls Tryz.prog 9 #[mkVal ino gen at_ rule kind c0 c1 c2 c3 c4 c5 c6 c7 c8 c9] w fun e w' => ∃ v, e = .returned v ∧ Own bv w.heap.size 5 w' v (encRec (mkRec ino gen at_ rule kind c0 c1 c2 c3 c4 c5 c6 c7 c8 c9)) ∧ Upd [] w w' := by
  have hu0 : Upd [] w (w.alloc (.cells #[.int .i64 ino, .int .i64 gen, .int .i64 at_, .string rule, .int .i64 kind, .int .i64 c0, .int .i64 c1, .int .i64 c2, .int .i64 c3, .int .i64 c4, .int .i64 c5, .int .i64 c6, .int .i64 c7, .int .i64 c8, .int .i64 c9] 27)) := (Upd.refl [] w).alloc _
  have HU0 := Lib.hid hu0
  have hb0 : Blk (w.alloc (.cells #[.int .i64 ino, .int .i64 gen, .int .i64 at_, .string rule, .int .i64 kind, .int .i64 c0, .int .i64 c1, .int .i64 c2, .int .i64 c3, .int .i64 c4, .int .i64 c5, .int .i64 c6, .int .i64 c7, .int .i64 c8, .int .i64 c9] 27)) w.heap.size 27 [.int .i64 ino, .int .i64 gen, .int .i64 at_, .string rule, .int .i64 kind, .int .i64 c0, .int .i64 c1, .int .i64 c2, .int .i64 c3, .int .i64 c4, .int .i64 c5, .int .i64 c6, .int .i64 c7, .int .i64 c8, .int .i64 c9] := Blk.new w _ [.int .i64 ino, .int .i64 gen, .int .i64 at_, .string rule, .int .i64 kind, .int .i64 c0, .int .i64 c1, .int .i64 c2, .int .i64 c3, .int .i64 c4, .int .i64 c5, .int .i64 c6, .int .i64 c7, .int .i64 c8, .int .i64 c9]
  have HB0 := Lib.hid hb0
  have HOK := Lib.hid hok
  have hi := recOk_in hok
  have HI := Lib.hid hi
  have HIA : Hid (I64 ino) := ⟨by have := hi.ino; dsimp only at this; omega, by have := hi.ino; dsimp only at this; omega⟩
  have HIG : Hid (I64 gen) := ⟨by have := hi.gen; dsimp only at this; omega, by have := hi.gen; dsimp only at this; omega⟩
  have HIT : Hid (I64 at_) := ⟨by have := hi.at_; dsimp only at this; omega, by have := hi.at_; dsimp only at this; omega⟩
  have HIK : Hid (I64 kind) := ⟨by have := hi.kind; dsimp only at this; omega, by have := hi.kind; dsimp only at this; omega⟩
  have HIR : Hid (rule.size ≤ 32) := hi.rule
  have HIC : Hid (∀ c ∈ [c0, c1, c2, c3, c4, c5, c6, c7, c8, c9], -1 ≤ c ∧ c ≤ 500) := hi.caps
  obtain ⟨L1, hL1⟩ : ∃ L, encNum ino.toNat = L := ⟨_, rfl⟩
  obtain ⟨L2, hL2⟩ : ∃ L, L1 ++ encNum gen.toNat = L := ⟨_, rfl⟩
  obtain ⟨L3, hL3⟩ : ∃ L, L2 ++ encNum at_.toNat = L := ⟨_, rfl⟩
  obtain ⟨L4, hL4⟩ : ∃ L, L3 ++ encText rule = L := ⟨_, rfl⟩
  obtain ⟨L5, hL5⟩ : ∃ L, L4 ++ encNum kind.toNat = L := ⟨_, rfl⟩
  have i1 := hi.ino
  have i2 := hi.gen
  have i3 := hi.at_
  have i4 := hi.rule
  have i5 := hi.kind
  dsimp only at i1 i2 i3 i4 i5
  have b1 := encNum_le ino.toNat (by omega)
  have b2 := encNum_le gen.toNat (by omega)
  have b3 := encNum_le at_.toNat (by omega)
  have b4 := encNum_le rule.size (by omega)
  have b5 := encNum_le kind.toNat (by omega)
  have ht : (encText rule).length ≤ 41 := by unfold encText; rw [List.length_append, size_toList]; omega
  have l1 : L1.length ≤ 9 := by rw [← hL1]; exact b1
  have l2 : L2.length ≤ 18 := by rw [← hL2, List.length_append]; omega
  have l3 : L3.length ≤ 27 := by rw [← hL3, List.length_append]; omega
  have l4 : L4.length ≤ 70 := by rw [← hL4, List.length_append]; omega
  have l5 : L5.length ≤ 79 := by rw [← hL5, List.length_append]; omega
  have HL1 : Hid (L1.length ≤ 100000) := by unfold Hid; omega
  have HL2 : Hid (L2.length ≤ 100000) := by unfold Hid; omega
  have HL3 : Hid (L3.length ≤ 100000) := by unfold Hid; omega
  have HL4 : Hid (L4.length ≤ 100000) := by unfold Hid; omega
  have HL5 : Hid (L5.length ≤ 79) := l5
  have HEN : Hid (encRec (mkRec ino gen at_ rule kind c0 c1 c2 c3 c4 c5 c6 c7 c8 c9) = L5 ++ encCaps [c0, c1, c2, c3, c4, c5, c6, c7, c8, c9]) := by
    unfold Hid encRec
    rw [← hL5, ← hL4, ← hL3, ← hL2, ← hL1]
  have HQ1 := Lib.hid hL1
  have HQ2 := Lib.hid hL2
  have HQ3 := Lib.hid hL3
  have HQ4 := Lib.hid hL4
  have HQ5 := Lib.hid hL5
  rw [HEN.out]
  clear hok hi i1 i2 i3 i4 i5 b1 b2 b3 b4 b5 ht l1 l2 l3 l4 l5 hL1 hL2 hL3 hL4 hL5 hb0 hu0
  go_enter Tryz.func9, Tryz.ntmps9
  go_wp2_with fail
  have hb1 := HB0.out
  have HU1 : Hid (Upd [] w (w.alloc (.cells #[.int .i64 ino, .int .i64 gen, .int .i64 at_, .string rule, .int .i64 kind, .int .i64 c0, .int .i64 c1, .int .i64 c2, .int .i64 c3, .int .i64 c4, .int .i64 c5, .int .i64 c6, .int .i64 c7, .int .i64 c8, .int .i64 c9] 27))) := HU0.out
  have HSZ : Hid (w.heap.size ≤ (w.alloc (.cells #[.int .i64 ino, .int .i64 gen, .int .i64 at_, .string rule, .int .i64 kind, .int .i64 c0, .int .i64 c1, .int .i64 c2, .int .i64 c3, .int .i64 c4, .int .i64 c5, .int .i64 c6, .int .i64 c7, .int .i64 c8, .int .i64 c9] 27)).heap.size) := HU0.out.size
  generalize w.alloc (.cells #[.int .i64 ino, .int .i64 gen, .int .i64 at_, .string rule, .int .i64 kind, .int .i64 c0, .int .i64 c1, .int .i64 c2, .int .i64 c3, .int .i64 c4, .int .i64 c5, .int .i64 c6, .int .i64 c7, .int .i64 c8, .int .i64 c9] 27) = w1 at *
  have d0 := hb1.cell 0
  have d1 := hb1.cell 1
  have d2 := hb1.cell 2
  simp only [List.getElem?_cons_zero, List.getElem?_cons_succ] at d0 d1 d2
  have HB1 := Lib.hid hb1
  have C0 := Lib.hid d0
  have C1 := Lib.hid d1
  have C2 := Lib.hid d2
  clear hb1 HU0 HB0
  have HC1 : Hid (∀ W, Upd [] w1 W → Calls Tryz.prog 47 #[.slice none 0 0, .int .i64 ino] W fun e w' => ∃ a n k, e = .returned (.slice a n k) ∧ Hid (Own bv w.heap.size 5 w' (.slice a n k) L1) ∧ Upd [] w1 w') := fun W hu => by
    have := dnum_at w.heap.size w1 W _ [] ino HSZ.out (own_nil8 _ _) hu (by simp) HIA.out
    rw [List.nil_append, HQ1.out] at this; exact this
  have HC2 : Hid (∀ W a n k, Own bv w.heap.size 5 W (.slice a n k) L1 → Upd [] w1 W → Calls Tryz.prog 47 #[.slice a n k, .int .i64 gen] W fun e w' => ∃ a n k, e = .returned (.slice a n k) ∧ Hid (Own bv w.heap.size 5 w' (.slice a n k) L2) ∧ Upd [] w1 w') := fun W a n k ho hu => by
    have := dnum_at w.heap.size w1 W _ L1 gen HSZ.out ho hu HL1.out HIG.out
    rw [HQ2.out] at this; exact this
  have HC3 : Hid (∀ W a n k, Own bv w.heap.size 5 W (.slice a n k) L2 → Upd [] w1 W → Calls Tryz.prog 47 #[.slice a n k, .int .i64 at_] W fun e w' => ∃ a n k, e = .returned (.slice a n k) ∧ Hid (Own bv w.heap.size 5 w' (.slice a n k) L3) ∧ Upd [] w1 w') := fun W a n k ho hu => by
    have := dnum_at w.heap.size w1 W _ L2 at_ HSZ.out ho hu HL2.out HIT.out
    rw [HQ3.out] at this; exact this
  have HC4 : Hid (∀ W a n k, Own bv w.heap.size 5 W (.slice a n k) L3 → Upd [] w1 W → Calls Tryz.prog 48 #[.slice a n k, .string rule] W fun e w' => ∃ a n k, e = .returned (.slice a n k) ∧ Hid (Own bv w.heap.size 5 w' (.slice a n k) L4) ∧ Upd [] w1 w') := fun W a n k ho hu => by
    have := dtext_at w.heap.size w1 W _ L3 rule HSZ.out ho hu HL3.out (by have := HIR.out; omega)
    rw [HQ4.out] at this; exact this
  have HC5 : Hid (∀ W a n k, Own bv w.heap.size 5 W (.slice a n k) L4 → Upd [] w1 W → Calls Tryz.prog 47 #[.slice a n k, .int .i64 kind] W fun e w' => ∃ a n k, e = .returned (.slice a n k) ∧ Hid (Own bv w.heap.size 5 w' (.slice a n k) L5) ∧ Upd [] w1 w') := fun W a n k ho hu => by
    have := dnum_at w.heap.size w1 W _ L4 kind HSZ.out ho hu HL4.out HIK.out
    rw [HQ5.out] at this; exact this
  have ru := Upd.refl [] w1
  go_wp2_with fail
  go_region_held3 (fun w' => w'.cell? ⟨w.heap.size, 0, none⟩ = some (.int .i64 ino) ∧ w'.cell? ⟨w.heap.size, 1, none⟩ = some (.int .i64 gen) ∧ w'.cell? ⟨w.heap.size, 2, none⟩ = some (.int .i64 at_)) (first | go_keep | exact ⟨ru.cell C0.out (by simp), ru.cell C1.out (by simp), ru.cell C2.out (by simp)⟩)
    (first
      | (go_at_call 47; (with_reducible refine (HC1.out _ (Upd.seq ru ?_)).mono ?_); (repeat (first | exact Upd.refl _ _ | apply Upd.drew | apply Upd.drewN | apply Upd.alloc)); (rintro _ W1 ⟨a1, n1, k1, rfl, ho1, ru⟩; dsimp only))
      | (go_at_call 47; (with_reducible refine (HC2.out _ a1 n1 k1 (Own.upd (S := []) ho1.out ?_ (by simp)) (Upd.seq ru ?_)).mono ?_); (repeat (first | exact Upd.refl _ _ | apply Upd.drew | apply Upd.drewN | apply Upd.alloc)); (rintro _ W2 ⟨a2, n2, k2, rfl, ho2, ru⟩; dsimp only))
      | (go_at_call 47; (with_reducible refine (HC3.out _ a2 n2 k2 (Own.upd (S := []) ho2.out ?_ (by simp)) (Upd.seq ru ?_)).mono ?_); (repeat (first | exact Upd.refl _ _ | apply Upd.drew | apply Upd.drewN | apply Upd.alloc)); (rintro _ W3 ⟨a3, n3, k3, rfl, ho3, ru⟩; dsimp only)))
  all_goals
    have C3 := Lib.hid (HB1.out.cell 3)
    have C4 := Lib.hid (HB1.out.cell 4)
    simp only [List.getElem?_cons_zero, List.getElem?_cons_succ] at C3 C4
    have d3 := ru.cell C3.out (by simp)
    have d4 := ru.cell C4.out (by simp)
    clear HC1 HC2 HC3 d0 d1 d2 ho1 ho2 C0 C1 C2
    go_wp2_with fail
    go_region_held3 (fun w' => w'.cell? ⟨w.heap.size, 3, none⟩ = some (.string rule) ∧ w'.cell? ⟨w.heap.size, 4, none⟩ = some (.int .i64 kind)) (first | go_keep | exact ⟨ru.cell C3.out (by simp), ru.cell C4.out (by simp)⟩)
      (first
        | (go_at_call 48; (with_reducible refine (HC4.out _ a3 n3 k3 (Own.upd (S := []) ho3.out ?_ (by simp)) (Upd.seq ru ?_)).mono ?_); (repeat (first | exact Upd.refl _ _ | apply Upd.drew | apply Upd.drewN | apply Upd.alloc)); (rintro _ W4 ⟨a4, n4, k4, rfl, ho4, ru⟩; dsimp only))
        | (go_at_call 47; (with_reducible refine (HC5.out _ a4 n4 k4 (Own.upd (S := []) ho4.out ?_ (by simp)) (Upd.seq ru ?_)).mono ?_); (repeat (first | exact Upd.refl _ _ | apply Upd.drew | apply Upd.drewN | apply Upd.alloc)); (rintro _ W5 ⟨a5, n5, k5, rfl, ho5, ru⟩; dsimp only)))
    all_goals
      have HB5 := Lib.hid (HB1.out.upd ru (by simp))
      have e5 := HB5.out.cell 5
      have e6 := HB5.out.cell 6
      have e7 := HB5.out.cell 7
      have e8 := HB5.out.cell 8
      have e9 := HB5.out.cell 9
      have e10 := HB5.out.cell 10
      have e11 := HB5.out.cell 11
      have e12 := HB5.out.cell 12
      have e13 := HB5.out.cell 13
      have e14 := HB5.out.cell 14
      simp only [List.getElem?_cons_zero, List.getElem?_cons_succ] at e5 e6 e7 e8 e9 e10 e11 e12 e13 e14
      have HU5 := Lib.hid (HU1.out.seq ru)
      clear HC4 HC5 d3 d4 ho3 ho4 C3 C4 ru
      go_wp2_with fail
      go_loopw [3, 4] (fun v i wr => ∃ (k : Nat) (a : Option Addr) (n cp : Nat), k ≤ 10 ∧ i = .int .i64 k ∧ v = .slice a n cp ∧ Hid (Own bv w.heap.size 5 wr (.slice a n cp) (L5 ++ encCaps ([c0, c1, c2, c3, c4, c5, c6, c7, c8, c9].take k))) ∧ Hid (Upd [] W5 wr)) (fun _ i _ => 10 - (intOf i).toNat)
      case atStart => exact ⟨0, a5, n5, k5, Nat.zero_le _, rfl, rfl, by unfold Hid; rw [List.take_zero, show encCaps [] = [] from rfl, List.append_nil]; exact ho5.out, Upd.refl _ _⟩
      case round =>
        obtain ⟨k, a, n, cp, hk, rfl, rfl, ho, hu5⟩ := hrel
        have hu := Lib.hid (HU5.out.seq hu5.out)
        clear ho5 e5 e6 e7 e8 e9 e10 e11 e12 e13 e14
        by_cases hlt : k < 10
        · have q0 : (0 : Int) ≤ k := by omega
          have q1 : (k : Int) < 10 := by omega
          have hck : wr.cell? ⟨w.heap.size, 5 + k, none⟩ = some (.int .i64 (nth [c0, c1, c2, c3, c4, c5, c6, c7, c8, c9] k)) := by
            rw [(HB5.out.upd hu5.out (by simp)).cell]
            rcases (show k = 0 ∨ k = 1 ∨ k = 2 ∨ k = 3 ∨ k = 4 ∨ k = 5 ∨ k = 6 ∨ k = 7 ∨ k = 8 ∨ k = 9 by omega) with rfl | rfl | rfl | rfl | rfl | rfl | rfl | rfl | rfl | rfl <;> rfl
          have HTK : Hid (encCaps ([c0, c1, c2, c3, c4, c5, c6, c7, c8, c9].take (k + 1)) = encCaps ([c0, c1, c2, c3, c4, c5, c6, c7, c8, c9].take k) ++ encNum (nth [c0, c1, c2, c3, c4, c5, c6, c7, c8, c9] k + 1).toNat) := by
            unfold Hid
            rw [take_snoc [c0, c1, c2, c3, c4, c5, c6, c7, c8, c9] k hlt, encCaps_app, encCaps_cons]; simp [encCaps]
          have HLE : Hid ((L5 ++ encCaps ([c0, c1, c2, c3, c4, c5, c6, c7, c8, c9].take k)).length ≤ 100000) := by
            have h1 := encCaps_le ([c0, c1, c2, c3, c4, c5, c6, c7, c8, c9].take k) (fun c hc => (HIC.out c (List.mem_of_mem_take hc)).2)
            have h2 := HL5.out
            have h3 : ([c0, c1, c2, c3, c4, c5, c6, c7, c8, c9].take k).length ≤ 10 := by rw [List.length_take]; omega
            unfold Hid; rw [List.length_append]; omega
          have hd := HIC.out (nth [c0, c1, c2, c3, c4, c5, c6, c7, c8, c9] k) (nth_in (l := [c0, c1, c2, c3, c4, c5, c6, c7, c8, c9]) k hlt)
          obtain ⟨hd1, hd2⟩ := hd
          generalize encCaps ([c0, c1, c2, c3, c4, c5, c6, c7, c8, c9].take k) = E at *
          generalize nth [c0, c1, c2, c3, c4, c5, c6, c7, c8, c9] k = d at *
          have hwr : IntKind.i64.wrap (d + 1) = d + 1 := by rw [IntKind.wrap_i64]; omega
          have HID : Hid (I64 (d + 1)) := ⟨by omega, by omega⟩
          clear hd1 hd2
          go_wp2_with fail
          (with_reducible refine (dnum_at w.heap.size W5 wr _ (L5 ++ E) (d + 1) HU5.out.size ho.out hu5.out HLE.out HID.out).mono ?_)
          rintro e W6 ⟨a6, n6, k6, rfl, ho6, hu6⟩
          have HO6 : Hid (Own bv w.heap.size 5 W6 (.slice a6 n6 k6) (L5 ++ encCaps ([c0, c1, c2, c3, c4, c5, c6, c7, c8, c9].take (k + 1)))) := by unfold Hid; rw [HTK.out, ← List.append_assoc]; exact ho6.out
          have HU6 := Lib.hid hu6
          clear ho6 hu6
          go_wp2_with fail
          go_roundw
          case rel => exact ⟨k + 1, a6, n6, k6, by omega, by go_num, rfl, HO6, HU6⟩
          case measure => simp [intOf]; omega
        · obtain rfl : k = 10 := by omega
          go_wp2_with fail
          go_ret
          exact ⟨_, rfl, ho.out, hu.out⟩
theorem rfPut_any2 (w : World) (r : Rec) (hok : recOk r = true) : Calls Tryz.prog 9 #[recVal r] w fun e w' => ∃ v, e = .returned v ∧ Own bv w.heap.size 5 w' v (encRec r) ∧ Upd [] w w' := by
  obtain ⟨ino, gen, at_, rule, kind, c0, c1, c2, c3, c4, c5, c6, c7, c8, c9, rfl⟩ := rec_mk r
  exact rfPut_c w ino gen at_ rule kind c0 c1 c2 c3 c4 c5 c6 c7 c8 c9 hok
end Go.Proofs.YtmhojaiajhdlcaaGreat
namespace Go.Proofs.YtmhojaiajhdlcaaGreat
open Go.RowKit
set_option linter.unusedSimpArgs false
set_option linter.unusedVariables false
structure Key64 (k : Key) : Prop where
  ino : I64 k.ino
  gen : I64 k.gen
  at_ : I64 k.at_
  rule : k.rule.size ≤ maxLen
def klOf (k : Key) : Lit := .string (keyBytes [.int .i64 k.ino, .int .i64 k.gen, .int .i64 k.at_, .string k.rule.data.toList])
theorem laidOutK : laidOutB Tryz.prog = true := by kernel_rfl
theorem keyRow : (23 : TypeId) < Tryz.prog.types.size := of_decide_eq_true (by kernel_rfl)
theorem keyLaw : Maps.Keyed Tryz.prog 23 := Maps.Keyed.of_law (deep_law_laid laidOutK (m := 2) (by omega) keyRow (by kernel_rfl) (by kernel_rfl))
theorem keyType29 : Tryz.prog.keyType 23 = true := by kernel_rfl
theorem keyCellsOf : Tryz.prog.cellsOf 23 = 4 := by kernel_rfl
theorem intCellsOf : Tryz.prog.cellsOf 3 = 1 := by kernel_rfl
theorem strCellsOf : Tryz.prog.cellsOf 9 = 1 := by kernel_rfl
theorem wf_i64 {x : Int} (h : I64 x) : (Lit.int .i64 x).wf = true := WalkArith.wf_i64 ⟨h.1, h.2⟩
theorem pos_succ {n m : Nat} (h : m < n) : ∃ k, n = k + 1 := ⟨n - 1, by omega⟩
theorem keyOf_key (k : Key) (h : Key64 k) : keyOf Tryz.prog 23 (keyVal k) = some (klOf k) := by
  obtain ⟨m, hm⟩ := pos_succ keyRow
  unfold keyOf klOf
  rw [Tryz.underlying23]
  dsimp only
  rw [keyType29, hm]
  simp [Value.formed, Tryz.underlying23, Tryz.underlying3, Tryz.underlying9, keyCellsOf, intCellsOf, strCellsOf, Program.keyLits, Value.cells, wf_i64 h.ino, wf_i64 h.gen, wf_i64 h.at_, h.rule]
theorem keyVal_inj {a b : Key} (h : keyVal a = keyVal b) : a = b := by
  obtain ⟨a1, a2, a3, a4⟩ := a
  obtain ⟨b1, b2, b3, b4⟩ := b
  simp at h
  obtain ⟨rfl, rfl, rfl, rfl⟩ := h
  rfl
theorem klOf_inj {a b : Key} (ha : Key64 a) (hb : Key64 b) (h : klOf a = klOf b) : a = b :=
  keyVal_inj (keyLaw.inj (keyOf_key a ha) (by rw [h]; exact keyOf_key b hb))
def hasK (rl : List Rec) (k : Key) : Bool := rl.any fun r => decide (r.key = k)
theorem hasK_snoc (rl : List Rec) (r : Rec) (k : Key) : hasK (rl ++ [r]) k = (hasK rl k || decide (r.key = k)) := by unfold hasK; simp
abbrev nul : DataW Unit := .lit (.int .i64 0)
/-- The map of a ledger's keys. -/
structure KMap (w : World) (gm : Nat) (rl : List Rec) : Prop where
  ex : ∃ (n : Nat) (D : DataW Unit), w.ownsMap Tryz.prog 23 (plainElem Tryz.prog 3) gm n D ∧ n ≤ rl.length ∧ Maps.IsMap D ∧ ∀ k, Key64 k → ∃ c : Int, D.atKey (klOf k) nul = .lit (.int .i64 c) ∧ (0 < c ↔ hasK rl k = true)
theorem KMap.new (w : World) : KMap (w.alloc (.map #[] 0)) w.heap.size [] :=
  ⟨0, .map [], World.ownsMap_made _ _ _ _, Nat.le_refl _, Maps.isMap_empty, fun k _ => ⟨0, rfl, by simp [hasK]⟩⟩
theorem KMap.lt {w : World} {gm : Nat} {rl : List Rec} (h : KMap w gm rl) : gm < w.heap.size := by
  obtain ⟨n, D, h1, -⟩ := h.ex
  exact h1.lt
theorem KMap.heap {w w' : World} {gm : Nat} {rl : List Rec} (h : KMap w gm rl) (hb : w'.heap[gm]? = w.heap[gm]?) : KMap w' gm rl := by
  obtain ⟨n, D, ⟨es, clock, h1, h2⟩, h3⟩ := h.ex
  exact ⟨n, D, ⟨es, clock, by rw [hb]; exact h1, h2⟩, h3⟩
theorem KMap.upd {w w' : World} {gm : Nat} {rl : List Rec} (h : KMap w gm rl) {S : List Nat} (hu : Upd S w w') (hs : gm ∉ S) : KMap w' gm rl := h.heap (hu.block gm h.lt hs)
theorem KMap.typ {w : World} {gm : Nat} {rl : List Rec} (h : KMap w gm rl) : ∃ es clock, w.heap[gm]? = some (.map es clock) := by
  obtain ⟨n, D, ⟨es, clock, h1, h2⟩, h3⟩ := h.ex
  exact ⟨es, clock, h1⟩
theorem zeroInt (w : World) : (zeroValue 3).run Tryz.prog w = .ok (.int .i64 0) w := by kernel_rfl
theorem KMap.look {w : World} {gm : Nat} {rl : List Rec} (h : KMap w gm rl) (k : Key) (hk : Key64 k) :
    ∃ c : Int, (∀ W, Upd [] w W → (Instr.lookup 121 (.map (some gm)) (keyVal k) false).run Tryz.prog W = .ok (.int .i64 c) W) ∧ (0 < c ↔ hasK rl k = true) := by
  obtain ⟨n, D, h1, h2, h3, h4⟩ := h.ex
  obtain ⟨c, hc, hi⟩ := h4 k hk
  refine ⟨c, fun W hW => ?_, hi⟩
  have hW' : W.ownsMap Tryz.prog 23 (plainElem (H := Unit) Tryz.prog 3) gm n D := by
    obtain ⟨es, clock, q1, q2⟩ := h1
    exact ⟨es, clock, hW.heap q1 (by simp), q2⟩
  obtain ⟨c', r1, r2, -⟩ := hW'.lookup_int keyLaw Tryz.underlying121 Tryz.underlying3 (zeroInt W) (keyOf_key k hk)
  have : (DataW.lit (.int .i64 c) : DataW Unit) = .lit (.int .i64 c') := by rw [← hc]; exact r2
  have e : c = c' := by simpa using this
  rw [e]; exact r1
theorem KMap.put {w : World} {gm : Nat} {rl : List Rec} (h : KMap w gm rl) (r : Rec) (hk : Key64 r.key) (hl : rl.length < 1000000000) (N : Int) (hN : N = ((rl ++ [r]).length : Int)) :
    ∃ w', (Instr.mapUpdate 121 (.map (some gm)) (keyVal r.key) (.int .i64 N)).run Tryz.prog w = .ok () w' ∧ KMap w' gm (rl ++ [r]) ∧ Upd [gm] w w' := by
  obtain ⟨n, D, h1, h2, h3, h4⟩ := h.ex
  rw [List.length_append, List.length_singleton] at hN
  have hN64 : I64 N := ⟨by omega, by omega⟩
  obtain ⟨w', r1, r2, r3⟩ := h1.update keyLaw Tryz.underlying121 (by unfold maxLen; omega) (keyOf_key r.key hk) (plainElem_int Tryz.underlying3 (wf_i64 hN64))
  refine ⟨w', r1, ⟨n + 1, _, r2, by rw [List.length_append, List.length_singleton]; omega, h3.put _ _, fun k hk2 => ?_⟩, ?_⟩
  · by_cases he : r.key = k
    · subst he
      exact ⟨N, by rw [Maps.atKey_put_same h3 (keyLaw.key (keyOf_key _ hk))], by rw [hasK_snoc]; simp; omega⟩
    · obtain ⟨c, hc, hi⟩ := h4 k hk2
      refine ⟨c, ?_, ?_⟩
      · rw [Maps.atKey_put_other (fun q => he (klOf_inj hk hk2 q.symm)), hc]
      · rw [hasK_snoc, hi]; simp [he]
  · have := Upd.of_grown r3
    simpa using this
end Go.Proofs.YtmhojaiajhdlcaaGreat
namespace Go.Proofs.YtmhojaiajhdlcaaGreat
open Go.RowKit
set_option linter.unusedSimpArgs false
set_option linter.unusedVariables false
/-- A ledger at gl, on the disk at gd; its map, its rows. -/
structure LC (w0 w : World) (gl gd gm : Nat) (lv : Value) (rl : List Rec) : Prop where
  top : Blk w gl 123 [.pointer (some ⟨gd, 0, none⟩), lv, .map (some gm)]
  rows : OwnN 15 recCells w0.heap.size 27 w lv rl
  map : KMap w gm rl
  glb : w0.heap.size ≤ gl
  gmb : w0.heap.size ≤ gm
  old : Upd [] w0 w
abbrev lfoot (gl gm : Nat) (lv : Value) : List Nat := gl :: gm :: blk lv
theorem lf_top (gl gm : Nat) (lv : Value) : gl ∈ lfoot gl gm lv := List.mem_cons_self
theorem lf_map (gl gm : Nat) (lv : Value) : gm ∈ lfoot gl gm lv := List.mem_cons_of_mem _ List.mem_cons_self
theorem lf_row {gl gm : Nat} {lv : Value} {x : Nat} (h : x ∈ blk lv) : x ∈ lfoot gl gm lv := List.mem_cons_of_mem _ (List.mem_cons_of_mem _ h)
section
variable {w0 w w' : World} {gl gd gm : Nat} {lv : Value} {rl : List Rec}
theorem LC.glm (h : LC w0 w gl gd gm lv rl) : gl ≠ gm := by
  intro e
  obtain ⟨es, clock, h1⟩ := h.map.typ
  have h2 : w.heap[gl]? = some (.cells _ _ _) := h.top
  rw [e, h1] at h2; exact absurd h2 (by simp)
theorem LC.gll (h : LC w0 w gl gd gm lv rl) : gl ∉ blk lv := by
  intro hx
  obtain ⟨C, f, h1⟩ := h.rows.typ gl hx
  have h2 : w.heap[gl]? = some (.cells _ _ _) := h.top
  rw [h1] at h2
  injection h2 with h2; injection h2 with _ h2
  exact absurd h2 (by decide)
theorem LC.gml (h : LC w0 w gl gd gm lv rl) : gm ∉ blk lv := by
  intro hx
  obtain ⟨C, f, h1⟩ := h.rows.typ gm hx
  obtain ⟨es, clock, h2⟩ := h.map.typ
  rw [h1] at h2; exact absurd h2 (by simp)
theorem LC.upd (h : LC w0 w gl gd gm lv rl) {S : List Nat} (hu : Upd S w w') (hs : ∀ x ∈ lfoot gl gm lv, x ∉ S) (hS : ∀ x ∈ S, w0.heap.size ≤ x) : LC w0 w' gl gd gm lv rl :=
  ⟨h.top.upd hu (hs gl (by simp)), h.rows.upd hu (fun x hx => hs x (by simp [hx])), h.map.upd hu (hs gm (by simp)), h.glb, h.gmb, h.old.trans hu (by simp) (fun x hx => .inr (hS x hx))⟩
theorem LC.upd0 (h : LC w0 w gl gd gm lv rl) (hu : Upd [] w w') : LC w0 w' gl gd gm lv rl := h.upd hu (by simp) (by simp)
theorem LC.ge (h : LC w0 w gl gd gm lv rl) : ∀ x ∈ lfoot gl gm lv, w0.heap.size ≤ x ∧ x < w.heap.size := by
  intro x hx
  rcases List.mem_cons.1 hx with rfl | hx
  · exact ⟨h.glb, h.top.lt⟩
  · rcases List.mem_cons.1 hx with rfl | hx
    · exact ⟨h.gmb, h.map.lt⟩
    · exact h.rows.ge x hx
set_option maxRecDepth 20000 in
set_option maxHeartbeats 1000000 in
theorem ledHas_c (h : LC w0 w gl gd gm lv rl) (ino gen at_ : Int) (rule : ByteArray) (hk : Key64 ⟨ino, gen, at_, rule⟩) :
    Calls Tryz.prog 33 #[.pointer (some ⟨gl, 0, none⟩), .agg #[.int .i64 ino, .int .i64 gen, .int .i64 at_, .string rule]] w fun e w' => e = .returned (.bool (hasK rl ⟨ino, gen, at_, rule⟩)) ∧ Upd [] w w' := by
  have hu : Upd [] w (w.alloc (.cells #[.int .i64 ino, .int .i64 gen, .int .i64 at_, .string rule] 23)) := (Upd.refl [] w).alloc _
  have HU := Lib.hid hu
  obtain ⟨c, hc, hi⟩ := h.map.look _ hk
  have hlk := hc _ hu.drew
  have c2 : (w.alloc (.cells #[.int .i64 ino, .int .i64 gen, .int .i64 at_, .string rule] 23)).cell? ⟨gl, 2, none⟩ = some (.map (some gm)) := (h.upd0 hu).top.cell 2
  have hb := Blk.new w 23 [.int .i64 ino, .int .i64 gen, .int .i64 at_, .string rule]
  have d0 := hb.cell 0
  have d1 := hb.cell 1
  have d2 := hb.cell 2
  have d3 := hb.cell 3
  simp only [List.getElem?_cons_zero, List.getElem?_cons_succ] at d0 d1 d2 d3
  have HI : Hid (hasK rl ⟨ino, gen, at_, rule⟩ = decide (0 < c)) := by
    unfold Hid
    cases hb : hasK rl ⟨ino, gen, at_, rule⟩ with
    | true => exact (decide_eq_true (hi.2 hb)).symm
    | false => exact (decide_eq_false (fun q => by have := hi.1 q; rw [hb] at this; exact absurd this (by simp))).symm
  simp only [keyVal] at hlk
  clear h hu hk hc hi hb
  go_enter Tryz.func33, Tryz.ntmps33
  go_wp2_with fail
  generalize w.alloc (.cells #[.int .i64 ino, .int .i64 gen, .int .i64 at_, .string rule] 23) = w1 at *
  go_region
  all_goals (go_wp2_with fail)
  go_ret
  exact ⟨by rw [HI.out]; rfl, HU.out.drew⟩
theorem ledHas_any (h : LC w0 w gl gd gm lv rl) (k : Key) (hk : Key64 k) :
    Calls Tryz.prog 33 #[.pointer (some ⟨gl, 0, none⟩), keyVal k] w fun e w' => e = .returned (.bool (hasK rl k)) ∧ Upd [] w w' := by
  obtain ⟨ino, gen, at_, rule⟩ := k
  exact ledHas_c h ino gen at_ rule hk
end
end Go.Proofs.YtmhojaiajhdlcaaGreat
namespace Go.Proofs.YtmhojaiajhdlcaaGreat
open Go.RowKit
set_option linter.unusedSimpArgs false
set_option linter.unusedVariables false
theorem infoRec3 : (Tryz.prog.info? 27).map (fun i => (i.zero, i.size, i.bytes)) = some (some (.agg #[.int .i64 0, .int .i64 0, .int .i64 0, .string ⟨#[]⟩, .int .i64 0, .int .i64 0, .int .i64 0, .int .i64 0, .int .i64 0, .int .i64 0, .int .i64 0, .int .i64 0, .int .i64 0, .int .i64 0, .int .i64 0]), 15, 128) := by kernel_rfl
theorem undRec : Tryz.prog.underlying 36 = some (.slice 27) := by kernel_rfl
theorem own_slice {base : Nat} {e : TypeId} {w : World} {v : Value} {l : List Rec} (h : OwnN 15 recCells base e w v l) : ∃ a k, v = .slice a l.length k ∧ l.length ≤ k ∧ k ≤ maxLen := by
  obtain ⟨a, k, h1, h2, h3, _⟩ := h.rd recCells_len
  exact ⟨a, k, h1, h2, h3⟩
section
variable {P : Program} {ops : Array Oper} {rest : List Oper} {o : Oper} {a : Act} {w : World} {Q : Exit → Act → World → Prop}
theorem wpList_map_of (hgd : o.guard = none) (m x v : Operand) {t : TypeId} (ho : o.op = Op.mapUpdate t m x v) (vm key val : Value) (hm : a.eval m = vm) (hx : a.eval x = key) (hv : a.eval v = val)
    {R : World → Prop} (hr : ∃ w', (Instr.mapUpdate t vm key val).run P w = .ok () w' ∧ R w') (h : ∀ w', R w' → wpList P ops Q rest (a.put o.dst undef) w') : wpList P ops Q (o :: rest) a w := by
  obtain ⟨w', hrun, hR⟩ := hr
  refine wpList_plain hgd fun K' hK' => ?_
  unfold Oper.wp
  simp [execOp, ho, hm, hx, hv, hrun, Result.andThen]
  exact hK' _ _ (h w' hR)
end
section
variable {w0 w w' : World} {gl gd gm : Nat} {lv : Value} {rl : List Rec}
set_option maxRecDepth 20000 in
set_option maxHeartbeats 4000000 in
theorem ledKeep_c (h : LC w0 w gl gd gm lv rl) (ino gen at_ : Int) (rule : ByteArray) (kind c0 c1 c2 c3 c4 c5 c6 c7 c8 c9 : Int) (hk : Key64 ⟨ino, gen, at_, rule⟩) (hl : rl.length ≤ 100000000) :
    Calls Tryz.prog 74 #[.pointer (some ⟨gl, 0, none⟩), mkVal ino gen at_ rule kind c0 c1 c2 c3 c4 c5 c6 c7 c8 c9] w fun e w' => e = .returned (.tuple #[]) ∧ ∃ lv', LC w0 w' gl gd gm lv' (rl ++ [mkRec ino gen at_ rule kind c0 c1 c2 c3 c4 c5 c6 c7 c8 c9]) ∧ Upd (lfoot gl gm lv) w w' ∧ (∀ x ∈ blk lv', x ∈ blk lv ∨ w.heap.size ≤ x) := by
  obtain ⟨ao, co, rfl, hlc, hcm⟩ := own_slice h.rows
  have hu1 : Upd [] w (w.alloc (.cells #[.int .i64 ino, .int .i64 gen, .int .i64 at_, .string rule, .int .i64 kind, .int .i64 c0, .int .i64 c1, .int .i64 c2, .int .i64 c3, .int .i64 c4, .int .i64 c5, .int .i64 c6, .int .i64 c7, .int .i64 c8, .int .i64 c9] 27)) := (Upd.refl [] w).alloc _
  have HU1 := Lib.hid hu1
  have H1 := Lib.hid (h.upd0 hu1)
  have hb1 : Blk (w.alloc (.cells #[.int .i64 ino, .int .i64 gen, .int .i64 at_, .string rule, .int .i64 kind, .int .i64 c0, .int .i64 c1, .int .i64 c2, .int .i64 c3, .int .i64 c4, .int .i64 c5, .int .i64 c6, .int .i64 c7, .int .i64 c8, .int .i64 c9] 27)) w.heap.size 27 [.int .i64 ino, .int .i64 gen, .int .i64 at_, .string rule, .int .i64 kind, .int .i64 c0, .int .i64 c1, .int .i64 c2, .int .i64 c3, .int .i64 c4, .int .i64 c5, .int .i64 c6, .int .i64 c7, .int .i64 c8, .int .i64 c9] := Blk.new w _ [.int .i64 ino, .int .i64 gen, .int .i64 at_, .string rule, .int .i64 kind, .int .i64 c0, .int .i64 c1, .int .i64 c2, .int .i64 c3, .int .i64 c4, .int .i64 c5, .int .i64 c6, .int .i64 c7, .int .i64 c8, .int .i64 c9]
  have HB1 := Lib.hid hb1
  have HK := Lib.hid hk
  have HL := Lib.hid hl
  have hg := (h.ge gl (by simp)).2
  have hco : co ≤ 9223372036854775807 := by unfold maxLen at hcm; omega
  have HGE := Lib.hid h.ge
  clear h hu1 hk hl hcm
  go_enter Tryz.func74, Tryz.ntmps74
  go_wp2_with fail
  have d0 := hb1.cell 0
  have d1 := hb1.cell 1
  have d2 := hb1.cell 2
  have d3 := hb1.cell 3
  have d4 := hb1.cell 4
  have d5 := hb1.cell 5
  have d6 := hb1.cell 6
  have d7 := hb1.cell 7
  have d8 := hb1.cell 8
  have d9 := hb1.cell 9
  have d10 := hb1.cell 10
  have d11 := hb1.cell 11
  have d12 := hb1.cell 12
  have d13 := hb1.cell 13
  have d14 := hb1.cell 14
  simp only [List.getElem?_cons_zero, List.getElem?_cons_succ] at d0 d1 d2 d3 d4 d5 d6 d7 d8 d9 d10 d11 d12 d13 d14
  have HSZ : Hid (w.heap.size + 1 = (w.alloc (.cells #[.int .i64 ino, .int .i64 gen, .int .i64 at_, .string rule, .int .i64 kind, .int .i64 c0, .int .i64 c1, .int .i64 c2, .int .i64 c3, .int .i64 c4, .int .i64 c5, .int .i64 c6, .int .i64 c7, .int .i64 c8, .int .i64 c9] 27)).heap.size) := by unfold Hid; simp
  generalize w.alloc (.cells #[.int .i64 ino, .int .i64 gen, .int .i64 at_, .string rule, .int .i64 kind, .int .i64 c0, .int .i64 c1, .int .i64 c2, .int .i64 c3, .int .i64 c4, .int .i64 c5, .int .i64 c6, .int .i64 c7, .int .i64 c8, .int .i64 c9] 27) = w1 at *
  have gc1 : w1.cell? ⟨gl, 1, none⟩ = some (.slice ao rl.length co) := H1.out.top.cell 1
  have f1 := H1.out.top.frozen 1
  have hg1 : gl < w1.heap.size := H1.out.top.lt
  have hx1 : w.heap.size < w1.heap.size := HB1.out.lt
  have hu2 : Upd [] w1 (w1.drew.alloc (.cells #[.int .i64 ino, .int .i64 gen, .int .i64 at_, .string rule, .int .i64 kind, .int .i64 c0, .int .i64 c1, .int .i64 c2, .int .i64 c3, .int .i64 c4, .int .i64 c5, .int .i64 c6, .int .i64 c7, .int .i64 c8, .int .i64 c9] 27)) := (Upd.refl [] w1).drew.alloc _
  have hnb : Blk (w1.drew.alloc (.cells #[.int .i64 ino, .int .i64 gen, .int .i64 at_, .string rule, .int .i64 kind, .int .i64 c0, .int .i64 c1, .int .i64 c2, .int .i64 c3, .int .i64 c4, .int .i64 c5, .int .i64 c6, .int .i64 c7, .int .i64 c8, .int .i64 c9] 27)) w1.heap.size 27 [.int .i64 ino, .int .i64 gen, .int .i64 at_, .string rule, .int .i64 kind, .int .i64 c0, .int .i64 c1, .int .i64 c2, .int .i64 c3, .int .i64 c4, .int .i64 c5, .int .i64 c6, .int .i64 c7, .int .i64 c8, .int .i64 c9] := Blk.new w1.drew _ _
  have HRD : RdN 15 recCells (w1.drew.alloc (.cells #[.int .i64 ino, .int .i64 gen, .int .i64 at_, .string rule, .int .i64 kind, .int .i64 c0, .int .i64 c1, .int .i64 c2, .int .i64 c3, .int .i64 c4, .int .i64 c5, .int .i64 c6, .int .i64 c7, .int .i64 c8, .int .i64 c9] 27)) (.slice (some ⟨w1.heap.size, 0, none⟩) 1 1) [mkRec ino gen at_ rule kind c0 c1 c2 c3 c4 c5 c6 c7 c8 c9] := by
    refine ⟨_, 1, rfl, by simp, by simp [maxLen], fun _ => ⟨w1.heap.size, 0, rfl, fun j hj i hi => ?_⟩⟩
    have hj0 : j = 0 := by simpa using hj
    subst hj0
    rw [Nat.zero_mul, Nat.zero_add, Nat.zero_add, hnb.cell]; rfl
  have HRUN := Lib.hid (fun ty => run_appN (P := Tryz.prog) (ty := ty) recCells_len (by decide) recCells_one undRec infoRec3 rfl _ _ rl [mkRec ino gen at_ rule kind c0 c1 c2 c3 c4 c5 c6 c7 c8 c9] (H1.out.rows.upd hu2 (by simp)) HRD (by have := HL.out; simp; omega) (by have := HL.out; simp [maxLen]; omega) (H1.out.old.seq hu2).size)
  have HTOP := Lib.hid (H1.out.top.upd hu2 (by simp))
  have HGL := Lib.hid H1.out.gll
  have HU2 := Lib.hid hu2
  have HBX := Lib.hid (HB1.out.upd hu2 (by simp))
  clear hu2 hnb HRD
  go_region_law (first | ((with_reducible refine step_app_of rfl (.tmp 8) (.tmp 10) rfl (.slice ao rl.length co) (.slice (some ⟨w1.heap.size, 0, none⟩) 1 1) rfl rfl (HRUN.out _) ?_); (rintro v4 w4 ⟨ho4, hu4, hk4⟩; obtain ⟨a4, k4, rfl, -⟩ := own_slice ho4; have ht4 := HTOP.out.upd hu4 HGL.out; have gc4 := ht4.cell 1; have f4 := ht4.frozen 1; have HT4 := Lib.hid ht4; have HO4 := Lib.hid ho4; have HU4 := Lib.hid hu4; have HK4 := Lib.hid hk4; clear ho4 hu4 hk4 ht4; dsimp only)))
  all_goals
    have hset : Upd [gl] w4 (w4.setCell ⟨gl, 1, none⟩ (.slice a4 (rl.length + 1) k4)) := (Upd.refl [gl] w4).setCell _ _ (.inl (by simp))
    have hgm := H1.out.glm
    have hall4 : Upd (blk (Value.slice ao rl.length co)) w1 w4 := HU2.out.trans HU4.out (by simp) (fun x hx => .inl hx)
    have ht5 : Blk (w4.setCell ⟨gl, 1, none⟩ (.slice a4 (rl.length + 1) k4)) gl 123 [.pointer (some ⟨gd, 0, none⟩), .slice a4 (rl.length + 1) k4, .map (some gm)] := HT4.out.set_ 1 _
    have hm5 : KMap (w4.setCell ⟨gl, 1, none⟩ (.slice a4 (rl.length + 1) k4)) gm rl := (H1.out.map.upd hall4 H1.out.gml).upd hset (by simp; exact fun q => hgm q.symm)
    have hbx5 : Blk (w4.setCell ⟨gl, 1, none⟩ (.slice a4 (rl.length + 1) k4)) w.heap.size 27 [.int .i64 ino, .int .i64 gen, .int .i64 at_, .string rule, .int .i64 kind, .int .i64 c0, .int .i64 c1, .int .i64 c2, .int .i64 c3, .int .i64 c4, .int .i64 c5, .int .i64 c6, .int .i64 c7, .int .i64 c8, .int .i64 c9] := ((HBX.out.upd HU4.out (fun hx => by have := (HGE.out _ (lf_row hx)).2; omega))).upd hset (by simp; omega)
    have ho5 : OwnN 15 recCells w0.heap.size 27 (w4.setCell ⟨gl, 1, none⟩ (.slice a4 (rl.length + 1) k4)) (.slice a4 (rl.length + 1) k4) (rl ++ [mkRec ino gen at_ rule kind c0 c1 c2 c3 c4 c5 c6 c7 c8 c9]) := by
      have ho4 := HO4.out
      rw [List.length_append, List.length_singleton] at ho4
      refine ho4.upd hset (fun x hx hx' => ?_)
      simp at hx'
      subst hx'
      obtain ⟨C, f, h1⟩ := ho4.typ x hx
      have h2 : w4.heap[x]? = some (.cells _ _ _) := HT4.out
      rw [h1] at h2
      injection h2 with h2; injection h2 with _ h2
      exact absurd h2 (by decide)
    have hu5 : Upd (lfoot gl gm (Value.slice ao rl.length co)) w (w4.setCell ⟨gl, 1, none⟩ (.slice a4 (rl.length + 1) k4)) := (HU1.out.mono (by simp)).trans (hall4.trans hset (T := lfoot gl gm (Value.slice ao rl.length co)) (fun x hx => lf_row hx) (fun x hx => .inl (by simp at hx; subst hx; exact lf_top _ _ _))) (fun x hx => hx) (fun x hx => .inl hx)
    have hold5 : Upd [] w0 (w4.setCell ⟨gl, 1, none⟩ (.slice a4 (rl.length + 1) k4)) := (H1.out.old.trans (T := []) hall4 (by simp) (fun x hx => .inr (H1.out.rows.ge x hx).1)).trans hset (by simp) (fun x hx => .inr (by simp at hx; subst hx; exact H1.out.glb))
    have HK5 : Hid (∀ x ∈ blk (Value.slice a4 (rl.length + 1) k4), x ∈ blk (Value.slice ao rl.length co) ∨ w.heap.size ≤ x) := fun x hx => by
      have hx' : x ∈ blk (Value.slice a4 (rl ++ [mkRec ino gen at_ rule kind c0 c1 c2 c3 c4 c5 c6 c7 c8 c9]).length k4) := by
        cases a4 with
        | none => simp [blk] at hx
        | some q => simpa [blk] using hx
      rcases HK4.out x hx' with q | q
      · exact .inl q
      · have := HU1.out.size; have := HU2.out.size; exact .inr (by omega)
    have HGLB := Lib.hid H1.out.glb
    have HGMB := Lib.hid H1.out.gmb
    generalize w4.setCell ⟨gl, 1, none⟩ (.slice a4 (rl.length + 1) k4) = w5 at *
    have HM := Lib.hid ((hm5.upd (Upd.refl [] w5).drew (by simp)).put (mkRec ino gen at_ rule kind c0 c1 c2 c3 c4 c5 c6 c7 c8 c9) HK.out (by have := HL.out; omega) ((rl.length : Int) + 1) (by simp))
    have HT5 := Lib.hid ht5
    have HM5 := Lib.hid hm5
    have HO5 := Lib.hid ho5
    have HU5 := Lib.hid hu5
    have HD5 := Lib.hid hold5
    have HGM := Lib.hid hgm
    have k0 := hbx5.cell 0
    have k1 := hbx5.cell 1
    have k2 := hbx5.cell 2
    have k3 := hbx5.cell 3
    simp only [List.getElem?_cons_zero, List.getElem?_cons_succ] at k0 k1 k2 k3
    have g1 : w5.cell? ⟨gl, 1, none⟩ = some (.slice a4 (rl.length + 1) k4) := ht5.cell 1
    have g2 : w5.cell? ⟨gl, 2, none⟩ = some (.map (some gm)) := ht5.cell 2
    clear hset hgm hall4 ht5 hm5 hbx5 ho5 hu5 hold5 HRUN HTOP HGL HU2 HBX HT4 HO4 HU4 HK4 gc1 f1 gc4 f4 hb1 HB1 H1 HU1 HGE d0 d1 d2 d3 d4 d5 d6 d7 d8 d9 d10 d11 d12 d13 d14
    go_wp2_with fail
    go_still_tail 11, (by kernel_rfl)
    change wpList _ _ _ _ _ w5.drew
    go_wp2_with (at_mapUpdate; go_must (refine wpList_map_of rfl _ _ _ rfl (.map (some gm)) (keyVal ⟨ino, gen, at_, rule⟩) (.int .i64 ((rl.length : Int) + 1)) rfl rfl rfl HM.out ?_; rintro w6 ⟨hm6, hu6⟩; have HM6 := Lib.hid hm6; have HU6 := Lib.hid hu6; clear hm6 hu6 HM; dsimp only))
    go_end0
    have hu6' : Upd [gm] w5 w6 := (Upd.refl [] w5).drew.trans HU6.out (by simp) (fun x hx => .inl hx)
    refine ⟨rfl, .slice a4 (rl.length + 1) k4, ⟨HT5.out.upd hu6' (by simp; exact HGM.out), HO5.out.upd hu6' (fun x hx hx' => ?_), HM6.out, HGLB.out, HGMB.out, HD5.out.trans hu6' (by simp) (fun x hx => .inr (by simp at hx; subst hx; exact HGMB.out))⟩, HU5.out.trans hu6' (fun x hx => hx) (fun x hx => .inl (by simp at hx; subst hx; exact lf_map _ _ _)), HK5.out⟩
    simp at hx'
    subst hx'
    obtain ⟨C, f, h1⟩ := (HO5.out).typ x hx
    obtain ⟨es, clock, h2⟩ := HM5.out.typ
    rw [h1] at h2; exact absurd h2 (by simp)
theorem ledKeep_any (h : LC w0 w gl gd gm lv rl) (r : Rec) (hk : Key64 r.key) (hl : rl.length ≤ 100000000) :
    Calls Tryz.prog 74 #[.pointer (some ⟨gl, 0, none⟩), recVal r] w fun e w' => e = .returned (.tuple #[]) ∧ ∃ lv', LC w0 w' gl gd gm lv' (rl ++ [r]) ∧ Upd (lfoot gl gm lv) w w' ∧ (∀ x ∈ blk lv', x ∈ blk lv ∨ w.heap.size ≤ x) := by
  obtain ⟨ino, gen, at_, rule, kind, c0, c1, c2, c3, c4, c5, c6, c7, c8, c9, rfl⟩ := rec_mk r
  exact ledKeep_c h ino gen at_ rule kind c0 c1 c2 c3 c4 c5 c6 c7 c8 c9 hk hl
end
end Go.Proofs.YtmhojaiajhdlcaaGreat
namespace Go.Proofs.YtmhojaiajhdlcaaGreat
set_option linter.unusedSimpArgs false
set_option linter.unusedVariables false

def onStep (s : BitVec 32) : BitVec 32 := if s &&& 1 = 1 then (s >>> 1) ^^^ 0x82F63B78 else s >>> 1
def onBits (s : BitVec 32) : Nat → BitVec 32
  | 0 => s
  | k + 1 => onStep (onBits s k)
def onByte (s : BitVec 32) (x : UInt8) : BitVec 32 := onBits (s ^^^ BitVec.ofNat 32 x.toNat) 8
def onAll (s : BitVec 32) (l : List UInt8) : BitVec 32 := l.foldl onByte s
def sumOn (c : BitVec 32) (l : List UInt8) : BitVec 32 := ~~~ (onAll (~~~ c) l)
def sumOf (ls : List (List UInt8)) : BitVec 32 := ls.foldl sumOn 0

theorem onAll_append (s : BitVec 32) (l m : List UInt8) : onAll s (l ++ m) = onAll (onAll s l) m := by unfold onAll; rw [List.foldl_append]
theorem sumOn_append (c : BitVec 32) (l m : List UInt8) : sumOn c (l ++ m) = sumOn (sumOn c l) m := by
  unfold sumOn; rw [onAll_append]; simp

theorem and_one (s : BitVec 32) : (s &&& 1 = 1) ↔ s.getLsbD 0 = true := by
  constructor
  · intro h
    have := congrArg (fun x => x.getLsbD 0) h
    simpa using this
  · intro h
    apply BitVec.eq_of_getLsbD_eq
    intro i hi
    by_cases h0 : i = 0
    · subst h0; simpa using h
    · simp [BitVec.getLsbD_one, h0]
theorem onStep_eq (s : BitVec 32) : onStep s = (s >>> 1) ^^^ (if s.getLsbD 0 then 0x82F63B78 else 0) := by
  unfold onStep
  by_cases h : s.getLsbD 0 = true
  · rw [if_pos ((and_one s).2 h), if_pos h]
  · rw [if_neg (fun q => h ((and_one s).1 q)), if_neg h]; simp
theorem onStep_xor (a b : BitVec 32) : onStep (a ^^^ b) = onStep a ^^^ onStep b := by
  rw [onStep_eq, onStep_eq, onStep_eq, BitVec.getLsbD_xor, BitVec.ushiftRight_xor_distrib]
  generalize a >>> 1 = p
  generalize b >>> 1 = q
  have hz : ∀ i, (0 : BitVec 32).getLsbD i = false := fun i => by simp
  generalize (0x82F63B78 : BitVec 32) = r
  apply BitVec.eq_of_getLsbD_eq
  intro i hi
  cases a.getLsbD 0 <;> cases b.getLsbD 0 <;> simp [BitVec.getLsbD_xor, hz] <;> (try (cases p.getLsbD i <;> cases q.getLsbD i <;> cases r.getLsbD i <;> rfl))
theorem onStep_zero : onStep 0 = 0 := by decide
theorem onStep_eq_zero (s : BitVec 32) (h : onStep s = 0) : s = 0 := by
  rw [onStep_eq] at h
  have h31 := congrArg (fun x => x.getLsbD 31) h
  simp only [BitVec.getLsbD_xor, BitVec.getLsbD_ushiftRight] at h31
  rw [show s.getLsbD (1 + 31) = false from BitVec.getLsbD_of_ge s _ (by omega)] at h31
  by_cases h0 : s.getLsbD 0 = true
  · rw [if_pos h0] at h31; exact absurd h31 (by decide)
  · rw [if_neg h0] at h
    apply BitVec.eq_of_getLsbD_eq
    intro i hi
    rcases Nat.eq_zero_or_pos i with e | e
    · subst e; simpa using h0
    · have := congrArg (fun x => x.getLsbD (i - 1)) h
      simp only [BitVec.getLsbD_xor, BitVec.getLsbD_ushiftRight] at this
      rw [show 1 + (i - 1) = i from by omega] at this
      simpa using this
theorem onBits_xor (a b : BitVec 32) (n : Nat) : onBits (a ^^^ b) n = onBits a n ^^^ onBits b n := by
  induction n with
  | zero => rfl
  | succ n ih => simp only [onBits, ih, onStep_xor]
theorem onBits_eq_zero (a : BitVec 32) (n : Nat) : onBits a n = 0 ↔ a = 0 := by
  induction n with
  | zero => exact Iff.rfl
  | succ n ih =>
    constructor
    · intro h; exact ih.1 (onStep_eq_zero _ h)
    · intro h; simp only [onBits]; rw [ih.2 h]; exact onStep_zero
theorem onBits_add (a : BitVec 32) (m n : Nat) : onBits a (m + n) = onBits (onBits a m) n := by
  induction n with
  | zero => rfl
  | succ n ih => rw [← Nat.add_assoc]; simp only [onBits, ih]
theorem onBits_shift : ∀ m : Fin 32, onBits ((1 : BitVec 32) <<< m.val) m.val = 1 := by decide +kernel

/-- One bit. -/
def bit (b : Bool) : BitVec 32 := if b then 1 else 0
/-- So many bits, one behind the other. -/
def runF (s : BitVec 32) (f : Nat → Bool) : Nat → BitVec 32
  | 0 => s
  | n + 1 => onStep (runF s f n ^^^ bit (f n))
theorem bit_xor (a b : Bool) : bit (a ^^ b) = bit a ^^^ bit b := by cases a <;> cases b <;> decide
theorem runF_xor (s t : BitVec 32) (f g : Nat → Bool) (n : Nat) : runF (s ^^^ t) (fun i => f i ^^ g i) n = runF s f n ^^^ runF t g n := by
  induction n with
  | zero => rfl
  | succ n ih =>
    simp only [runF]
    rw [ih, bit_xor, ← onStep_xor]
    congr 1
    generalize runF s f n = p
    generalize runF t g n = q
    generalize bit (f n) = r
    generalize bit (g n) = u
    apply BitVec.eq_of_getLsbD_eq
    intro i hi
    simp only [BitVec.getLsbD_xor]
    cases p.getLsbD i <;> cases q.getLsbD i <;> cases r.getLsbD i <;> cases u.getLsbD i <;> rfl
theorem runF_congr (s : BitVec 32) (f g : Nat → Bool) (n : Nat) (h : ∀ i, i < n → f i = g i) : runF s f n = runF s g n := by
  induction n with
  | zero => rfl
  | succ n ih => simp only [runF]; rw [ih (fun i hi => h i (by omega)), h n (by omega)]
theorem runF_add (s : BitVec 32) (f : Nat → Bool) (m n : Nat) : runF s f (m + n) = runF (runF s f m) (fun i => f (m + i)) n := by
  induction n with
  | zero => rfl
  | succ n ih => rw [← Nat.add_assoc]; simp only [runF, ih]
theorem runF_false (s : BitVec 32) (n : Nat) : runF s (fun _ => false) n = onBits s n := by
  induction n with
  | zero => rfl
  | succ n ih => simp only [runF, onBits, ih, bit]; simp
/-- The low bits of a number, fed one by one, are the number fed at once. -/
theorem runF_word (x : BitVec 32) (m : Nat) (hm : m ≤ 32) : runF 0 (fun i => x.getLsbD i) m = onBits (BitVec.ofNat 32 (x.toNat % 2 ^ m)) m := by
  induction m with
  | zero => simp [runF, onBits, Nat.mod_one]
  | succ m ih =>
    simp only [runF]
    rw [ih (by omega)]
    have hs : BitVec.ofNat 32 (x.toNat % 2 ^ (m + 1)) = BitVec.ofNat 32 (x.toNat % 2 ^ m) ^^^ (if x.getLsbD m then (1 : BitVec 32) <<< m else 0) := by
      apply BitVec.eq_of_getLsbD_eq
      intro i hi
      simp only [BitVec.getLsbD_xor, BitVec.getLsbD_ofNat, hi, decide_true, Bool.true_and, Nat.testBit_mod_two_pow]
      have hb : x.toNat.testBit i = x.getLsbD i := rfl
      rw [hb]
      by_cases e : i = m
      · subst e
        cases hx : x.getLsbD i <;> simp [hi]
      · have e2 : (if x.getLsbD m = true then (1 : BitVec 32) <<< m else 0).getLsbD i = false := by
          split
          · simp [BitVec.getLsbD_shiftLeft, BitVec.getLsbD_one]; intro _ _; omega
          · simp
        rw [e2]
        by_cases q : i < m
        · simp [q, show i < m + 1 by omega]
        · simp [q, show ¬ i < m + 1 by omega]
    rw [hs, onBits_xor]
    show onStep _ = onBits _ (m + 1) ^^^ onBits _ (m + 1)
    simp only [onBits]
    rw [← onStep_xor]
    congr 2
    cases x.getLsbD m
    · simp only [bit]
      rw [if_neg (by decide), if_neg (by decide)]
      exact ((onBits_eq_zero 0 m).2 rfl).symm
    · simp only [bit]
      rw [if_pos trivial, if_pos trivial]
      exact (onBits_shift ⟨m, by omega⟩).symm
/-- A byte is its eight bits. -/
theorem onByte_run (s : BitVec 32) (x : UInt8) : onByte s x = runF s (fun i => x.toNat.testBit i) 8 := by
  have hx : x.toNat < 256 := x.toNat_lt
  have h := runF_xor s 0 (fun _ => false) (fun i => x.toNat.testBit i) 8
  rw [show s ^^^ 0 = s from by simp] at h
  simp only [Bool.false_xor] at h
  rw [h, runF_false, onByte, onBits_xor]
  congr 1
  have h2 := runF_word (BitVec.ofNat 32 x.toNat) 8 (by omega)
  rw [BitVec.toNat_ofNat, Nat.mod_eq_of_lt (show x.toNat < 2 ^ 32 by omega), Nat.mod_eq_of_lt (show x.toNat < 2 ^ 8 by omega)] at h2
  rw [← h2]
  apply runF_congr
  intro i hi
  rw [BitVec.getLsbD_ofNat]; simp; omega
/-- The bit at a place of bytes. -/
def bitAt (l : List UInt8) (n : Nat) : Bool := (nth l (n / 8)).toNat.testBit (n % 8)
theorem onAll_run (l : List UInt8) : ∀ s : BitVec 32, onAll s l = runF s (bitAt l) (8 * l.length) := by
  induction l with
  | nil => intro s; rfl
  | cons x l ih =>
    intro s
    rw [show 8 * (x :: l).length = 8 + 8 * l.length by simp; omega, runF_add]
    show onAll (onByte s x) l = _
    have e1 : runF s (bitAt (x :: l)) 8 = onByte s x := by
      rw [onByte_run]
      apply runF_congr
      intro i hi
      unfold bitAt
      rw [Nat.div_eq_of_lt hi, Nat.mod_eq_of_lt hi]; rfl
    rw [ih, e1]
    congr 1
    funext i
    unfold bitAt
    rw [show (8 + i) / 8 = i / 8 + 1 by omega, show (8 + i) % 8 = i % 8 by omega]; rfl

/-- Where two lists of bytes differ within 32 bits, in the bits of x alone, their sums are the same only if x's bits that count are none. -/
theorem burst_sum (s : BitVec 32) (l m : List UInt8) (hl : m.length = l.length) (at_ : Nat) (x : BitVec 32) (hat : at_ ≤ 8 * l.length)
    (hb : ∀ n, n < 8 * l.length → bitAt m n = (bitAt l n ^^ (decide (at_ ≤ n) && x.getLsbD (n - at_)))) :
    onAll s m = onAll s l ↔ ∀ k, k < 32 → at_ + k < 8 * l.length → x.getLsbD k = false := by
  have hd : onAll s m ^^^ onAll s l = runF 0 (fun n => decide (at_ ≤ n) && x.getLsbD (n - at_)) (8 * l.length) := by
    rw [onAll_run, onAll_run, hl, ← runF_xor, BitVec.xor_self]
    apply runF_congr
    intro i hi
    rw [hb i hi]
    cases bitAt l i <;> simp
  have hz : onAll s m = onAll s l ↔ runF 0 (fun n => decide (at_ ≤ n) && x.getLsbD (n - at_)) (8 * l.length) = 0 := by
    rw [← hd]
    constructor
    · intro h; rw [h, BitVec.xor_self]; rfl
    · intro h
      have := congrArg (fun y => y ^^^ onAll s l) h
      simp only [BitVec.xor_assoc, BitVec.xor_self, BitVec.xor_zero] at this
      simpa using this
  rw [hz]
  have h0 : runF 0 (fun n => decide (at_ ≤ n) && x.getLsbD (n - at_)) at_ = 0 := by
    rw [runF_congr 0 _ (fun _ => false) at_ (fun i hi => by simp; omega), runF_false]
    exact (onBits_eq_zero 0 _).2 rfl
  obtain ⟨M, R, hM, hMR, hR⟩ : ∃ M R, M ≤ 32 ∧ 8 * l.length = at_ + (M + R) ∧ (R = 0 ∨ M = 32) := by
    by_cases q : 8 * l.length - at_ ≤ 32
    · exact ⟨8 * l.length - at_, 0, q, by omega, .inl rfl⟩
    · exact ⟨32, 8 * l.length - at_ - 32, by omega, by omega, .inr rfl⟩
  rw [hMR, runF_add, h0, runF_add]
  rw [runF_congr 0 (fun i => decide (at_ ≤ at_ + i) && x.getLsbD (at_ + i - at_)) (fun i => x.getLsbD i) M (fun i hi => by simp), runF_word x M hM]
  rw [runF_congr _ _ (fun _ => false) R (fun i hi => by
    rcases hR with e | e
    · omega
    · rw [show at_ + (M + i) - at_ = M + i by omega, BitVec.getLsbD_of_ge x _ (by omega)]; simp), runF_false, onBits_eq_zero, onBits_eq_zero]
  constructor
  · intro h k hk hlt
    have hkM : k < M := by
      rcases hR with e | e
      · omega
      · omega
    have := congrArg (fun y => y.getLsbD k) h
    simp only [BitVec.getLsbD_ofNat, hk, Nat.testBit_mod_two_pow, hkM, decide_true, Bool.true_and] at this
    rw [show x.getLsbD k = x.toNat.testBit k from rfl, this]; simp
  · intro h
    apply BitVec.eq_of_getLsbD_eq
    intro i hi
    simp only [BitVec.getLsbD_ofNat, hi, Nat.testBit_mod_two_pow, decide_true, Bool.true_and]
    by_cases q : i < M
    · have : x.toNat.testBit i = x.getLsbD i := rfl
      rw [this, h i hi (by omega)]; simp
    · simp [q]
end Go.Proofs.YtmhojaiajhdlcaaGreat
namespace Go.Proofs.YtmhojaiajhdlcaaGreat
set_option linter.unusedSimpArgs false
set_option linter.unusedVariables false

def flip1 (l : List UInt8) (n : Nat) : List UInt8 := l.set (n / 8) (UInt8.ofNat ((nth l (n / 8)).toNat ^^^ 2 ^ (n % 8)))
def flips (l : List UInt8) (bt : Nat) (x : BitVec 32) : Nat → List UInt8
  | 0 => l
  | k + 1 => if x.getLsbD k && decide (bt + k < 8 * l.length) then flip1 (flips l bt x k) (bt + k) else flips l bt x k
/-- Is a bit turned among the first k? 'lim': only those below that byte count. -/
def turned (lim len bt : Nat) (x : BitVec 32) : Nat → Bool
  | 0 => false
  | k + 1 => turned lim len bt x k || (x.getLsbD k && decide (bt + k < 8 * len) && decide ((bt + k) / 8 < lim))
theorem flip1_length (l : List UInt8) (n : Nat) : (flip1 l n).length = l.length := by simp [flip1]
theorem flips_length (l : List UInt8) (bt : Nat) (x : BitVec 32) (k : Nat) : (flips l bt x k).length = l.length := by
  induction k with
  | zero => rfl
  | succ k ih => simp only [flips]; split <;> simp [flip1_length, ih]
theorem nth_set {α : Type} [Inhabited α] (l : List α) (i j : Nat) (x : α) (hi : i < l.length) : nth (l.set i x) j = if i = j then x else nth l j := by
  unfold nth
  rw [List.getD_eq_getElem?_getD, List.getD_eq_getElem?_getD, List.getElem?_set]
  by_cases e : i = j
  · subst e; simp [hi]
  · simp [e]
theorem toNat_flip (a r : Nat) (ha : a < 256) (hr : r < 8) : (UInt8.ofNat (a ^^^ 2 ^ r)).toNat = a ^^^ 2 ^ r := by
  have h1 : 2 ^ r < 2 ^ 8 := Nat.pow_lt_pow_right (by omega) hr
  have h2 : a ^^^ 2 ^ r < 2 ^ 8 := Nat.xor_lt_two_pow (by omega) h1
  rw [UInt8.toNat_ofNat']; exact Nat.mod_eq_of_lt h2
theorem bitAt_flip1 (l : List UInt8) (m n : Nat) (hm : m < 8 * l.length) : bitAt (flip1 l m) n = (bitAt l n ^^ decide (n = m)) := by
  unfold bitAt flip1
  rw [nth_set _ _ _ _ (by omega)]
  by_cases e : m / 8 = n / 8
  · rw [if_pos e, toNat_flip _ _ (nth l (m / 8)).toNat_lt (by omega), Nat.testBit_xor, e]
    congr 1
    rw [Nat.testBit_two_pow]
    by_cases q : n = m
    · simp [q]
    · simp [q]; omega
  · rw [if_neg e]
    have : n ≠ m := fun q => e (by rw [q])
    simp [this]
theorem bitAt_flips (l : List UInt8) (bt : Nat) (x : BitVec 32) (k n : Nat) (hn : n < 8 * l.length) : bitAt (flips l bt x k) n = (bitAt l n ^^ (decide (bt ≤ n) && decide (n < bt + k) && x.getLsbD (n - bt))) := by
  induction k with
  | zero =>
    have h1 : (decide (bt ≤ n) && decide (n < bt + 0)) = false := by simp
    rw [h1]; simp [flips]
  | succ k ih =>
    simp only [flips]
    by_cases hc : (x.getLsbD k && decide (bt + k < 8 * l.length)) = true
    · rw [if_pos hc, bitAt_flip1 _ _ _ (by rw [flips_length]; simp at hc; exact hc.2), ih]
      simp at hc
      by_cases e : n = bt + k
      · subst e; simp [hc.1]
      · by_cases q : bt ≤ n ∧ n < bt + k
        · simp [e, q.1, q.2, show n < bt + (k + 1) by omega]
        · have h1 : (decide (bt ≤ n) && decide (n < bt + k)) = false := by simp; omega
          have h2 : (decide (bt ≤ n) && decide (n < bt + (k + 1))) = false := by simp; omega
          rw [h1, h2]; simp [e]
    · rw [if_neg hc, ih]
      by_cases e : n = bt + k
      · subst e
        have : x.getLsbD k = false := by simp at hc; cases hx : x.getLsbD k; rfl; have := hc hx; omega
        simp [this]
      · by_cases q : bt ≤ n ∧ n < bt + k
        · simp [q.1, q.2, show n < bt + (k + 1) by omega]
        · have h1 : (decide (bt ≤ n) && decide (n < bt + k)) = false := by simp; omega
          have h2 : (decide (bt ≤ n) && decide (n < bt + (k + 1))) = false := by simp; omega
          rw [h1, h2]
theorem turned_iff (lim len bt : Nat) (x : BitVec 32) (k : Nat) : turned lim len bt x k = true ↔ ∃ j, j < k ∧ x.getLsbD j = true ∧ bt + j < 8 * len ∧ (bt + j) / 8 < lim := by
  induction k with
  | zero => simp [turned]
  | succ k ih =>
    simp only [turned, Bool.or_eq_true, ih, Bool.and_eq_true, decide_eq_true_eq]
    constructor
    · rintro (⟨j, h1, h2, h3, h4⟩ | ⟨⟨h1, h2⟩, h3⟩)
      · exact ⟨j, by omega, h2, h3, h4⟩
      · exact ⟨k, by omega, h1, h2, h3⟩
    · rintro ⟨j, h1, h2, h3, h4⟩
      by_cases e : j = k
      · subst e; exact .inr ⟨⟨h2, h3⟩, h4⟩
      · exact .inl ⟨j, by omega, h2, h3, h4⟩
theorem flips_sum (s : BitVec 32) (l : List UInt8) (bt : Nat) (x : BitVec 32) (hb : bt ≤ 8 * l.length) : onAll s (flips l bt x 32) = onAll s l ↔ turned l.length l.length bt x 32 = false := by
  rw [burst_sum s l _ (flips_length _ _ _ _) bt x hb (fun n hn => by
    rw [bitAt_flips _ _ _ _ _ hn]
    by_cases q : n < bt + 32
    · simp [q]
    · have : x.getLsbD (n - bt) = false := BitVec.getLsbD_of_ge x _ (by omega)
      simp [this])]
  rw [← Bool.not_eq_true, turned_iff]
  constructor
  · rintro h ⟨j, h1, h2, h3, _⟩
    rw [h j h1 h3] at h2; cases h2
  · intro h k hk hlt
    cases hx : x.getLsbD k
    · rfl
    · exact absurd ⟨k, hk, hx, hlt, by omega⟩ h

theorem bitAt_take (l : List UInt8) (n i : Nat) (h : i < 8 * n) : bitAt (l.take n) i = bitAt l i := by
  unfold bitAt; rw [nth_take _ _ _ (by omega)]
theorem flips_take_sum (s : BitVec 32) (l : List UInt8) (bt : Nat) (x : BitVec 32) (n : Nat) (hn : n = min l.length 16) : onAll s ((flips l bt x 32).take n) = onAll s (l.take n) ↔ turned 16 l.length bt x 32 = false := by
  have hnl : n ≤ l.length := by omega
  have hl1 : ((flips l bt x 32).take n).length = n := by rw [List.length_take, flips_length]; omega
  have hl2 : (l.take n).length = n := by rw [List.length_take]; omega
  have hbit : ∀ i, i < 8 * n → bitAt ((flips l bt x 32).take n) i = (bitAt (l.take n) i ^^ (decide (bt ≤ i) && x.getLsbD (i - bt))) := fun i hi => by
    rw [bitAt_take _ _ _ hi, bitAt_take _ _ _ hi, bitAt_flips _ _ _ _ _ (by omega)]
    by_cases q : i < bt + 32
    · simp [q]
    · have : x.getLsbD (i - bt) = false := BitVec.getLsbD_of_ge x _ (by omega)
      simp [this]
  have ht : turned 16 l.length bt x 32 = false ↔ ∀ k, k < 32 → bt + k < 8 * n → x.getLsbD k = false := by
    rw [← Bool.not_eq_true, turned_iff]
    constructor
    · intro h k hk hlt
      cases hx : x.getLsbD k
      · rfl
      · exact absurd ⟨k, hk, hx, by omega, by omega⟩ h
    · rintro h ⟨j, h1, h2, h3, h4⟩
      rw [h j h1 (by omega)] at h2; cases h2
  by_cases hb : bt ≤ 8 * n
  · rw [burst_sum s (l.take n) _ (by rw [hl1, hl2]) bt x (by rw [hl2]; exact hb) (fun i hi => hbit i (by rw [hl2] at hi; exact hi)), ht, hl2]
  · rw [ht]
    constructor
    · intro _ k _ h; omega
    · intro _
      rw [onAll_run, onAll_run, hl1, hl2]
      apply runF_congr
      intro i hi
      have h0 : decide (bt ≤ i) = false := by simp; omega
      rw [hbit i hi, h0, Bool.false_and, Bool.xor_false]
end Go.Proofs.YtmhojaiajhdlcaaGreat
namespace Go.Proofs.YtmhojaiajhdlcaaGreat
open Go.RowKit
set_option linter.unusedSimpArgs false
set_option linter.unusedVariables false

theorem onAll_take (s : BitVec 32) (l : List UInt8) (k : Nat) (h : k < l.length) : onAll s (l.take (k + 1)) = onByte (onAll s (l.take k)) (nth l k) := by
  unfold onAll
  rw [List.take_succ_eq_append_getElem h, List.foldl_append]
  simp [nth_get l k h]

theorem ofInt_toNat (s : BitVec 32) : BitVec.ofInt 32 (s.toNat : Int) = s := by
  rw [BitVec.ofInt_natCast, BitVec.ofNat_toNat]; simp
theorem wrap_toNat (s : BitVec 32) : IntKind.u32.wrap (s.toNat : Int) = (s.toNat : Int) := by
  have := s.isLt
  rw [IntKind.wrap_u32']; omega
theorem bits_xor (s t : BitVec 32) : bits .xor .u32 (s.toNat : Int) (t.toNat : Int) = ((s ^^^ t).toNat : Int) := by
  rw [u32_xor_nat _ _ s.isLt t.isLt, BitVec.toNat_xor]
theorem bits_and1 (s : BitVec 32) : (bits .and .u32 (s.toNat : Int) 1 == 1) = decide (s &&& 1 = 1) := by
  have h : bits .and .u32 (s.toNat : Int) ((1 : BitVec 32).toNat : Int) = ((s &&& 1).toNat : Int) := by
    rw [u32_and_nat _ _ s.isLt (by decide), BitVec.toNat_and]
  have h1 : (((1 : BitVec 32).toNat : Nat) : Int) = 1 := rfl
  rw [h1] at h
  rw [h]
  by_cases g : s &&& 1 = 1
  · rw [g]; rfl
  · have : ((s &&& 1).toNat : Int) ≠ 1 := fun e => g (BitVec.eq_of_toNat_eq (by rw [show (s &&& 1).toNat = 1 by omega]; rfl))
    rw [decide_eq_false g]; exact beq_eq_false_iff_ne.2 this
theorem bits_not (s : BitVec 32) : bits .xor .u32 IntKind.u32.max (s.toNat : Int) = ((~~~ s).toNat : Int) := by
  have h1 : IntKind.u32.max = (((0xFFFFFFFF : BitVec 32).toNat : Nat) : Int) := rfl
  rw [h1, bits_xor]
  congr 2
theorem half (s : BitVec 32) : (s.toNat : Int) / (2 : Int) = ((s >>> 1).toNat : Int) := by
  rw [BitVec.toNat_ushiftRight, Nat.shiftRight_eq_div_pow]; omega


theorem onStep_odd (s : BitVec 32) (h : (bits .and .u32 (s.toNat : Int) 1 == 1) = true) : bits .xor .u32 ((s.toNat : Int) / 2) 2197175160 = ((onStep s).toNat : Int) := by
  rw [bits_and1] at h
  rw [half, show (2197175160 : Int) = (((0x82F63B78 : BitVec 32).toNat : Nat) : Int) from rfl, bits_xor, onStep, if_pos (of_decide_eq_true h)]
theorem onStep_even (s : BitVec 32) (h : (bits .and .u32 (s.toNat : Int) 1 == 1) = false) : (s.toNat : Int) / 2 = ((onStep s).toNat : Int) := by
  rw [bits_and1] at h
  rw [half, onStep, if_neg (of_decide_eq_false h)]
theorem bits_byte (s : BitVec 32) (x : UInt8) : bits .xor .u32 (s.toNat : Int) (x.toNat : Int) = ((s ^^^ BitVec.ofNat 32 x.toNat).toNat : Int) := by
  have hx : x.toNat < 256 := x.toNat_lt
  have h1 : ((x.toNat : Nat) : Int) = ((BitVec.ofNat 32 x.toNat).toNat : Int) := by
    rw [BitVec.toNat_ofNat, Nat.mod_eq_of_lt (by omega)]
  rw [h1, bits_xor]
theorem bits_byte' (s : BitVec 32) (x : UInt8) : bits .xor .u32 (s.toNat : Int) ((x.toNat : Int) % 4294967296) = ((s ^^^ BitVec.ofNat 32 x.toNat).toNat : Int) := by
  have hx : x.toNat < 256 := x.toNat_lt
  rw [← bits_byte]; congr 1; omega

set_option maxHeartbeats 400000 in
theorem on_any (c : BitVec 32) (v : Value) (l : List UInt8) (w : World) (h : Bytes w v l) :
    Calls Tryz.prog 131 #[.int .u32 (c.toNat : Int), v] w fun e w' => e = .returned (.int .u32 ((sumOn c l).toNat : Int)) ∧ w = w' := by
  obtain ⟨a, cap, rfl, hlc, hm, hc⟩ := h
  have hm' : l.length ≤ 9223372036854775807 := by unfold maxLen at hm; omega
  clear hm hlc
  go_enter Tryz.func131, Tryz.ntmps131
  go_wp2
  go_loop [5, 13] (fun s i => ∃ k : Nat, k ≤ l.length ∧ i = .int .i64 k ∧ s = .int .u32 ((onAll (~~~ c) (l.take k)).toNat : Int)) (fun _ i => l.length - (intOf i).toNat)
  case atStart => exact ⟨0, Nat.zero_le _, rfl, by rw [bits_not]; rfl⟩
  case round =>
    obtain ⟨k, hk, rfl, rfl⟩ := hrel
    by_cases hlt : k < l.length
    · obtain ⟨b, off, rfl, hc'⟩ := hc (by intro h; simp [h] at hlt)
      have hck := hc' k hlt
      have HT := Lib.hid (onAll_take (~~~ c) l k hlt)
      clear hc hc'
      go_wp2
      go_loop [5, 21] (fun s i => ∃ j : Nat, j ≤ 8 ∧ i = .int .i64 j ∧ s = .int .u32 ((onBits ((onAll (~~~ c) (l.take k)) ^^^ BitVec.ofNat 32 (nth l k).toNat) j).toNat : Int)) (fun _ i => 8 - (intOf i).toNat)
      case atStart => exact ⟨0, Nat.zero_le _, rfl, congrArg _ (by exact bits_byte' _ _)⟩
      case round =>
        obtain ⟨j, hj, rfl, rfl⟩ := hrel
        by_cases hlt2 : j < 8
        · go_wp2
          · go_round
            case rel => exact ⟨j + 1, by omega, by go_num, congrArg _ (onStep_odd _ (by assumption))⟩
            case measure => simp [intOf]; omega
          · go_round
            case rel => exact ⟨j + 1, by omega, by go_num, congrArg _ (onStep_even _ (by assumption))⟩
            case measure => simp [intOf]; omega
        · obtain rfl : j = 8 := by omega
          go_wp2
          go_round
          case rel => exact ⟨k + 1, by omega, by go_num, by rw [HT.out]; rfl⟩
          case measure => simp [intOf]; omega
    · obtain rfl : k = l.length := by omega
      go_wp2
      go_ret
      exact ⟨congrArg (fun n => Ending.returned (.int .u32 n)) (by rw [bits_not]; rfl), rfl⟩

set_option maxHeartbeats 400000 in
theorem refOn_any (c : BitVec 32) (v : Value) (l : List UInt8) (w : World) (h : Bytes w v l) :
    Calls Tryz.prog 62 #[.int .u32 (c.toNat : Int), v] w fun e w' => e = .returned (.int .u32 ((sumOn c l).toNat : Int)) ∧ w = w' := by
  obtain ⟨a, cap, rfl, hlc, hm, hc⟩ := h
  have hm' : l.length ≤ 9223372036854775807 := by unfold maxLen at hm; omega
  clear hm hlc
  go_enter Tryz.func62, Tryz.ntmps62
  go_wp2
  go_loop [5, 6] (fun s i => ∃ k : Nat, k ≤ l.length ∧ i = .int .i64 k ∧ s = .int .u32 ((onAll (~~~ c) (l.take k)).toNat : Int)) (fun _ i => l.length - (intOf i).toNat)
  case atStart => exact ⟨0, Nat.zero_le _, rfl, by rw [bits_not]; rfl⟩
  case round =>
    obtain ⟨k, hk, rfl, rfl⟩ := hrel
    by_cases hlt : k < l.length
    · obtain ⟨b, off, rfl, hc'⟩ := hc (by intro h; simp [h] at hlt)
      have hck := hc' k hlt
      have HT := Lib.hid (onAll_take (~~~ c) l k hlt)
      clear hc hc'
      go_wp2
      go_loop [5, 7] (fun s i => ∃ j : Nat, j ≤ 8 ∧ i = .int .i64 j ∧ s = .int .u32 ((onBits ((onAll (~~~ c) (l.take k)) ^^^ BitVec.ofNat 32 (nth l k).toNat) j).toNat : Int)) (fun _ i => 8 - (intOf i).toNat)
      case atStart => exact ⟨0, Nat.zero_le _, rfl, congrArg _ (by exact bits_byte' _ _)⟩
      case round =>
        obtain ⟨j, hj, rfl, rfl⟩ := hrel
        by_cases hlt2 : j < 8
        · go_wp2
          · go_round
            case rel => exact ⟨j + 1, by omega, by go_num, congrArg _ (onStep_odd _ (by assumption))⟩
            case measure => simp [intOf]; omega
          · go_round
            case rel => exact ⟨j + 1, by omega, by go_num, congrArg _ (onStep_even _ (by assumption))⟩
            case measure => simp [intOf]; omega
        · obtain rfl : j = 8 := by omega
          go_wp2
          go_round
          case rel => exact ⟨k + 1, by omega, by go_num, by rw [HT.out]; rfl⟩
          case measure => simp [intOf]; omega
    · obtain rfl : k = l.length := by omega
      go_wp2
      go_ret
      exact ⟨congrArg (fun n => Ending.returned (.int .u32 n)) (by rw [bits_not]; rfl), rfl⟩

/-- Lists of bytes that a slice of slices shows. -/
def Parts (w : World) (v : Value) (ls : List (List UInt8)) : Prop :=
  ∃ vs : List Value, vs.length = ls.length ∧ Rd id w v vs ∧ ∀ j, j < ls.length → Bytes w (nth vs j) (nth ls j)
theorem sumOf_take (ls : List (List UInt8)) (k : Nat) (h : k < ls.length) : sumOf (ls.take (k + 1)) = sumOn (sumOf (ls.take k)) (nth ls k) := by
  unfold sumOf
  rw [List.take_succ_eq_append_getElem h, List.foldl_append]
  simp [nth_get ls k h]

set_option maxHeartbeats 400000 in
theorem of_any (v : Value) (ls : List (List UInt8)) (w : World) (h : Parts w v ls) :
    Calls Tryz.prog 110 #[v] w fun e w' => e = .returned (.int .u32 ((sumOf ls).toNat : Int)) ∧ w = w' := by
  obtain ⟨vs, hvl, ⟨a, cap, rfl, hlc, hm, hc⟩, hb⟩ := h
  have hm' : vs.length ≤ 9223372036854775807 := by unfold maxLen at hm; omega
  clear hm hlc
  have HL := Lib.hid hvl
  have HB := Lib.hid hb
  have HC := Lib.hid hc
  clear hvl hb hc
  go_enter Tryz.func110, Tryz.ntmps110
  go_wp2
  go_loop [3, 8] (fun s i => ∃ k : Nat, k ≤ vs.length ∧ i = .int .i64 k ∧ s = .int .u32 ((sumOf (ls.take k)).toNat : Int)) (fun _ i => vs.length - (intOf i).toNat)
  case atStart => exact ⟨0, Nat.zero_le _, rfl, rfl⟩
  case round =>
    obtain ⟨k, hk, rfl, rfl⟩ := hrel
    by_cases hlt : k < vs.length
    · obtain ⟨b, off, rfl, hc'⟩ := HC.out (by intro h; simp [h] at hlt)
      have hck := hc' k hlt
      have hbk := Lib.hid (HB.out k (by rw [← HL.out]; exact hlt))
      have HT := Lib.hid (sumOf_take ls k (by rw [← HL.out]; exact hlt))
      simp only [id] at hck
      clear hc'
      go_wp2_with (go_at_call 131; refine (on_any _ _ _ _ hbk.out).mono ?_; rintro e w' ⟨rfl, rfl⟩)
      go_round
      case rel => exact ⟨k + 1, by omega, by go_num, by rw [HT.out]⟩
      case measure => simp [intOf]; omega
    · obtain rfl : k = vs.length := by omega
      go_wp2
      go_ret
      exact ⟨congrArg (fun n => Ending.returned (.int .u32 n)) (by rw [HL.out, List.take_length]), rfl⟩

theorem Parts.lit {w : World} (vs : List Value) (ls : List (List UInt8)) {C : Array Value} {e : TypeId} {g n k : Nat} (hg : g = w.heap.size) (hC : C = vs.toArray) (hn : n = ls.length) (hv : vs.length = ls.length) (hk : n ≤ k) (hm : k ≤ maxLen)
    (h : ∀ j, j < ls.length → Bytes w (nth vs j) (nth ls j)) : Parts (w.alloc (.cells C e)) (.slice (some ⟨g, 0, none⟩) n k) ls :=
  ⟨vs, hv, Rd.lit vs hg (by simp [hC]) (by rw [hn, hv]) hk hm, fun j hj => (h j hj).alloc _⟩
theorem Parts.nil (w : World) : Parts w (.slice none 0 0) [] := ⟨[], rfl, Rd.nil w, fun j hj => absurd hj (by simp)⟩
theorem Parts.one {w : World} (v : Value) (l : List UInt8) {C : Array Value} {e : TypeId} {g n k : Nat} (hg : g = w.heap.size) (hC : C = #[v]) (hn : n = 1) (hk : k = 1) (h : Bytes w v l) : Parts (w.alloc (.cells C e)) (.slice (some ⟨g, 0, none⟩) n k) [l] :=
  Parts.lit [v] [l] hg (by rw [hC]) hn rfl (by omega) (by unfold maxLen; omega) (fun j hj => by
    match j, hj with
    | 0, _ => exact h)
theorem Parts.two {w : World} (v v' : Value) (l l' : List UInt8) {C : Array Value} {e : TypeId} {g n k : Nat} (hg : g = w.heap.size) (hC : C = #[v, v']) (hn : n = 2) (hk : k = 2) (h : Bytes w v l) (h' : Bytes w v' l') : Parts (w.alloc (.cells C e)) (.slice (some ⟨g, 0, none⟩) n k) [l, l'] :=
  Parts.lit [v, v'] [l, l'] hg (by rw [hC]) hn rfl (by omega) (by unfold maxLen; omega) (fun j hj => by
    match j, hj with
    | 0, _ => exact h
    | 1, _ => exact h')

theorem bit_test (x : BitVec 32) (k : Nat) : (bits .and .u32 ((x.toNat : Int) / 2 ^ k) 1 = 1) ↔ x.getLsbD k = true := by
  have h : bits .and .u32 (((x >>> k).toNat : Nat) : Int) 1 = 1 ↔ (x >>> k) &&& 1 = 1 := by
    have := bits_and1 (x >>> k)
    constructor
    · intro q; rw [q] at this; exact of_decide_eq_true this.symm
    · intro q; rw [decide_eq_true q] at this; exact beq_iff_eq.1 this
  have e : (x.toNat : Int) / 2 ^ k = (((x >>> k).toNat : Nat) : Int) := by
    rw [BitVec.toNat_ushiftRight, Nat.shiftRight_eq_div_pow, Int.natCast_ediv, Int.natCast_pow]; rfl
  rw [e, h, and_one, BitVec.getLsbD_ushiftRight]; rfl

theorem flip_bits (a : UInt8) (r : Nat) (hr : r < 8) : bits .xor .u8 (a.toNat : Int) ((2 : Int) ^ r % 256) = ((UInt8.ofNat (a.toNat ^^^ 2 ^ r)).toNat : Int) := by
  have h1 : 2 ^ r < 2 ^ 8 := Nat.pow_lt_pow_right (by omega) hr
  have h2 : ((2 : Int) ^ r % 256) = ((2 ^ r : Nat) : Int) := by
    rw [Int.natCast_pow]
    have : ((2 ^ r : Nat) : Int) < 256 := by omega
    rw [Int.natCast_pow] at this
    have h0 : (0 : Int) ≤ ((2 : Nat) : Int) ^ r := Int.le_of_lt (Int.pow_pos (by decide))
    exact Int.emod_eq_of_lt h0 this
  rw [h2, u8_xor_nat _ _ a.toNat_lt h1, toNat_flip _ _ a.toNat_lt hr]
/-- One turned bit, as the program stores it. -/
theorem flip_blk {w : World} {g : Nat} {e : TypeId} {l : List UInt8} {ys : List Value} (n : Nat) (hn : n < 8 * l.length) (h : Blk w g e (l.map bv ++ ys)) :
    Blk (w.setCell ⟨g, n / 8, none⟩ (.int .u8 (bits .xor .u8 ((nth l (n / 8)).toNat : Int) ((2 : Int) ^ (n % 8) % 256)))) g e ((flip1 l n).map bv ++ ys) := by
  rw [flip_bits _ _ (by omega)]
  have := h.set_ (n / 8) (bv (UInt8.ofNat ((nth l (n / 8)).toNat ^^^ 2 ^ (n % 8))))
  rw [List.set_append_left _ _ (by simp; omega), ← List.map_set] at this
  exact this
theorem turned_step (lim len bt : Nat) (x : BitVec 32) (k : Nat) (h1 : x.getLsbD k = true) (h2 : bt + k < 8 * len) (h3 : (bt + k) / 8 < lim) : turned lim len bt x (k + 1) = true := by
  simp only [turned, h1, decide_eq_true h2, decide_eq_true h3]; simp
theorem turned_stay (lim len bt : Nat) (x : BitVec 32) (k : Nat) (h : x.getLsbD k = false ∨ ¬ bt + k < 8 * len) : turned lim len bt x (k + 1) = turned lim len bt x k := by
  rcases h with h | h <;> simp [turned, h]
theorem flips_step (l : List UInt8) (bt : Nat) (x : BitVec 32) (k : Nat) (h1 : x.getLsbD k = true) (h2 : bt + k < 8 * l.length) : flips l bt x (k + 1) = flip1 (flips l bt x k) (bt + k) := by
  simp only [flips, h1, decide_eq_true h2]; simp
theorem flips_stay (l : List UInt8) (bt : Nat) (x : BitVec 32) (k : Nat) (h : x.getLsbD k = false ∨ ¬ bt + k < 8 * l.length) : flips l bt x (k + 1) = flips l bt x k := by
  rcases h with h | h <;> simp [flips, h]

theorem Parts.drew {w : World} {v : Value} {ls : List (List UInt8)} (h : Parts w v ls) : Parts w.drew v ls := h
theorem Parts.four {w : World} (v0 v1 v2 v3 : Value) (l0 l1 l2 l3 : List UInt8) {C : Array Value} {e : TypeId} {g n k : Nat} (hg : g = w.heap.size) (hC : C = #[v0, v1, v2, v3]) (hn : n = 4) (hk : k = 4) (h0 : Bytes w v0 l0) (h1 : Bytes w v1 l1) (h2 : Bytes w v2 l2) (h3 : Bytes w v3 l3) : Parts (w.alloc (.cells C e)) (.slice (some ⟨g, 0, none⟩) n k) [l0, l1, l2, l3] :=
  Parts.lit [v0, v1, v2, v3] [l0, l1, l2, l3] hg (by rw [hC]) hn rfl (by omega) (by unfold maxLen; omega) (fun j hj => by
    match j, hj with
    | 0, _ => exact h0
    | 1, _ => exact h1
    | 2, _ => exact h2
    | 3, _ => exact h3)
theorem sumOf_parts (l : List UInt8) (i k : Nat) (hi : i ≤ k) : sumOf [l.take i, [], (l.drop i).take (k - i), l.drop k] = sumOf [l] := by
  show sumOn (sumOn (sumOn (sumOn 0 (l.take i)) []) ((l.drop i).take (k - i))) (l.drop k) = sumOn 0 l
  rw [← sumOn_append, ← sumOn_append, ← sumOn_append]
  congr 1
  rw [List.nil_append]
  have : (l.drop i).take (k - i) ++ l.drop k = l.drop i := by
    rw [show l.drop k = (l.drop i).drop (k - i) by rw [List.drop_drop]; congr 1; omega, List.take_append_drop]
  rw [this, List.take_append_drop]
theorem sumOf_two (l : List UInt8) (i : Nat) : sumOn (sumOf [l.take i]) (l.drop i) = sumOf [l] := by
  show sumOn (sumOn 0 (l.take i)) (l.drop i) = sumOn 0 l
  rw [← sumOn_append, List.take_append_drop]
theorem sumOn_nil (c : BitVec 32) : sumOn c [] = c := by unfold sumOn; simp [onAll]
theorem toNat_beq {a b : BitVec 32} (h : a = b) : ((a.toNat : Int) == (b.toNat : Int)) = true := by rw [h]; simp
end Go.Proofs.YtmhojaiajhdlcaaGreat
namespace Go.Proofs.YtmhojaiajhdlcaaGreat
open Go.RowKit
set_option linter.unusedSimpArgs false
set_option linter.unusedVariables false
theorem fnFour_any (n : Nat) (hn : n < 4294967296) (w : World) :
    Calls Tryz.prog 111 #[.int .u32 (n : Int)] w fun e w' => e = .returned (.slice (some ⟨w.heap.size, 0, none⟩) 4 4) ∧ Own bv w.heap.size 5 w' (.slice (some ⟨w.heap.size, 0, none⟩) 4 4) (four n) ∧ Upd [] w w' := by
  go_enter Tryz.func111, Tryz.ntmps111
  go_wp2
  go_ret
  exact ⟨rfl, Own.lit (four n) (Nat.le_refl _) rfl (by simp [four]; omega) rfl rfl (by decide), (Upd.refl [] w).alloc _⟩
theorem fnNumber_any (v : Value) (l : List UInt8) (w : World) (h : Bytes w v l) (hl : 4 ≤ l.length) :
    Calls Tryz.prog 109 #[v] w fun e w' => e = .returned (.int .u32 (num4 l : Int)) ∧ Upd [] w w' := by
  obtain ⟨a, cap, rfl, hlc, hm, hc⟩ := h
  obtain ⟨b, off, rfl, hc'⟩ := hc (by intro h; simp [h] at hl)
  have c0 : w.cell? ⟨b, off, none⟩ = some (bv (nth l 0)) := hc' 0 (by omega)
  have c1 := hc' 1 (by omega)
  have c2 := hc' 2 (by omega)
  have c3 := hc' 3 (by omega)
  have HN : Hid (num4 l = (nth l 0).toNat * 16777216 + (nth l 1).toNat * 65536 + (nth l 2).toNat * 256 + (nth l 3).toNat) := rfl
  have hlt := num4_lt l
  generalize num4 l = N at *
  generalize nth l 0 = x0 at *
  generalize nth l 1 = x1 at *
  generalize nth l 2 = x2 at *
  generalize nth l 3 = x3 at *
  have q0 : (0 : Int) < l.length := by omega
  have q1 : (1 : Int) < l.length := by omega
  have q2 : (2 : Int) < l.length := by omega
  have q3 : (3 : Int) < l.length := by omega
  clear hc hc' hm hlc
  go_enter Tryz.func109, Tryz.ntmps109
  go_wp2_with fail
  go_quiet (fail)
  go_wp2_with fail
  go_ret
  exact ⟨congrArg (fun n => Ending.returned (.int .u32 n)) ((num4_walk x0 x1 x2 x3).trans (by rw [HN.out])), by first | exact (Upd.refl [] _).drewN _ | exact (Upd.refl [] _).drew⟩
theorem rfFour_any (n : Nat) (hn : n < 4294967296) (w : World) :
    Calls Tryz.prog 61 #[.int .i64 (n : Int)] w fun e w' => e = .returned (.slice (some ⟨w.heap.size, 0, none⟩) 4 4) ∧ Own bv w.heap.size 5 w' (.slice (some ⟨w.heap.size, 0, none⟩) 4 4) (four n) ∧ Upd [] w w' := by
  go_enter Tryz.func61, Tryz.ntmps61
  go_wp2
  go_ret
  exact ⟨rfl, Own.lit (four n) (Nat.le_refl _) rfl (by simp [four]; omega) rfl rfl (by decide), (Upd.refl [] w).alloc _⟩
/-- A frame of a payload. -/
def frameOf (p : List UInt8) : List UInt8 := four p.length ++ (four (sumOf [four p.length, p]).toNat ++ p)
def putF (b p : List UInt8) : List UInt8 := if p.length < 1 ∨ 262144 < p.length then b else b ++ frameOf p
set_option maxHeartbeats 1000000 in
theorem fPut_any (v u : Value) (l p : List UInt8) (w : World) (h : Bytes w v l) (h2 : Bytes w u p) (hz : l.length ≤ 1000000000) (hz2 : p.length ≤ 140737488351232) :
    Calls Tryz.prog 78 #[v, u] w fun e w' => ∃ x, e = .returned x ∧ Own bv w.heap.size 5 w' x (putF l p) ∧ Upd [] w w' := by
  have H := Lib.hid h
  have H2 := Lib.hid h2
  obtain ⟨a, cap, rfl, -, -, -⟩ := h
  obtain ⟨a2, cap2, rfl, -, -, -⟩ := h2
  have hmk := fun u => run_mk (P := Tryz.prog) Tryz.underlying28 infoByte rfl u 0 (l.length + 8 + p.length) 0 ((l.length : Int) + 8 + p.length) (by omega) (by omega) (by omega) (by omega) (by omega)
  by_cases hp : p.length < 1 ∨ 262144 < p.length
  · have HF : Hid (putF l p = l) := if_pos hp
    go_enter Tryz.func78, Tryz.ntmps78
    rcases hp with hp | hp
    all_goals go_wp2_with (at_builtin; refine wpList_app bv_one rfl (.tmp 14) (.tmp 15) rfl Tryz.underlying28 infoByte rfl (.slice (some ⟨w.heap.size, 0, none⟩) 0 (l.length + 8 + p.length)) (.slice a l.length cap) [] l rfl rfl (Own.room (base := w.heap.size) (Nat.le_refl _) rfl (by simp) (by unfold maxLen; omega)) (H.out.alloc _) (by simp; omega) (by unfold maxLen; simp; omega) (by simp) ?_; intro v1 w1 ho hu hbk; rw [List.nil_append] at ho; have HU : Hid (Upd [] w w1) := ((Upd.refl [] w).alloc _).trans hu (by simp) (by simp [blk]); have HO := Lib.hid ho; clear ho hu hbk)
    all_goals go_ret
    all_goals exact ⟨_, rfl, by rw [HF.out]; exact HO.out, HU.out⟩
  · have HF : Hid (putF l p = l ++ frameOf p) := if_neg hp
    have hp1 : 1 ≤ p.length := by omega
    have hp2 : p.length ≤ 262144 := by omega
    go_enter Tryz.func78, Tryz.ntmps78
    go_wp2_with (at_builtin; refine wpList_app bv_one rfl (.tmp 14) (.tmp 15) rfl Tryz.underlying28 infoByte rfl (.slice (some ⟨w.heap.size, 0, none⟩) 0 (l.length + 8 + p.length)) (.slice a l.length cap) [] l rfl rfl (Own.room (base := w.heap.size) (Nat.le_refl _) rfl (by simp) (by unfold maxLen; omega)) (H.out.alloc _) (by simp; omega) (by unfold maxLen; simp; omega) (by simp) ?_; intro v1 w1 ho hu hbk; rw [List.nil_append] at ho; have HU : Hid (Upd [] w w1) := ((Upd.refl [] w).alloc _).trans hu (by simp) (by simp [blk]); have HO := Lib.hid ho; clear ho hu hbk)
    refine (fnFour_any p.length (by omega) _).mono ?_
    rintro e w2 ⟨rfl, ho2, hu2⟩
    have HO1 := Lib.hid (HO.out.upd hu2 (by simp))
    have HO2 := Lib.hid ho2
    have HU2 := Lib.hid (HU.out.seq hu2)
    have HD : Hid (∀ x ∈ blk (.slice (some ⟨w1.heap.size, 0, none⟩) 4 4), x ∉ blk v1) := fun x h1 h2 => by have := (ho2.ge x h1).1; have := (HO.out.ge x h2).2; omega
    have hs2 := HU2.out.size
    have hq : (four p.length).length = 4 := rfl
    clear ho2 hu2 HU HO
    go_wp2_with (at_builtin; refine wpList_app bv_one rfl (.tmp 30) (.tmp 31) rfl Tryz.underlying28 infoByte rfl v1 (.slice (some ⟨w1.heap.size, 0, none⟩) 4 4) l (four p.length) rfl rfl HO1.out HO2.out.rd (by simp [hq]; omega) (by unfold maxLen; simp [hq]; omega) hs2 ?_; intro v3 w3 ho hu hbk; have HU3 : Hid (Upd [] w w3) := HU2.out.trans hu (by simp) (fun x hx => .inr (HO1.out.ge x hx).1); have HO3 := Lib.hid ho; have HB3 := Lib.hid hbk; have HV3 := Lib.hid (HO2.out.upd hu HD.out); clear ho hu hbk)
    have HP := Lib.hid (H2.out.upd0 HU3.out)
    refine (of_any _ [four p.length, p] _ (Parts.two _ _ (four p.length) p rfl rfl rfl rfl HV3.out.rd HP.out)).mono ?_
    rintro e w4 ⟨rfl, rfl⟩
    have HU4 := Lib.hid (HU3.out.alloc (.cells #[.slice (some ⟨w1.heap.size, 0, none⟩) 4 4, .slice a2 p.length cap2] 28))
    have HO4 := Lib.hid (HO3.out.upd ((Upd.refl [] w3).alloc (.cells #[.slice (some ⟨w1.heap.size, 0, none⟩) 4 4, .slice a2 p.length cap2] 28)) (by simp))
    have HS : Hid ((sumOf [four p.length, p]).toNat < 4294967296) := (sumOf [four p.length, p]).isLt
    have HF2 : Hid (frameOf p = four p.length ++ (four (sumOf [four p.length, p]).toNat ++ p)) := rfl
    generalize (w3.alloc (.cells #[.slice (some ⟨w1.heap.size, 0, none⟩) 4 4, .slice a2 p.length cap2] 28)) = w4 at *
    generalize (sumOf [four p.length, p]).toNat = sm at *
    have hq4 : (l ++ four p.length).length = l.length + 4 := by rw [List.length_append, hq]
    have HLE : Hid (l ++ four p.length ++ four sm ++ p = putF l p) := by unfold Hid; rw [HF.out, HF2.out]; simp only [List.append_assoc]
    generalize l ++ four p.length = l4 at *
    clear HV3 HP HU3 HO3 HB3 HD HO1 HO2 HU2 HF2 HF
    go_wp2_with fail
    refine (fnFour_any sm HS.out _).mono ?_
    rintro e w5 ⟨rfl, ho5, hu5⟩
    have HO5 := Lib.hid (HO4.out.upd hu5 (by simp))
    have HR5 := Lib.hid ho5.rd
    have HU5 := Lib.hid (HU4.out.seq hu5)
    have hs5 := HU5.out.size
    have hq5 : (four sm).length = 4 := rfl
    have hq6 : (l4 ++ four sm).length = l.length + 8 := by rw [List.length_append, hq5, hq4]
    generalize four sm = fs at *
    generalize (.slice (some ⟨w4.heap.size, 0, none⟩) 4 4 : Value) = v5 at *
    clear ho5 hu5 HU4 HO4
    go_wp2_with (first
      | (at_builtin; refine wpList_app bv_one rfl (.tmp 33) (.tmp 38) rfl Tryz.underlying28 infoByte rfl v3 v5 l4 fs rfl rfl HO5.out HR5.out (by simp [hq4, hq5]; omega) (by unfold maxLen; simp [hq4, hq5]; omega) hs5 ?_; intro v6 w6 ho hu hbk; have HU6 : Hid (Upd [] w w6) := HU5.out.trans hu (by simp) (fun x hx => .inr (HO5.out.ge x hx).1); have HO6 := Lib.hid ho; have HP6 := Lib.hid (H2.out.upd0 HU6.out); have hs6 := HU6.out.size; clear ho hu hbk; generalize l4 ++ fs = l6 at *)
      | (at_builtin; refine wpList_app bv_one rfl (.tmp 40) (.tmp 41) rfl Tryz.underlying28 infoByte rfl v6 (.slice a2 p.length cap2) l6 p rfl rfl HO6.out HP6.out (by simp [hq6]; omega) (by unfold maxLen; simp [hq6]; omega) hs6 ?_; intro v7 w7 ho hu hbk; have HU7 : Hid (Upd [] w w7) := HU6.out.trans hu (by simp) (fun x hx => .inr (HO6.out.ge x hx).1); have HO7 := Lib.hid ho; clear ho hu hbk))
    go_ret
    exact ⟨_, rfl, by rw [← HLE.out]; exact HO7.out, HU7.out⟩
end Go.Proofs.YtmhojaiajhdlcaaGreat
