/- Texts of the proof, joined: Chapter 2: a reader, and how it reads a number. A region that draws its order and whose calls give plain values and turn nothing that was there: one walk in the text's order. Chapter 2: Upto, Text, Flag, End of a reader. Chapter 2: Text and Items of a reader. Bytes as a record: the program's walk. A record as bytes: the program's walk. The sum as plain mathematics: it is linear, and a burst of 32 bits turns it. Bits of bytes that are turned one by one. The sum's functions: what they compute, over bytes that a world holds. -/
import Derived.Test.YtmhojaiajhdlcaaGreatMp1
import Derived.Test.YtmhojaiajhdlcaaGreatMp2
import Derived.Deep.RegionHeld3
import Derived.Test.YtmhojaiajhdlcaaGreatRows
namespace Go.Proofs.YtmhojaiajhdlcaaGreat
open Go.RowKit
set_option linter.unusedSimpArgs false
set_option linter.unusedVariables false
/-- A reader at g: its bytes, where it stands, its error. -/
structure RdrAt (T : TypeId) (base : Nat) (w : World) (g : Nat) (v : Value) (B : List UInt8) (s : RSt) : Prop where
  cells : Blk w g T [v, .int .i64 (s.1 : Int), .int .i64 (s.2 : Int)]
  own : Own bv base 5 w v B
  gb : base ≤ g
  at_ : s.1 ≤ B.length
  er : s.2 ≤ 5
  sz : B.length ≤ 140737488351232
theorem RdrAt.upd {T : TypeId} {base : Nat} {w w' : World} {g : Nat} {v : Value} {B : List UInt8} {s : RSt} (h : RdrAt T base w g v B s) (hu : Upd [] w w') : RdrAt T base w' g v B s :=
  ⟨h.cells.upd hu (by simp), h.own.upd hu (by simp), h.gb, h.at_, h.er, h.sz⟩
theorem RdrAt.ng {T : TypeId} {base : Nat} {w : World} {g : Nat} {v : Value} {B : List UInt8} {s : RSt} (h : RdrAt T base w g v B s) (hT : T ≠ 5) : g ∉ blk v := by
  intro hg
  rcases h.own.2 with ⟨rfl, _⟩ | ⟨g', cap, cur, rfl, hb, hg', _⟩
  · simp [blk] at hg
  · simp [blk] at hg; subst hg
    exact h.cells.ne g hg' hT rfl
/-- A store of the place, or of the error. -/
theorem RdrAt.set1 {T : TypeId} {base : Nat} {w : World} {g : Nat} {v : Value} {B : List UInt8} {s : RSt} (h : RdrAt T base w g v B s) (hT : T ≠ 5) (k : Nat) (hk : k ≤ B.length) : RdrAt T base (w.setCell ⟨g, 1, none⟩ (.int .i64 (k : Int))) g v B (k, s.2) :=
  ⟨by have := h.cells.set_ 1 (.int .i64 (k : Int)); exact this, h.own.upd (S := [g]) ((Upd.refl [g] w).setCell _ _ (.inl (by simp))) (fun x hx hS => by simp at hS; subst hS; exact h.ng hT hx), h.gb, hk, h.er, h.sz⟩
theorem RdrAt.set2 {T : TypeId} {base : Nat} {w : World} {g : Nat} {v : Value} {B : List UInt8} {s : RSt} (h : RdrAt T base w g v B s) (hT : T ≠ 5) (k : Nat) (hk : k ≤ 5) : RdrAt T base (w.setCell ⟨g, 2, none⟩ (.int .i64 (k : Int))) g v B (s.1, k) :=
  ⟨by have := h.cells.set_ 2 (.int .i64 (k : Int)); exact this, h.own.upd (S := [g]) ((Upd.refl [g] w).setCell _ _ (.inl (by simp))) (fun x hx hS => by simp at hS; subst hS; exact h.ng hT hx), h.gb, h.at_, hk, h.sz⟩
section
variable {base : Nat} {g : Nat} {v : Value} {B : List UInt8} {s : RSt}
theorem rWrong_any (w : World) (k e : Nat) (K E : Int) (hK : K = (k : Int)) (hE : E = (e : Int)) (h : RdrAt 165 base w g v B s) (hk : k ≤ B.length) (he : e ≤ 5) :
    Calls Tryz.prog 100 #[.pointer (some ⟨g, 0, none⟩), .int .i64 K, .int .i64 E] w fun x w' => x = .returned (.int .i64 0) ∧ RdrAt 165 base w' g v B (k, e) ∧ Upd [g] w w' := by
  subst hK; subst hE
  have H1 := Lib.hid ((h.set1 (by decide) k hk).set2 (by decide) e he)
  have HU := Lib.hid (((Upd.refl [g] w).setCell ⟨g, 1, none⟩ (.int .i64 (k : Int)) (.inl (by simp))).setCell ⟨g, 2, none⟩ (.int .i64 (e : Int)) (.inl (by simp)))
  have c1 : w.cell? ⟨g, 1, none⟩ = some (.int .i64 (s.1 : Int)) := h.cells.cell 1
  have c2 : w.cell? ⟨g, 2, none⟩ = some (.int .i64 (s.2 : Int)) := h.cells.cell 2
  have f1 := h.cells.frozen 1
  have f2 := h.cells.frozen 2
  go_enter Tryz.func100, Tryz.ntmps100
  go_wp2
  go_ret
  exact ⟨rfl, H1.out, HU.out⟩
theorem or64 (n : Nat) (x : UInt8) (h : n < 72057594037927936) : bits .or .u64 ((n : Int) * 256 % 18446744073709551616) ((x.toNat : Int) % 18446744073709551616) = ((n * 256 + x.toNat : Nat) : Int) := by
  have hx := x.toNat_lt
  have h1 : (n : Int) * 256 % 18446744073709551616 = ((n * 256 : Nat) : Int) := by omega
  have h2 : (x.toNat : Int) % 18446744073709551616 = ((x.toNat : Nat) : Int) := by omega
  rw [h1, h2, u64_hl _ _ 8 (by omega) (by omega) (by omega)]
theorem beN_take_succ (l : List UInt8) (j : Nat) (h : j < l.length) : beN (l.take (j + 1)) = beN (l.take j) * 256 + (nth l j).toNat := by
  rw [List.take_succ_eq_append_getElem h, beN_snoc, nth_get l j h]
theorem beN_take_lt (l : List UInt8) (j : Nat) (h : j ≤ 7) : beN (l.take j) < 72057594037927936 := by
  have h1 := beN_lt (l.take j)
  have h2 : (256 : Nat) ^ (l.take j).length ≤ 256 ^ 7 := Nat.pow_le_pow_right (by decide) (by rw [List.length_take]; omega)
  have h3 : (256 : Nat) ^ 7 = 72057594037927936 := by decide
  omega
theorem rdNum_0 (B : List UInt8) (k : Nat) : rdNum B (k, 0) = if (numAt (B.drop k)).2.2 ≠ 0 then (0, k, (numAt (B.drop k)).2.2) else ((numAt (B.drop k)).1, k + (numAt (B.drop k)).2.1, 0) := by
  unfold rdNum; rw [if_neg (by simp)]
set_option maxHeartbeats 4000000 in
/-- A number that can't be read, or a reader that has an error: the bad ways but the last. -/
theorem rNumBad_any (w : World) (h : RdrAt 165 base w g v B s) (hs : s.2 ≠ 0 ∨ (s.2 = 0 ∧ (B.drop s.1 = [] ∨ (∃ c t, B.drop s.1 = c :: t ∧ (8 < c.toNat ∨ t.length < c.toNat))))) :
    Calls Tryz.prog 50 #[.pointer (some ⟨g, 0, none⟩)] w fun x w' => x = .returned (.int .i64 ((rdNum B s).1 : Int)) ∧ RdrAt 165 base w' g v B (rdNum B s).2 ∧ Upd [g] w w' := by
  have H := Lib.hid h
  obtain ⟨a, k, rfl, -⟩ := h.own.rd
  have c0 : w.cell? ⟨g, 0, none⟩ = some (.slice a B.length k) := h.cells.cell 0
  have c1 : w.cell? ⟨g, 1, none⟩ = some (.int .i64 (s.1 : Int)) := h.cells.cell 1
  have c2 : w.cell? ⟨g, 2, none⟩ = some (.int .i64 (s.2 : Int)) := h.cells.cell 2
  have hat := h.at_
  have hsz := h.sz
  rcases hs with hs | ⟨hs, hb⟩
  · have hne : ((s.2 : Int) != 0) = true := by rw [bne_iff_ne]; omega
    have HR : Hid (rdNum B s = (0, s)) := by unfold Hid rdNum; rw [if_pos hs]
    clear h hs
    go_enter Tryz.func50, Tryz.ntmps50
    go_wp2_with fail
    go_ret
    exact ⟨by rw [HR.out]; rfl, by rw [HR.out]; exact H.out, Upd.refl _ _⟩
  · obtain ⟨at_, er⟩ := s
    dsimp only at *
    subst hs
    have hcut := run_cut (P := Tryz.prog) Tryz.underlying28 sizeByte a B.length k at_ hat
    simp only [Nat.mul_one] at hcut
    have HD := Lib.hid (h.own.rd.drop at_ hat)
    have hrl : B.length - at_ = (B.drop at_).length := by rw [List.length_drop]
    have HN : Hid (_ = _) := rdNum_0 B at_
    replace c2 : w.cell? ⟨g, 2, none⟩ = some (.int .i64 0) := c2
    rw [hrl] at HD hcut
    have hrs : (B.drop at_).length ≤ 140737488351232 := by rw [List.length_drop]; omega
    generalize B.drop at_ = r at *
    generalize (if k = at_ then a else a.map (·.add at_)) = ar at *
    generalize k - at_ = kr at *
    clear hrl h
    rcases hb with rfl | ⟨c, t, rfl, hct⟩
    · have HR : Hid (rdNum B (at_, 0) = (0, at_, 3)) := HN.out.trans (by simp [numAt])
      clear HN
      go_enter Tryz.func50, Tryz.ntmps50
      go_wp2_with fail
      go_quiet (fail)
      have HU := Lib.hid ((Upd.refl [] w).drewN nq)
      generalize w.drewN nq = w1 at *
      have d1 := HU.out.cell c1 (by simp)
      go_wp2_with fail
      with_reducible refine (rWrong_any _ at_ 3 _ 3 rfl rfl (H.out.upd HU.out) hat (by decide)).mono ?_
      rintro e w2 ⟨rfl, h2, hu2⟩
      go_wp2_with fail
      go_ret
      exact ⟨by rw [HR.out]; rfl, by rw [HR.out]; exact h2, HU.out.trans hu2 (by simp) (by simp)⟩
    · obtain ⟨b, off, hae, hc0⟩ := HD.out.at_ 0 (by simp)
      subst hae
      rw [nth_cons_zero] at hc0
      have hc0' : w.cell? ⟨b, off, none⟩ = some (bv c) := hc0
      clear hc0
      have hlen : (c :: t).length = t.length + 1 := rfl
      rw [hlen] at hcut hrs
      have hlt := c.toNat_lt
      by_cases h8 : 8 < c.toNat
      · have HR : Hid (rdNum B (at_, 0) = (0, at_, 4)) := HN.out.trans (by rw [numAt_cons, if_pos h8]; simp)
        have q8 : (8 : Int) < c.toNat := by omega
        clear HN hct h8
        go_enter Tryz.func50, Tryz.ntmps50
        go_wp2_with fail
        go_quiet (fail)
        have HU := Lib.hid ((Upd.refl [] w).drewN nq)
        generalize w.drewN nq = w1 at *
        have d1 := HU.out.cell c1 (by simp)
        have d0 := HU.out.cell hc0' (by simp)
        go_wp2_with fail
        with_reducible refine (rWrong_any _ at_ 4 _ 4 rfl rfl (H.out.upd HU.out) hat (by decide)).mono ?_
        rintro e w2 ⟨rfl, h2, hu2⟩
        go_wp2_with fail
        go_ret
        exact ⟨by rw [HR.out]; rfl, by rw [HR.out]; exact h2, HU.out.trans hu2 (by simp) (by simp)⟩
      · have hsh : t.length < c.toNat := by omega
        have HR : Hid (rdNum B (at_, 0) = (0, at_, 3)) := HN.out.trans (by rw [numAt_cons, if_neg h8, if_pos hsh]; simp)
        have q8 : ¬ (8 : Int) < c.toNat := by omega
        have qs : (t.length : Int) + 1 < 1 + c.toNat := by omega
        clear HN hct h8 hsh
        go_enter Tryz.func50, Tryz.ntmps50
        go_wp2_with fail
        go_quiet (fail)
        have HU := Lib.hid ((Upd.refl [] w).drewN nq)
        generalize w.drewN nq = w1 at *
        have d1 := HU.out.cell c1 (by simp)
        have d0 := HU.out.cell hc0' (by simp)
        go_wp2_with fail
        with_reducible refine (rWrong_any _ at_ 3 _ 3 rfl rfl (H.out.upd HU.out) hat (by decide)).mono ?_
        rintro e w2 ⟨rfl, h2, hu2⟩
        go_wp2_with fail
        go_ret
        exact ⟨by rw [HR.out]; rfl, by rw [HR.out]; exact h2, HU.out.trans hu2 (by simp) (by simp)⟩
set_option maxHeartbeats 4000000 in
/-- A number whose bytes are all there. -/
theorem rNumIn_any (w : World) (at_ : Nat) (c : UInt8) (t : List UInt8) (h : RdrAt 165 base w g v B (at_, 0)) (hr : B.drop at_ = c :: t) (h8 : ¬ 8 < c.toNat) (hsh : ¬ t.length < c.toNat) :
    Calls Tryz.prog 50 #[.pointer (some ⟨g, 0, none⟩)] w fun x w' => x = .returned (.int .i64 ((rdNum B (at_, 0)).1 : Int)) ∧ RdrAt 165 base w' g v B (rdNum B (at_, 0)).2 ∧ Upd [g] w w' := by
  have H := Lib.hid h
  obtain ⟨a, k, rfl, -⟩ := h.own.rd
  have c0 : w.cell? ⟨g, 0, none⟩ = some (.slice a B.length k) := h.cells.cell 0
  have c1 : w.cell? ⟨g, 1, none⟩ = some (.int .i64 (at_ : Int)) := h.cells.cell 1
  have c2 : w.cell? ⟨g, 2, none⟩ = some (.int .i64 0) := h.cells.cell 2
  have hat : at_ ≤ B.length := h.at_
  have hsz := h.sz
  have hcut := run_cut (P := Tryz.prog) Tryz.underlying28 sizeByte a B.length k at_ hat
  simp only [Nat.mul_one] at hcut
  have HD := Lib.hid (h.own.rd.drop at_ hat)
  have hrl : B.length - at_ = (B.drop at_).length := by rw [List.length_drop]
  have HN : Hid (_ = _) := rdNum_0 B at_
  rw [hrl] at HD hcut
  have hrs : (B.drop at_).length ≤ 140737488351232 := by rw [List.length_drop]; omega
  have hrs2 : (B.drop at_).length + at_ = B.length := by rw [List.length_drop]; omega
  rw [hr] at HD hcut hrs HN hrs2
  have hkr : (c :: t).length ≤ k - at_ := by obtain ⟨_, _, he, h1, _⟩ := HD.out; have := (Value.slice.inj he).2.2; omega
  generalize (if k = at_ then a else a.map (·.add at_)) = ar at *
  generalize k - at_ = kr at *
  clear hrl h hr
  obtain ⟨b, off, hae, hc0⟩ := HD.out.at_ 0 (by simp)
  subst hae
  rw [nth_cons_zero] at hc0
  have hc0' : w.cell? ⟨b, off, none⟩ = some (bv c) := hc0
  have HT := Lib.hid (fun j (hj : j < t.length) => show w.cell? ⟨b, off + 1 + j, none⟩ = some (bv (nth t j)) by
    obtain ⟨b', off', he, hcj⟩ := HD.out.at_ (j + 1) (by simp; omega)
    cases he
    rw [nth_cons_succ] at hcj
    rwa [Nat.add_assoc, Nat.add_comm 1 j])
  have hlen : (c :: t).length = t.length + 1 := rfl
  rw [hlen] at hcut hrs hkr hrs2
  have hlt := c.toNat_lt
  have q8 : ¬ (8 : Int) < c.toNat := by omega
  have qs : ¬ (t.length : Int) + 1 < 1 + c.toNat := by omega
  have hc2 := fun W => run_cut_lh (P := Tryz.prog) Tryz.underlying28 sizeByte (some ⟨b, off, none⟩) (t.length + 1) kr 1 (1 + c.toNat) (by omega) (by omega) W 1 (1 + (c.toNat : Int)) rfl (by omega)
  simp only [Nat.mul_one, Nat.add_sub_cancel_left] at hc2
  have HA1 : Hid (0 < c.toNat → (if kr = 1 then (some ⟨b, off, none⟩ : Option Addr) else (some ⟨b, off, none⟩ : Option Addr).map (·.add 1)) = some ⟨b, off + 1, none⟩) := fun hc => by rw [if_neg (by omega)]; simp [add_none]
  generalize (if kr = 1 then (some ⟨b, off, none⟩ : Option Addr) else (some ⟨b, off, none⟩ : Option Addr).map (·.add 1)) = a1 at *
  rw [numAt_cons, if_neg h8, if_neg hsh] at HN
  have HB7 := Lib.hid (fun j (hj : j ≤ 7) => beN_take_lt t j hj)
  have HBS := Lib.hid (fun j (hj : j < t.length) => beN_take_succ t j hj)
  generalize hcn : c.toNat = cn at *
  go_enter Tryz.func50, Tryz.ntmps50
  go_wp2_with fail
  go_quiet (fail)
  have HU := Lib.hid ((Upd.refl [] w).drewN nq)
  generalize w.drewN nq = w1 at *
  have d1 := HU.out.cell c1 (by simp)
  have d0 := HU.out.cell hc0' (by simp)
  go_wp2_with fail
  have hHN : Hid (rdNum B (at_, 0) = if (0 < cn ∧ nth t 0 = 0) ∨ 9223372036854775808 ≤ beN (t.take cn) then (0, at_, 4) else (beN (t.take cn), at_ + (1 + cn), 0)) := by
    unfold Hid; rw [HN.out]; split <;> simp
  clear HN
  have hcn8 : cn ≤ 8 := by omega
  have hcnt : cn ≤ t.length := by omega
  go_loop [5, 7, 59] (fun u x i => ∃ j : Nat, i = .int .i64 (j : Int) ∧ j ≤ cn ∧ u = .int .u64 ((beN (t.take j) : Nat) : Int)) (fun _ _ i => cn - (intOf i).toNat)
  case atStart => exact ⟨0, rfl, Nat.zero_le _, rfl⟩
  case round =>
    obtain ⟨j, rfl, hj, rfl⟩ := hrel
    by_cases hlj : j < cn
    · have ha1 := HA1.out (by omega)
      subst ha1
      have hcj := HU.out.cell (HT.out j (by omega)) (by simp)
      have HST := Lib.hid ((or64 (beN (t.take j)) (nth t j) (HB7.out j (by omega))).trans (by rw [← HBS.out j (by omega)]))
      generalize nth t j = x at *
      obtain ⟨n, HNE⟩ : ∃ n, Hid (beN (t.take j) = n) := ⟨_, rfl⟩
      rw [HNE.out] at HST
      rw [HNE.out]
      go_wp2_with fail
      go_round
      case rel => exact ⟨j + 1, by go_num, by omega, congrArg _ HST.out⟩
      case measure => simp [intOf]; omega
    · obtain rfl : j = cn := by omega
      have hU64 : beN (t.take j) < 18446744073709551616 := by
        have h1 := beN_lt (t.take j)
        have h2 : (256 : Nat) ^ (t.take j).length ≤ 256 ^ 8 := Nat.pow_le_pow_right (by decide) (by rw [List.length_take]; omega)
        have h3 : (256 : Nat) ^ 8 = 18446744073709551616 := by decide
        omega
      have h0U : j = 0 → beN (t.take j) = 0 := fun e => by subst e; rfl
      generalize beN (t.take j) = U at *
      by_cases hA : 0 < j ∧ nth t 0 = 0
      · have HR : Hid (rdNum B (at_, 0) = (0, at_, 4)) := hHN.out.trans (if_pos (.inl hA))
        obtain ⟨hA1, hA2⟩ := hA
        have hcj : w1.cell? ⟨b, off + 1, none⟩ = some (bv 0) := by have := HU.out.cell (HT.out 0 (by omega)) (by simp); rw [hA2] at this; exact this
        have q1 : (0 : Int) < j := by omega
        have q2 : (1 : Int) < (t.length : Int) + 1 := by omega
        clear hA2
        go_wp2_with fail
        with_reducible refine (rWrong_any _ at_ 4 _ 4 rfl rfl (H.out.upd HU.out) hat (by decide)).mono ?_
        rintro e w2 ⟨rfl, h2, hu2⟩
        go_wp2_with fail
        go_ret
        exact ⟨by rw [HR.out]; rfl, by rw [HR.out]; exact h2, HU.out.trans hu2 (by simp) (by simp)⟩
      · have hx : (j = 0 ∧ U = 0) ∨ (0 < j ∧ nth t 0 ≠ 0) := by
          rcases Nat.eq_zero_or_pos j with e | e
          · exact .inl ⟨e, h0U e⟩
          · exact .inr ⟨e, fun q => hA ⟨e, q⟩⟩
        have hN2 : Hid (rdNum B (at_, 0) = if 9223372036854775808 ≤ U then (0, at_, 4) else (U, at_ + (1 + j), 0)) := by
          unfold Hid; rw [hHN.out]
          by_cases hq : 9223372036854775808 ≤ U
          · rw [if_pos (.inr hq), if_pos hq]
          · rw [if_neg (by rintro (q | q); exact hA q; exact hq q), if_neg hq]
        clear hHN hA
        rcases hx with ⟨rfl, rfl⟩ | ⟨hj0, ht0⟩
        · have HR : Hid (rdNum B (at_, 0) = (0, at_ + 1, 0)) := hN2.out.trans (by simp)
          have HS := Lib.hid ((H.out.upd HU.out).set1 (by decide) (at_ + 1) (by omega))
          have HSU := Lib.hid ((Upd.mono (T := [g]) HU.out (by simp)).setCell ⟨g, 1, none⟩ (.int .i64 ((at_ + 1 : Nat) : Int)) (.inl (by simp)))
          have hfr := (H.out.upd HU.out).cells.frozen 1
          have hc1' : ((at_ + 1 : Nat) : Int) = (at_ : Int) + 1 := by omega
          rw [hc1'] at HS HSU
          clear hN2 hc1'
          go_wp2_with fail
          go_ret
          exact ⟨by rw [HR.out]; rfl, by rw [HR.out]; exact HS.out, HSU.out⟩
        · have hcj : w1.cell? ⟨b, off + 1, none⟩ = some (bv (nth t 0)) := HU.out.cell (HT.out 0 (by omega)) (by simp)
          have hx0 : (((nth t 0).toNat : Int) == 0) = false := by
            rw [beq_eq_false_iff_ne]; intro e; exact ht0 (UInt8.toNat_inj.1 (show (nth t 0).toNat = 0 by omega))
          generalize nth t 0 = x0 at *
          have q1 : (0 : Int) < j := by omega
          have q2 : (1 : Int) < (t.length : Int) + 1 := by omega
          clear ht0
          by_cases hq : 9223372036854775808 ≤ U
          · have HR : Hid (rdNum B (at_, 0) = (0, at_, 4)) := hN2.out.trans (if_pos hq)
            have hU1 : (U : Int) / 9223372036854775808 = 1 := by omega
            clear hN2
            go_wp2_with fail
            with_reducible refine (rWrong_any _ at_ 4 _ 4 rfl rfl (H.out.upd HU.out) hat (by decide)).mono ?_
            rintro e w2 ⟨rfl, h2, hu2⟩
            go_wp2_with fail
            go_ret
            exact ⟨by rw [HR.out]; rfl, by rw [HR.out]; exact h2, HU.out.trans hu2 (by simp) (by simp)⟩
          · have HR : Hid (rdNum B (at_, 0) = (U, at_ + (1 + j), 0)) := hN2.out.trans (if_neg hq)
            have hU1 : (U : Int) / 9223372036854775808 = 0 := by omega
            have HS := Lib.hid ((H.out.upd HU.out).set1 (by decide) (at_ + (1 + j)) (by omega))
            have HSU := Lib.hid ((Upd.mono (T := [g]) HU.out (by simp)).setCell ⟨g, 1, none⟩ (.int .i64 ((at_ + (1 + j) : Nat) : Int)) (.inl (by simp)))
            have hfr := (H.out.upd HU.out).cells.frozen 1
            have hc1' : ((at_ + (1 + j) : Nat) : Int) = (at_ : Int) + (1 + (j : Int)) := by omega
            rw [hc1'] at HS HSU
            clear hN2 hc1'
            go_wp2_with fail
            go_ret
            exact ⟨by rw [HR.out]; rfl, by rw [HR.out]; exact HS.out, HSU.out⟩
theorem rNum_any (w : World) (h : RdrAt 165 base w g v B s) :
    Calls Tryz.prog 50 #[.pointer (some ⟨g, 0, none⟩)] w fun x w' => x = .returned (.int .i64 ((rdNum B s).1 : Int)) ∧ RdrAt 165 base w' g v B (rdNum B s).2 ∧ Upd [g] w w' := by
  by_cases hs : s.2 = 0
  · cases hr : B.drop s.1 with
    | nil => exact rNumBad_any w h (.inr ⟨hs, .inl hr⟩)
    | cons c t =>
      by_cases hb : 8 < c.toNat ∨ t.length < c.toNat
      · exact rNumBad_any w h (.inr ⟨hs, .inr ⟨c, t, hr, hb⟩⟩)
      · obtain ⟨k, e⟩ := s
        dsimp only at hs hr
        subst hs
        exact rNumIn_any w k c t h hr (fun q => hb (.inl q)) (fun q => hb (.inr q))
  · exact rNumBad_any w h (.inl hs)
end
end Go.Proofs.YtmhojaiajhdlcaaGreat
namespace Go.Proofs.YtmhojaiajhdlcaaGreat
open Go.RowKit
set_option linter.unusedSimpArgs false
set_option linter.unusedVariables false

/-- A later world in which what was there is as it was. -/
structure Wx (w : World) where
  val : World
  prop : Upd [] w val
instance (w : World) : Inhabited (Wx w) := ⟨⟨w, Upd.refl [] w⟩⟩
theorem Wx.cell {w : World} {p : Addr} {v : Value} (h : w.cell? p = some v) (x : Wx w) : x.val.cell? p = some v := x.prop.cell h (by simp)
section
variable {P : Program} {w : World} {x : Wx w} {f : FuncId} {args : Array Value} {v : Value}
theorem Wx.upd (h : Calls P f args x.val fun e w' => e = .returned v ∧ Upd [] x.val w') : Calls P f args x.val fun e w'' => e = .returned v ∧ ∃ y : Wx w, w'' = y.val :=
  h.mono fun _ w' ⟨he, hu⟩ => ⟨he, ⟨w', x.prop.seq hu⟩, rfl⟩
theorem Wx.draws (h : Calls P f args x.val fun e w' => e = .returned v ∧ ∃ n, w' = x.val.drewN n) : Calls P f args x.val fun e w'' => e = .returned v ∧ ∃ y : Wx w, w'' = y.val :=
  h.mono fun _ w' ⟨he, n, hw⟩ => ⟨he, ⟨w', by rw [hw]; exact x.prop.drewN n⟩, rfl⟩
theorem Wx.same (h : Calls P f args x.val fun e w' => e = .returned v ∧ x.val = w') : Calls P f args x.val fun e w'' => e = .returned v ∧ ∃ y : Wx w, w'' = y.val :=
  h.mono fun _ w' ⟨he, hw⟩ => ⟨he, x, hw.symm⟩
theorem wp_region_wx {ops : List Oper} {id : Nat} {Q : Exit → Act → World → Prop} {a : Act} (hm : P.follows .mixedOrders = true) (hB : Region.lexB .any ops.toArray = true)
    (h : wpQuiet P ops.toArray (fun w' => ∃ x : Wx w, w' = x.val) (fun a' => ∀ w', (∃ x : Wx w, w' = x.val) → Q .normal a' w') ops a) : (Code.region id ops.toArray true).wp P Q a w :=
  wp_region_quiet (C := fun w' => ∃ x : Wx w, w' = x.val) hm hB ⟨⟨w.drew, (Upd.refl [] w).drew⟩, rfl⟩ (by simpa using h)
end
end Go.Proofs.YtmhojaiajhdlcaaGreat
namespace Go.Proofs.YtmhojaiajhdlcaaGreat
open Go.RowKit
set_option linter.unusedSimpArgs false
set_option linter.unusedVariables false
section
variable {base : Nat} {g : Nat} {v : Value} {B : List UInt8} {s : RSt}
theorem Upd.gg {g : Nat} {a b c : World} (h : Upd [g] a b) (k : Upd [g] b c) : Upd [g] a c := h.trans k (fun x hx => hx) (fun x hx => .inl hx)
theorem Upd.up {g : Nat} {a b : World} (h : Upd [] a b) : Upd [g] a b := h.mono (by simp)
set_option maxHeartbeats 2000000 in
theorem rUpto_any (w : World) (most : Int) (hm : I64 most) (h : RdrAt 165 base w g v B s) :
    Calls Tryz.prog 101 #[.pointer (some ⟨g, 0, none⟩), .int .i64 most] w fun x w' => x = .returned (.int .i64 ((rdUpto B most s).1 : Int)) ∧ RdrAt 165 base w' g v B (rdUpto B most s).2 ∧ Upd [g] w w' := by
  have H := Lib.hid h
  have c1 : w.cell? ⟨g, 1, none⟩ = some (.int .i64 (s.1 : Int)) := h.cells.cell 1
  have hat := h.at_
  have hle := rdNum_le B s h.at_ h.er
  go_enter Tryz.func101, Tryz.ntmps101
  go_wp2_with fail
  with_reducible refine (rNum_any _ H.out).mono ?_
  rintro e w1 ⟨rfl, h1, hu1⟩
  have c2 := h1.cells.cell 2
  have HU1 := Lib.hid hu1
  have H1 := Lib.hid h1
  clear h1 hu1 h
  by_cases hb : (rdNum B s).2.2 = 0 ∧ most < ((rdNum B s).1 : Int)
  · have HR : Hid (rdUpto B most s = (0, s.1, 2)) := if_pos hb
    obtain ⟨hb1, hb2⟩ := hb
    generalize rdNum B s = r at *
    obtain ⟨n, at1, er1⟩ := r
    dsimp only at hb1 hb2 hle
    subst hb1
    replace c2 : w1.cell? ⟨g, 2, none⟩ = some (.int .i64 0) := c2
    dsimp only
    go_wp2_with fail
    with_reducible refine (rWrong_any _ s.1 2 _ 2 rfl rfl H1.out hat (by decide)).mono ?_
    rintro e w2 ⟨rfl, h2, hu2⟩
    go_wp2_with fail
    go_ret
    exact ⟨by rw [HR.out]; rfl, by rw [HR.out]; exact h2, HU1.out.gg hu2⟩
  · have HR : Hid (rdUpto B most s = rdNum B s) := if_neg hb
    generalize rdNum B s = r at *
    obtain ⟨n, at1, er1⟩ := r
    dsimp only at hb hle
    replace c2 : w1.cell? ⟨g, 2, none⟩ = some (.int .i64 (er1 : Int)) := c2
    dsimp only
    by_cases he : er1 = 0
    · subst he
      have hb2 : ¬ most < (n : Int) := fun q => hb ⟨rfl, q⟩
      replace c2 : w1.cell? ⟨g, 2, none⟩ = some (.int .i64 0) := c2
      clear hb
      go_wp2_with fail
      go_ret
      exact ⟨by rw [HR.out]; rfl, by rw [HR.out]; exact H1.out, HU1.out⟩
    · have he2 : ((er1 : Int) == 0) = false := by rw [beq_eq_false_iff_ne]; omega
      clear hb he
      go_wp2_with fail
      go_ret
      exact ⟨by rw [HR.out]; rfl, by rw [HR.out]; exact H1.out, HU1.out⟩
set_option maxHeartbeats 2000000 in
theorem rEnd_any (w : World) (h : RdrAt 165 base w g v B s) :
    Calls Tryz.prog 52 #[.pointer (some ⟨g, 0, none⟩)] w fun x w' => x = .returned (.int .i64 ((rdEnd B s).2 : Int)) ∧ RdrAt 165 base w' g v B (rdEnd B s) ∧ Upd [g] w w' := by
  have H := Lib.hid h
  obtain ⟨a, k, rfl, -⟩ := h.own.rd
  have c0 : w.cell? ⟨g, 0, none⟩ = some (.slice a B.length k) := h.cells.cell 0
  have c1 : w.cell? ⟨g, 1, none⟩ = some (.int .i64 (s.1 : Int)) := h.cells.cell 1
  have c2 : w.cell? ⟨g, 2, none⟩ = some (.int .i64 (s.2 : Int)) := h.cells.cell 2
  have hat := h.at_
  obtain ⟨at_, er⟩ := s
  dsimp only at *
  clear h
  by_cases hb : er = 0 ∧ at_ < B.length
  · have HR : Hid (rdEnd B (at_, er) = (at_, 5)) := if_pos hb
    obtain ⟨rfl, hb2⟩ := hb
    replace c2 : w.cell? ⟨g, 2, none⟩ = some (.int .i64 0) := c2
    have hb3 : (at_ : Int) < B.length := by omega
    go_enter Tryz.func52, Tryz.ntmps52
    go_wp2_with fail
    go_quiet (fail)
    have HU := Lib.hid ((Upd.refl [] w).drewN nq)
    generalize w.drewN nq = w1 at *
    have d2 := HU.out.cell c2 (by simp)
    have hfr := (H.out.upd HU.out).cells.frozen 2
    have HS := Lib.hid ((H.out.upd HU.out).set2 (by decide) 5 (by decide))
    have HSU := Lib.hid ((Upd.up (g := g) HU.out).setCell ⟨g, 2, none⟩ (.int .i64 ((5 : Nat) : Int)) (.inl (by simp)))
    go_wp2_with fail
    go_ret
    exact ⟨by rw [HR.out]; rfl, by rw [HR.out]; exact HS.out, HSU.out⟩
  · have HR : Hid (rdEnd B (at_, er) = (at_, er)) := if_neg hb
    by_cases he : er = 0
    · subst he
      have hb3 : ¬ (at_ : Int) < B.length := fun q => hb ⟨rfl, by omega⟩
      replace c2 : w.cell? ⟨g, 2, none⟩ = some (.int .i64 0) := c2
      clear hb
      go_enter Tryz.func52, Tryz.ntmps52
      go_wp2_with fail
      go_quiet (fail)
      have HU := Lib.hid ((Upd.refl [] w).drewN nq)
      generalize w.drewN nq = w1 at *
      have d2 := HU.out.cell c2 (by simp)
      go_wp2_with fail
      go_ret
      exact ⟨by rw [HR.out]; rfl, by rw [HR.out]; exact H.out.upd HU.out, HU.out.up⟩
    · have he2 : ((er : Int) == 0) = false := by rw [beq_eq_false_iff_ne]; omega
      clear hb he
      go_enter Tryz.func52, Tryz.ntmps52
      go_wp2_with fail
      go_quiet (fail)
      have HU := Lib.hid ((Upd.refl [] w).drewN nq)
      generalize w.drewN nq = w1 at *
      have d2 := HU.out.cell c2 (by simp)
      go_wp2_with fail
      go_ret
      exact ⟨by rw [HR.out]; rfl, by rw [HR.out]; exact H.out.upd HU.out, HU.out.up⟩
theorem rRead_any (w : World) (u : Value) (l : List UInt8) (h : Bytes w u l) (hz : l.length ≤ 140737488351232) :
    Calls Tryz.prog 49 #[u] w fun x w' => ∃ g v, x = .returned (.pointer (some ⟨g, 0, none⟩)) ∧ RdrAt 165 w.heap.size w' g v l (0, 0) ∧ Upd [] w w' := by
  have H := Lib.hid h
  obtain ⟨a, cap, rfl, -, -, -⟩ := h
  go_enter Tryz.func49, Tryz.ntmps49
  go_wp2_with (at_builtin; refine wpList_app bv_one rfl (.const (.slice none 0 0)) (.tmp 3) rfl Tryz.underlying28 infoByte rfl (.slice none 0 0) (.slice a l.length cap) [] l rfl rfl (Own.nil w.heap.size _ _) H.out (by simp; omega) (by unfold maxLen; simp; omega) (Nat.le_refl _) ?_; intro v3 w3 ho hu hbk; rw [List.nil_append] at ho; have HU3 : Hid (Upd [] w w3) := (Upd.refl [] w).trans hu (by simp) (by simp [blk]); have HO3 := Lib.hid ho; obtain ⟨a3, c3, rfl, -⟩ := ho.rd; clear ho hu hbk)
  go_ret
  exact ⟨_, _, rfl, ⟨Blk.new w3 _ [.slice a3 l.length c3, .int .i64 0, .int .i64 0], HO3.out.upd ((Upd.refl [] w3).alloc _) (by simp), HU3.out.size, Nat.zero_le _, Nat.zero_le _, hz⟩, HU3.out.alloc _⟩
end
end Go.Proofs.YtmhojaiajhdlcaaGreat
namespace Go.Proofs.YtmhojaiajhdlcaaGreat
open Go.RowKit
set_option linter.unusedSimpArgs false
set_option linter.unusedVariables false
theorem infoInt8 : (Tryz.prog.info? 3).map (fun i => (i.zero, i.size, i.bytes)) = some (some (.int .i64 0), 1, 8) := by kernel_rfl
theorem strOf_nil : strOf [] = ⟨#[]⟩ := rfl
section
variable {base : Nat} {g : Nat} {v : Value} {B : List UInt8} {s : RSt}
set_option maxHeartbeats 4000000 in
theorem rText_any (w : World) (most : Int) (hm : I64 most) (h : RdrAt 165 base w g v B s) :
    Calls Tryz.prog 51 #[.pointer (some ⟨g, 0, none⟩), .int .i64 most] w fun x w' => x = .returned (.string (strOf (rdText B most s).1)) ∧ RdrAt 165 base w' g v B (rdText B most s).2 ∧ Upd [g] w w' := by
  have H := Lib.hid h
  obtain ⟨a, k, rfl, hBk, -⟩ := h.own.rd
  have c1 : w.cell? ⟨g, 1, none⟩ = some (.int .i64 (s.1 : Int)) := h.cells.cell 1
  have hat := h.at_
  have hsz := h.sz
  have hle := rdUpto_le B most s h.at_ h.er
  go_enter Tryz.func51, Tryz.ntmps51
  go_wp2_with fail
  with_reducible refine (rUpto_any _ most hm H.out).mono ?_
  rintro e w1 ⟨rfl, h1, hu1⟩
  have c2 := h1.cells.cell 2
  have c0 : w1.cell? ⟨g, 0, none⟩ = some (.slice a B.length k) := h1.cells.cell 0
  have d1 := h1.cells.cell 1
  have HU1 := Lib.hid hu1
  have H1 := Lib.hid h1
  have HT : Hid (rdText B most s = if (rdUpto B most s).2.2 ≠ 0 then ([], (rdUpto B most s).2)
    else if B.length - (rdUpto B most s).2.1 < (rdUpto B most s).1 then ([], s.1, 3)
    else ((B.drop (rdUpto B most s).2.1).take (rdUpto B most s).1, (rdUpto B most s).2.1 + (rdUpto B most s).1, 0)) := rfl
  clear h1 hu1 h
  generalize rdUpto B most s = r at *
  obtain ⟨n, at1, er1⟩ := r
  dsimp only at hle HT
  replace c2 : w1.cell? ⟨g, 2, none⟩ = some (.int .i64 (er1 : Int)) := c2
  replace d1 : w1.cell? ⟨g, 1, none⟩ = some (.int .i64 (at1 : Int)) := d1
  dsimp only
  by_cases he : er1 = 0
  · subst he
    replace c2 : w1.cell? ⟨g, 2, none⟩ = some (.int .i64 0) := c2
    have HT := Lib.hid (HT.out.trans (if_neg (by simp)))
    have hat1 : at1 ≤ B.length := hle.2.2.1
    by_cases hb : B.length - at1 < n
    · have HR := Lib.hid (HT.out.trans (if_pos hb))
      have hb2 : (B.length : Int) - at1 < n := by omega
      clear HT
      go_wp2_with fail
      go_quiet (fail)
      have HU := Lib.hid ((Upd.refl [] w1).drewN nq)
      generalize w1.drewN nq = w2 at *
      go_wp2_with fail
      with_reducible refine (rWrong_any _ s.1 3 _ 3 rfl rfl (H1.out.upd HU.out) hat (by decide)).mono ?_
      rintro e w3 ⟨rfl, h3, hu3⟩
      go_wp2_with fail
      go_ret
      exact ⟨by rw [HR.out, strOf_nil]; rfl, by rw [HR.out]; exact h3, (HU1.out.gg HU.out.up).gg hu3⟩
    · have HR := Lib.hid (HT.out.trans (if_neg hb))
      have hb2 : ¬ (B.length : Int) - at1 < n := by omega
      have hc2 := fun W => run_cut_lh (P := Tryz.prog) Tryz.underlying28 sizeByte a B.length k at1 (at1 + n) (by omega) (by omega) W (at1 : Int) ((at1 : Int) + (n : Int)) rfl (by omega)
      simp only [Nat.mul_one, Nat.add_sub_cancel_left] at hc2
      have HP := Lib.hid (H1.out.own.rd.sub at1 (at1 + n) (by omega) (by omega))
      rw [Nat.add_sub_cancel_left] at HP
      generalize (if k = at1 then a else a.map (·.add at1)) = a2 at *
      generalize (B.drop at1).take n = pl at *
      clear HT
      go_wp2_with fail
      go_quiet (fail)
      have HU := Lib.hid ((Upd.refl [] w1).drewN nq)
      generalize w1.drewN nq = w2 at *
      have d2 := HU.out.cell d1 (by simp)
      have e0 : ∀ x : Wx w2, x.val.cell? ⟨g, 0, none⟩ = some (.slice a B.length k) := Wx.cell (HU.out.cell c0 (by simp))
      have e1 : ∀ x : Wx w2, x.val.cell? ⟨g, 1, none⟩ = some (.int .i64 (at1 : Int)) := Wx.cell d2
      have hcv : ∀ x : Wx w2, (convert 28 9 (.slice a2 n (k - at1))).run Tryz.prog x.val = .ok (.string (strOf pl)) x.val := fun x => convb_str Tryz.underlying28 Tryz.underlying5 Tryz.underlying9 _ _ _ ((HP.out.upd0 HU.out).upd0 x.prop)
      go_wp2_with fail
      refine wp_region_wx (by kernel_rfl) (by kernel_rfl) ?_
      repeat (go_big_quiet_step (fail))
      refine wpQuiet_nil ?_
      rintro _ ⟨x, rfl⟩
      have HX := Lib.hid (HU.out.seq x.prop)
      have d3 := e1 x
      have hfr := (H1.out.upd HX.out).cells.frozen 1
      have HS := Lib.hid ((H1.out.upd HX.out).set1 (by decide) (at1 + n) (by omega))
      have HSU := Lib.hid ((HU1.out.gg (Upd.up (g := g) HX.out)).setCell ⟨g, 1, none⟩ (.int .i64 ((at1 + n : Nat) : Int)) (.inl (by simp)))
      have hc1' : ((at1 + n : Nat) : Int) = (at1 : Int) + n := by omega
      rw [hc1'] at HS HSU
      generalize x.val = w4 at *
      clear hc1' e0 e1 hcv
      go_wp2_with fail
      go_ret
      exact ⟨by rw [HR.out]; rfl, by rw [HR.out]; exact HS.out, HSU.out⟩
  · have he2 : ((er1 : Int) != 0) = true := by rw [bne_iff_ne]; omega
    have HR := Lib.hid (HT.out.trans (if_pos he))
    clear HT he
    go_wp2_with fail
    go_ret
    exact ⟨by rw [HR.out, strOf_nil]; rfl, by rw [HR.out]; exact H1.out, HU1.out⟩
end
end Go.Proofs.YtmhojaiajhdlcaaGreat
namespace Go.Proofs.YtmhojaiajhdlcaaGreat
open Go.RowKit
set_option linter.unusedSimpArgs false
set_option linter.unusedVariables false
theorem infoRec : (Tryz.prog.info? 27).map (·.size) = some 15 := by kernel_rfl
/-- A block written whole. -/
theorem blk_row {w : World} {b : Nat} {e : TypeId} {xs : List Value} (h : Blk w b e xs) (ys : List Value) : Blk (w.setRow b ys.toArray) b e ys := setRow_heap w b xs.toArray ys.toArray e _ h
theorem upd_row (w : World) (b : Nat) (C : Array Value) : Upd [b] w (w.setRow b C) := ⟨rfl, rfl, rfl, by simp, fun k _ hk => setRow_other w b k _ (by simpa using hk)⟩
/-- While a record is read: the reader, the record so far, the result's block. -/
structure GS (w0 W : World) (g : Nat) (v : Value) (B : List UInt8) (s : RSt) (gx : Nat) (xs : List Value) : Prop where
  rdr : RdrAt 165 (w0.heap.size + 1) W g v B s
  x : Blk W gx 27 xs
  lt : g < gx
  ltv : ∀ y ∈ blk v, y < gx
  res : Blk W w0.heap.size 27 [.int .i64 0, .int .i64 0, .int .i64 0, .string ⟨#[]⟩, .int .i64 0, .int .i64 0, .int .i64 0, .int .i64 0, .int .i64 0, .int .i64 0, .int .i64 0, .int .i64 0, .int .i64 0, .int .i64 0, .int .i64 0]
  old : Upd [] w0 W
section
variable {w0 W : World} {g : Nat} {v : Value} {B : List UInt8} {s : RSt} {gx : Nat} {xs : List Value}
theorem GS.start {w2 : World} (hr : RdrAt 165 (w0.heap.size + 1) w2 g v B (0, 0)) (hu : Upd [] (w0.alloc (.cells #[.int .i64 0, .int .i64 0, .int .i64 0, .string ⟨#[]⟩, .int .i64 0, .int .i64 0, .int .i64 0, .int .i64 0, .int .i64 0, .int .i64 0, .int .i64 0, .int .i64 0, .int .i64 0, .int .i64 0, .int .i64 0] 27)) w2) : GS w0 (w2.alloc (.cells #[.int .i64 0, .int .i64 0, .int .i64 0, .string ⟨#[]⟩, .int .i64 0, .int .i64 0, .int .i64 0, .int .i64 0, .int .i64 0, .int .i64 0, .int .i64 0, .int .i64 0, .int .i64 0, .int .i64 0, .int .i64 0] 27)) g v B (0, 0) w2.heap.size [.int .i64 0, .int .i64 0, .int .i64 0, .string ⟨#[]⟩, .int .i64 0, .int .i64 0, .int .i64 0, .int .i64 0, .int .i64 0, .int .i64 0, .int .i64 0, .int .i64 0, .int .i64 0, .int .i64 0, .int .i64 0] := by
  have hua : Upd [] w2 (w2.alloc (.cells #[.int .i64 0, .int .i64 0, .int .i64 0, .string ⟨#[]⟩, .int .i64 0, .int .i64 0, .int .i64 0, .int .i64 0, .int .i64 0, .int .i64 0, .int .i64 0, .int .i64 0, .int .i64 0, .int .i64 0, .int .i64 0] 27)) := (Upd.refl [] w2).alloc _
  exact ⟨hr.upd hua, Blk.new w2 _ [.int .i64 0, .int .i64 0, .int .i64 0, .string ⟨#[]⟩, .int .i64 0, .int .i64 0, .int .i64 0, .int .i64 0, .int .i64 0, .int .i64 0, .int .i64 0, .int .i64 0, .int .i64 0, .int .i64 0, .int .i64 0], hr.cells.lt, fun y hy => (hr.own.ge y hy).2, ((Blk.new w0 27 [.int .i64 0, .int .i64 0, .int .i64 0, .string ⟨#[]⟩, .int .i64 0, .int .i64 0, .int .i64 0, .int .i64 0, .int .i64 0, .int .i64 0, .int .i64 0, .int .i64 0, .int .i64 0, .int .i64 0, .int .i64 0]).upd hu (by simp)).upd hua (by simp), (((Upd.refl [] w0).alloc _).seq hu).seq hua⟩
theorem GS.set (h : GS w0 W g v B s gx xs) (i : Nat) (u : Value) : GS w0 (W.setCell ⟨gx, i, none⟩ u) g v B s gx (xs.set i u) := by
  have hu : Upd [gx] W (W.setCell ⟨gx, i, none⟩ u) := (Upd.refl [gx] W).setCell _ _ (.inl (by simp))
  have hlt := h.lt
  have hgb := h.rdr.gb
  exact ⟨⟨h.rdr.cells.upd hu (by simp; omega), h.rdr.own.upd hu (fun y hy hy' => by simp at hy'; subst hy'; exact absurd (h.ltv _ hy) (Nat.lt_irrefl _)), h.rdr.gb, h.rdr.at_, h.rdr.er, h.rdr.sz⟩, h.x.set_ i u, hlt, h.ltv, h.res.upd hu (by simp; omega), h.old.trans hu (by simp) (fun y hy => .inr (by simp at hy; subst hy; omega))⟩
theorem GS.rd {W' : World} {s' : RSt} (h : GS w0 W g v B s gx xs) (hr : RdrAt 165 (w0.heap.size + 1) W' g v B s') (hu : Upd [g] W W') : GS w0 W' g v B s' gx xs := by
  have hlt := h.lt
  have hgb := h.rdr.gb
  exact ⟨hr, h.x.upd hu (by simp; omega), hlt, h.ltv, h.res.upd hu (by simp; omega), h.old.trans hu (by simp) (fun y hy => .inr (by simp at hy; subst hy; omega))⟩
theorem gs_num {n : Nat} {s' : RSt} (h : GS w0 W g v B s gx xs) (hp : rdNum B s = (n, s')) :
    Calls Tryz.prog 50 #[.pointer (some ⟨g, 0, none⟩)] W fun e w' => e = .returned (.int .i64 (n : Int)) ∧ GS w0 w' g v B s' gx xs := by
  refine (rNum_any W h.rdr).mono ?_
  rw [hp]
  rintro e w' ⟨rfl, hr, hu⟩
  exact ⟨rfl, h.rd hr hu⟩
theorem gs_text {t : List UInt8} {s' : RSt} (h : GS w0 W g v B s gx xs) (hp : rdText B 32 s = (t, s')) :
    Calls Tryz.prog 51 #[.pointer (some ⟨g, 0, none⟩), .int .i64 32] W fun e w' => e = .returned (.string (strOf t)) ∧ GS w0 w' g v B s' gx xs := by
  refine (rText_any W 32 ⟨by omega, by omega⟩ h.rdr).mono ?_
  rw [hp]
  rintro e w' ⟨rfl, hr, hu⟩
  exact ⟨rfl, h.rd hr hu⟩
theorem gs_end (h : GS w0 W g v B s gx xs) :
    Calls Tryz.prog 52 #[.pointer (some ⟨g, 0, none⟩)] W fun e w' => e = .returned (.int .i64 ((rdEnd B s).2 : Int)) ∧ GS w0 w' g v B (rdEnd B s) gx xs := by
  refine (rEnd_any W h.rdr).mono ?_
  rintro e w' ⟨rfl, hr, hu⟩
  exact ⟨rfl, h.rd hr hu⟩
end
/-- The record so far, while its places are read. -/
abbrev gsCells (na nb_ nc : Nat) (t : List UInt8) (nk : Nat) (l : List Int) : List Value := .int .i64 na :: .int .i64 nb_ :: .int .i64 nc :: .string (strOf t) :: .int .i64 nk :: (l.map iv ++ List.replicate (10 - l.length) (.int .i64 0))
theorem gsCells_set (na nb_ nc : Nat) (t : List UInt8) (nk : Nat) (l : List Int) (d : Int) (h : l.length < 10) : (gsCells na nb_ nc t nk l).set (5 + l.length) (.int .i64 d) = gsCells na nb_ nc t nk (l ++ [d]) := by
  obtain ⟨m, hm⟩ : ∃ m, 10 - l.length = m + 1 := ⟨9 - l.length, by omega⟩
  have hm2 : 10 - (l ++ [d]).length = m := by rw [List.length_append, List.length_singleton]; omega
  unfold gsCells
  rw [hm, hm2, show 5 + l.length = l.length + 5 by omega]
  simp only [List.set_cons_succ]
  rw [List.set_append_right _ _ (by simp)]
  simp [List.replicate_succ]
set_option maxRecDepth 20000 in
set_option maxHeartbeats 8000000 in
theorem ledGet_any (w : World) (u : Value) (B : List UInt8) (h : Bytes w u B) (hz : B.length ≤ 140737488351232) :
    Calls Tryz.prog 10 #[u] w fun e w' => e = .returned (.tuple #[recVal (getRec B).1, .bool (getRec B).2]) ∧ Upd [] w w' := by
  have hu0 : Upd [] w (w.alloc (.cells #[.int .i64 0, .int .i64 0, .int .i64 0, .string ⟨#[]⟩, .int .i64 0, .int .i64 0, .int .i64 0, .int .i64 0, .int .i64 0, .int .i64 0, .int .i64 0, .int .i64 0, .int .i64 0, .int .i64 0, .int .i64 0] 27)) := (Upd.refl [] w).alloc _
  have H := Lib.hid (h.upd0 hu0)
  obtain ⟨ua, uc, rfl, -⟩ := h
  obtain ⟨na, sa, hA⟩ : ∃ n s, rdA B = (n, s) := ⟨_, _, rfl⟩
  obtain ⟨nb_, sb, hB⟩ : ∃ n s, rdB B = (n, s) := ⟨_, _, rfl⟩
  obtain ⟨nc, sc, hC⟩ : ∃ n s, rdC B = (n, s) := ⟨_, _, rfl⟩
  obtain ⟨tx, st, hT⟩ : ∃ n s, rdT B = (n, s) := ⟨_, _, rfl⟩
  obtain ⟨nk, sk, hK⟩ : ∃ n s, rdK B = (n, s) := ⟨_, _, rfl⟩
  have QA : Hid (rdNum B (0, 0) = (na, sa)) := hA
  have QB : Hid (rdNum B sa = (nb_, sb)) := by have := hB; unfold rdB at this; rw [hA] at this; exact this
  have QC : Hid (rdNum B sb = (nc, sc)) := by have := hC; unfold rdC at this; rw [hB] at this; exact this
  have QT : Hid (rdText B 32 sc = (tx, st)) := by have := hT; unfold rdT at this; rw [hC] at this; exact this
  have QK : Hid (rdNum B st = (nk, sk)) := by have := hK; unfold rdK at this; rw [hT] at this; exact this
  have QX : Hid (rdX B = rdCaps B 10 sk) := by unfold Hid rdX; rw [hK]
  have QR : Hid (∀ (l : List Int) (hl : l.length = 10), (rdX B).1 = l → rawRec B = ⟨⟨na, nb_, nc, strOf tx⟩, nk, ⟨l, hl⟩⟩) := fun l hl e => by
    unfold rawRec
    rw [hA, hB, hC, hT, hK]
    exact Rec.ext' rfl rfl (Subtype.ext e)
  clear hA hB hC hT hK hu0
  go_enter Tryz.func10, Tryz.ntmps10
  go_wp2_with fail
  (with_reducible refine (rRead_any _ _ B H.out hz).mono ?_)
  rintro e w2 ⟨g, v, rfl, hr, hu2⟩
  have hr2 : RdrAt 165 (w.heap.size + 1) w2 g v B (0, 0) := by simpa using hr
  have HG0 := Lib.hid (GS.start hr2 hu2)
  clear hr hr2 hu2 H
  go_wp2_with fail
  (with_reducible refine (gs_num HG0.out QA.out).mono ?_)
  rintro e w3 ⟨rfl, h3⟩
  generalize w2.heap.size = gx at *
  have H3 := Lib.hid (h3.set 0 (.int .i64 (na : Int)))
  have f0 := h3.x.frozen 0
  have g0 := h3.x.cell 0
  simp only [List.getElem?_cons_zero, List.getElem?_cons_succ, List.set_cons_zero, List.set_cons_succ] at g0
  clear h3 HG0
  go_wp2_with fail
  (with_reducible refine (gs_num H3.out QB.out).mono ?_)
  rintro e w4 ⟨rfl, h4⟩
  have H4 := Lib.hid (h4.set 1 (.int .i64 (nb_ : Int)))
  have f1 := h4.x.frozen 1
  have g1 := h4.x.cell 1
  simp only [List.getElem?_cons_zero, List.getElem?_cons_succ, List.set_cons_zero, List.set_cons_succ] at g1
  clear h4 H3 f0 g0
  go_wp2_with fail
  (with_reducible refine (gs_num H4.out QC.out).mono ?_)
  rintro e w5 ⟨rfl, h5⟩
  have H5 := Lib.hid (h5.set 2 (.int .i64 (nc : Int)))
  have f2 := h5.x.frozen 2
  have g2 := h5.x.cell 2
  simp only [List.getElem?_cons_zero, List.getElem?_cons_succ, List.set_cons_zero, List.set_cons_succ] at g2
  clear h5 H4 f1 g1
  go_wp2_with fail
  (with_reducible refine (gs_text H5.out QT.out).mono ?_)
  rintro e w6 ⟨rfl, h6⟩
  have H6 := Lib.hid (h6.set 3 (.string (strOf tx)))
  have f3 := h6.x.frozen 3
  have g3 := h6.x.cell 3
  simp only [List.getElem?_cons_zero, List.getElem?_cons_succ, List.set_cons_zero, List.set_cons_succ] at g3
  clear h6 H5 f2 g2
  go_wp2_with fail
  (with_reducible refine (gs_num H6.out QK.out).mono ?_)
  rintro e w7 ⟨rfl, h7⟩
  have H7 := Lib.hid (h7.set 4 (.int .i64 (nk : Int)))
  have f4 := h7.x.frozen 4
  have g4 := h7.x.cell 4
  simp only [List.getElem?_cons_zero, List.getElem?_cons_succ, List.set_cons_zero, List.set_cons_succ] at g4
  clear h7 H6 f3 g3
  go_wp2_with fail
  go_loopw [28] (fun i wr => ∃ k : Nat, k ≤ 10 ∧ i = .int .i64 k ∧ Hid (GS w wr g v B (rdCaps B k sk).2 gx (gsCells na nb_ nc tx nk (rdCaps B k sk).1))) (fun i _ => 10 - (intOf i).toNat)
  case atStart => exact ⟨0, Nat.zero_le _, rfl, H7.out⟩
  case round =>
    obtain ⟨k, hk, rfl, hg⟩ := hrel
    clear H7 f4 g4
    by_cases hlt : k < 10
    · have q0 : (0 : Int) ≤ k := by omega
      have q1 : (k : Int) < 10 := by omega
      obtain ⟨d, s', hd⟩ : ∃ n s, rdNum B (rdCaps B k sk).2 = (n, s) := ⟨_, _, rfl⟩
      have HD := Lib.hid hd
      have hlen := rdCaps_len B k sk
      have HS : Hid (rdCaps B (k + 1) sk = ((rdCaps B k sk).1 ++ [(d : Int) - 1], s')) := by
        unfold Hid
        show ((rdCaps B k sk).1 ++ [((rdNum B (rdCaps B k sk).2).1 : Int) - 1], (rdNum B (rdCaps B k sk).2).2) = _
        rw [hd]
      have hdl : d < 9223372036854775808 := by
        have h1 := rdNum_le B (rdCaps B k sk).2 hg.out.rdr.at_ hg.out.rdr.er
        rw [hd] at h1; exact h1.1
      have HC : Hid ((gsCells na nb_ nc tx nk (rdCaps B k sk).1).set (5 + k) (.int .i64 ((d : Int) - 1)) = gsCells na nb_ nc tx nk ((rdCaps B k sk).1 ++ [(d : Int) - 1])) := by
        have := gsCells_set na nb_ nc tx nk (rdCaps B k sk).1 ((d : Int) - 1) (by rw [hlen]; exact hlt)
        rw [hlen] at this; exact this
      have hwr : IntKind.i64.wrap ((d : Int) - 1) = (d : Int) - 1 := by rw [IntKind.wrap_i64]; omega
      clear hd hlen hdl
      go_wp2_with fail
      (with_reducible refine (gs_num hg.out HD.out).mono ?_)
      rintro e w8 ⟨rfl, h8⟩
      have f5 := h8.x.frozen (5 + k)
      obtain ⟨u5, g5⟩ : ∃ u, w8.cell? ⟨gx, 5 + k, none⟩ = some u := by
        rw [h8.x.cell]
        exact ⟨_, List.getElem?_eq_getElem (by have := rdCaps_len B k sk; simp [this]; omega)⟩
      have H8 := Lib.hid (h8.set (5 + k) (.int .i64 ((d : Int) - 1)))
      rw [HC.out] at H8
      clear h8 hg
      go_wp2_with fail
      go_roundw
      case rel => exact ⟨k + 1, by omega, by go_num, by unfold Hid; rw [HS.out]; exact H8.out⟩
      case measure => simp [intOf]; omega
    · obtain rfl : k = 10 := by omega
      obtain ⟨l, sx, hX⟩ : ∃ l s, rdCaps B 10 sk = (l, s) := ⟨_, _, rfl⟩
      have hl : l.length = 10 := by have := rdCaps_len B 10 sk; rw [hX] at this; exact this
      have QX2 : Hid (rdX B = (l, sx)) := by unfold Hid; rw [QX.out, hX]
      rw [hX] at hg
      obtain ⟨x0, x1, x2, x3, x4, x5, x6, x7, x8, x9, rfl⟩ := ten hl
      have HR : Hid (rawRec B = mkRec na nb_ nc (strOf tx) nk x0 x1 x2 x3 x4 x5 x6 x7 x8 x9) := QR.out _ rfl (by rw [QX2.out])
      have HG : Hid (GS w wr g v B sx gx [.int .i64 (na : Int), .int .i64 (nb_ : Int), .int .i64 (nc : Int), .string (strOf tx), .int .i64 (nk : Int), .int .i64 x0, .int .i64 x1, .int .i64 x2, .int .i64 x3, .int .i64 x4, .int .i64 x5, .int .i64 x6, .int .i64 x7, .int .i64 x8, .int .i64 x9]) := hg.out
      have HE : Hid (getRec B = if (rdEnd B sx).2 = 0 ∧ recOk (mkRec na nb_ nc (strOf tx) nk x0 x1 x2 x3 x4 x5 x6 x7 x8 x9) = true then (mkRec na nb_ nc (strOf tx) nk x0 x1 x2 x3 x4 x5 x6 x7 x8 x9, true) else (rz, false)) := by
        unfold Hid getRec; rw [HR.out, QX2.out]
      clear hX hl hg
      go_wp2_with fail
      (with_reducible refine (gs_end HG.out).mono ?_)
      rintro e w9 ⟨rfl, h9⟩
      have H9 := Lib.hid h9
      obtain ⟨er, her⟩ : ∃ er, (rdEnd B sx).2 = er := ⟨_, rfl⟩
      have HER := Lib.hid her
      rw [her]
      clear h9 HG her
      by_cases hz0 : er = 0
      · subst hz0
        have d0 := H9.out.x.cell 0
        have d1 := H9.out.x.cell 1
        have d2 := H9.out.x.cell 2
        have d3 := H9.out.x.cell 3
        have d4 := H9.out.x.cell 4
        have d5 := H9.out.x.cell 5
        have d6 := H9.out.x.cell 6
        have d7 := H9.out.x.cell 7
        have d8 := H9.out.x.cell 8
        have d9 := H9.out.x.cell 9
        have d10 := H9.out.x.cell 10
        have d11 := H9.out.x.cell 11
        have d12 := H9.out.x.cell 12
        have d13 := H9.out.x.cell 13
        have d14 := H9.out.x.cell 14
        simp only [List.getElem?_cons_zero, List.getElem?_cons_succ] at d0 d1 d2 d3 d4 d5 d6 d7 d8 d9 d10 d11 d12 d13 d14
        cases hok : recOk (mkRec na nb_ nc (strOf tx) nk x0 x1 x2 x3 x4 x5 x6 x7 x8 x9) with
        | true =>
          have HGR : Hid (getRec B = (mkRec na nb_ nc (strOf tx) nk x0 x1 x2 x3 x4 x5 x6 x7 x8 x9, true)) := by unfold Hid; rw [HE.out, if_pos ⟨HER.out, hok⟩]
          have HOK := Lib.hid hok
          clear hok
          go_wp2_with fail
          (with_reducible refine (ledRight_c _ na nb_ nc (strOf tx) nk x0 x1 x2 x3 x4 x5 x6 x7 x8 x9).mono ?_)
          rw [HOK.out]
          rintro e w10 ⟨rfl, hu10⟩
          have d0 := (H9.out.x.upd hu10 (by simp)).cell 0
          have d1 := (H9.out.x.upd hu10 (by simp)).cell 1
          have d2 := (H9.out.x.upd hu10 (by simp)).cell 2
          have d3 := (H9.out.x.upd hu10 (by simp)).cell 3
          have d4 := (H9.out.x.upd hu10 (by simp)).cell 4
          have d5 := (H9.out.x.upd hu10 (by simp)).cell 5
          have d6 := (H9.out.x.upd hu10 (by simp)).cell 6
          have d7 := (H9.out.x.upd hu10 (by simp)).cell 7
          have d8 := (H9.out.x.upd hu10 (by simp)).cell 8
          have d9 := (H9.out.x.upd hu10 (by simp)).cell 9
          have d10 := (H9.out.x.upd hu10 (by simp)).cell 10
          have d11 := (H9.out.x.upd hu10 (by simp)).cell 11
          have d12 := (H9.out.x.upd hu10 (by simp)).cell 12
          have d13 := (H9.out.x.upd hu10 (by simp)).cell 13
          have d14 := (H9.out.x.upd hu10 (by simp)).cell 14
          simp only [List.getElem?_cons_zero, List.getElem?_cons_succ] at d0 d1 d2 d3 d4 d5 d6 d7 d8 d9 d10 d11 d12 d13 d14
          have HRES := Lib.hid (H9.out.res.upd hu10 (by simp))
          have HOLD := Lib.hid (H9.out.old.seq hu10)
          have hgx : w.heap.size < gx := by have := H9.out.lt; have := H9.out.rdr.gb; omega
          clear hu10 H9
          go_wp2_with (first | ((refine wpList_store_row rfl 27 (.tmp 2) (.tmp 47) rfl w.heap.size #[.int .i64 (na : Int), .int .i64 (nb_ : Int), .int .i64 (nc : Int), .string (strOf tx), .int .i64 (nk : Int), .int .i64 x0, .int .i64 x1, .int .i64 x2, .int .i64 x3, .int .i64 x4, .int .i64 x5, .int .i64 x6, .int .i64 x7, .int .i64 x8, .int .i64 x9] rfl rfl 27 #[.int .i64 0, .int .i64 0, .int .i64 0, .string ⟨#[]⟩, .int .i64 0, .int .i64 0, .int .i64 0, .int .i64 0, .int .i64 0, .int .i64 0, .int .i64 0, .int .i64 0, .int .i64 0, .int .i64 0, .int .i64 0] HRES.out (by show _ = some 15; exact infoRec) rfl (by simp [Value.oneCell']) ?_)) | fail)
          have hU := HOLD.out.trans (T := []) (upd_row _ w.heap.size #[.int .i64 (na : Int), .int .i64 (nb_ : Int), .int .i64 (nc : Int), .string (strOf tx), .int .i64 (nk : Int), .int .i64 x0, .int .i64 x1, .int .i64 x2, .int .i64 x3, .int .i64 x4, .int .i64 x5, .int .i64 x6, .int .i64 x7, .int .i64 x8, .int .i64 x9]) (by simp) (fun y hy => .inr (by simp at hy; omega))
          have HB := Lib.hid (blk_row HRES.out [.int .i64 (na : Int), .int .i64 (nb_ : Int), .int .i64 (nc : Int), .string (strOf tx), .int .i64 (nk : Int), .int .i64 x0, .int .i64 x1, .int .i64 x2, .int .i64 x3, .int .i64 x4, .int .i64 x5, .int .i64 x6, .int .i64 x7, .int .i64 x8, .int .i64 x9])
          have e0 := HB.out.cell 0
          have e1 := HB.out.cell 1
          have e2 := HB.out.cell 2
          have e3 := HB.out.cell 3
          have e4 := HB.out.cell 4
          have e5 := HB.out.cell 5
          have e6 := HB.out.cell 6
          have e7 := HB.out.cell 7
          have e8 := HB.out.cell 8
          have e9 := HB.out.cell 9
          have e10 := HB.out.cell 10
          have e11 := HB.out.cell 11
          have e12 := HB.out.cell 12
          have e13 := HB.out.cell 13
          have e14 := HB.out.cell 14
          simp only [List.getElem?_cons_zero, List.getElem?_cons_succ] at e0 e1 e2 e3 e4 e5 e6 e7 e8 e9 e10 e11 e12 e13 e14
          clear HB HRES HOLD
          generalize World.setRow _ _ _ = W at *
          rw [HGR.out]
          exact bodyPost_ret (v := .tuple #[mkVal na nb_ nc (strOf tx) nk x0 x1 x2 x3 x4 x5 x6 x7 x8 x9, .bool true]) (by simp [results, Tryz.results10, go_sem, e0, e1, e2, e3, e4, e5, e6, e7, e8, e9, e10, e11, e12, e13, e14]; try rfl) rfl ⟨rfl, hU⟩
        | false =>
          have HGR : Hid (getRec B = (rz, false)) := by unfold Hid; rw [HE.out, if_neg (fun q => by rw [hok] at q; exact absurd q.2 (by simp))]
          have HOK := Lib.hid hok
          clear hok
          go_wp2_with fail
          (with_reducible refine (ledRight_c _ na nb_ nc (strOf tx) nk x0 x1 x2 x3 x4 x5 x6 x7 x8 x9).mono ?_)
          rw [HOK.out]
          rintro e w10 ⟨rfl, hu10⟩
          have d0 := (H9.out.x.upd hu10 (by simp)).cell 0
          have d1 := (H9.out.x.upd hu10 (by simp)).cell 1
          have d2 := (H9.out.x.upd hu10 (by simp)).cell 2
          have d3 := (H9.out.x.upd hu10 (by simp)).cell 3
          have d4 := (H9.out.x.upd hu10 (by simp)).cell 4
          have d5 := (H9.out.x.upd hu10 (by simp)).cell 5
          have d6 := (H9.out.x.upd hu10 (by simp)).cell 6
          have d7 := (H9.out.x.upd hu10 (by simp)).cell 7
          have d8 := (H9.out.x.upd hu10 (by simp)).cell 8
          have d9 := (H9.out.x.upd hu10 (by simp)).cell 9
          have d10 := (H9.out.x.upd hu10 (by simp)).cell 10
          have d11 := (H9.out.x.upd hu10 (by simp)).cell 11
          have d12 := (H9.out.x.upd hu10 (by simp)).cell 12
          have d13 := (H9.out.x.upd hu10 (by simp)).cell 13
          have d14 := (H9.out.x.upd hu10 (by simp)).cell 14
          simp only [List.getElem?_cons_zero, List.getElem?_cons_succ] at d0 d1 d2 d3 d4 d5 d6 d7 d8 d9 d10 d11 d12 d13 d14
          have HRES := Lib.hid (H9.out.res.upd hu10 (by simp))
          have HOLD := Lib.hid (H9.out.old.seq hu10)
          have hgx : w.heap.size < gx := by have := H9.out.lt; have := H9.out.rdr.gb; omega
          clear hu10 H9
          go_wp2_with (first | ((refine wpList_store_row rfl 27 (.tmp 2) (.tmp 46) rfl w.heap.size #[.int .i64 0, .int .i64 0, .int .i64 0, .string ⟨#[]⟩, .int .i64 0, .int .i64 0, .int .i64 0, .int .i64 0, .int .i64 0, .int .i64 0, .int .i64 0, .int .i64 0, .int .i64 0, .int .i64 0, .int .i64 0] rfl rfl 27 #[.int .i64 0, .int .i64 0, .int .i64 0, .string ⟨#[]⟩, .int .i64 0, .int .i64 0, .int .i64 0, .int .i64 0, .int .i64 0, .int .i64 0, .int .i64 0, .int .i64 0, .int .i64 0, .int .i64 0, .int .i64 0] HRES.out (by show _ = some 15; exact infoRec) rfl (by simp [Value.oneCell']) ?_)) | fail)
          have hU := HOLD.out.trans (T := []) (upd_row _ w.heap.size #[.int .i64 0, .int .i64 0, .int .i64 0, .string ⟨#[]⟩, .int .i64 0, .int .i64 0, .int .i64 0, .int .i64 0, .int .i64 0, .int .i64 0, .int .i64 0, .int .i64 0, .int .i64 0, .int .i64 0, .int .i64 0]) (by simp) (fun y hy => .inr (by simp at hy; omega))
          have HB := Lib.hid (blk_row HRES.out [.int .i64 0, .int .i64 0, .int .i64 0, .string ⟨#[]⟩, .int .i64 0, .int .i64 0, .int .i64 0, .int .i64 0, .int .i64 0, .int .i64 0, .int .i64 0, .int .i64 0, .int .i64 0, .int .i64 0, .int .i64 0])
          have e0 := HB.out.cell 0
          have e1 := HB.out.cell 1
          have e2 := HB.out.cell 2
          have e3 := HB.out.cell 3
          have e4 := HB.out.cell 4
          have e5 := HB.out.cell 5
          have e6 := HB.out.cell 6
          have e7 := HB.out.cell 7
          have e8 := HB.out.cell 8
          have e9 := HB.out.cell 9
          have e10 := HB.out.cell 10
          have e11 := HB.out.cell 11
          have e12 := HB.out.cell 12
          have e13 := HB.out.cell 13
          have e14 := HB.out.cell 14
          simp only [List.getElem?_cons_zero, List.getElem?_cons_succ] at e0 e1 e2 e3 e4 e5 e6 e7 e8 e9 e10 e11 e12 e13 e14
          clear HB HRES HOLD
          generalize World.setRow _ _ _ = W at *
          rw [HGR.out]
          exact bodyPost_ret (v := .tuple #[mkVal 0 0 0 ⟨#[]⟩ 0 0 0 0 0 0 0 0 0 0 0, .bool false]) (by simp [results, Tryz.results10, go_sem, e0, e1, e2, e3, e4, e5, e6, e7, e8, e9, e10, e11, e12, e13, e14]; try rfl) rfl ⟨rfl, hU⟩
      · have HGR : Hid (getRec B = (rz, false)) := by unfold Hid; rw [HE.out, if_neg (fun q => hz0 (by rw [← HER.out]; exact q.1))]
        have ez : ((er : Int) != 0) = true := by rw [bne_iff_ne]; omega
        have w10_ : Hid (GS w w9 g v B (rdEnd B sx) gx [.int .i64 (na : Int), .int .i64 (nb_ : Int), .int .i64 (nc : Int), .string (strOf tx), .int .i64 (nk : Int), .int .i64 x0, .int .i64 x1, .int .i64 x2, .int .i64 x3, .int .i64 x4, .int .i64 x5, .int .i64 x6, .int .i64 x7, .int .i64 x8, .int .i64 x9]) := H9
        obtain ⟨w10, hw10⟩ : ∃ W, w9 = W := ⟨_, rfl⟩
        have hu10 : Upd [] w9 w10 := by rw [hw10]; exact Upd.refl _ _
        subst hw10
        have d0 := (H9.out.x.upd hu10 (by simp)).cell 0
        have d1 := (H9.out.x.upd hu10 (by simp)).cell 1
        have d2 := (H9.out.x.upd hu10 (by simp)).cell 2
        have d3 := (H9.out.x.upd hu10 (by simp)).cell 3
        have d4 := (H9.out.x.upd hu10 (by simp)).cell 4
        have d5 := (H9.out.x.upd hu10 (by simp)).cell 5
        have d6 := (H9.out.x.upd hu10 (by simp)).cell 6
        have d7 := (H9.out.x.upd hu10 (by simp)).cell 7
        have d8 := (H9.out.x.upd hu10 (by simp)).cell 8
        have d9 := (H9.out.x.upd hu10 (by simp)).cell 9
        have d10 := (H9.out.x.upd hu10 (by simp)).cell 10
        have d11 := (H9.out.x.upd hu10 (by simp)).cell 11
        have d12 := (H9.out.x.upd hu10 (by simp)).cell 12
        have d13 := (H9.out.x.upd hu10 (by simp)).cell 13
        have d14 := (H9.out.x.upd hu10 (by simp)).cell 14
        simp only [List.getElem?_cons_zero, List.getElem?_cons_succ] at d0 d1 d2 d3 d4 d5 d6 d7 d8 d9 d10 d11 d12 d13 d14
        have HRES := Lib.hid (H9.out.res.upd hu10 (by simp))
        have HOLD := Lib.hid (H9.out.old.seq hu10)
        have hgx : w.heap.size < gx := by have := H9.out.lt; have := H9.out.rdr.gb; omega
        clear hu10 H9
        clear hz0
        go_wp2_with (first | ((refine wpList_store_row rfl 27 (.tmp 2) (.tmp 46) rfl w.heap.size #[.int .i64 0, .int .i64 0, .int .i64 0, .string ⟨#[]⟩, .int .i64 0, .int .i64 0, .int .i64 0, .int .i64 0, .int .i64 0, .int .i64 0, .int .i64 0, .int .i64 0, .int .i64 0, .int .i64 0, .int .i64 0] rfl rfl 27 #[.int .i64 0, .int .i64 0, .int .i64 0, .string ⟨#[]⟩, .int .i64 0, .int .i64 0, .int .i64 0, .int .i64 0, .int .i64 0, .int .i64 0, .int .i64 0, .int .i64 0, .int .i64 0, .int .i64 0, .int .i64 0] HRES.out (by show _ = some 15; exact infoRec) rfl (by simp [Value.oneCell']) ?_)) | fail)
        have hU := HOLD.out.trans (T := []) (upd_row _ w.heap.size #[.int .i64 0, .int .i64 0, .int .i64 0, .string ⟨#[]⟩, .int .i64 0, .int .i64 0, .int .i64 0, .int .i64 0, .int .i64 0, .int .i64 0, .int .i64 0, .int .i64 0, .int .i64 0, .int .i64 0, .int .i64 0]) (by simp) (fun y hy => .inr (by simp at hy; omega))
        have HB := Lib.hid (blk_row HRES.out [.int .i64 0, .int .i64 0, .int .i64 0, .string ⟨#[]⟩, .int .i64 0, .int .i64 0, .int .i64 0, .int .i64 0, .int .i64 0, .int .i64 0, .int .i64 0, .int .i64 0, .int .i64 0, .int .i64 0, .int .i64 0])
        have e0 := HB.out.cell 0
        have e1 := HB.out.cell 1
        have e2 := HB.out.cell 2
        have e3 := HB.out.cell 3
        have e4 := HB.out.cell 4
        have e5 := HB.out.cell 5
        have e6 := HB.out.cell 6
        have e7 := HB.out.cell 7
        have e8 := HB.out.cell 8
        have e9 := HB.out.cell 9
        have e10 := HB.out.cell 10
        have e11 := HB.out.cell 11
        have e12 := HB.out.cell 12
        have e13 := HB.out.cell 13
        have e14 := HB.out.cell 14
        simp only [List.getElem?_cons_zero, List.getElem?_cons_succ] at e0 e1 e2 e3 e4 e5 e6 e7 e8 e9 e10 e11 e12 e13 e14
        clear HB HRES HOLD
        generalize World.setRow _ _ _ = W at *
        rw [HGR.out]
        exact bodyPost_ret (v := .tuple #[mkVal 0 0 0 ⟨#[]⟩ 0 0 0 0 0 0 0 0 0 0 0, .bool false]) (by simp [results, Tryz.results10, go_sem, e0, e1, e2, e3, e4, e5, e6, e7, e8, e9, e10, e11, e12, e13, e14]; try rfl) rfl ⟨rfl, hU⟩
end Go.Proofs.YtmhojaiajhdlcaaGreat
namespace Go.Proofs.YtmhojaiajhdlcaaGreat
open Go.RowKit
set_option linter.unusedSimpArgs false
set_option linter.unusedVariables false
theorem take_snoc {α : Type} [Inhabited α] (l : List α) (k : Nat) (h : k < l.length) : l.take (k + 1) = l.take k ++ [nth l k] := by rw [List.take_add_one, nth_get _ _ h, List.getElem?_eq_getElem h]; rfl
theorem own_nil8 (b : Nat) (W : World) : Own bv b 5 W (.slice none 0 0) [] := World.ownsRow_nil _ _ _ _
/-- A number behind bytes, at any world behind w. -/
theorem num_at (b : Nat) (w W : World) (v : Value) (l : List UInt8) (M : Int) (hb : b ≤ w.heap.size) (ho : Own bv b 5 W v l) (hu : Upd [] w W) (hl : l.length ≤ 100000) (hM : I64 M) :
    Calls Tryz.prog 58 #[v, .int .i64 M] W fun e w' => ∃ a n k, e = .returned (.slice a n k) ∧ Hid (Own bv b 5 w' (.slice a n k) (l ++ encNum M.toNat)) ∧ Upd [] w w' := by
  refine (fNum_any _ l M _ ho.rd (by omega) hM).mono ?_
  rintro e w' ⟨x, rfl, h, hu2⟩
  obtain ⟨a, k, rfl, -⟩ := h.rd
  exact ⟨a, _, k, rfl, h.base_le (Nat.le_trans hb hu.size), hu.seq hu2⟩
theorem text_at (b : Nat) (w W : World) (v : Value) (l : List UInt8) (S : ByteArray) (hb : b ≤ w.heap.size) (ho : Own bv b 5 W v l) (hu : Upd [] w W) (hl : l.length ≤ 100000) (hM : S.size ≤ 1000000) :
    Calls Tryz.prog 59 #[v, .string S] W fun e w' => ∃ a n k, e = .returned (.slice a n k) ∧ Hid (Own bv b 5 w' (.slice a n k) (l ++ encText S)) ∧ Upd [] w w' := by
  refine (fText_any _ l S _ ho.rd (by omega) (by omega)).mono ?_
  rintro e w' ⟨x, rfl, h, hu2⟩
  obtain ⟨a, k, rfl, -⟩ := h.rd
  exact ⟨a, _, k, rfl, h.base_le (Nat.le_trans hb hu.size), hu.seq hu2⟩
theorem encNum_le (n : Nat) (h : n < 18446744073709551616) : (encNum n).length ≤ 9 := by have := nb_le8 n h; rw [encNum_len]; omega
theorem encCaps_le (l : List Int) (h : ∀ c ∈ l, c ≤ 500) : (encCaps l).length ≤ 9 * l.length := by
  induction l with
  | nil => simp [encCaps]
  | cons c l ih =>
    have h1 := ih (fun x hx => h x (by simp [hx]))
    have h2 := h c (by simp)
    have h3 := encNum_le (c + 1).toNat (by omega)
    rw [encCaps_cons, List.length_append, List.length_cons]; omega
set_option maxRecDepth 20000 in
set_option maxHeartbeats 8000000 in
theorem ledPut_c (w : World) (ino gen at_ : Int) (rule : ByteArray) (kind c0 c1 c2 c3 c4 c5 c6 c7 c8 c9 : Int) :
    Calls Tryz.prog 14 #[mkVal ino gen at_ rule kind c0 c1 c2 c3 c4 c5 c6 c7 c8 c9] w fun e w' => ∃ v, e = .returned v ∧ Own bv w.heap.size 5 w' v (if recOk (mkRec ino gen at_ rule kind c0 c1 c2 c3 c4 c5 c6 c7 c8 c9) then encRec (mkRec ino gen at_ rule kind c0 c1 c2 c3 c4 c5 c6 c7 c8 c9) else []) ∧ Upd [] w w' := by
  have hu0 : Upd [] w (w.alloc (.cells #[.int .i64 ino, .int .i64 gen, .int .i64 at_, .string rule, .int .i64 kind, .int .i64 c0, .int .i64 c1, .int .i64 c2, .int .i64 c3, .int .i64 c4, .int .i64 c5, .int .i64 c6, .int .i64 c7, .int .i64 c8, .int .i64 c9] 27)) := (Upd.refl [] w).alloc _
  have HU0 := Lib.hid hu0
  have hb0 : Blk (w.alloc (.cells #[.int .i64 ino, .int .i64 gen, .int .i64 at_, .string rule, .int .i64 kind, .int .i64 c0, .int .i64 c1, .int .i64 c2, .int .i64 c3, .int .i64 c4, .int .i64 c5, .int .i64 c6, .int .i64 c7, .int .i64 c8, .int .i64 c9] 27)) w.heap.size 27 [.int .i64 ino, .int .i64 gen, .int .i64 at_, .string rule, .int .i64 kind, .int .i64 c0, .int .i64 c1, .int .i64 c2, .int .i64 c3, .int .i64 c4, .int .i64 c5, .int .i64 c6, .int .i64 c7, .int .i64 c8, .int .i64 c9] := Blk.new w _ [.int .i64 ino, .int .i64 gen, .int .i64 at_, .string rule, .int .i64 kind, .int .i64 c0, .int .i64 c1, .int .i64 c2, .int .i64 c3, .int .i64 c4, .int .i64 c5, .int .i64 c6, .int .i64 c7, .int .i64 c8, .int .i64 c9]
  have HB0 := Lib.hid hb0
  cases hok : recOk (mkRec ino gen at_ rule kind c0 c1 c2 c3 c4 c5 c6 c7 c8 c9) with
  | false =>
    have HOK := Lib.hid hok
    clear hok
    go_enter Tryz.func14, Tryz.ntmps14
    go_wp2_with fail
    (with_reducible refine (ledRight_c _ ino gen at_ rule kind c0 c1 c2 c3 c4 c5 c6 c7 c8 c9).mono ?_)
    rw [HOK.out]
    rintro e w1 ⟨rfl, hu1⟩
    have HU1 := Lib.hid (HU0.out.seq hu1)
    clear hu1
    go_wp2_with fail
    go_ret
    exact ⟨_, rfl, own_nil8 _ _, HU1.out⟩
  | true =>
    have HOK := Lib.hid hok
    have hi := recOk_in hok
    have HI := Lib.hid hi
    have HIA : Hid (I64 ino) := ⟨by have := hi.ino; dsimp only at this; omega, by have := hi.ino; dsimp only at this; omega⟩
    have HIG : Hid (I64 gen) := ⟨by have := hi.gen; dsimp only at this; omega, by have := hi.gen; dsimp only at this; omega⟩
    have HIT : Hid (I64 at_) := ⟨by have := hi.at_; dsimp only at this; omega, by have := hi.at_; dsimp only at this; omega⟩
    have HIK : Hid (I64 kind) := ⟨by have := hi.kind; dsimp only at this; omega, by have := hi.kind; dsimp only at this; omega⟩
    have HIR : Hid (rule.size ≤ 32) := hi.rule
    have HIC : Hid (∀ c ∈ [c0, c1, c2, c3, c4, c5, c6, c7, c8, c9], -1 ≤ c ∧ c ≤ 500) := hi.caps
    obtain ⟨L1, hL1⟩ : ∃ L, encNum ino.toNat = L := ⟨_, rfl⟩
    obtain ⟨L2, hL2⟩ : ∃ L, L1 ++ encNum gen.toNat = L := ⟨_, rfl⟩
    obtain ⟨L3, hL3⟩ : ∃ L, L2 ++ encNum at_.toNat = L := ⟨_, rfl⟩
    obtain ⟨L4, hL4⟩ : ∃ L, L3 ++ encText rule = L := ⟨_, rfl⟩
    obtain ⟨L5, hL5⟩ : ∃ L, L4 ++ encNum kind.toNat = L := ⟨_, rfl⟩
    have i1 := hi.ino
    have i2 := hi.gen
    have i3 := hi.at_
    have i4 := hi.rule
    have i5 := hi.kind
    dsimp only at i1 i2 i3 i4 i5
    have b1 := encNum_le ino.toNat (by omega)
    have b2 := encNum_le gen.toNat (by omega)
    have b3 := encNum_le at_.toNat (by omega)
    have b4 := encNum_le rule.size (by omega)
    have b5 := encNum_le kind.toNat (by omega)
    have ht : (encText rule).length ≤ 41 := by unfold encText; rw [List.length_append, size_toList]; omega
    have l1 : L1.length ≤ 9 := by rw [← hL1]; exact b1
    have l2 : L2.length ≤ 18 := by rw [← hL2, List.length_append]; omega
    have l3 : L3.length ≤ 27 := by rw [← hL3, List.length_append]; omega
    have l4 : L4.length ≤ 70 := by rw [← hL4, List.length_append]; omega
    have l5 : L5.length ≤ 79 := by rw [← hL5, List.length_append]; omega
    have HL1 : Hid (L1.length ≤ 100000) := by unfold Hid; omega
    have HL2 : Hid (L2.length ≤ 100000) := by unfold Hid; omega
    have HL3 : Hid (L3.length ≤ 100000) := by unfold Hid; omega
    have HL4 : Hid (L4.length ≤ 100000) := by unfold Hid; omega
    have HL5 : Hid (L5.length ≤ 79) := l5
    have HEN : Hid (encRec (mkRec ino gen at_ rule kind c0 c1 c2 c3 c4 c5 c6 c7 c8 c9) = L5 ++ encCaps [c0, c1, c2, c3, c4, c5, c6, c7, c8, c9]) := by
      unfold Hid encRec
      rw [← hL5, ← hL4, ← hL3, ← hL2, ← hL1]
    have HQ1 := Lib.hid hL1
    have HQ2 := Lib.hid hL2
    have HQ3 := Lib.hid hL3
    have HQ4 := Lib.hid hL4
    have HQ5 := Lib.hid hL5
    rw [if_pos rfl, HEN.out]
    clear hok hi i1 i2 i3 i4 i5 b1 b2 b3 b4 b5 ht l1 l2 l3 l4 l5 hL1 hL2 hL3 hL4 hL5 hb0 hu0
    go_enter Tryz.func14, Tryz.ntmps14
    go_wp2_with fail
    (with_reducible refine (ledRight_c _ ino gen at_ rule kind c0 c1 c2 c3 c4 c5 c6 c7 c8 c9).mono ?_)
    rw [HOK.out]
    rintro e w1 ⟨rfl, hu1⟩
    have hb1 := HB0.out.upd hu1 (by simp)
    have d0 := hb1.cell 0
    have d1 := hb1.cell 1
    have d2 := hb1.cell 2
    simp only [List.getElem?_cons_zero, List.getElem?_cons_succ] at d0 d1 d2
    have HB1 := Lib.hid hb1
    have HU1 := Lib.hid (HU0.out.seq hu1)
    have HSZ : Hid (w.heap.size ≤ w1.heap.size) := HU1.out.size
    have C0 := Lib.hid d0
    have C1 := Lib.hid d1
    have C2 := Lib.hid d2
    clear hu1 hb1
    have HC1 : Hid (∀ W, Upd [] w1 W → Calls Tryz.prog 58 #[.slice none 0 0, .int .i64 ino] W fun e w' => ∃ a n k, e = .returned (.slice a n k) ∧ Hid (Own bv w.heap.size 5 w' (.slice a n k) L1) ∧ Upd [] w1 w') := fun W hu => by
      have := num_at w.heap.size w1 W _ [] ino HSZ.out (own_nil8 _ _) hu (by simp) HIA.out
      rw [List.nil_append, HQ1.out] at this; exact this
    have HC2 : Hid (∀ W a n k, Own bv w.heap.size 5 W (.slice a n k) L1 → Upd [] w1 W → Calls Tryz.prog 58 #[.slice a n k, .int .i64 gen] W fun e w' => ∃ a n k, e = .returned (.slice a n k) ∧ Hid (Own bv w.heap.size 5 w' (.slice a n k) L2) ∧ Upd [] w1 w') := fun W a n k ho hu => by
      have := num_at w.heap.size w1 W _ L1 gen HSZ.out ho hu HL1.out HIG.out
      rw [HQ2.out] at this; exact this
    have HC3 : Hid (∀ W a n k, Own bv w.heap.size 5 W (.slice a n k) L2 → Upd [] w1 W → Calls Tryz.prog 58 #[.slice a n k, .int .i64 at_] W fun e w' => ∃ a n k, e = .returned (.slice a n k) ∧ Hid (Own bv w.heap.size 5 w' (.slice a n k) L3) ∧ Upd [] w1 w') := fun W a n k ho hu => by
      have := num_at w.heap.size w1 W _ L2 at_ HSZ.out ho hu HL2.out HIT.out
      rw [HQ3.out] at this; exact this
    have HC4 : Hid (∀ W a n k, Own bv w.heap.size 5 W (.slice a n k) L3 → Upd [] w1 W → Calls Tryz.prog 59 #[.slice a n k, .string rule] W fun e w' => ∃ a n k, e = .returned (.slice a n k) ∧ Hid (Own bv w.heap.size 5 w' (.slice a n k) L4) ∧ Upd [] w1 w') := fun W a n k ho hu => by
      have := text_at w.heap.size w1 W _ L3 rule HSZ.out ho hu HL3.out (by have := HIR.out; omega)
      rw [HQ4.out] at this; exact this
    have HC5 : Hid (∀ W a n k, Own bv w.heap.size 5 W (.slice a n k) L4 → Upd [] w1 W → Calls Tryz.prog 58 #[.slice a n k, .int .i64 kind] W fun e w' => ∃ a n k, e = .returned (.slice a n k) ∧ Hid (Own bv w.heap.size 5 w' (.slice a n k) L5) ∧ Upd [] w1 w') := fun W a n k ho hu => by
      have := num_at w.heap.size w1 W _ L4 kind HSZ.out ho hu HL4.out HIK.out
      rw [HQ5.out] at this; exact this
    have ru := Upd.refl [] w1
    go_wp2_with fail
    go_region_held3 (fun w' => w'.cell? ⟨w.heap.size, 0, none⟩ = some (.int .i64 ino) ∧ w'.cell? ⟨w.heap.size, 1, none⟩ = some (.int .i64 gen) ∧ w'.cell? ⟨w.heap.size, 2, none⟩ = some (.int .i64 at_)) (first | go_keep | exact ⟨ru.cell C0.out (by simp), ru.cell C1.out (by simp), ru.cell C2.out (by simp)⟩)
      (first
        | (go_at_call 58; (with_reducible refine (HC1.out _ (Upd.seq ru ?_)).mono ?_); (repeat (first | exact Upd.refl _ _ | apply Upd.drew | apply Upd.drewN | apply Upd.alloc)); (rintro _ W1 ⟨a1, n1, k1, rfl, ho1, ru⟩; dsimp only))
        | (go_at_call 58; (with_reducible refine (HC2.out _ a1 n1 k1 (Own.upd (S := []) ho1.out ?_ (by simp)) (Upd.seq ru ?_)).mono ?_); (repeat (first | exact Upd.refl _ _ | apply Upd.drew | apply Upd.drewN | apply Upd.alloc)); (rintro _ W2 ⟨a2, n2, k2, rfl, ho2, ru⟩; dsimp only))
        | (go_at_call 58; (with_reducible refine (HC3.out _ a2 n2 k2 (Own.upd (S := []) ho2.out ?_ (by simp)) (Upd.seq ru ?_)).mono ?_); (repeat (first | exact Upd.refl _ _ | apply Upd.drew | apply Upd.drewN | apply Upd.alloc)); (rintro _ W3 ⟨a3, n3, k3, rfl, ho3, ru⟩; dsimp only)))
    all_goals
      have C3 := Lib.hid (HB1.out.cell 3)
      have C4 := Lib.hid (HB1.out.cell 4)
      simp only [List.getElem?_cons_zero, List.getElem?_cons_succ] at C3 C4
      have d3 := ru.cell C3.out (by simp)
      have d4 := ru.cell C4.out (by simp)
      clear HC1 HC2 HC3 d0 d1 d2 ho1 ho2 C0 C1 C2
      go_wp2_with fail
      go_region_held3 (fun w' => w'.cell? ⟨w.heap.size, 3, none⟩ = some (.string rule) ∧ w'.cell? ⟨w.heap.size, 4, none⟩ = some (.int .i64 kind)) (first | go_keep | exact ⟨ru.cell C3.out (by simp), ru.cell C4.out (by simp)⟩)
        (first
          | (go_at_call 59; (with_reducible refine (HC4.out _ a3 n3 k3 (Own.upd (S := []) ho3.out ?_ (by simp)) (Upd.seq ru ?_)).mono ?_); (repeat (first | exact Upd.refl _ _ | apply Upd.drew | apply Upd.drewN | apply Upd.alloc)); (rintro _ W4 ⟨a4, n4, k4, rfl, ho4, ru⟩; dsimp only))
          | (go_at_call 58; (with_reducible refine (HC5.out _ a4 n4 k4 (Own.upd (S := []) ho4.out ?_ (by simp)) (Upd.seq ru ?_)).mono ?_); (repeat (first | exact Upd.refl _ _ | apply Upd.drew | apply Upd.drewN | apply Upd.alloc)); (rintro _ W5 ⟨a5, n5, k5, rfl, ho5, ru⟩; dsimp only)))
      all_goals
        have HB5 := Lib.hid (HB1.out.upd ru (by simp))
        have e5 := HB5.out.cell 5
        have e6 := HB5.out.cell 6
        have e7 := HB5.out.cell 7
        have e8 := HB5.out.cell 8
        have e9 := HB5.out.cell 9
        have e10 := HB5.out.cell 10
        have e11 := HB5.out.cell 11
        have e12 := HB5.out.cell 12
        have e13 := HB5.out.cell 13
        have e14 := HB5.out.cell 14
        simp only [List.getElem?_cons_zero, List.getElem?_cons_succ] at e5 e6 e7 e8 e9 e10 e11 e12 e13 e14
        have HU5 := Lib.hid (HU1.out.seq ru)
        clear HC4 HC5 d3 d4 ho3 ho4 C3 C4 ru
        go_wp2_with fail
        go_loopw [3, 31] (fun v i wr => ∃ (k : Nat) (a : Option Addr) (n cp : Nat), k ≤ 10 ∧ i = .int .i64 k ∧ v = .slice a n cp ∧ Hid (Own bv w.heap.size 5 wr (.slice a n cp) (L5 ++ encCaps ([c0, c1, c2, c3, c4, c5, c6, c7, c8, c9].take k))) ∧ Hid (Upd [] w wr)) (fun _ i _ => 10 - (intOf i).toNat)
        case atStart => exact ⟨0, a5, n5, k5, Nat.zero_le _, rfl, rfl, by unfold Hid; rw [List.take_zero, show encCaps [] = [] from rfl, List.append_nil]; exact ho5.out, HU5.out⟩
        case round =>
          obtain ⟨k, a, n, cp, hk, rfl, rfl, ho, hu⟩ := hrel
          clear ho5 HB5 e5 e6 e7 e8 e9 e10 e11 e12 e13 e14
          by_cases hlt : k < 10
          · have q0 : (0 : Int) ≤ k := by omega
            have q1 : (k : Int) < 10 := by omega
            have hix := fun W => idx_caps c0 c1 c2 c3 c4 c5 c6 c7 c8 c9 k hlt W
            have HTK : Hid (encCaps ([c0, c1, c2, c3, c4, c5, c6, c7, c8, c9].take (k + 1)) = encCaps ([c0, c1, c2, c3, c4, c5, c6, c7, c8, c9].take k) ++ encNum (nth [c0, c1, c2, c3, c4, c5, c6, c7, c8, c9] k + 1).toNat) := by
              unfold Hid
              rw [take_snoc [c0, c1, c2, c3, c4, c5, c6, c7, c8, c9] k hlt, encCaps_app, encCaps_cons]; simp [encCaps]
            have HLE : Hid ((L5 ++ encCaps ([c0, c1, c2, c3, c4, c5, c6, c7, c8, c9].take k)).length ≤ 100000) := by
              have h1 := encCaps_le ([c0, c1, c2, c3, c4, c5, c6, c7, c8, c9].take k) (fun c hc => (HIC.out c (List.mem_of_mem_take hc)).2)
              have h2 := HL5.out
              have h3 : ([c0, c1, c2, c3, c4, c5, c6, c7, c8, c9].take k).length ≤ 10 := by rw [List.length_take]; omega
              unfold Hid; rw [List.length_append]; omega
            have hd := HIC.out (nth [c0, c1, c2, c3, c4, c5, c6, c7, c8, c9] k) (nth_in (l := [c0, c1, c2, c3, c4, c5, c6, c7, c8, c9]) k hlt)
            obtain ⟨hd1, hd2⟩ := hd
            generalize encCaps ([c0, c1, c2, c3, c4, c5, c6, c7, c8, c9].take k) = E at *
            generalize nth [c0, c1, c2, c3, c4, c5, c6, c7, c8, c9] k = d at *
            have hwr : IntKind.i64.wrap (d + 1) = d + 1 := by rw [IntKind.wrap_i64]; omega
            have HID : Hid (I64 (d + 1)) := ⟨by omega, by omega⟩
            clear hd1 hd2
            go_wp2_with fail
            (with_reducible refine (num_at w.heap.size w wr _ (L5 ++ E) (d + 1) (Nat.le_refl _) ho.out hu.out HLE.out HID.out).mono ?_)
            rintro e W6 ⟨a6, n6, k6, rfl, ho6, hu6⟩
            have HO6 : Hid (Own bv w.heap.size 5 W6 (.slice a6 n6 k6) (L5 ++ encCaps ([c0, c1, c2, c3, c4, c5, c6, c7, c8, c9].take (k + 1)))) := by unfold Hid; rw [HTK.out, ← List.append_assoc]; exact ho6.out
            have HU6 := Lib.hid hu6
            clear ho6 hu6
            go_wp2_with fail
            go_roundw
            case rel => exact ⟨k + 1, a6, n6, k6, by omega, by go_num, rfl, HO6, HU6⟩
            case measure => simp [intOf]; omega
          · obtain rfl : k = 10 := by omega
            go_wp2_with fail
            go_ret
            exact ⟨_, rfl, ho.out, hu.out⟩
theorem ledPut_any (w : World) (r : Rec) : Calls Tryz.prog 14 #[recVal r] w fun e w' => ∃ v, e = .returned v ∧ Own bv w.heap.size 5 w' v (if recOk r then encRec r else []) ∧ Upd [] w w' := by
  obtain ⟨ino, gen, at_, rule, kind, c0, c1, c2, c3, c4, c5, c6, c7, c8, c9, rfl⟩ := rec_mk r
  exact ledPut_c w ino gen at_ rule kind c0 c1 c2 c3 c4 c5 c6 c7 c8 c9
end Go.Proofs.YtmhojaiajhdlcaaGreat
namespace Go.Proofs.YtmhojaiajhdlcaaGreat
set_option linter.unusedSimpArgs false
set_option linter.unusedVariables false

def onStep (s : BitVec 32) : BitVec 32 := if s &&& 1 = 1 then (s >>> 1) ^^^ 0x82F63B78 else s >>> 1
def onBits (s : BitVec 32) : Nat → BitVec 32
  | 0 => s
  | k + 1 => onStep (onBits s k)
def onByte (s : BitVec 32) (x : UInt8) : BitVec 32 := onBits (s ^^^ BitVec.ofNat 32 x.toNat) 8
def onAll (s : BitVec 32) (l : List UInt8) : BitVec 32 := l.foldl onByte s
def sumOn (c : BitVec 32) (l : List UInt8) : BitVec 32 := ~~~ (onAll (~~~ c) l)
def sumOf (ls : List (List UInt8)) : BitVec 32 := ls.foldl sumOn 0

theorem onAll_append (s : BitVec 32) (l m : List UInt8) : onAll s (l ++ m) = onAll (onAll s l) m := by unfold onAll; rw [List.foldl_append]
theorem sumOn_append (c : BitVec 32) (l m : List UInt8) : sumOn c (l ++ m) = sumOn (sumOn c l) m := by
  unfold sumOn; rw [onAll_append]; simp

theorem and_one (s : BitVec 32) : (s &&& 1 = 1) ↔ s.getLsbD 0 = true := by
  constructor
  · intro h
    have := congrArg (fun x => x.getLsbD 0) h
    simpa using this
  · intro h
    apply BitVec.eq_of_getLsbD_eq
    intro i hi
    by_cases h0 : i = 0
    · subst h0; simpa using h
    · simp [BitVec.getLsbD_one, h0]
theorem onStep_eq (s : BitVec 32) : onStep s = (s >>> 1) ^^^ (if s.getLsbD 0 then 0x82F63B78 else 0) := by
  unfold onStep
  by_cases h : s.getLsbD 0 = true
  · rw [if_pos ((and_one s).2 h), if_pos h]
  · rw [if_neg (fun q => h ((and_one s).1 q)), if_neg h]; simp
theorem onStep_xor (a b : BitVec 32) : onStep (a ^^^ b) = onStep a ^^^ onStep b := by
  rw [onStep_eq, onStep_eq, onStep_eq, BitVec.getLsbD_xor, BitVec.ushiftRight_xor_distrib]
  generalize a >>> 1 = p
  generalize b >>> 1 = q
  have hz : ∀ i, (0 : BitVec 32).getLsbD i = false := fun i => by simp
  generalize (0x82F63B78 : BitVec 32) = r
  apply BitVec.eq_of_getLsbD_eq
  intro i hi
  cases a.getLsbD 0 <;> cases b.getLsbD 0 <;> simp [BitVec.getLsbD_xor, hz] <;> (try (cases p.getLsbD i <;> cases q.getLsbD i <;> cases r.getLsbD i <;> rfl))
theorem onStep_zero : onStep 0 = 0 := by decide
theorem onStep_eq_zero (s : BitVec 32) (h : onStep s = 0) : s = 0 := by
  rw [onStep_eq] at h
  have h31 := congrArg (fun x => x.getLsbD 31) h
  simp only [BitVec.getLsbD_xor, BitVec.getLsbD_ushiftRight] at h31
  rw [show s.getLsbD (1 + 31) = false from BitVec.getLsbD_of_ge s _ (by omega)] at h31
  by_cases h0 : s.getLsbD 0 = true
  · rw [if_pos h0] at h31; exact absurd h31 (by decide)
  · rw [if_neg h0] at h
    apply BitVec.eq_of_getLsbD_eq
    intro i hi
    rcases Nat.eq_zero_or_pos i with e | e
    · subst e; simpa using h0
    · have := congrArg (fun x => x.getLsbD (i - 1)) h
      simp only [BitVec.getLsbD_xor, BitVec.getLsbD_ushiftRight] at this
      rw [show 1 + (i - 1) = i from by omega] at this
      simpa using this
theorem onBits_xor (a b : BitVec 32) (n : Nat) : onBits (a ^^^ b) n = onBits a n ^^^ onBits b n := by
  induction n with
  | zero => rfl
  | succ n ih => simp only [onBits, ih, onStep_xor]
theorem onBits_eq_zero (a : BitVec 32) (n : Nat) : onBits a n = 0 ↔ a = 0 := by
  induction n with
  | zero => exact Iff.rfl
  | succ n ih =>
    constructor
    · intro h; exact ih.1 (onStep_eq_zero _ h)
    · intro h; simp only [onBits]; rw [ih.2 h]; exact onStep_zero
theorem onBits_add (a : BitVec 32) (m n : Nat) : onBits a (m + n) = onBits (onBits a m) n := by
  induction n with
  | zero => rfl
  | succ n ih => rw [← Nat.add_assoc]; simp only [onBits, ih]
theorem onBits_shift : ∀ m : Fin 32, onBits ((1 : BitVec 32) <<< m.val) m.val = 1 := by decide +kernel

/-- One bit. -/
def bit (b : Bool) : BitVec 32 := if b then 1 else 0
/-- So many bits, one behind the other. -/
def runF (s : BitVec 32) (f : Nat → Bool) : Nat → BitVec 32
  | 0 => s
  | n + 1 => onStep (runF s f n ^^^ bit (f n))
theorem bit_xor (a b : Bool) : bit (a ^^ b) = bit a ^^^ bit b := by cases a <;> cases b <;> decide
theorem runF_xor (s t : BitVec 32) (f g : Nat → Bool) (n : Nat) : runF (s ^^^ t) (fun i => f i ^^ g i) n = runF s f n ^^^ runF t g n := by
  induction n with
  | zero => rfl
  | succ n ih =>
    simp only [runF]
    rw [ih, bit_xor, ← onStep_xor]
    congr 1
    generalize runF s f n = p
    generalize runF t g n = q
    generalize bit (f n) = r
    generalize bit (g n) = u
    apply BitVec.eq_of_getLsbD_eq
    intro i hi
    simp only [BitVec.getLsbD_xor]
    cases p.getLsbD i <;> cases q.getLsbD i <;> cases r.getLsbD i <;> cases u.getLsbD i <;> rfl
theorem runF_congr (s : BitVec 32) (f g : Nat → Bool) (n : Nat) (h : ∀ i, i < n → f i = g i) : runF s f n = runF s g n := by
  induction n with
  | zero => rfl
  | succ n ih => simp only [runF]; rw [ih (fun i hi => h i (by omega)), h n (by omega)]
theorem runF_add (s : BitVec 32) (f : Nat → Bool) (m n : Nat) : runF s f (m + n) = runF (runF s f m) (fun i => f (m + i)) n := by
  induction n with
  | zero => rfl
  | succ n ih => rw [← Nat.add_assoc]; simp only [runF, ih]
theorem runF_false (s : BitVec 32) (n : Nat) : runF s (fun _ => false) n = onBits s n := by
  induction n with
  | zero => rfl
  | succ n ih => simp only [runF, onBits, ih, bit]; simp
/-- The low bits of a number, fed one by one, are the number fed at once. -/
theorem runF_word (x : BitVec 32) (m : Nat) (hm : m ≤ 32) : runF 0 (fun i => x.getLsbD i) m = onBits (BitVec.ofNat 32 (x.toNat % 2 ^ m)) m := by
  induction m with
  | zero => simp [runF, onBits, Nat.mod_one]
  | succ m ih =>
    simp only [runF]
    rw [ih (by omega)]
    have hs : BitVec.ofNat 32 (x.toNat % 2 ^ (m + 1)) = BitVec.ofNat 32 (x.toNat % 2 ^ m) ^^^ (if x.getLsbD m then (1 : BitVec 32) <<< m else 0) := by
      apply BitVec.eq_of_getLsbD_eq
      intro i hi
      simp only [BitVec.getLsbD_xor, BitVec.getLsbD_ofNat, hi, decide_true, Bool.true_and, Nat.testBit_mod_two_pow]
      have hb : x.toNat.testBit i = x.getLsbD i := rfl
      rw [hb]
      by_cases e : i = m
      · subst e
        cases hx : x.getLsbD i <;> simp [hi]
      · have e2 : (if x.getLsbD m = true then (1 : BitVec 32) <<< m else 0).getLsbD i = false := by
          split
          · simp [BitVec.getLsbD_shiftLeft, BitVec.getLsbD_one]; intro _ _; omega
          · simp
        rw [e2]
        by_cases q : i < m
        · simp [q, show i < m + 1 by omega]
        · simp [q, show ¬ i < m + 1 by omega]
    rw [hs, onBits_xor]
    show onStep _ = onBits _ (m + 1) ^^^ onBits _ (m + 1)
    simp only [onBits]
    rw [← onStep_xor]
    congr 2
    cases x.getLsbD m
    · simp only [bit]
      rw [if_neg (by decide), if_neg (by decide)]
      exact ((onBits_eq_zero 0 m).2 rfl).symm
    · simp only [bit]
      rw [if_pos trivial, if_pos trivial]
      exact (onBits_shift ⟨m, by omega⟩).symm
/-- A byte is its eight bits. -/
theorem onByte_run (s : BitVec 32) (x : UInt8) : onByte s x = runF s (fun i => x.toNat.testBit i) 8 := by
  have hx : x.toNat < 256 := x.toNat_lt
  have h := runF_xor s 0 (fun _ => false) (fun i => x.toNat.testBit i) 8
  rw [show s ^^^ 0 = s from by simp] at h
  simp only [Bool.false_xor] at h
  rw [h, runF_false, onByte, onBits_xor]
  congr 1
  have h2 := runF_word (BitVec.ofNat 32 x.toNat) 8 (by omega)
  rw [BitVec.toNat_ofNat, Nat.mod_eq_of_lt (show x.toNat < 2 ^ 32 by omega), Nat.mod_eq_of_lt (show x.toNat < 2 ^ 8 by omega)] at h2
  rw [← h2]
  apply runF_congr
  intro i hi
  rw [BitVec.getLsbD_ofNat]; simp; omega
/-- The bit at a place of bytes. -/
def bitAt (l : List UInt8) (n : Nat) : Bool := (nth l (n / 8)).toNat.testBit (n % 8)
theorem onAll_run (l : List UInt8) : ∀ s : BitVec 32, onAll s l = runF s (bitAt l) (8 * l.length) := by
  induction l with
  | nil => intro s; rfl
  | cons x l ih =>
    intro s
    rw [show 8 * (x :: l).length = 8 + 8 * l.length by simp; omega, runF_add]
    show onAll (onByte s x) l = _
    have e1 : runF s (bitAt (x :: l)) 8 = onByte s x := by
      rw [onByte_run]
      apply runF_congr
      intro i hi
      unfold bitAt
      rw [Nat.div_eq_of_lt hi, Nat.mod_eq_of_lt hi]; rfl
    rw [ih, e1]
    congr 1
    funext i
    unfold bitAt
    rw [show (8 + i) / 8 = i / 8 + 1 by omega, show (8 + i) % 8 = i % 8 by omega]; rfl

/-- Where two lists of bytes differ within 32 bits, in the bits of x alone, their sums are the same only if x's bits that count are none. -/
theorem burst_sum (s : BitVec 32) (l m : List UInt8) (hl : m.length = l.length) (at_ : Nat) (x : BitVec 32) (hat : at_ ≤ 8 * l.length)
    (hb : ∀ n, n < 8 * l.length → bitAt m n = (bitAt l n ^^ (decide (at_ ≤ n) && x.getLsbD (n - at_)))) :
    onAll s m = onAll s l ↔ ∀ k, k < 32 → at_ + k < 8 * l.length → x.getLsbD k = false := by
  have hd : onAll s m ^^^ onAll s l = runF 0 (fun n => decide (at_ ≤ n) && x.getLsbD (n - at_)) (8 * l.length) := by
    rw [onAll_run, onAll_run, hl, ← runF_xor, BitVec.xor_self]
    apply runF_congr
    intro i hi
    rw [hb i hi]
    cases bitAt l i <;> simp
  have hz : onAll s m = onAll s l ↔ runF 0 (fun n => decide (at_ ≤ n) && x.getLsbD (n - at_)) (8 * l.length) = 0 := by
    rw [← hd]
    constructor
    · intro h; rw [h, BitVec.xor_self]; rfl
    · intro h
      have := congrArg (fun y => y ^^^ onAll s l) h
      simp only [BitVec.xor_assoc, BitVec.xor_self, BitVec.xor_zero] at this
      simpa using this
  rw [hz]
  have h0 : runF 0 (fun n => decide (at_ ≤ n) && x.getLsbD (n - at_)) at_ = 0 := by
    rw [runF_congr 0 _ (fun _ => false) at_ (fun i hi => by simp; omega), runF_false]
    exact (onBits_eq_zero 0 _).2 rfl
  obtain ⟨M, R, hM, hMR, hR⟩ : ∃ M R, M ≤ 32 ∧ 8 * l.length = at_ + (M + R) ∧ (R = 0 ∨ M = 32) := by
    by_cases q : 8 * l.length - at_ ≤ 32
    · exact ⟨8 * l.length - at_, 0, q, by omega, .inl rfl⟩
    · exact ⟨32, 8 * l.length - at_ - 32, by omega, by omega, .inr rfl⟩
  rw [hMR, runF_add, h0, runF_add]
  rw [runF_congr 0 (fun i => decide (at_ ≤ at_ + i) && x.getLsbD (at_ + i - at_)) (fun i => x.getLsbD i) M (fun i hi => by simp), runF_word x M hM]
  rw [runF_congr _ _ (fun _ => false) R (fun i hi => by
    rcases hR with e | e
    · omega
    · rw [show at_ + (M + i) - at_ = M + i by omega, BitVec.getLsbD_of_ge x _ (by omega)]; simp), runF_false, onBits_eq_zero, onBits_eq_zero]
  constructor
  · intro h k hk hlt
    have hkM : k < M := by
      rcases hR with e | e
      · omega
      · omega
    have := congrArg (fun y => y.getLsbD k) h
    simp only [BitVec.getLsbD_ofNat, hk, Nat.testBit_mod_two_pow, hkM, decide_true, Bool.true_and] at this
    rw [show x.getLsbD k = x.toNat.testBit k from rfl, this]; simp
  · intro h
    apply BitVec.eq_of_getLsbD_eq
    intro i hi
    simp only [BitVec.getLsbD_ofNat, hi, Nat.testBit_mod_two_pow, decide_true, Bool.true_and]
    by_cases q : i < M
    · have : x.toNat.testBit i = x.getLsbD i := rfl
      rw [this, h i hi (by omega)]; simp
    · simp [q]
end Go.Proofs.YtmhojaiajhdlcaaGreat
namespace Go.Proofs.YtmhojaiajhdlcaaGreat
set_option linter.unusedSimpArgs false
set_option linter.unusedVariables false

def flip1 (l : List UInt8) (n : Nat) : List UInt8 := l.set (n / 8) (UInt8.ofNat ((nth l (n / 8)).toNat ^^^ 2 ^ (n % 8)))
def flips (l : List UInt8) (bt : Nat) (x : BitVec 32) : Nat → List UInt8
  | 0 => l
  | k + 1 => if x.getLsbD k && decide (bt + k < 8 * l.length) then flip1 (flips l bt x k) (bt + k) else flips l bt x k
/-- Is a bit turned among the first k? 'lim': only those below that byte count. -/
def turned (lim len bt : Nat) (x : BitVec 32) : Nat → Bool
  | 0 => false
  | k + 1 => turned lim len bt x k || (x.getLsbD k && decide (bt + k < 8 * len) && decide ((bt + k) / 8 < lim))
theorem flip1_length (l : List UInt8) (n : Nat) : (flip1 l n).length = l.length := by simp [flip1]
theorem flips_length (l : List UInt8) (bt : Nat) (x : BitVec 32) (k : Nat) : (flips l bt x k).length = l.length := by
  induction k with
  | zero => rfl
  | succ k ih => simp only [flips]; split <;> simp [flip1_length, ih]
theorem nth_set {α : Type} [Inhabited α] (l : List α) (i j : Nat) (x : α) (hi : i < l.length) : nth (l.set i x) j = if i = j then x else nth l j := by
  unfold nth
  rw [List.getD_eq_getElem?_getD, List.getD_eq_getElem?_getD, List.getElem?_set]
  by_cases e : i = j
  · subst e; simp [hi]
  · simp [e]
theorem toNat_flip (a r : Nat) (ha : a < 256) (hr : r < 8) : (UInt8.ofNat (a ^^^ 2 ^ r)).toNat = a ^^^ 2 ^ r := by
  have h1 : 2 ^ r < 2 ^ 8 := Nat.pow_lt_pow_right (by omega) hr
  have h2 : a ^^^ 2 ^ r < 2 ^ 8 := Nat.xor_lt_two_pow (by omega) h1
  rw [UInt8.toNat_ofNat']; exact Nat.mod_eq_of_lt h2
theorem bitAt_flip1 (l : List UInt8) (m n : Nat) (hm : m < 8 * l.length) : bitAt (flip1 l m) n = (bitAt l n ^^ decide (n = m)) := by
  unfold bitAt flip1
  rw [nth_set _ _ _ _ (by omega)]
  by_cases e : m / 8 = n / 8
  · rw [if_pos e, toNat_flip _ _ (nth l (m / 8)).toNat_lt (by omega), Nat.testBit_xor, e]
    congr 1
    rw [Nat.testBit_two_pow]
    by_cases q : n = m
    · simp [q]
    · simp [q]; omega
  · rw [if_neg e]
    have : n ≠ m := fun q => e (by rw [q])
    simp [this]
theorem bitAt_flips (l : List UInt8) (bt : Nat) (x : BitVec 32) (k n : Nat) (hn : n < 8 * l.length) : bitAt (flips l bt x k) n = (bitAt l n ^^ (decide (bt ≤ n) && decide (n < bt + k) && x.getLsbD (n - bt))) := by
  induction k with
  | zero =>
    have h1 : (decide (bt ≤ n) && decide (n < bt + 0)) = false := by simp
    rw [h1]; simp [flips]
  | succ k ih =>
    simp only [flips]
    by_cases hc : (x.getLsbD k && decide (bt + k < 8 * l.length)) = true
    · rw [if_pos hc, bitAt_flip1 _ _ _ (by rw [flips_length]; simp at hc; exact hc.2), ih]
      simp at hc
      by_cases e : n = bt + k
      · subst e; simp [hc.1]
      · by_cases q : bt ≤ n ∧ n < bt + k
        · simp [e, q.1, q.2, show n < bt + (k + 1) by omega]
        · have h1 : (decide (bt ≤ n) && decide (n < bt + k)) = false := by simp; omega
          have h2 : (decide (bt ≤ n) && decide (n < bt + (k + 1))) = false := by simp; omega
          rw [h1, h2]; simp [e]
    · rw [if_neg hc, ih]
      by_cases e : n = bt + k
      · subst e
        have : x.getLsbD k = false := by simp at hc; cases hx : x.getLsbD k; rfl; have := hc hx; omega
        simp [this]
      · by_cases q : bt ≤ n ∧ n < bt + k
        · simp [q.1, q.2, show n < bt + (k + 1) by omega]
        · have h1 : (decide (bt ≤ n) && decide (n < bt + k)) = false := by simp; omega
          have h2 : (decide (bt ≤ n) && decide (n < bt + (k + 1))) = false := by simp; omega
          rw [h1, h2]
theorem turned_iff (lim len bt : Nat) (x : BitVec 32) (k : Nat) : turned lim len bt x k = true ↔ ∃ j, j < k ∧ x.getLsbD j = true ∧ bt + j < 8 * len ∧ (bt + j) / 8 < lim := by
  induction k with
  | zero => simp [turned]
  | succ k ih =>
    simp only [turned, Bool.or_eq_true, ih, Bool.and_eq_true, decide_eq_true_eq]
    constructor
    · rintro (⟨j, h1, h2, h3, h4⟩ | ⟨⟨h1, h2⟩, h3⟩)
      · exact ⟨j, by omega, h2, h3, h4⟩
      · exact ⟨k, by omega, h1, h2, h3⟩
    · rintro ⟨j, h1, h2, h3, h4⟩
      by_cases e : j = k
      · subst e; exact .inr ⟨⟨h2, h3⟩, h4⟩
      · exact .inl ⟨j, by omega, h2, h3, h4⟩
theorem flips_sum (s : BitVec 32) (l : List UInt8) (bt : Nat) (x : BitVec 32) (hb : bt ≤ 8 * l.length) : onAll s (flips l bt x 32) = onAll s l ↔ turned l.length l.length bt x 32 = false := by
  rw [burst_sum s l _ (flips_length _ _ _ _) bt x hb (fun n hn => by
    rw [bitAt_flips _ _ _ _ _ hn]
    by_cases q : n < bt + 32
    · simp [q]
    · have : x.getLsbD (n - bt) = false := BitVec.getLsbD_of_ge x _ (by omega)
      simp [this])]
  rw [← Bool.not_eq_true, turned_iff]
  constructor
  · rintro h ⟨j, h1, h2, h3, _⟩
    rw [h j h1 h3] at h2; cases h2
  · intro h k hk hlt
    cases hx : x.getLsbD k
    · rfl
    · exact absurd ⟨k, hk, hx, hlt, by omega⟩ h

theorem bitAt_take (l : List UInt8) (n i : Nat) (h : i < 8 * n) : bitAt (l.take n) i = bitAt l i := by
  unfold bitAt; rw [nth_take _ _ _ (by omega)]
theorem flips_take_sum (s : BitVec 32) (l : List UInt8) (bt : Nat) (x : BitVec 32) (n : Nat) (hn : n = min l.length 16) : onAll s ((flips l bt x 32).take n) = onAll s (l.take n) ↔ turned 16 l.length bt x 32 = false := by
  have hnl : n ≤ l.length := by omega
  have hl1 : ((flips l bt x 32).take n).length = n := by rw [List.length_take, flips_length]; omega
  have hl2 : (l.take n).length = n := by rw [List.length_take]; omega
  have hbit : ∀ i, i < 8 * n → bitAt ((flips l bt x 32).take n) i = (bitAt (l.take n) i ^^ (decide (bt ≤ i) && x.getLsbD (i - bt))) := fun i hi => by
    rw [bitAt_take _ _ _ hi, bitAt_take _ _ _ hi, bitAt_flips _ _ _ _ _ (by omega)]
    by_cases q : i < bt + 32
    · simp [q]
    · have : x.getLsbD (i - bt) = false := BitVec.getLsbD_of_ge x _ (by omega)
      simp [this]
  have ht : turned 16 l.length bt x 32 = false ↔ ∀ k, k < 32 → bt + k < 8 * n → x.getLsbD k = false := by
    rw [← Bool.not_eq_true, turned_iff]
    constructor
    · intro h k hk hlt
      cases hx : x.getLsbD k
      · rfl
      · exact absurd ⟨k, hk, hx, by omega, by omega⟩ h
    · rintro h ⟨j, h1, h2, h3, h4⟩
      rw [h j h1 (by omega)] at h2; cases h2
  by_cases hb : bt ≤ 8 * n
  · rw [burst_sum s (l.take n) _ (by rw [hl1, hl2]) bt x (by rw [hl2]; exact hb) (fun i hi => hbit i (by rw [hl2] at hi; exact hi)), ht, hl2]
  · rw [ht]
    constructor
    · intro _ k _ h; omega
    · intro _
      rw [onAll_run, onAll_run, hl1, hl2]
      apply runF_congr
      intro i hi
      have h0 : decide (bt ≤ i) = false := by simp; omega
      rw [hbit i hi, h0, Bool.false_and, Bool.xor_false]
end Go.Proofs.YtmhojaiajhdlcaaGreat
namespace Go.Proofs.YtmhojaiajhdlcaaGreat
open Go.RowKit
set_option linter.unusedSimpArgs false
set_option linter.unusedVariables false

theorem onAll_take (s : BitVec 32) (l : List UInt8) (k : Nat) (h : k < l.length) : onAll s (l.take (k + 1)) = onByte (onAll s (l.take k)) (nth l k) := by
  unfold onAll
  rw [List.take_succ_eq_append_getElem h, List.foldl_append]
  simp [nth_get l k h]

theorem ofInt_toNat (s : BitVec 32) : BitVec.ofInt 32 (s.toNat : Int) = s := by
  rw [BitVec.ofInt_natCast, BitVec.ofNat_toNat]; simp
theorem wrap_toNat (s : BitVec 32) : IntKind.u32.wrap (s.toNat : Int) = (s.toNat : Int) := by
  have := s.isLt
  rw [IntKind.wrap_u32']; omega
theorem bits_xor (s t : BitVec 32) : bits .xor .u32 (s.toNat : Int) (t.toNat : Int) = ((s ^^^ t).toNat : Int) := by
  rw [u32_xor_nat _ _ s.isLt t.isLt, BitVec.toNat_xor]
theorem bits_and1 (s : BitVec 32) : (bits .and .u32 (s.toNat : Int) 1 == 1) = decide (s &&& 1 = 1) := by
  have h : bits .and .u32 (s.toNat : Int) ((1 : BitVec 32).toNat : Int) = ((s &&& 1).toNat : Int) := by
    rw [u32_and_nat _ _ s.isLt (by decide), BitVec.toNat_and]
  have h1 : (((1 : BitVec 32).toNat : Nat) : Int) = 1 := rfl
  rw [h1] at h
  rw [h]
  by_cases g : s &&& 1 = 1
  · rw [g]; rfl
  · have : ((s &&& 1).toNat : Int) ≠ 1 := fun e => g (BitVec.eq_of_toNat_eq (by rw [show (s &&& 1).toNat = 1 by omega]; rfl))
    rw [decide_eq_false g]; exact beq_eq_false_iff_ne.2 this
theorem bits_not (s : BitVec 32) : bits .xor .u32 IntKind.u32.max (s.toNat : Int) = ((~~~ s).toNat : Int) := by
  have h1 : IntKind.u32.max = (((0xFFFFFFFF : BitVec 32).toNat : Nat) : Int) := rfl
  rw [h1, bits_xor]
  congr 2
theorem half (s : BitVec 32) : (s.toNat : Int) / (2 : Int) = ((s >>> 1).toNat : Int) := by
  rw [BitVec.toNat_ushiftRight, Nat.shiftRight_eq_div_pow]; omega


theorem onStep_odd (s : BitVec 32) (h : (bits .and .u32 (s.toNat : Int) 1 == 1) = true) : bits .xor .u32 ((s.toNat : Int) / 2) 2197175160 = ((onStep s).toNat : Int) := by
  rw [bits_and1] at h
  rw [half, show (2197175160 : Int) = (((0x82F63B78 : BitVec 32).toNat : Nat) : Int) from rfl, bits_xor, onStep, if_pos (of_decide_eq_true h)]
theorem onStep_even (s : BitVec 32) (h : (bits .and .u32 (s.toNat : Int) 1 == 1) = false) : (s.toNat : Int) / 2 = ((onStep s).toNat : Int) := by
  rw [bits_and1] at h
  rw [half, onStep, if_neg (of_decide_eq_false h)]
theorem bits_byte (s : BitVec 32) (x : UInt8) : bits .xor .u32 (s.toNat : Int) (x.toNat : Int) = ((s ^^^ BitVec.ofNat 32 x.toNat).toNat : Int) := by
  have hx : x.toNat < 256 := x.toNat_lt
  have h1 : ((x.toNat : Nat) : Int) = ((BitVec.ofNat 32 x.toNat).toNat : Int) := by
    rw [BitVec.toNat_ofNat, Nat.mod_eq_of_lt (by omega)]
  rw [h1, bits_xor]
theorem bits_byte' (s : BitVec 32) (x : UInt8) : bits .xor .u32 (s.toNat : Int) ((x.toNat : Int) % 4294967296) = ((s ^^^ BitVec.ofNat 32 x.toNat).toNat : Int) := by
  have hx : x.toNat < 256 := x.toNat_lt
  rw [← bits_byte]; congr 1; omega

set_option maxHeartbeats 400000 in
theorem on_any (c : BitVec 32) (v : Value) (l : List UInt8) (w : World) (h : Bytes w v l) :
    Calls Tryz.prog 131 #[.int .u32 (c.toNat : Int), v] w fun e w' => e = .returned (.int .u32 ((sumOn c l).toNat : Int)) ∧ w = w' := by
  obtain ⟨a, cap, rfl, hlc, hm, hc⟩ := h
  have hm' : l.length ≤ 9223372036854775807 := by unfold maxLen at hm; omega
  clear hm hlc
  go_enter Tryz.func131, Tryz.ntmps131
  go_wp2
  go_loop [5, 13] (fun s i => ∃ k : Nat, k ≤ l.length ∧ i = .int .i64 k ∧ s = .int .u32 ((onAll (~~~ c) (l.take k)).toNat : Int)) (fun _ i => l.length - (intOf i).toNat)
  case atStart => exact ⟨0, Nat.zero_le _, rfl, by rw [bits_not]; rfl⟩
  case round =>
    obtain ⟨k, hk, rfl, rfl⟩ := hrel
    by_cases hlt : k < l.length
    · obtain ⟨b, off, rfl, hc'⟩ := hc (by intro h; simp [h] at hlt)
      have hck := hc' k hlt
      have HT := Lib.hid (onAll_take (~~~ c) l k hlt)
      clear hc hc'
      go_wp2
      go_loop [5, 21] (fun s i => ∃ j : Nat, j ≤ 8 ∧ i = .int .i64 j ∧ s = .int .u32 ((onBits ((onAll (~~~ c) (l.take k)) ^^^ BitVec.ofNat 32 (nth l k).toNat) j).toNat : Int)) (fun _ i => 8 - (intOf i).toNat)
      case atStart => exact ⟨0, Nat.zero_le _, rfl, congrArg _ (by exact bits_byte' _ _)⟩
      case round =>
        obtain ⟨j, hj, rfl, rfl⟩ := hrel
        by_cases hlt2 : j < 8
        · go_wp2
          · go_round
            case rel => exact ⟨j + 1, by omega, by go_num, congrArg _ (onStep_odd _ (by assumption))⟩
            case measure => simp [intOf]; omega
          · go_round
            case rel => exact ⟨j + 1, by omega, by go_num, congrArg _ (onStep_even _ (by assumption))⟩
            case measure => simp [intOf]; omega
        · obtain rfl : j = 8 := by omega
          go_wp2
          go_round
          case rel => exact ⟨k + 1, by omega, by go_num, by rw [HT.out]; rfl⟩
          case measure => simp [intOf]; omega
    · obtain rfl : k = l.length := by omega
      go_wp2
      go_ret
      exact ⟨congrArg (fun n => Ending.returned (.int .u32 n)) (by rw [bits_not]; rfl), rfl⟩

set_option maxHeartbeats 400000 in
theorem refOn_any (c : BitVec 32) (v : Value) (l : List UInt8) (w : World) (h : Bytes w v l) :
    Calls Tryz.prog 62 #[.int .u32 (c.toNat : Int), v] w fun e w' => e = .returned (.int .u32 ((sumOn c l).toNat : Int)) ∧ w = w' := by
  obtain ⟨a, cap, rfl, hlc, hm, hc⟩ := h
  have hm' : l.length ≤ 9223372036854775807 := by unfold maxLen at hm; omega
  clear hm hlc
  go_enter Tryz.func62, Tryz.ntmps62
  go_wp2
  go_loop [5, 6] (fun s i => ∃ k : Nat, k ≤ l.length ∧ i = .int .i64 k ∧ s = .int .u32 ((onAll (~~~ c) (l.take k)).toNat : Int)) (fun _ i => l.length - (intOf i).toNat)
  case atStart => exact ⟨0, Nat.zero_le _, rfl, by rw [bits_not]; rfl⟩
  case round =>
    obtain ⟨k, hk, rfl, rfl⟩ := hrel
    by_cases hlt : k < l.length
    · obtain ⟨b, off, rfl, hc'⟩ := hc (by intro h; simp [h] at hlt)
      have hck := hc' k hlt
      have HT := Lib.hid (onAll_take (~~~ c) l k hlt)
      clear hc hc'
      go_wp2
      go_loop [5, 7] (fun s i => ∃ j : Nat, j ≤ 8 ∧ i = .int .i64 j ∧ s = .int .u32 ((onBits ((onAll (~~~ c) (l.take k)) ^^^ BitVec.ofNat 32 (nth l k).toNat) j).toNat : Int)) (fun _ i => 8 - (intOf i).toNat)
      case atStart => exact ⟨0, Nat.zero_le _, rfl, congrArg _ (by exact bits_byte' _ _)⟩
      case round =>
        obtain ⟨j, hj, rfl, rfl⟩ := hrel
        by_cases hlt2 : j < 8
        · go_wp2
          · go_round
            case rel => exact ⟨j + 1, by omega, by go_num, congrArg _ (onStep_odd _ (by assumption))⟩
            case measure => simp [intOf]; omega
          · go_round
            case rel => exact ⟨j + 1, by omega, by go_num, congrArg _ (onStep_even _ (by assumption))⟩
            case measure => simp [intOf]; omega
        · obtain rfl : j = 8 := by omega
          go_wp2
          go_round
          case rel => exact ⟨k + 1, by omega, by go_num, by rw [HT.out]; rfl⟩
          case measure => simp [intOf]; omega
    · obtain rfl : k = l.length := by omega
      go_wp2
      go_ret
      exact ⟨congrArg (fun n => Ending.returned (.int .u32 n)) (by rw [bits_not]; rfl), rfl⟩

/-- Lists of bytes that a slice of slices shows. -/
def Parts (w : World) (v : Value) (ls : List (List UInt8)) : Prop :=
  ∃ vs : List Value, vs.length = ls.length ∧ Rd id w v vs ∧ ∀ j, j < ls.length → Bytes w (nth vs j) (nth ls j)
theorem sumOf_take (ls : List (List UInt8)) (k : Nat) (h : k < ls.length) : sumOf (ls.take (k + 1)) = sumOn (sumOf (ls.take k)) (nth ls k) := by
  unfold sumOf
  rw [List.take_succ_eq_append_getElem h, List.foldl_append]
  simp [nth_get ls k h]

set_option maxHeartbeats 400000 in
theorem of_any (v : Value) (ls : List (List UInt8)) (w : World) (h : Parts w v ls) :
    Calls Tryz.prog 110 #[v] w fun e w' => e = .returned (.int .u32 ((sumOf ls).toNat : Int)) ∧ w = w' := by
  obtain ⟨vs, hvl, ⟨a, cap, rfl, hlc, hm, hc⟩, hb⟩ := h
  have hm' : vs.length ≤ 9223372036854775807 := by unfold maxLen at hm; omega
  clear hm hlc
  have HL := Lib.hid hvl
  have HB := Lib.hid hb
  have HC := Lib.hid hc
  clear hvl hb hc
  go_enter Tryz.func110, Tryz.ntmps110
  go_wp2
  go_loop [3, 8] (fun s i => ∃ k : Nat, k ≤ vs.length ∧ i = .int .i64 k ∧ s = .int .u32 ((sumOf (ls.take k)).toNat : Int)) (fun _ i => vs.length - (intOf i).toNat)
  case atStart => exact ⟨0, Nat.zero_le _, rfl, rfl⟩
  case round =>
    obtain ⟨k, hk, rfl, rfl⟩ := hrel
    by_cases hlt : k < vs.length
    · obtain ⟨b, off, rfl, hc'⟩ := HC.out (by intro h; simp [h] at hlt)
      have hck := hc' k hlt
      have hbk := Lib.hid (HB.out k (by rw [← HL.out]; exact hlt))
      have HT := Lib.hid (sumOf_take ls k (by rw [← HL.out]; exact hlt))
      simp only [id] at hck
      clear hc'
      go_wp2_with (go_at_call 131; refine (on_any _ _ _ _ hbk.out).mono ?_; rintro e w' ⟨rfl, rfl⟩)
      go_round
      case rel => exact ⟨k + 1, by omega, by go_num, by rw [HT.out]⟩
      case measure => simp [intOf]; omega
    · obtain rfl : k = vs.length := by omega
      go_wp2
      go_ret
      exact ⟨congrArg (fun n => Ending.returned (.int .u32 n)) (by rw [HL.out, List.take_length]), rfl⟩

theorem Parts.lit {w : World} (vs : List Value) (ls : List (List UInt8)) {C : Array Value} {e : TypeId} {g n k : Nat} (hg : g = w.heap.size) (hC : C = vs.toArray) (hn : n = ls.length) (hv : vs.length = ls.length) (hk : n ≤ k) (hm : k ≤ maxLen)
    (h : ∀ j, j < ls.length → Bytes w (nth vs j) (nth ls j)) : Parts (w.alloc (.cells C e)) (.slice (some ⟨g, 0, none⟩) n k) ls :=
  ⟨vs, hv, Rd.lit vs hg (by simp [hC]) (by rw [hn, hv]) hk hm, fun j hj => (h j hj).alloc _⟩
theorem Parts.nil (w : World) : Parts w (.slice none 0 0) [] := ⟨[], rfl, Rd.nil w, fun j hj => absurd hj (by simp)⟩
theorem Parts.one {w : World} (v : Value) (l : List UInt8) {C : Array Value} {e : TypeId} {g n k : Nat} (hg : g = w.heap.size) (hC : C = #[v]) (hn : n = 1) (hk : k = 1) (h : Bytes w v l) : Parts (w.alloc (.cells C e)) (.slice (some ⟨g, 0, none⟩) n k) [l] :=
  Parts.lit [v] [l] hg (by rw [hC]) hn rfl (by omega) (by unfold maxLen; omega) (fun j hj => by
    match j, hj with
    | 0, _ => exact h)
theorem Parts.two {w : World} (v v' : Value) (l l' : List UInt8) {C : Array Value} {e : TypeId} {g n k : Nat} (hg : g = w.heap.size) (hC : C = #[v, v']) (hn : n = 2) (hk : k = 2) (h : Bytes w v l) (h' : Bytes w v' l') : Parts (w.alloc (.cells C e)) (.slice (some ⟨g, 0, none⟩) n k) [l, l'] :=
  Parts.lit [v, v'] [l, l'] hg (by rw [hC]) hn rfl (by omega) (by unfold maxLen; omega) (fun j hj => by
    match j, hj with
    | 0, _ => exact h
    | 1, _ => exact h')

theorem bit_test (x : BitVec 32) (k : Nat) : (bits .and .u32 ((x.toNat : Int) / 2 ^ k) 1 = 1) ↔ x.getLsbD k = true := by
  have h : bits .and .u32 (((x >>> k).toNat : Nat) : Int) 1 = 1 ↔ (x >>> k) &&& 1 = 1 := by
    have := bits_and1 (x >>> k)
    constructor
    · intro q; rw [q] at this; exact of_decide_eq_true this.symm
    · intro q; rw [decide_eq_true q] at this; exact beq_iff_eq.1 this
  have e : (x.toNat : Int) / 2 ^ k = (((x >>> k).toNat : Nat) : Int) := by
    rw [BitVec.toNat_ushiftRight, Nat.shiftRight_eq_div_pow, Int.natCast_ediv, Int.natCast_pow]; rfl
  rw [e, h, and_one, BitVec.getLsbD_ushiftRight]; rfl

theorem flip_bits (a : UInt8) (r : Nat) (hr : r < 8) : bits .xor .u8 (a.toNat : Int) ((2 : Int) ^ r % 256) = ((UInt8.ofNat (a.toNat ^^^ 2 ^ r)).toNat : Int) := by
  have h1 : 2 ^ r < 2 ^ 8 := Nat.pow_lt_pow_right (by omega) hr
  have h2 : ((2 : Int) ^ r % 256) = ((2 ^ r : Nat) : Int) := by
    rw [Int.natCast_pow]
    have : ((2 ^ r : Nat) : Int) < 256 := by omega
    rw [Int.natCast_pow] at this
    have h0 : (0 : Int) ≤ ((2 : Nat) : Int) ^ r := Int.le_of_lt (Int.pow_pos (by decide))
    exact Int.emod_eq_of_lt h0 this
  rw [h2, u8_xor_nat _ _ a.toNat_lt h1, toNat_flip _ _ a.toNat_lt hr]
/-- One turned bit, as the program stores it. -/
theorem flip_blk {w : World} {g : Nat} {e : TypeId} {l : List UInt8} {ys : List Value} (n : Nat) (hn : n < 8 * l.length) (h : Blk w g e (l.map bv ++ ys)) :
    Blk (w.setCell ⟨g, n / 8, none⟩ (.int .u8 (bits .xor .u8 ((nth l (n / 8)).toNat : Int) ((2 : Int) ^ (n % 8) % 256)))) g e ((flip1 l n).map bv ++ ys) := by
  rw [flip_bits _ _ (by omega)]
  have := h.set_ (n / 8) (bv (UInt8.ofNat ((nth l (n / 8)).toNat ^^^ 2 ^ (n % 8))))
  rw [List.set_append_left _ _ (by simp; omega), ← List.map_set] at this
  exact this
theorem turned_step (lim len bt : Nat) (x : BitVec 32) (k : Nat) (h1 : x.getLsbD k = true) (h2 : bt + k < 8 * len) (h3 : (bt + k) / 8 < lim) : turned lim len bt x (k + 1) = true := by
  simp only [turned, h1, decide_eq_true h2, decide_eq_true h3]; simp
theorem turned_stay (lim len bt : Nat) (x : BitVec 32) (k : Nat) (h : x.getLsbD k = false ∨ ¬ bt + k < 8 * len) : turned lim len bt x (k + 1) = turned lim len bt x k := by
  rcases h with h | h <;> simp [turned, h]
theorem flips_step (l : List UInt8) (bt : Nat) (x : BitVec 32) (k : Nat) (h1 : x.getLsbD k = true) (h2 : bt + k < 8 * l.length) : flips l bt x (k + 1) = flip1 (flips l bt x k) (bt + k) := by
  simp only [flips, h1, decide_eq_true h2]; simp
theorem flips_stay (l : List UInt8) (bt : Nat) (x : BitVec 32) (k : Nat) (h : x.getLsbD k = false ∨ ¬ bt + k < 8 * l.length) : flips l bt x (k + 1) = flips l bt x k := by
  rcases h with h | h <;> simp [flips, h]

theorem Parts.drew {w : World} {v : Value} {ls : List (List UInt8)} (h : Parts w v ls) : Parts w.drew v ls := h
theorem Parts.four {w : World} (v0 v1 v2 v3 : Value) (l0 l1 l2 l3 : List UInt8) {C : Array Value} {e : TypeId} {g n k : Nat} (hg : g = w.heap.size) (hC : C = #[v0, v1, v2, v3]) (hn : n = 4) (hk : k = 4) (h0 : Bytes w v0 l0) (h1 : Bytes w v1 l1) (h2 : Bytes w v2 l2) (h3 : Bytes w v3 l3) : Parts (w.alloc (.cells C e)) (.slice (some ⟨g, 0, none⟩) n k) [l0, l1, l2, l3] :=
  Parts.lit [v0, v1, v2, v3] [l0, l1, l2, l3] hg (by rw [hC]) hn rfl (by omega) (by unfold maxLen; omega) (fun j hj => by
    match j, hj with
    | 0, _ => exact h0
    | 1, _ => exact h1
    | 2, _ => exact h2
    | 3, _ => exact h3)
theorem sumOf_parts (l : List UInt8) (i k : Nat) (hi : i ≤ k) : sumOf [l.take i, [], (l.drop i).take (k - i), l.drop k] = sumOf [l] := by
  show sumOn (sumOn (sumOn (sumOn 0 (l.take i)) []) ((l.drop i).take (k - i))) (l.drop k) = sumOn 0 l
  rw [← sumOn_append, ← sumOn_append, ← sumOn_append]
  congr 1
  rw [List.nil_append]
  have : (l.drop i).take (k - i) ++ l.drop k = l.drop i := by
    rw [show l.drop k = (l.drop i).drop (k - i) by rw [List.drop_drop]; congr 1; omega, List.take_append_drop]
  rw [this, List.take_append_drop]
theorem sumOf_two (l : List UInt8) (i : Nat) : sumOn (sumOf [l.take i]) (l.drop i) = sumOf [l] := by
  show sumOn (sumOn 0 (l.take i)) (l.drop i) = sumOn 0 l
  rw [← sumOn_append, List.take_append_drop]
theorem sumOn_nil (c : BitVec 32) : sumOn c [] = c := by unfold sumOn; simp [onAll]
theorem toNat_beq {a b : BitVec 32} (h : a = b) : ((a.toNat : Int) == (b.toNat : Int)) = true := by rw [h]; simp
end Go.Proofs.YtmhojaiajhdlcaaGreat
