/- Chapter 2: a reader, and how it reads a number. -/
import Derived.Test.YthnmlifnlmdelaaWirePut
import Derived.Test.YthnmlifnlmdelaaSliceCut
import Derived.Test.YthnmlifnlmdelaaOwnN
namespace Go.Proofs.Ythnmlifnlmdelaa
open Go.RowKit
set_option linter.unusedSimpArgs false
set_option linter.unusedVariables false
/-- A reader at g: its bytes, where it stands, its error. -/
structure RdrAt (T : TypeId) (base : Nat) (w : World) (g : Nat) (v : Value) (B : List UInt8) (s : RSt) : Prop where
  cells : Blk w g T [v, .int .i64 (s.1 : Int), .int .i64 (s.2 : Int)]
  own : Own bv base 5 w v B
  gb : base ≤ g
  at_ : s.1 ≤ B.length
  er : s.2 ≤ 5
  sz : B.length ≤ 10000000000
theorem RdrAt.upd {T : TypeId} {base : Nat} {w w' : World} {g : Nat} {v : Value} {B : List UInt8} {s : RSt} (h : RdrAt T base w g v B s) (hu : Upd [] w w') : RdrAt T base w' g v B s :=
  ⟨h.cells.upd hu (by simp), h.own.upd hu (by simp), h.gb, h.at_, h.er, h.sz⟩
theorem RdrAt.ng {T : TypeId} {base : Nat} {w : World} {g : Nat} {v : Value} {B : List UInt8} {s : RSt} (h : RdrAt T base w g v B s) (hT : T ≠ 5) : g ∉ blk v := by
  intro hg
  rcases h.own.2 with ⟨rfl, _⟩ | ⟨g', cap, cur, rfl, hb, hg', _⟩
  · simp [blk] at hg
  · simp [blk] at hg; subst hg
    exact h.cells.ne g hg' hT rfl
/-- A store of the place, or of the error. -/
theorem RdrAt.set1 {T : TypeId} {base : Nat} {w : World} {g : Nat} {v : Value} {B : List UInt8} {s : RSt} (h : RdrAt T base w g v B s) (hT : T ≠ 5) (k : Nat) (hk : k ≤ B.length) : RdrAt T base (w.setCell ⟨g, 1, none⟩ (.int .i64 (k : Int))) g v B (k, s.2) :=
  ⟨by have := h.cells.set_ 1 (.int .i64 (k : Int)); exact this, h.own.upd (S := [g]) ((Upd.refl [g] w).setCell _ _ (.inl (by simp))) (fun x hx hS => by simp at hS; subst hS; exact h.ng hT hx), h.gb, hk, h.er, h.sz⟩
theorem RdrAt.set2 {T : TypeId} {base : Nat} {w : World} {g : Nat} {v : Value} {B : List UInt8} {s : RSt} (h : RdrAt T base w g v B s) (hT : T ≠ 5) (k : Nat) (hk : k ≤ 5) : RdrAt T base (w.setCell ⟨g, 2, none⟩ (.int .i64 (k : Int))) g v B (s.1, k) :=
  ⟨by have := h.cells.set_ 2 (.int .i64 (k : Int)); exact this, h.own.upd (S := [g]) ((Upd.refl [g] w).setCell _ _ (.inl (by simp))) (fun x hx hS => by simp at hS; subst hS; exact h.ng hT hx), h.gb, h.at_, hk, h.sz⟩
section
variable {base : Nat} {g : Nat} {v : Value} {B : List UInt8} {s : RSt}
theorem rWrong_any (w : World) (k e : Nat) (K E : Int) (hK : K = (k : Int)) (hE : E = (e : Int)) (h : RdrAt 79 base w g v B s) (hk : k ≤ B.length) (he : e ≤ 5) :
    Calls Try.prog 53 #[.pointer (some ⟨g, 0, none⟩), .int .i64 K, .int .i64 E] w fun x w' => x = .returned (.int .i64 0) ∧ RdrAt 79 base w' g v B (k, e) ∧ Upd [g] w w' := by
  subst hK; subst hE
  have H1 := Lib.hid ((h.set1 (by decide) k hk).set2 (by decide) e he)
  have HU := Lib.hid (((Upd.refl [g] w).setCell ⟨g, 1, none⟩ (.int .i64 (k : Int)) (.inl (by simp))).setCell ⟨g, 2, none⟩ (.int .i64 (e : Int)) (.inl (by simp)))
  have c1 : w.cell? ⟨g, 1, none⟩ = some (.int .i64 (s.1 : Int)) := h.cells.cell 1
  have c2 : w.cell? ⟨g, 2, none⟩ = some (.int .i64 (s.2 : Int)) := h.cells.cell 2
  have f1 := h.cells.frozen 1
  have f2 := h.cells.frozen 2
  go_enter Try.func53, Try.ntmps53
  go_wp2
  go_ret
  exact ⟨rfl, H1.out, HU.out⟩
theorem rErr_any (w : World) (h : RdrAt 79 base w g v B s) :
    Calls Try.prog 34 #[.pointer (some ⟨g, 0, none⟩)] w fun x w' => x = .returned (.int .i64 (s.2 : Int)) ∧ w' = w := by
  have c2 : w.cell? ⟨g, 2, none⟩ = some (.int .i64 (s.2 : Int)) := h.cells.cell 2
  go_enter Try.func34, Try.ntmps34
  go_wp2
  go_ret
  exact ⟨rfl, rfl⟩
theorem rAt_any (w : World) (h : RdrAt 79 base w g v B s) :
    Calls Try.prog 35 #[.pointer (some ⟨g, 0, none⟩)] w fun x w' => x = .returned (.int .i64 (s.1 : Int)) ∧ w' = w := by
  have c1 : w.cell? ⟨g, 1, none⟩ = some (.int .i64 (s.1 : Int)) := h.cells.cell 1
  go_enter Try.func35, Try.ntmps35
  go_wp2
  go_ret
  exact ⟨rfl, rfl⟩
theorem or64 (n : Nat) (x : UInt8) (h : n < 72057594037927936) : bits .or .u64 ((n : Int) * 256 % 18446744073709551616) ((x.toNat : Int) % 18446744073709551616) = ((n * 256 + x.toNat : Nat) : Int) := by
  have hx := x.toNat_lt
  have h1 : (n : Int) * 256 % 18446744073709551616 = ((n * 256 : Nat) : Int) := by omega
  have h2 : (x.toNat : Int) % 18446744073709551616 = ((x.toNat : Nat) : Int) := by omega
  rw [h1, h2, u64_hl _ _ 8 (by omega) (by omega) (by omega)]
theorem beN_take_succ (l : List UInt8) (j : Nat) (h : j < l.length) : beN (l.take (j + 1)) = beN (l.take j) * 256 + (nth l j).toNat := by
  rw [List.take_succ_eq_append_getElem h, beN_snoc, nth_get l j h]
theorem beN_take_lt (l : List UInt8) (j : Nat) (h : j ≤ 7) : beN (l.take j) < 72057594037927936 := by
  have h1 := beN_lt (l.take j)
  have h2 : (256 : Nat) ^ (l.take j).length ≤ 256 ^ 7 := Nat.pow_le_pow_right (by decide) (by rw [List.length_take]; omega)
  have h3 : (256 : Nat) ^ 7 = 72057594037927936 := by decide
  omega
theorem rdNum_0 (B : List UInt8) (k : Nat) : rdNum B (k, 0) = if (numAt (B.drop k)).2.2 ≠ 0 then (0, k, (numAt (B.drop k)).2.2) else ((numAt (B.drop k)).1, k + (numAt (B.drop k)).2.1, 0) := by
  unfold rdNum; rw [if_neg (by simp)]
set_option maxHeartbeats 4000000 in
/-- A number that can't be read, or a reader that has an error: the bad ways but the last. -/
theorem rNumBad_any (w : World) (h : RdrAt 79 base w g v B s) (hs : s.2 ≠ 0 ∨ (s.2 = 0 ∧ (B.drop s.1 = [] ∨ (∃ c t, B.drop s.1 = c :: t ∧ (8 < c.toNat ∨ t.length < c.toNat))))) :
    Calls Try.prog 52 #[.pointer (some ⟨g, 0, none⟩)] w fun x w' => x = .returned (.int .i64 ((rdNum B s).1 : Int)) ∧ RdrAt 79 base w' g v B (rdNum B s).2 ∧ Upd [g] w w' := by
  have H := Lib.hid h
  obtain ⟨a, k, rfl, -⟩ := h.own.rd
  have c0 : w.cell? ⟨g, 0, none⟩ = some (.slice a B.length k) := h.cells.cell 0
  have c1 : w.cell? ⟨g, 1, none⟩ = some (.int .i64 (s.1 : Int)) := h.cells.cell 1
  have c2 : w.cell? ⟨g, 2, none⟩ = some (.int .i64 (s.2 : Int)) := h.cells.cell 2
  have hat := h.at_
  have hsz := h.sz
  rcases hs with hs | ⟨hs, hb⟩
  · have hne : ((s.2 : Int) != 0) = true := by rw [bne_iff_ne]; omega
    have HR : Hid (rdNum B s = (0, s)) := by unfold Hid rdNum; rw [if_pos hs]
    clear h hs
    go_enter Try.func52, Try.ntmps52
    go_wp2_with fail
    go_ret
    exact ⟨by rw [HR.out]; rfl, by rw [HR.out]; exact H.out, Upd.refl _ _⟩
  · obtain ⟨at_, er⟩ := s
    dsimp only at *
    subst hs
    have hcut := run_cut (P := Try.prog) Try.underlying22 sizeByte a B.length k at_ hat
    simp only [Nat.mul_one] at hcut
    have HD := Lib.hid (h.own.rd.drop at_ hat)
    have hrl : B.length - at_ = (B.drop at_).length := by rw [List.length_drop]
    have HN : Hid (_ = _) := rdNum_0 B at_
    replace c2 : w.cell? ⟨g, 2, none⟩ = some (.int .i64 0) := c2
    rw [hrl] at HD hcut
    have hrs : (B.drop at_).length ≤ 10000000000 := by rw [List.length_drop]; omega
    generalize B.drop at_ = r at *
    generalize (if k = at_ then a else a.map (·.add at_)) = ar at *
    generalize k - at_ = kr at *
    clear hrl h
    rcases hb with rfl | ⟨c, t, rfl, hct⟩
    · have HR : Hid (rdNum B (at_, 0) = (0, at_, 3)) := HN.out.trans (by simp [numAt])
      clear HN
      go_enter Try.func52, Try.ntmps52
      go_wp2_with fail
      go_quiet (fail)
      have HU := Lib.hid ((Upd.refl [] w).drewN nq)
      generalize w.drewN nq = w1 at *
      have d1 := HU.out.cell c1 (by simp)
      go_wp2_with fail
      with_reducible refine (rWrong_any _ at_ 3 _ 3 rfl rfl (H.out.upd HU.out) hat (by decide)).mono ?_
      rintro e w2 ⟨rfl, h2, hu2⟩
      go_wp2_with fail
      go_ret
      exact ⟨by rw [HR.out]; rfl, by rw [HR.out]; exact h2, HU.out.trans hu2 (by simp) (by simp)⟩
    · obtain ⟨b, off, hae, hc0⟩ := HD.out.at_ 0 (by simp)
      subst hae
      rw [nth_cons_zero] at hc0
      have hc0' : w.cell? ⟨b, off, none⟩ = some (bv c) := hc0
      clear hc0
      have hlen : (c :: t).length = t.length + 1 := rfl
      rw [hlen] at hcut hrs
      have hlt := c.toNat_lt
      by_cases h8 : 8 < c.toNat
      · have HR : Hid (rdNum B (at_, 0) = (0, at_, 4)) := HN.out.trans (by rw [numAt_cons, if_pos h8]; simp)
        have q8 : (8 : Int) < c.toNat := by omega
        clear HN hct h8
        go_enter Try.func52, Try.ntmps52
        go_wp2_with fail
        go_quiet (fail)
        have HU := Lib.hid ((Upd.refl [] w).drewN nq)
        generalize w.drewN nq = w1 at *
        have d1 := HU.out.cell c1 (by simp)
        have d0 := HU.out.cell hc0' (by simp)
        go_wp2_with fail
        with_reducible refine (rWrong_any _ at_ 4 _ 4 rfl rfl (H.out.upd HU.out) hat (by decide)).mono ?_
        rintro e w2 ⟨rfl, h2, hu2⟩
        go_wp2_with fail
        go_ret
        exact ⟨by rw [HR.out]; rfl, by rw [HR.out]; exact h2, HU.out.trans hu2 (by simp) (by simp)⟩
      · have hsh : t.length < c.toNat := by omega
        have HR : Hid (rdNum B (at_, 0) = (0, at_, 3)) := HN.out.trans (by rw [numAt_cons, if_neg h8, if_pos hsh]; simp)
        have q8 : ¬ (8 : Int) < c.toNat := by omega
        have qs : (t.length : Int) + 1 < 1 + c.toNat := by omega
        clear HN hct h8 hsh
        go_enter Try.func52, Try.ntmps52
        go_wp2_with fail
        go_quiet (fail)
        have HU := Lib.hid ((Upd.refl [] w).drewN nq)
        generalize w.drewN nq = w1 at *
        have d1 := HU.out.cell c1 (by simp)
        have d0 := HU.out.cell hc0' (by simp)
        go_wp2_with fail
        with_reducible refine (rWrong_any _ at_ 3 _ 3 rfl rfl (H.out.upd HU.out) hat (by decide)).mono ?_
        rintro e w2 ⟨rfl, h2, hu2⟩
        go_wp2_with fail
        go_ret
        exact ⟨by rw [HR.out]; rfl, by rw [HR.out]; exact h2, HU.out.trans hu2 (by simp) (by simp)⟩
set_option maxHeartbeats 4000000 in
/-- A number whose bytes are all there. -/
theorem rNumIn_any (w : World) (at_ : Nat) (c : UInt8) (t : List UInt8) (h : RdrAt 79 base w g v B (at_, 0)) (hr : B.drop at_ = c :: t) (h8 : ¬ 8 < c.toNat) (hsh : ¬ t.length < c.toNat) :
    Calls Try.prog 52 #[.pointer (some ⟨g, 0, none⟩)] w fun x w' => x = .returned (.int .i64 ((rdNum B (at_, 0)).1 : Int)) ∧ RdrAt 79 base w' g v B (rdNum B (at_, 0)).2 ∧ Upd [g] w w' := by
  have H := Lib.hid h
  obtain ⟨a, k, rfl, -⟩ := h.own.rd
  have c0 : w.cell? ⟨g, 0, none⟩ = some (.slice a B.length k) := h.cells.cell 0
  have c1 : w.cell? ⟨g, 1, none⟩ = some (.int .i64 (at_ : Int)) := h.cells.cell 1
  have c2 : w.cell? ⟨g, 2, none⟩ = some (.int .i64 0) := h.cells.cell 2
  have hat : at_ ≤ B.length := h.at_
  have hsz := h.sz
  have hcut := run_cut (P := Try.prog) Try.underlying22 sizeByte a B.length k at_ hat
  simp only [Nat.mul_one] at hcut
  have HD := Lib.hid (h.own.rd.drop at_ hat)
  have hrl : B.length - at_ = (B.drop at_).length := by rw [List.length_drop]
  have HN : Hid (_ = _) := rdNum_0 B at_
  rw [hrl] at HD hcut
  have hrs : (B.drop at_).length ≤ 10000000000 := by rw [List.length_drop]; omega
  have hrs2 : (B.drop at_).length + at_ = B.length := by rw [List.length_drop]; omega
  rw [hr] at HD hcut hrs HN hrs2
  have hkr : (c :: t).length ≤ k - at_ := by obtain ⟨_, _, he, h1, _⟩ := HD.out; have := (Value.slice.inj he).2.2; omega
  generalize (if k = at_ then a else a.map (·.add at_)) = ar at *
  generalize k - at_ = kr at *
  clear hrl h hr
  obtain ⟨b, off, hae, hc0⟩ := HD.out.at_ 0 (by simp)
  subst hae
  rw [nth_cons_zero] at hc0
  have hc0' : w.cell? ⟨b, off, none⟩ = some (bv c) := hc0
  have HT := Lib.hid (fun j (hj : j < t.length) => show w.cell? ⟨b, off + 1 + j, none⟩ = some (bv (nth t j)) by
    obtain ⟨b', off', he, hcj⟩ := HD.out.at_ (j + 1) (by simp; omega)
    cases he
    rw [nth_cons_succ] at hcj
    rwa [Nat.add_assoc, Nat.add_comm 1 j])
  have hlen : (c :: t).length = t.length + 1 := rfl
  rw [hlen] at hcut hrs hkr hrs2
  have hlt := c.toNat_lt
  have q8 : ¬ (8 : Int) < c.toNat := by omega
  have qs : ¬ (t.length : Int) + 1 < 1 + c.toNat := by omega
  have hc2 := fun W => run_cut_lh (P := Try.prog) Try.underlying22 sizeByte (some ⟨b, off, none⟩) (t.length + 1) kr 1 (1 + c.toNat) (by omega) (by omega) W 1 (1 + (c.toNat : Int)) rfl (by omega)
  simp only [Nat.mul_one, Nat.add_sub_cancel_left] at hc2
  have HA1 : Hid (0 < c.toNat → (if kr = 1 then (some ⟨b, off, none⟩ : Option Addr) else (some ⟨b, off, none⟩ : Option Addr).map (·.add 1)) = some ⟨b, off + 1, none⟩) := fun hc => by rw [if_neg (by omega)]; simp [add_none]
  generalize (if kr = 1 then (some ⟨b, off, none⟩ : Option Addr) else (some ⟨b, off, none⟩ : Option Addr).map (·.add 1)) = a1 at *
  rw [numAt_cons, if_neg h8, if_neg hsh] at HN
  have HB7 := Lib.hid (fun j (hj : j ≤ 7) => beN_take_lt t j hj)
  have HBS := Lib.hid (fun j (hj : j < t.length) => beN_take_succ t j hj)
  generalize hcn : c.toNat = cn at *
  go_enter Try.func52, Try.ntmps52
  go_wp2_with fail
  go_quiet (fail)
  have HU := Lib.hid ((Upd.refl [] w).drewN nq)
  generalize w.drewN nq = w1 at *
  have d1 := HU.out.cell c1 (by simp)
  have d0 := HU.out.cell hc0' (by simp)
  go_wp2_with fail
  have hHN : Hid (rdNum B (at_, 0) = if (0 < cn ∧ nth t 0 = 0) ∨ 9223372036854775808 ≤ beN (t.take cn) then (0, at_, 4) else (beN (t.take cn), at_ + (1 + cn), 0)) := by
    unfold Hid; rw [HN.out]; split <;> simp
  clear HN
  have hcn8 : cn ≤ 8 := by omega
  have hcnt : cn ≤ t.length := by omega
  go_loop [5, 7, 59] (fun u x i => ∃ j : Nat, i = .int .i64 (j : Int) ∧ j ≤ cn ∧ u = .int .u64 ((beN (t.take j) : Nat) : Int)) (fun _ _ i => cn - (intOf i).toNat)
  case atStart => exact ⟨0, rfl, Nat.zero_le _, rfl⟩
  case round =>
    obtain ⟨j, rfl, hj, rfl⟩ := hrel
    by_cases hlj : j < cn
    · have ha1 := HA1.out (by omega)
      subst ha1
      have hcj := HU.out.cell (HT.out j (by omega)) (by simp)
      have HST := Lib.hid ((or64 (beN (t.take j)) (nth t j) (HB7.out j (by omega))).trans (by rw [← HBS.out j (by omega)]))
      generalize nth t j = x at *
      obtain ⟨n, HNE⟩ : ∃ n, Hid (beN (t.take j) = n) := ⟨_, rfl⟩
      rw [HNE.out] at HST
      rw [HNE.out]
      go_wp2_with fail
      go_round
      case rel => exact ⟨j + 1, by go_num, by omega, congrArg _ HST.out⟩
      case measure => simp [intOf]; omega
    · obtain rfl : j = cn := by omega
      have hU64 : beN (t.take j) < 18446744073709551616 := by
        have h1 := beN_lt (t.take j)
        have h2 : (256 : Nat) ^ (t.take j).length ≤ 256 ^ 8 := Nat.pow_le_pow_right (by decide) (by rw [List.length_take]; omega)
        have h3 : (256 : Nat) ^ 8 = 18446744073709551616 := by decide
        omega
      have h0U : j = 0 → beN (t.take j) = 0 := fun e => by subst e; rfl
      generalize beN (t.take j) = U at *
      by_cases hA : 0 < j ∧ nth t 0 = 0
      · have HR : Hid (rdNum B (at_, 0) = (0, at_, 4)) := hHN.out.trans (if_pos (.inl hA))
        obtain ⟨hA1, hA2⟩ := hA
        have hcj : w1.cell? ⟨b, off + 1, none⟩ = some (bv 0) := by have := HU.out.cell (HT.out 0 (by omega)) (by simp); rw [hA2] at this; exact this
        have q1 : (0 : Int) < j := by omega
        have q2 : (1 : Int) < (t.length : Int) + 1 := by omega
        clear hA2
        go_wp2_with fail
        with_reducible refine (rWrong_any _ at_ 4 _ 4 rfl rfl (H.out.upd HU.out) hat (by decide)).mono ?_
        rintro e w2 ⟨rfl, h2, hu2⟩
        go_wp2_with fail
        go_ret
        exact ⟨by rw [HR.out]; rfl, by rw [HR.out]; exact h2, HU.out.trans hu2 (by simp) (by simp)⟩
      · have hx : (j = 0 ∧ U = 0) ∨ (0 < j ∧ nth t 0 ≠ 0) := by
          rcases Nat.eq_zero_or_pos j with e | e
          · exact .inl ⟨e, h0U e⟩
          · exact .inr ⟨e, fun q => hA ⟨e, q⟩⟩
        have hN2 : Hid (rdNum B (at_, 0) = if 9223372036854775808 ≤ U then (0, at_, 4) else (U, at_ + (1 + j), 0)) := by
          unfold Hid; rw [hHN.out]
          by_cases hq : 9223372036854775808 ≤ U
          · rw [if_pos (.inr hq), if_pos hq]
          · rw [if_neg (by rintro (q | q); exact hA q; exact hq q), if_neg hq]
        clear hHN hA
        rcases hx with ⟨rfl, rfl⟩ | ⟨hj0, ht0⟩
        · have HR : Hid (rdNum B (at_, 0) = (0, at_ + 1, 0)) := hN2.out.trans (by simp)
          have HS := Lib.hid ((H.out.upd HU.out).set1 (by decide) (at_ + 1) (by omega))
          have HSU := Lib.hid ((Upd.mono (T := [g]) HU.out (by simp)).setCell ⟨g, 1, none⟩ (.int .i64 ((at_ + 1 : Nat) : Int)) (.inl (by simp)))
          have hfr := (H.out.upd HU.out).cells.frozen 1
          have hc1' : ((at_ + 1 : Nat) : Int) = (at_ : Int) + 1 := by omega
          rw [hc1'] at HS HSU
          clear hN2 hc1'
          go_wp2_with fail
          go_ret
          exact ⟨by rw [HR.out]; rfl, by rw [HR.out]; exact HS.out, HSU.out⟩
        · have hcj : w1.cell? ⟨b, off + 1, none⟩ = some (bv (nth t 0)) := HU.out.cell (HT.out 0 (by omega)) (by simp)
          have hx0 : (((nth t 0).toNat : Int) == 0) = false := by
            rw [beq_eq_false_iff_ne]; intro e; exact ht0 (UInt8.toNat_inj.1 (show (nth t 0).toNat = 0 by omega))
          generalize nth t 0 = x0 at *
          have q1 : (0 : Int) < j := by omega
          have q2 : (1 : Int) < (t.length : Int) + 1 := by omega
          clear ht0
          by_cases hq : 9223372036854775808 ≤ U
          · have HR : Hid (rdNum B (at_, 0) = (0, at_, 4)) := hN2.out.trans (if_pos hq)
            have hU1 : (U : Int) / 9223372036854775808 = 1 := by omega
            clear hN2
            go_wp2_with fail
            with_reducible refine (rWrong_any _ at_ 4 _ 4 rfl rfl (H.out.upd HU.out) hat (by decide)).mono ?_
            rintro e w2 ⟨rfl, h2, hu2⟩
            go_wp2_with fail
            go_ret
            exact ⟨by rw [HR.out]; rfl, by rw [HR.out]; exact h2, HU.out.trans hu2 (by simp) (by simp)⟩
          · have HR : Hid (rdNum B (at_, 0) = (U, at_ + (1 + j), 0)) := hN2.out.trans (if_neg hq)
            have hU1 : (U : Int) / 9223372036854775808 = 0 := by omega
            have HS := Lib.hid ((H.out.upd HU.out).set1 (by decide) (at_ + (1 + j)) (by omega))
            have HSU := Lib.hid ((Upd.mono (T := [g]) HU.out (by simp)).setCell ⟨g, 1, none⟩ (.int .i64 ((at_ + (1 + j) : Nat) : Int)) (.inl (by simp)))
            have hfr := (H.out.upd HU.out).cells.frozen 1
            have hc1' : ((at_ + (1 + j) : Nat) : Int) = (at_ : Int) + (1 + (j : Int)) := by omega
            rw [hc1'] at HS HSU
            clear hN2 hc1'
            go_wp2_with fail
            go_ret
            exact ⟨by rw [HR.out]; rfl, by rw [HR.out]; exact HS.out, HSU.out⟩
theorem rNum_any (w : World) (h : RdrAt 79 base w g v B s) :
    Calls Try.prog 52 #[.pointer (some ⟨g, 0, none⟩)] w fun x w' => x = .returned (.int .i64 ((rdNum B s).1 : Int)) ∧ RdrAt 79 base w' g v B (rdNum B s).2 ∧ Upd [g] w w' := by
  by_cases hs : s.2 = 0
  · cases hr : B.drop s.1 with
    | nil => exact rNumBad_any w h (.inr ⟨hs, .inl hr⟩)
    | cons c t =>
      by_cases hb : 8 < c.toNat ∨ t.length < c.toNat
      · exact rNumBad_any w h (.inr ⟨hs, .inr ⟨c, t, hr, hb⟩⟩)
      · obtain ⟨k, e⟩ := s
        dsimp only at hs hr
        subst hs
        exact rNumIn_any w k c t h hr (fun q => hb (.inl q)) (fun q => hb (.inr q))
  · exact rNumBad_any w h (.inl hs)
end
end Go.Proofs.Ythnmlifnlmdelaa
