/- The walk of FrameReads. -/
import Derived.Test.YthnmlifnlmdelaaFrameRuns
import Derived.Test.YthnmlifnlmdelaaRoomed
namespace Go.Proofs.Ythnmlifnlmdelaa
open Go.RowKit
set_option linter.unusedSimpArgs false
set_option linter.unusedVariables false
theorem Own.poke {α : Type} {c : α → Value} {base : Nat} {e : TypeId} {w : World} {v : Value} {l : List α} (h : Own c base e w v l) (g j : Nat) (y : α) : Own c base e (w.setCell ⟨g, j, none⟩ (c y)) v (if blk v = [g] then l.set j y else l) := by
  by_cases hg : blk v = [g]
  · rw [if_pos hg]
    obtain ⟨h1, h2⟩ := h
    rcases h2 with ⟨rfl, hn⟩ | ⟨g', cap, cur, rfl, hb, hg', hc, hm, hs, ht⟩
    · simp [blk] at hg
    · simp [blk] at hg; subst hg
      refine ⟨by simp, .inr ⟨g', cap, cur.setIfInBounds j (c y), by simp, hb, heap_setCell_same w g' j cur e (c y) hg', by simpa using hc, hm, by simpa using hs, ?_⟩⟩
      rw [List.length_set, Array.toList_setIfInBounds, List.take_set, ht, List.map_set]
  · rw [if_neg hg]
    refine h.upd (S := [g]) ((Upd.refl [g] w).setCell ⟨g, j, none⟩ (c y) (.inl (by simp))) (fun x hx hS => hg ?_)
    simp at hS; subst hS
    obtain ⟨h1, h2⟩ := h
    rcases h2 with ⟨rfl, hn⟩ | ⟨g', cap, cur, rfl, hb, hg', hc, hm, hs, ht⟩
    · simp [blk] at hx
    · simp [blk] at hx ⊢; exact hx.symm
theorem flip_byte (x : UInt8) : Value.int .u8 (bits .xor .u8 (x.toNat : Int) 255) = bv (UInt8.ofNat (x.toNat ^^^ 255)) := by
  have h1 := u8_xor_nat x.toNat 255 x.toNat_lt (by decide)
  have h2 : x.toNat ^^^ 255 < 2 ^ 8 := Nat.xor_lt_two_pow x.toNat_lt (by decide)
  have h3 : (UInt8.ofNat (x.toNat ^^^ 255)).toNat = x.toNat ^^^ 255 := by rw [UInt8.toNat_ofNat']; omega
  rw [bv, h3]; exact congrArg _ h1
/-- Slices of the call's own, each of so many bytes: what is in them is not told. -/
def Heaps (base : Nat) (w : World) (v : Value) (vs : List Sl) : Prop :=
  Own slv base 22 w v vs ∧ ∀ j, j < vs.length → ∃ q : List UInt8, Own bv base 5 w (slv (nth vs j)) q
theorem Heaps.poke {base : Nat} {w : World} {v : Value} {vs : List Sl} (h : Heaps base w v vs) (i : Nat) (hi : i < vs.length) (g j : Nat) (hg : g ∈ blk (slv (nth vs i))) (y : UInt8) : Heaps base (w.setCell ⟨g, j, none⟩ (bv y)) v vs := by
  obtain ⟨h1, h2⟩ := h
  obtain ⟨q, hq⟩ := h2 i hi
  refine ⟨h1.upd (S := [g]) ((Upd.refl [g] w).setCell ⟨g, j, none⟩ (bv y) (.inl (by simp))) (fun x hx hS => ?_), fun k hk => ?_⟩
  · simp at hS; subst hS
    exact Own.ne hq h1 (by decide) x hg hx
  · obtain ⟨q', hq'⟩ := h2 k hk
    exact ⟨_, hq'.poke g j y⟩
theorem OwnParts.heaps {base : Nat} {w : World} {v : Value} {ls : List (List UInt8)} (h : OwnParts base w v ls) : ∃ vs, Heaps base w v vs ∧ vs.length = ls.length := by
  obtain ⟨vs, h1, h2, h3⟩ := h
  exact ⟨vs, ⟨h2, fun j hj => ⟨_, h3 j (by omega)⟩⟩, h1⟩
/-- Each byte of each list is turned: beside them nothing changes. -/
theorem Heaps.row {base : Nat} {w : World} {v : Value} {vs : List Sl} (h : Heaps base w v vs) (i : Nat) (hi : i < vs.length) :
    ∃ b off cap, v = .slice (some ⟨b, off, none⟩) vs.length cap ∧ w.cell? ⟨b, off + i, none⟩ = some (slv (nth vs i)) := by
  obtain ⟨a, cap, rfl, hc, hm, hcell⟩ := h.1.rd
  obtain ⟨b, off, rfl, hc⟩ := hcell (by intro q; rw [q] at hi; simp at hi)
  exact ⟨b, off, cap, rfl, hc i hi⟩
theorem Heaps.byte {base : Nat} {w : World} {v : Value} {vs : List Sl} (h : Heaps base w v vs) (i : Nat) (hi : i < vs.length) (j : Nat) (hj : j < (nth vs i).n) :
    ∃ g x, (nth vs i).a = some ⟨g, 0, none⟩ ∧ base ≤ g ∧ w.cell? ⟨g, j, none⟩ = some (bv x) ∧ w.frozen? ⟨g, j, none⟩ = false := by
  obtain ⟨q, hq⟩ := h.2 i hi
  have hl : (nth vs i).n = q.length := by
    obtain ⟨a, cap, he, -⟩ := hq.rd
    exact (Value.slice.inj he).2.1
  obtain ⟨g, cap, he, hb, -⟩ := hq.form0 (by intro e; subst e; simp at hl; omega)
  have hq2 := hq
  rw [he] at hq2
  exact ⟨g, nth q j, (Value.slice.inj he).1, hb, hq2.cell j (by omega), hq2.frozen j⟩
set_option maxHeartbeats 8000000 in
theorem frameReads_any (w : World) (v : Value) (l : List UInt8) (h : Bytes w v l) (hz : l.length ≤ 1048576) (at_ : Int) (hat : I64 at_) :
    Calls Try.prog 5 #[v, iv at_] w fun e w' => e = .returned (.bool true) ∧ Upd [] w w' := by
  have H := Lib.hid h
  obtain ⟨a, cap, rfl, -, -, -⟩ := h
  go_enter Try.func5, Try.ntmps5
  go_wp2_with fail
  refine (roomyByte_any _ l 0 _ H.out (by omega)).mono ?_
  rintro e w1 ⟨v1, rfl, hr1⟩
  have HF1 := Lib.hid (hr1.rd (by unfold maxLen; omega))
  have HP1 := Lib.hid (hr1.pre (by unfold maxLen; omega))
  obtain ⟨rfl, -, hu1⟩ := hr1
  have HU1 := Lib.hid hu1
  have HL := Lib.hid (H.out.upd0 HU1.out)
  clear hu1
  have q0 : (0 : Int) ≤ l.length := by omega
  have q1 : (l.length : Int) ≤ ((l.length + 80 : Nat) : Int) := by omega
  have hc1 := fun W => run_cut_h (P := Try.prog) Try.underlying22 sizeByte (some ⟨w.heap.size, 0, none⟩) (l.length + 80) (l.length + 80) l.length (by omega) W
  go_wp2_with fail
  refine (fNext_any _ l at_ _ HP1.out (by omega) hat).mono ?_
  rintro e w2 ⟨v2, rfl, ho2, hu2⟩
  have HU2 := Lib.hid hu2
  have HO2 := Lib.hid ho2
  clear ho2 hu2
  go_wp2_with fail
  refine (rNext_any _ l at_ _ (HL.out.upd0 HU2.out) (by omega) hat).mono ?_
  rintro e w3 ⟨v3, rfl, ho3, hu3⟩
  have HU3 := Lib.hid (HU2.out.seq hu3)
  have HO3 := Lib.hid ho3
  replace HO2 := Lib.hid (HO2.out.upd hu3 (by simp))
  clear ho3 hu3 HU2
  generalize nextF l at_ = r at *
  obtain ⟨p, to, er⟩ := r
  dsimp only at HO2 HO3
  dsimp only
  go_wp2_with fail
  refine (fScan_any _ l _ (HP1.out.upd0 HU3.out) (by omega)).mono ?_
  rintro e w4 ⟨v4, rfl, ho4, hu4⟩
  have HU4 := Lib.hid (HU3.out.seq hu4)
  have HO4 := Lib.hid (ho4)
  replace HO2 := Lib.hid (HO2.out.upd hu4 (by simp))
  replace HO3 := Lib.hid (HO3.out.upd hu4 (by simp))
  have HS3 := Lib.hid HU3.out.size
  clear ho4 hu4 HU3
  go_wp2_with fail
  refine (rScan_any _ l _ (HL.out.upd0 HU4.out) (by omega)).mono ?_
  rintro e w5 ⟨v5, rfl, ho5, hu5⟩
  have HU5 := Lib.hid (HU4.out.seq hu5)
  have HO5 := Lib.hid (ho5)
  replace HO2 := Lib.hid (HO2.out.upd hu5 (by simp))
  replace HO3 := Lib.hid (HO3.out.upd hu5 (by simp))
  replace HO4 := Lib.hid (HO4.out.upd0 hu5)
  clear ho5 hu5 HU4
  generalize scanAll l = R at *
  obtain ⟨ls, en⟩ := R
  dsimp only at HO4 HO5
  dsimp only
  go_wp2_with fail
  refine (sameByte_ok _ _ p _ HO2.out.rd HO3.out.rd).mono ?_
  rintro e w6 ⟨rfl, n6, rfl⟩
  go_wp2_with fail
  have hd := (Upd.refl [] w5).drewN n6
  refine (lists_ok _ _ ls _ (HO4.out.rd.upd0 hd) (HO5.out.rd.upd0 hd)).mono ?_
  rintro e w6 ⟨rfl, hu6⟩
  have HU6 := Lib.hid (HU5.out.seq ((Upd.refl [] w5).drewN n6 |>.seq hu6))
  replace HO4 := Lib.hid (HO4.out.upd0 ((Upd.refl [] w5).drewN n6 |>.seq hu6))
  obtain ⟨vs, hheap, -⟩ := HO4.out.heaps
  have HH : Hid (Heaps w1.heap.size w6 v4 vs) := ⟨hheap.1.base_le HS3.out, fun j hj => by obtain ⟨q, hq⟩ := hheap.2 j hj; exact ⟨q, hq.base_le HS3.out⟩⟩
  clear hheap hu6 HO2 HO3 HO4 HO5 HU5 HS3
  generalize hbase : w1.heap.size = base at *
  replace hbase := Lib.hid hbase
  have HLen : ∃ ao ko, v4 = .slice ao vs.length ko := by obtain ⟨ao, ko, h, -⟩ := HH.out.1.rd; exact ⟨ao, ko, h⟩
  obtain ⟨ao, ko, rfl⟩ := HLen
  go_wp2_with fail
  go_loopw [17, 18] (fun i j wr => ∃ k : Nat, k ≤ vs.length ∧ i = .int .i64 (k : Int) ∧ Hid (Heaps base wr (.slice ao vs.length ko) vs) ∧ Hid (Upd [] w1 wr)) (fun i _ _ => vs.length - (intOf i).toNat)
  case atStart => exact ⟨0, Nat.zero_le _, rfl, HH, HU6⟩
  case round =>
    obtain ⟨k, hk, rfl, hh, hu⟩ := hrel
    by_cases hlt : k < vs.length
    · obtain ⟨b, off, kk, he, -⟩ := hh.out.row k hlt
      obtain ⟨rfl, -, -⟩ := Value.slice.inj he
      clear he
      obtain ⟨wo, rfl⟩ : ∃ x, x = wr := ⟨_, rfl⟩
      have hvl : vs.length ≤ 9223372036854775807 := by
        obtain ⟨a', cap', he, h1, h2, -⟩ := hh.out.1.rd
        unfold maxLen at h2; omega
      have hnk : (nth vs k).n ≤ 9223372036854775807 := by
        obtain ⟨q, hq⟩ := hh.out.2 k hlt
        obtain ⟨a', cap', he, h1, h2, -⟩ := hq.rd
        have := (Value.slice.inj he).2.1
        unfold maxLen at h2; omega
      go_wp2_with fail
      go_loopw [18] (fun j wr => ∃ m : Nat, m ≤ (nth vs k).n ∧ j = .int .i64 (m : Int) ∧ Hid (Heaps base wr (.slice (some ⟨b, off, none⟩) vs.length ko) vs) ∧ Hid (Upd [] w1 wr)) (fun j _ => (nth vs k).n - (intOf j).toNat)
      case atStart => exact ⟨0, Nat.zero_le _, rfl, hh, hu⟩
      case round =>
        obtain ⟨m, hm, rfl, hh2, hu2⟩ := hrel
        have hrow : wr.cell? ⟨b, off + k, none⟩ = some (slv (nth vs k)) := by
          obtain ⟨b', off', kk, he, hc⟩ := hh2.out.row k hlt
          have := (Value.slice.inj he).1
          injection this with this; injection this with e1 e2
          subst e1; subst e2; exact hc
        by_cases hml : m < (nth vs k).n
        · obtain ⟨gg, x, ha, hgb, hcb, hfz⟩ := hh2.out.byte k hlt m hml
          have HH3 := Lib.hid (hh2.out.poke k hlt gg m (by simp [blk, slv, ha]) (UInt8.ofNat (x.toNat ^^^ 255)))
          have HU3 : Hid (Upd [] w1 (wr.setCell ⟨gg, m, none⟩ (bv (UInt8.ofNat (x.toNat ^^^ 255))))) := hu2.out.setCell _ _ (.inr (by rw [hbase.out]; exact hgb))
          rw [← flip_byte] at HH3 HU3
          have HVS := Lib.hid (rfl : nth vs k = nth vs k)
          generalize hs : nth vs k = s at *
          obtain ⟨sa, sn, sk⟩ := s
          dsimp only [slv] at ha hm hml hnk hrow
          subst ha
          clear hh hh2 hu hu2 HVS
          replace hs := Lib.hid hs
          go_wp2_with fail
          go_roundw
          case rel => exact ⟨m + 1, by omega, by go_num, HH3, HU3⟩
          case measure => simp [intOf]; omega
        · have hml2 : m = (nth vs k).n := by omega
          generalize hs : nth vs k = s at *
          obtain ⟨sa, sn, sk⟩ := s
          dsimp only [slv] at hm hml hml2 hnk hrow
          subst hml2
          replace hs := Lib.hid hs
          go_wp2_with fail
          go_roundw
          case rel => exact ⟨k + 1, by omega, by go_num, hh2, hu2⟩
          case measure => simp [intOf]; omega
    · obtain rfl : k = vs.length := by omega
      go_wp2_with fail
      refine (intactByte_ok _ _ l 0 _ (HF1.out.upd0 hu.out) (HL.out.upd0 hu.out) (by omega)).mono ?_
      rintro e w7 ⟨rfl, n7, rfl⟩
      go_wp2_with fail
      refine (frameRuns_any _).mono ?_
      rintro e w9 ⟨rfl, hu9⟩
      have HU9 := Lib.hid (HU1.out.seq ((hu.out.drewN n7).seq hu9))
      clear hu9
      go_wp2_with fail
      go_ret
      exact ⟨rfl, HU9.out⟩
end Go.Proofs.Ythnmlifnlmdelaa
