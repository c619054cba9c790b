/- The walk of SparseFresh. -/
import Derived.Test.YtfpibngdpooedaaSparsePlays
import Derived.StillTailTactics
import Derived.Deep.RegionHeld3
import Derived.Deep.DrawnRows
import Derived.Test.YtfpibngdpooedaaWithin
namespace Go.Proofs.Ytfpibngdpooedaa
open Go.RowKit
set_option linter.unusedSimpArgs false
set_option linter.unusedVariables false
def Apart (F G : List Nat) : Prop := ∀ x ∈ F, x ∉ G
theorem Apart.next {F F' G : List Nat} {w : World} (h : Apart F G) (hf : ∀ y ∈ F', y ∈ F ∨ w.heap.size ≤ y) (hg : ∀ x ∈ G, x < w.heap.size) : Apart F' G := fun x hx hG => by
  rcases hf x hx with q | q
  · exact h x q hG
  · have := hg x hG; omega
theorem Apart.symm {F G : List Nat} (h : Apart F G) : Apart G F := fun x hx hF => h x hF hx
/-- Both sets of SparseFresh. -/
def Two (base : Nat) (w : World) (g g2 : Nat) (n : Nat) (it it2 : List (Nat × Int)) : Prop :=
  ∃ F F2, RowsInt base w g F n it ∧ RowsInt base w g2 F2 n it2 ∧ Apart F F2 ∧ g ≠ g2
theorem rows_g {base : Nat} {w : World} {g n : Nat} {F : List Nat} {it : List (Nat × Int)} (h : RowsInt base w g F n it) : g ∈ F := by
  obtain ⟨gp, lv, pl, hS, rfl, hI, hn⟩ := h
  simp [spF]
theorem Two.upd0 {base : Nat} {w w' : World} {g g2 n : Nat} {it it2 : List (Nat × Int)} (h : Two base w g g2 n it it2) (hu : Upd [] w w') : Two base w' g g2 n it it2 := by
  obtain ⟨F, F2, h1, h2, h3, h4⟩ := h
  exact ⟨F, F2, h1.upd0 hu, h2.upd0 hu, h3, h4⟩
section
variable {base : Nat} {g g2 n : Nat} {it it2 : List (Nat × Int)} {w W : World}
theorem two_add1 (i x : Int) (r : Bool) (it' : List (Nat × Int)) (hi : I64 i) (hs : Two base w g g2 n it it2) (hit : it.length ≤ 5000) (h : rCan n it i = r ∧ rAdd n it i x = it') :
    Calls Try.prog 25 #[.pointer (some ⟨g, 0, none⟩), .int .i64 i, iv x] w fun e w' => e = .returned (.bool r) ∧ Two base w' g g2 n it' it2 ∧ (∀ p u, base ≤ w.heap.size → w.cell? p = some u → p.block < base → w'.cell? p = some u) ∧ ∃ S, Upd S w w' ∧ ∀ y ∈ S, base ≤ y := by
  obtain ⟨F, F2, h1, h2, h3, h4⟩ := hs
  refine (rAddInt_eq w i x r it' hi h1 hit h).mono ?_
  rintro e w' ⟨he, F', hs', hu, hf⟩
  refine ⟨he, ⟨F', F2, hs', h2.upd hu (fun y hy hF => h3 y hF hy), h3.next hf (fun y hy => (h2.lt y hy).2), h4⟩, fun p u _ hp hb => hu.cell hp (fun hF => by have := (h1.lt _ hF).1; omega), F, hu, fun y hy => (h1.lt y hy).1⟩
theorem two_add2 (i x : Int) (r : Bool) (it' : List (Nat × Int)) (hi : I64 i) (hs : Two base w g g2 n it it2) (hit : it2.length ≤ 5000) (h : rCan n it2 i = r ∧ rAdd n it2 i x = it') :
    Calls Try.prog 25 #[.pointer (some ⟨g2, 0, none⟩), .int .i64 i, iv x] w fun e w' => e = .returned (.bool r) ∧ Two base w' g g2 n it it' ∧ (∀ p u, base ≤ w.heap.size → w.cell? p = some u → p.block < base → w'.cell? p = some u) ∧ ∃ S, Upd S w w' ∧ ∀ y ∈ S, base ≤ y := by
  obtain ⟨F, F2, h1, h2, h3, h4⟩ := hs
  refine (rAddInt_eq w i x r it' hi h2 hit h).mono ?_
  rintro e w' ⟨he, F', hs', hu, hf⟩
  refine ⟨he, ⟨F, F', h1.upd hu (fun y hy hF => h3 y hy hF), hs', ((h3.symm).next hf (fun y hy => (h1.lt y hy).2)).symm, h4⟩, fun p u _ hp hb => hu.cell hp (fun hF => by have := (h2.lt _ hF).1; omega), F2, hu, fun y hy => (h2.lt y hy).1⟩
end
section
variable {base : Nat} {g g2 n : Nat} {it it2 : List (Nat × Int)} {w W : World}
theorem two_clear1 (hs : Two base w g g2 n it it2) (hit : it.length ≤ 5000) :
    Calls Try.prog 26 #[.pointer (some ⟨g, 0, none⟩)] w fun e w' => e = .returned (.tuple #[]) ∧ Two base w' g g2 n [] it2 ∧ ∃ S, Upd S w w' ∧ ∀ y ∈ S, base ≤ y := by
  obtain ⟨F, F2, h1, h2, h3, h4⟩ := hs
  refine (rClearInt_any w h1 hit).mono ?_
  rintro e w' ⟨he, F', hs', hu, hf⟩
  exact ⟨he, ⟨F', F2, hs', h2.upd hu (fun y hy hF => h3 y hF hy), fun y hy hG => h3 y (hf y hy) hG, h4⟩, F, hu, fun y hy => (h1.lt y hy).1⟩
theorem two_has1 (i : Int) (r : Bool) (hi : I64 i) (hs : Two base w g g2 n it it2) (hit : it.length ≤ 5000) (h : rHas it i = r) :
    Calls Try.prog 27 #[.pointer (some ⟨g, 0, none⟩), .int .i64 i] w fun e w' => e = .returned (.bool r) ∧ w = w' := by
  obtain ⟨F, F2, h1, h2, h3, h4⟩ := hs
  exact rHasInt_eq w i r hi h1 hit h
theorem two_has2 (i : Int) (r : Bool) (hi : I64 i) (hs : Two base w g g2 n it it2) (hit : it2.length ≤ 5000) (h : rHas it2 i = r) :
    Calls Try.prog 27 #[.pointer (some ⟨g2, 0, none⟩), .int .i64 i] w fun e w' => e = .returned (.bool r) ∧ w = w' := by
  obtain ⟨F, F2, h1, h2, h3, h4⟩ := hs
  exact rHasInt_eq w i r hi h2 hit h
theorem two_len1 (hs : Two base w g g2 n it it2) :
    Calls Try.prog 22 #[.pointer (some ⟨g, 0, none⟩)] w fun e w' => e = .returned (.int .i64 (it.length : Int)) ∧ w = w' := by
  obtain ⟨F, F2, h1, h2, h3, h4⟩ := hs
  exact rLenInt_any w h1
theorem two_len2 (hs : Two base w g g2 n it it2) :
    Calls Try.prog 22 #[.pointer (some ⟨g2, 0, none⟩)] w fun e w' => e = .returned (.int .i64 (it2.length : Int)) ∧ w = w' := by
  obtain ⟨F, F2, h1, h2, h3, h4⟩ := hs
  exact rLenInt_any w h2
theorem two_get1 (i x : Int) (r : Bool) (hi : I64 i) (hs : Two base w g g2 n it it2) (hit : it.length ≤ 5000) (h : rGet it 0 i = (x, r)) :
    Calls Try.prog 28 #[.pointer (some ⟨g, 0, none⟩), .int .i64 i] w fun e w' => e = .returned (.tuple #[iv x, .bool r]) ∧ Upd [] w w' := by
  obtain ⟨F, F2, h1, h2, h3, h4⟩ := hs
  exact rGetInt_eq w i x r hi h1 hit h
theorem two_get2 (i x : Int) (r : Bool) (hi : I64 i) (hs : Two base w g g2 n it it2) (hit : it2.length ≤ 5000) (h : rGet it2 0 i = (x, r)) :
    Calls Try.prog 28 #[.pointer (some ⟨g2, 0, none⟩), .int .i64 i] w fun e w' => e = .returned (.tuple #[iv x, .bool r]) ∧ Upd [] w w' := by
  obtain ⟨F, F2, h1, h2, h3, h4⟩ := hs
  exact rGetInt_eq w i x r hi h2 hit h
theorem two_at1 (i m x : Int) (r : Bool) (hi : I64 i) (hs : Two base w g g2 n it it2) (hit : it.length ≤ 5000) (h : rAt it 0 i = (m, x, r)) :
    Calls Try.prog 29 #[.pointer (some ⟨g, 0, none⟩), .int .i64 i] w fun e w' => e = .returned (.tuple #[.int .i64 m, iv x, .bool r]) ∧ Upd [] w w' := by
  obtain ⟨F, F2, h1, h2, h3, h4⟩ := hs
  exact rAtInt_eq w i m x r hi h1 hit h
theorem two_at2 (i m x : Int) (r : Bool) (hi : I64 i) (hs : Two base w g g2 n it it2) (hit : it2.length ≤ 5000) (h : rAt it2 0 i = (m, x, r)) :
    Calls Try.prog 29 #[.pointer (some ⟨g2, 0, none⟩), .int .i64 i] w fun e w' => e = .returned (.tuple #[.int .i64 m, iv x, .bool r]) ∧ Upd [] w w' := by
  obtain ⟨F, F2, h1, h2, h3, h4⟩ := hs
  exact rAtInt_eq w i m x r hi h2 hit h
end
/-- Both sets, and a block beside them. -/
def TwoB (base : Nat) (w : World) (g g2 : Nat) (n : Nat) (it it2 : List (Nat × Int)) (B : Nat) : Prop :=
  ∃ F F2, RowsInt base w g F n it ∧ RowsInt base w g2 F2 n it2 ∧ Apart F F2 ∧ g ≠ g2 ∧ B ∉ F ∧ B ∉ F2 ∧ B < w.heap.size
theorem TwoB.two {base : Nat} {w : World} {g g2 n : Nat} {it it2 : List (Nat × Int)} {B : Nat} (h : TwoB base w g g2 n it it2 B) : Two base w g g2 n it it2 := by
  obtain ⟨F, F2, h1, h2, h3, h4, _⟩ := h
  exact ⟨F, F2, h1, h2, h3, h4⟩
theorem TwoB.upd0 {base : Nat} {w w' : World} {g g2 n : Nat} {it it2 : List (Nat × Int)} {B : Nat} (h : TwoB base w g g2 n it it2 B) (hu : Upd [] w w') : TwoB base w' g g2 n it it2 B := by
  obtain ⟨F, F2, h1, h2, h3, h4, h5, h6, h7⟩ := h
  exact ⟨F, F2, h1.upd0 hu, h2.upd0 hu, h3, h4, h5, h6, Nat.lt_of_lt_of_le h7 hu.size⟩
theorem Two.box {base : Nat} {w : World} {g g2 n : Nat} {it it2 : List (Nat × Int)} (h : Two base w g g2 n it it2) (o : Obj) : TwoB base (w.alloc o) g g2 n it it2 w.heap.size := by
  obtain ⟨F, F2, h1, h2, h3, h4⟩ := h
  exact ⟨F, F2, h1.upd0 ((Upd.refl [] w).alloc o), h2.upd0 ((Upd.refl [] w).alloc o), h3, h4, fun h => by have := (h1.lt _ h).2; omega, fun h => by have := (h2.lt _ h).2; omega, by simp⟩
section
variable {base : Nat} {g g2 n B : Nat} {it it2 : List (Nat × Int)} {w W : World}
theorem twob_add1 (i x : Int) (r : Bool) (it' : List (Nat × Int)) (hi : I64 i) (hs : TwoB base w g g2 n it it2 B) (hit : it.length ≤ 5000) (h : rCan n it i = r ∧ rAdd n it i x = it') :
    Calls Try.prog 25 #[.pointer (some ⟨g, 0, none⟩), .int .i64 i, .int .i64 x] w fun e w' => e = .returned (.bool r) ∧ TwoB base w' g g2 n it' it2 B ∧ (∀ k u, w.cell? ⟨B, k, none⟩ = some u → w'.cell? ⟨B, k, none⟩ = some u) ∧ ∃ S, Upd S w w' ∧ ∀ y ∈ S, base ≤ y := by
  obtain ⟨F, F2, h1, h2, h3, h4, h5, h6, h7⟩ := hs
  refine (rAddInt_eq w i x r it' hi h1 hit h).mono ?_
  rintro e w' ⟨he, F', hs', hu, hf⟩
  refine ⟨he, ⟨F', F2, hs', h2.upd hu (fun y hy hF => h3 y hF hy), h3.next hf (fun y hy => (h2.lt y hy).2), h4, fun hB => ?_, h6, Nat.lt_of_lt_of_le h7 hu.size⟩, fun k u hp => hu.cell hp h5, F, hu, fun y hy => (h1.lt y hy).1⟩
  rcases hf B hB with q | q
  · exact h5 q
  · omega
theorem twob_add2 (i x : Int) (r : Bool) (it' : List (Nat × Int)) (hi : I64 i) (hs : TwoB base w g g2 n it it2 B) (hit : it2.length ≤ 5000) (h : rCan n it2 i = r ∧ rAdd n it2 i x = it') :
    Calls Try.prog 25 #[.pointer (some ⟨g2, 0, none⟩), .int .i64 i, .int .i64 x] w fun e w' => e = .returned (.bool r) ∧ TwoB base w' g g2 n it it' B ∧ (∀ k u, w.cell? ⟨B, k, none⟩ = some u → w'.cell? ⟨B, k, none⟩ = some u) ∧ ∃ S, Upd S w w' ∧ ∀ y ∈ S, base ≤ y := by
  obtain ⟨F, F2, h1, h2, h3, h4, h5, h6, h7⟩ := hs
  refine (rAddInt_eq w i x r it' hi h2 hit h).mono ?_
  rintro e w' ⟨he, F', hs', hu, hf⟩
  refine ⟨he, ⟨F, F', h1.upd hu (fun y hy hF => h3 y hy hF), hs', ((h3.symm).next hf (fun y hy => (h1.lt y hy).2)).symm, h4, h5, fun hB => ?_, Nat.lt_of_lt_of_le h7 hu.size⟩, fun k u hp => hu.cell hp h6, F2, hu, fun y hy => (h2.lt y hy).1⟩
  rcases hf B hB with q | q
  · exact h6 q
  · omega
end
theorem Two.next {base : Nat} {W w w' : World} {g g2 n : Nat} {it it2 : List (Nat × Int)} (hb : W.heap.size = base) (hu : Upd [] W w) (h : ∃ S, Upd S w w' ∧ ∀ y ∈ S, base ≤ y) : Upd [] W w' := by
  obtain ⟨S, h1, h2⟩ := h
  exact hu.trans h1 (by simp) (fun y hy => .inr (by rw [hb]; exact h2 y hy))
set_option maxRecDepth 20000 in
set_option maxHeartbeats 4000000 in
theorem sparseFresh_any (w : World) (n0 : Int) (hn0 : I64 n0) (v1 : Value) (bef : List (Int × Int × Int)) (hl1 : ∀ a ∈ bef, Ask64 a) (h1 : RdN 3 askCells w v1 bef) (v2 : Value) (asks : List (Int × Int × Int)) (hl2 : ∀ a ∈ asks, Ask64 a) (h2 : RdN 3 askCells w v2 asks) :
    Calls Try.prog 5 #[.int .i64 n0, v1, v2] w fun e w' => e = .returned (.bool true) ∧ Upd [] w w' := by
  obtain ⟨a1, cap1, rfl, hlc1, hcm1, hcell1⟩ := h1
  obtain ⟨a2, cap2, rfl, hlc2, hcm2, hcell2⟩ := h2
  have hm1 : bef.length ≤ 9223372036854775807 := by unfold maxLen at hcm1; omega
  have hm2 : asks.length ≤ 9223372036854775807 := by unfold maxLen at hcm2; omega
  have HC1 := Lib.hid hcell1
  have HC2 := Lib.hid hcell2
  have HL1 := Lib.hid hl1
  have HL2 := Lib.hid hl2
  have HN0 := Lib.hid hn0
  clear hlc1 hcm1 hcell1 hlc2 hcm2 hcell2 hl1 hl2 hn0
  go_enter Try.func5, Try.ntmps5
  go_wp2_with fail
  refine (within_any _ _ _ _ HN0.out (by omega) (by omega) (by omega)).mono ?_
  rintro e w' ⟨rfl, rfl⟩
  obtain ⟨n1, n2⟩ := within_in n0 0 60 (by omega)
  generalize within n0 0 60 = n at *
  obtain ⟨n, rfl⟩ := Int.eq_ofNat_of_zero_le n1
  go_wp2_with fail
  refine (rNewInt_eq _ n n rfl (by omega)).mono ?_
  rintro e wa ⟨g, F1, rfl, hs1, hu1⟩
  have HS1 := Lib.hid hs1
  have HU1 := Lib.hid hu1
  clear hs1 hu1
  go_wp2_with fail
  refine (rNewInt_eq _ n n rfl (by omega)).mono ?_
  rintro e wb ⟨g2, F2, rfl, hs2, hu2⟩
  have HT : Hid (Two w.heap.size wb g g2 n [] []) := by
    have hsz := HU1.out.size
    have hb : RowsInt w.heap.size wb g2 F2 n [] := by
      obtain ⟨gp, lv, pl, hS, hF, hI, hn⟩ := hs2
      exact ⟨gp, lv, pl, ⟨hS.set_, hS.place, hS.things.base_le hsz, by have := hS.gb; omega, by have := hS.gpb; omega, hS.ne1, hS.ne2, hS.ne3, hS.le⟩, hF, hI, hn⟩
    refine ⟨F1, F2, HS1.out.upd0 hu2, hb, fun x hx hy => ?_, fun e => ?_⟩
    · have := (HS1.out.lt x hx).2; have := (hs2.lt x hy).1; omega
    · have h1 := (HS1.out.lt g (rows_g HS1.out)).2; have h2 := (hs2.lt g2 (rows_g hs2)).1; omega
  have HU2 := Lib.hid (HU1.out.seq hu2)
  clear hs2 hu2 HS1 HU1
  go_wp2_with fail
  go_loopw [11] (fun i wr => ∃ (k : Nat) (it : List (Nat × Int)), k ≤ 100 ∧ k ≤ bef.length ∧ i = .int .i64 k ∧ it.length ≤ k ∧ Hid (Two w.heap.size wr g g2 n it []) ∧ Hid (Upd [] w wr)) (fun i _ => 100 - (intOf i).toNat)
  case atStart => exact ⟨0, [], by omega, by omega, rfl, by simp, HT, HU2⟩
  case round =>
    obtain ⟨k, it, hk, hkl, rfl, hit, hs, hu⟩ := hrel
    clear HT HU2
    by_cases hgo : k < bef.length ∧ k < 100
    · obtain ⟨hlt, h2⟩ := hgo
      obtain ⟨b, off, rfl, hc⟩ := HC1.out (by intro h; simp [h] at hlt)
      have c1 : wr.cell? ⟨b, off + k * 3 + 1, none⟩ = some (iv (nth bef k).2.1) := hu.out.cell (hc k hlt 1 (by omega)) (by simp)
      have c2 : wr.cell? ⟨b, off + k * 3 + 2, none⟩ = some (iv (nth bef k).2.2) := hu.out.cell (hc k hlt 2 (by omega)) (by simp)
      obtain ⟨k1, k2, k3⟩ := HL1.out (nth bef k) (by rw [nth_get bef k hlt]; exact List.getElem_mem hlt)
      have K2 := Lib.hid k2
      generalize (nth bef k).2.1 = ai at *
      generalize (nth bef k).2.2 = ax at *
      have q0 : (0 : Int) ≤ k := by omega
      have q1 : (k : Int) < bef.length := by omega
      have q2 : (k : Int) < 100 := by omega
      clear hc k1 k2 k3
      go_wp2_with fail
      go_still_tail 11, (by kernel_rfl)
      change wpList _ _ _ _ _ wr.drew
      have hs' : Hid (Two w.heap.size wr.drew g g2 n it []) := hs.out.upd0 ((Upd.refl [] wr).drew)
      have hu' : Hid (Upd [] w wr.drew) := hu.out.drew
      generalize wr.drew = wd at *
      clear hs hu
      go_wp2_with fail
      refine (two_add1 ai ax _ _ K2.out hs'.out (by omega) ⟨rfl, rfl⟩).mono ?_
      rintro e w3 ⟨rfl, ht3, -, hS3⟩
      have HT3 := Lib.hid ht3
      have HU3 := Lib.hid (Two.next (g := g) (g2 := g2) (n := n) (it := it) (it2 := it) rfl hu'.out hS3)
      have hlen := rAdd_len n it ai ax
      generalize rAdd n it ai ax = it' at *
      clear ht3 hS3
      go_wp2_with fail
      go_roundw
      case rel => exact ⟨k + 1, it', by omega, by omega, by go_num, by omega, HT3, HU3⟩
      case measure => simp [intOf]; omega
    · have hex : (k = 100 ∧ k < bef.length) ∨ (k = bef.length ∧ k ≤ 100) := by omega
      clear hgo
      rcases hex with ⟨rfl, hx⟩ | ⟨rfl, hx⟩
      all_goals
        go_wp2_with fail
        refine (two_clear1 hs.out (by omega)).mono ?_
        rintro e wc ⟨rfl, ht3, hS3⟩
        have HT3 := Lib.hid ht3
        have HU3 := Lib.hid (Two.next (g := g) (g2 := g2) (n := n) (it := it) (it2 := it) rfl hu.out hS3)
        clear ht3 hS3 hs hu hit hk hkl hx
        go_wp2_with fail
        go_loopw [12] (fun i wr => ∃ (k : Nat) (it : List (Nat × Int)), k ≤ 100 ∧ k ≤ asks.length ∧ i = .int .i64 k ∧ it.length ≤ k ∧ Hid (Two w.heap.size wr g g2 n it it) ∧ Hid (Upd [] w wr)) (fun i _ => 100 - (intOf i).toNat)
        case atStart => exact ⟨0, [], by omega, by omega, rfl, by simp, HT3, HU3⟩
        case round =>
          obtain ⟨k, it, hk, hkl, rfl, hit, hs, hu⟩ := hrel
          clear HT3 HU3
          by_cases hgo : k < asks.length ∧ k < 100
          · obtain ⟨hlt, h2⟩ := hgo
            obtain ⟨b, off, rfl, hc⟩ := HC2.out (by intro h; simp [h] at hlt)
            have c0 : wr.cell? ⟨b, off + k * 3, none⟩ = some (iv (nth asks k).1) := hu.out.cell (hc k hlt 0 (by omega)) (by simp)
            have c1 : wr.cell? ⟨b, off + k * 3 + 1, none⟩ = some (iv (nth asks k).2.1) := hu.out.cell (hc k hlt 1 (by omega)) (by simp)
            have c2 : wr.cell? ⟨b, off + k * 3 + 2, none⟩ = some (iv (nth asks k).2.2) := hu.out.cell (hc k hlt 2 (by omega)) (by simp)
            obtain ⟨k1, k2, k3⟩ := HL2.out (nth asks k) (by rw [nth_get asks k hlt]; exact List.getElem_mem hlt)
            have K2 := Lib.hid k2
            have K3 := Lib.hid k3
            generalize (nth asks k).1 = kd at *
            generalize (nth asks k).2.1 = ai at *
            generalize (nth asks k).2.2 = ax at *
            have q0 : (0 : Int) ≤ k := by omega
            have q1 : (k : Int) < asks.length := by omega
            have q2 : (k : Int) < 100 := by omega
            clear hc k1 k2 k3
            go_wp2_with fail
            have HB : Hid (TwoB w.heap.size (wr.alloc (Obj.cells #[Value.int IntKind.i64 kd, Value.int IntKind.i64 ai, Value.int IntKind.i64 ax] 42)) g g2 n it it wr.heap.size) := hs.out.box _
            have HUB := Lib.hid (hu.out.alloc (Obj.cells #[Value.int IntKind.i64 kd, Value.int IntKind.i64 ai, Value.int IntKind.i64 ax] 42))
            have d1 : (wr.alloc (Obj.cells #[Value.int IntKind.i64 kd, Value.int IntKind.i64 ai, Value.int IntKind.i64 ax] 42)).cell? ⟨wr.heap.size, 1, none⟩ = some (.int .i64 ai) := by go_simp
            have d2 : (wr.alloc (Obj.cells #[Value.int IntKind.i64 kd, Value.int IntKind.i64 ai, Value.int IntKind.i64 ax] 42)).cell? ⟨wr.heap.size, 2, none⟩ = some (.int .i64 ax) := by go_simp
            generalize wr.alloc (Obj.cells #[Value.int IntKind.i64 kd, Value.int IntKind.i64 ai, Value.int IntKind.i64 ax] 42) = wd at *
            clear c0 c1 c2 hs hu
            have hlen := rAdd_len n it ai ax
            generalize hr : rCan n it ai = r at *
            generalize hr2 : rAdd n it ai ax = it' at *
            have HR : Hid (rCan n it ai = r ∧ rAdd n it ai ax = it') := ⟨hr, hr2⟩
            generalize hr3 : rHas it' ax = r3 at *
            have HR3 := Lib.hid hr3
            clear hr hr2 hr3
            have hgg : Hid (g ≠ g2) := by obtain ⟨F, F2, _, _, _, h4, _⟩ := HB.out; exact h4
            go_region_held3 (fun w' => w'.cell? ⟨wr.heap.size, 1, none⟩ = some (.int .i64 ai) ∧ w'.cell? ⟨wr.heap.size, 2, none⟩ = some (.int .i64 ax)) (first | go_keep | exact hk2 | exact hk1)
              (first
                | (go_at_call_of 25 (Value.pointer (some ⟨g, 0, none⟩)); refine (twob_add1 ai ax r it' K2.out (HB.out.upd0 ((Upd.refl [] wd).drew)) (by omega) HR.out).mono ?_; rintro e w10 ⟨rfl, ht10, hk10, hS10⟩; have hk1 := And.intro (hk10 1 _ d1) (hk10 2 _ d2); have HT10 := Lib.hid ht10; have HU10 : Hid (Upd [] w w10) := Two.next (g := g) (g2 := g2) (n := n) (it := it) (it2 := it) rfl (HUB.out.drew) hS10; clear ht10 hk10 hS10; dsimp only)
                | (go_at_call_of 25 (Value.pointer (some ⟨g2, 0, none⟩)); refine (twob_add2 ai ax r it' K2.out HT10.out (by omega) HR.out).mono ?_; rintro e w11 ⟨rfl, ht11, hk11, hS11⟩; have hk2 := And.intro (hk11 1 _ hk1.1) (hk11 2 _ hk1.2); have HT11 := Lib.hid ht11; have HU11 : Hid (Upd [] w w11) := Two.next (g := g) (g2 := g2) (n := n) (it := it) (it2 := it) rfl HU10.out hS11; clear ht11 hk11 hS11; dsimp only)
                | (go_at_call_of 27 (Value.pointer (some ⟨g, 0, none⟩)); refine (two_has1 ax r3 K3.out HT11.out.two (by omega) HR3.out).mono ?_; rintro e w' ⟨rfl, rfl⟩; dsimp only)
                | (go_at_call_of 27 (Value.pointer (some ⟨g2, 0, none⟩)); refine (two_has2 ax r3 K3.out HT11.out.two (by omega) HR3.out).mono ?_; rintro e w' ⟨rfl, rfl⟩; dsimp only)
                | (go_at_call_of 22 (Value.pointer (some ⟨g, 0, none⟩)); refine (two_len1 HT11.out.two).mono ?_; rintro e w' ⟨rfl, rfl⟩; dsimp only)
                | (go_at_call_of 22 (Value.pointer (some ⟨g2, 0, none⟩)); refine (two_len2 HT11.out.two).mono ?_; rintro e w' ⟨rfl, rfl⟩; dsimp only))
            go_wp2_with fail
            obtain ⟨x, pb, hgx⟩ : ∃ x pb, rGet it' 0 ax = (x, pb) := ⟨_, _, rfl⟩
            have HGX := Lib.hid hgx
            clear hgx
            refine (two_get1 ax x pb K3.out HT11.out.two (by omega) HGX.out).mono ?_
            rintro e w12 ⟨rfl, hu12⟩
            have HT12 := Lib.hid (HT11.out.upd0 hu12)
            have HU12 := Lib.hid (HU11.out.seq hu12)
            have hk3 := And.intro (hu12.cell hk2.1 (by simp)) (hu12.cell hk2.2 (by simp))
            clear hu12 hk2 hk1
            go_wp2_with fail
            refine (two_get2 ax x pb K3.out HT12.out.two (by omega) HGX.out).mono ?_
            rintro e w13 ⟨rfl, hu13⟩
            have HT13 := Lib.hid (HT12.out.upd0 hu13).two
            have HU13 := Lib.hid (HU12.out.seq hu13)
            clear hu13 hk3
            cases pb
            all_goals
              go_wp2_with fail
              go_roundw
              case rel => exact ⟨k + 1, it', by omega, by omega, by go_num, by omega, HT13, HU13⟩
              case measure => simp [intOf]; omega
          · have hex2 : (k = 100 ∧ k < asks.length) ∨ (k = asks.length ∧ k ≤ 100) := by omega
            clear hgo
            have hit100 : it.length ≤ 100 := by omega
            rcases hex2 with ⟨rfl, hx⟩ | ⟨rfl, hx⟩
            all_goals
              go_wp2_with fail
              clear hit hk hkl hx
              go_loopw [18] (fun i wr => ∃ j : Nat, j ≤ it.length + 2 ∧ i = .int .i64 ((j : Int) - 1) ∧ Hid (Two w.heap.size wr g g2 n it it) ∧ Hid (Upd [] w wr)) (fun i _ => it.length + 3 - (intOf i + 1).toNat)
              case atStart => exact ⟨0, by omega, rfl, hs, hu⟩
              case round =>
                rename_i sI wI
                obtain ⟨j, hj, rfl, hs2, hu2⟩ := hrel
                clear hs hu
                have q5 : -1 ≤ (j : Int) - 1 := by omega
                go_wp2_with fail
                refine (two_len2 hs2.out).mono ?_
                rintro e w' ⟨rfl, rfl⟩
                by_cases hjl : j ≤ it.length + 1
                · have q6 : (j : Int) - 1 ≤ it.length := by omega
                  obtain ⟨m, x, pb, hgx⟩ : ∃ m x pb, rAt it 0 ((j : Int) - 1) = (m, x, pb) := ⟨_, _, _, rfl⟩
                  have HGX := Lib.hid hgx
                  have HJ : Hid (I64 ((j : Int) - 1)) := i64_small _ (by omega) (by omega)
                  clear hgx
                  go_wp2_with fail
                  refine (two_at1 _ m x pb HJ.out hs2.out (by omega) HGX.out).mono ?_
                  rintro e w14 ⟨rfl, hu14⟩
                  have HT14 := Lib.hid (hs2.out.upd0 hu14)
                  have HU14 := Lib.hid (hu2.out.seq hu14)
                  clear hu14
                  go_wp2_with fail
                  refine (two_at2 _ m x pb HJ.out HT14.out (by omega) HGX.out).mono ?_
                  rintro e w15 ⟨rfl, hu15⟩
                  have HT15 := Lib.hid (HT14.out.upd0 hu15)
                  have HU15 := Lib.hid (HU14.out.seq hu15)
                  clear hu15
                  cases pb
                  all_goals
                    go_wp2_with fail
                    go_roundw
                    case rel => exact ⟨j + 1, by omega, by go_num, HT15, HU15⟩
                    case measure => simp only [intOf]; omega
                · have q6 : (it.length : Int) < (j : Int) - 1 := by omega
                  go_wp2_with fail
                  refine (sparseRuns_any _).mono ?_
                  rintro e w9 ⟨rfl, hu9⟩
                  go_wp2_with fail
                  go_ret
                  exact ⟨rfl, hu2.out.seq hu9⟩
end Go.Proofs.Ytfpibngdpooedaa
