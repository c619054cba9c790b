/- Any bytes, asked for any things. -/
import Derived.Test.YthnmlifnlmdelaaWireAsk
import Derived.Test.YthnmlifnlmdelaaOpenItem
import Derived.Test.YthnmlifnlmdelaaRoomed
import Derived.Test.YthnmlifnlmdelaaOwnSet
namespace Go.Proofs.Ythnmlifnlmdelaa
open Go.RowKit
set_option linter.unusedSimpArgs false
set_option linter.unusedVariables false
theorem sub_byte' (x : UInt8) : Value.int .u8 ((255 - (x.toNat : Int)) % 256) = bv (UInt8.ofNat (255 - x.toNat)) := by
  have h := x.toNat_lt
  have h3 : (UInt8.ofNat (255 - x.toNat)).toNat = 255 - x.toNat := by rw [UInt8.toNat_ofNat']; omega
  rw [bv, h3]; congr 1; omega
theorem Roomed.own {w w' : World} {v : Value} {l : List UInt8} {m : UInt8} (h : Roomed bv 5 w w' v l m) (hz : l.length ≤ 1048576) : Own bv w.heap.size 5 w' v (l ++ List.replicate 80 m) := by
  obtain ⟨rfl, hb, _⟩ := h
  refine ⟨by simp, .inr ⟨w.heap.size, l.length + 80, _, by simp, Nat.le_refl _, hb, by simp, by unfold maxLen; omega, by simp, by simp [List.take_of_length_le]⟩⟩
theorem Two.old {w w' : World} {g1 g2 g : Nat} {v1 v2 : Value} {b1 b2 : Nat} {B : List UInt8} {s : RSt} (h : Two w g1 g2 v1 v2 b1 b2 B s) (hu : Upd [g] w w') (h1 : g < b1) (h2 : g < b2) : Two w' g1 g2 v1 v2 b1 b2 B s := ⟨h.p.old hu h1, h.d.old hu h2⟩
set_option maxRecDepth 20000 in
set_option maxHeartbeats 8000000 in
theorem wireReads_any (w : World) (v : Value) (b : List UInt8) (h : Bytes w v b) (hz : b.length ≤ 1048576) (u : Value) (l : List Itm) (hl : RdN 6 itCells w u l) (hg : ∀ i, i < l.length → ItGood w (nth l i) 1048576) (hlz : l.length ≤ 1048576) :
    Calls Try.prog 12 #[v, u] w fun e w' => e = .returned (.bool true) ∧ Upd [] w w' := by
  have H := Lib.hid h
  obtain ⟨a, cap, rfl, -, -, -⟩ := h
  obtain ⟨a2, cap2, rfl, hlc2, hm2, hc2⟩ := hl
  have HC2 := Lib.hid hc2
  have HG := Lib.hid hg
  clear hc2 hg hm2 hlc2
  go_enter Try.func12, Try.ntmps12
  go_wp2_with fail
  refine (roomyByte_any _ b 92 _ H.out (by omega)).mono ?_
  rintro e w1 ⟨v1, rfl, hr1⟩
  have HF1 := Lib.hid (hr1.rd (by unfold maxLen; omega))
  have HP1 := Lib.hid (hr1.pre (by unfold maxLen; omega))
  have HW1 := Lib.hid (hr1.own hz)
  have hgl1 : w.heap.size < w1.heap.size := hr1.2.1.lt
  obtain ⟨rfl, -, hu1⟩ := hr1
  have HU1 := Lib.hid hu1
  have HL := Lib.hid (H.out.upd0 HU1.out)
  clear hu1
  have hc1 := fun W => run_cut_h (P := Try.prog) Try.underlying22 sizeByte (some ⟨w.heap.size, 0, none⟩) (b.length + 80) (b.length + 80) b.length (by omega) W
  go_wp2_with fail
  with_reducible refine (rRead_any _ _ b HP1.out (by omega)).mono ?_
  rintro e w2 ⟨g1, r1, rfl, h2, hu2⟩
  have HU2 := Lib.hid (HU1.out.seq hu2)
  have HR2 := Lib.hid h2
  have hg1 := h2.gb
  have HK2 := Lib.hid hu2
  have hs12 := hu2.size
  clear h2 hu2
  go_wp2_with fail
  with_reducible refine (dRead_any _ _ b (HL.out.upd0 HK2.out) (by omega)).mono ?_
  rintro e w3 ⟨g2, r2, rfl, h3, hu3⟩
  have hg2 := h3.gb
  have HU3 := Lib.hid (HU2.out.seq hu3)
  have HK3 := Lib.hid (HK2.out.seq hu3)
  have HT3 : Hid (Two w3 g1 g2 r1 r2 w1.heap.size w2.heap.size b (0, 0)) := ⟨HR2.out.upd hu3, h3⟩
  clear h3 hu3 HR2
  go_wp2_with fail
  with_reducible refine (same_any _ HT3.out).mono ?_
  rintro e w4 ⟨rfl, hu4⟩
  have HK4 := Lib.hid (HK3.out.seq hu4)
  have HU4 := Lib.hid (HU3.out.seq hu4)
  have HT4 := Lib.hid (HT3.out.upd hu4)
  clear hu4 HT3
  go_wp2_with fail
  refine (intactByte_ok _ _ b 92 _ (HF1.out.upd0 HK4.out) (HL.out.upd0 HK4.out) (by omega)).mono ?_
  rintro e w5 ⟨rfl, n5, rfl⟩
  have HK5 := Lib.hid (HK4.out.drewN n5)
  have HU5 := Lib.hid (HU4.out.drewN n5)
  have HT5 := Lib.hid (HT4.out.upd ((Upd.refl [] w4).drewN n5))
  have HW5 := Lib.hid (HW1.out.upd HK5.out (by simp))
  have hwl : (b ++ List.replicate 80 (92 : UInt8)).length = b.length + 80 := by simp
  generalize w4.drewN n5 = w5 at *
  generalize b ++ List.replicate 80 (92 : UInt8) = fl at *
  clear HT4 HF1 HP1 HW1 HK4 HU4 HU3 HK3 HK2 HL hc1
  go_wp2_with fail
  go_loopw [8] (fun i wr => ∃ (m : Nat) (c : List UInt8), i = .int .i64 (m : Int) ∧ m ≤ b.length + 80 ∧ c.length = b.length + 80 ∧ Hid (Own bv w.heap.size 5 wr (.slice (some ⟨w.heap.size, 0, none⟩) (b.length + 80) (b.length + 80)) c) ∧ Hid (Two wr g1 g2 r1 r2 w1.heap.size w2.heap.size b (0, 0)) ∧ Hid (Upd [] w wr)) (fun i _ => b.length + 80 - (intOf i).toNat)
  case atStart => exact ⟨0, fl, rfl, Nat.zero_le _, hwl, HW5, HT5, HU5⟩
  case round =>
    obtain ⟨m, c, rfl, hm, hcl, ho, ht, hu⟩ := hrel
    clear HW5 HT5 HU5 hwl HK5
    by_cases hlm : m < b.length + 80
    · have hcm := ho.out.cell m (by omega)
      have hfz := ho.out.frozen m
      have HS := Lib.hid (ho.out.set_ m (by omega) (UInt8.ofNat (255 - (nth c m).toNat)))
      have HST := Lib.hid (ht.out.old (g := w.heap.size) ((Upd.refl [w.heap.size] wr).setCell ⟨w.heap.size, m, none⟩ (bv (UInt8.ofNat (255 - (nth c m).toNat))) (.inl (by simp))) hgl1 (by omega))
      have HSU := Lib.hid (hu.out.setCell ⟨w.heap.size, m, none⟩ (bv (UInt8.ofNat (255 - (nth c m).toNat))) (.inr (Nat.le_refl _)))
      have hsb := sub_byte' (nth c m)
      rw [← hsb] at HS HST HSU
      have hcl2 : (c.set m (UInt8.ofNat (255 - (nth c m).toNat))).length = b.length + 80 := by rw [List.length_set, hcl]
      generalize c.set m (UInt8.ofNat (255 - (nth c m).toNat)) = c2 at *
      generalize nth c m = y at *
      have HCL2 := Lib.hid hcl2
      have q1 : (m : Int) < ((b.length + 80 : Nat) : Int) := by omega
      clear hsb hcl hcl2
      go_wp2_with fail
      go_roundw
      case rel => exact ⟨m + 1, c2, by go_num, by omega, HCL2.out, HS, HST, HSU⟩
      case measure => simp [intOf]; omega
    · have q1 : ¬ (m : Int) < ((b.length + 80 : Nat) : Int) := by omega
      clear ho hcl
      go_wp2_with fail
      go_loopw [9] (fun i wq => ∃ (n : Nat) (z : RSt), i = .int .i64 (n : Int) ∧ n ≤ l.length ∧ n ≤ 200 ∧ Hid (Two wq g1 g2 r1 r2 w1.heap.size w2.heap.size b z) ∧ Hid (Upd [] w wq)) (fun i _ => l.length - (intOf i).toNat)
      case atStart => exact ⟨0, (0, 0), rfl, Nat.zero_le _, Nat.zero_le _, ht, hu⟩
      case round =>
        obtain ⟨n, z, rfl, hn, hn2, ht2, hu2⟩ := hrel
        have hgg : ∀ x ∈ [g1, g2], w.heap.size ≤ x := by intro x hx; simp at hx; omega
        by_cases hlt : n < l.length ∧ n < 200
        · obtain ⟨hl1, hl2⟩ := hlt
          obtain ⟨pb, po, rfl, hc⟩ := HC2.out (by intro e; rw [e] at hl1; simp at hl1)
          have hcs := fun j hj => hc n hl1 j hj
          have HMO := Lib.hid (HG.out n hl1).mo
          generalize nth l n = x at *
          obtain ⟨kd, nn, mo, s, f, lv, ll⟩ := x
          obtain ⟨la, ln, lk⟩ := lv
          have HASK := Lib.hid (ask_any wr kd nn mo s f ⟨la, ln, lk⟩ HMO.out ht2.out)
          dsimp only [slv] at HASK
          have c0 : wr.cell? ⟨pb, po + n * 6, none⟩ = some (.int .i64 kd) := hu2.out.cell (hcs 0 (by omega)) (by simp)
          have c1 : wr.cell? ⟨pb, po + n * 6 + 1, none⟩ = some (.int .i64 nn) := by rw [Nat.add_assoc]; exact hu2.out.cell (hcs 1 (by omega)) (by simp)
          have c2 : wr.cell? ⟨pb, po + n * 6 + 2, none⟩ = some (.int .i64 mo) := by rw [Nat.add_assoc]; exact hu2.out.cell (hcs 2 (by omega)) (by simp)
          have c3 : wr.cell? ⟨pb, po + n * 6 + 3, none⟩ = some (.string s) := by rw [Nat.add_assoc]; exact hu2.out.cell (hcs 3 (by omega)) (by simp)
          have c4 : wr.cell? ⟨pb, po + n * 6 + 4, none⟩ = some (.bool f) := by rw [Nat.add_assoc]; exact hu2.out.cell (hcs 4 (by omega)) (by simp)
          have c5 : wr.cell? ⟨pb, po + n * 6 + 5, none⟩ = some (.slice la ln lk) := by rw [Nat.add_assoc]; exact hu2.out.cell (hcs 5 (by omega)) (by simp)
          clear hc hcs HMO
          go_wp2_with fail
          with_reducible refine HASK.out.mono ?_
          rintro e w7 ⟨rfl, h7, hu7⟩
          have HU7 : Hid (Upd [] w w7) := hu2.out.trans hu7 (by simp) (fun x hx => .inr (hgg x hx))
          have HT7 := Lib.hid h7
          clear h7 hu7 c0 c1 c2 c3 c4 c5 HASK
          go_wp2_with fail
          with_reducible refine (same_any _ HT7.out).mono ?_
          rintro e w8 ⟨rfl, hu8⟩
          have HU8 := Lib.hid (HU7.out.seq hu8)
          have HT8 := Lib.hid (HT7.out.upd hu8)
          clear hu8
          go_wp2_with fail
          go_roundw
          case rel => exact ⟨n + 1, _, by go_num, by omega, by omega, HT8, HU8⟩
          case measure => simp [intOf]; omega
        · have hx : ¬ (n : Int) < l.length ∨ ((n : Int) < l.length ∧ ¬ (n : Int) < 200) := by omega
          clear hlt
          rcases hx with hx | ⟨hx, hx2⟩
          all_goals go_wp2_with fail
          all_goals
            with_reducible refine (rEnd_any _ ht2.out.p).mono ?_
            rintro e w7 ⟨rfl, h7, hu7⟩
            have hd7 := ht2.out.d.oth ht2.out.p (by decide) (by decide) hu7
          all_goals go_wp2_with fail
          all_goals
            with_reducible refine (dEnd_any _ hd7).mono ?_
            rintro e w8 ⟨rfl, h8, hu8⟩
            have hp8 := RdrAt.oth h7 hd7 (by decide) (by decide) hu8
          all_goals go_wp2_with fail
          all_goals
            with_reducible refine (same_any _ ⟨hp8, h8⟩).mono ?_
            rintro e w9 ⟨rfl, hu9⟩
          all_goals go_wp2_with fail
          all_goals
            with_reducible refine (wireRuns_any _).mono ?_
            rintro e w10 ⟨rfl, hu10⟩
          all_goals go_wp2_with fail
          all_goals go_ret
          all_goals exact ⟨rfl, ((hu2.out.trans (T := []) hu7 (by simp) (fun x hx => .inr (by simp at hx; rw [hx]; exact hgg _ (by simp)))).trans (T := []) hu8 (by simp) (fun x hx => .inr (by simp at hx; rw [hx]; exact hgg _ (by simp)))).seq (hu9.seq hu10)⟩
end Go.Proofs.Ythnmlifnlmdelaa
