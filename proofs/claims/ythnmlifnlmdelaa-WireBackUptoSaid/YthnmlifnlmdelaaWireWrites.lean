/- Any things written behind any bytes, which stay. -/
import Derived.Test.YthnmlifnlmdelaaWireItem
import Derived.Test.YthnmlifnlmdelaaWireRuns
import Derived.Test.YthnmlifnlmdelaaOpenItem
import Derived.Test.YthnmlifnlmdelaaRoomed
import Derived.Test.YthnmlifnlmdelaaOwnSet
import Derived.Deep.RegionHeld3
namespace Go.Proofs.Ythnmlifnlmdelaa
open Go.RowKit
set_option linter.unusedSimpArgs false
set_option linter.unusedVariables false
abbrev itV (x : Itm) : Value := .agg #[.int .i64 x.kd, .int .i64 x.n, .int .i64 x.mo, .string x.s, .bool x.f, slv x.lv]
def encIt (x : Itm) : List UInt8 := encItem x.kd x.n x.s x.f x.l
theorem put_any (W : World) (v : Value) (b : List UInt8) (h : Bytes W v b) (hz : b.length ≤ 40000000000) (x : Itm) (hx : ItGood W x 1048576) :
    Calls Try.prog 38 #[v, itV x] W fun e w' => PutSaid W (b ++ encIt x) e w' := by
  obtain ⟨kd, n, mo, s, f, lv, l⟩ := x
  obtain ⟨h1, h2, h3, h4, h5, h6, h7⟩ := hx
  dsimp only at *
  unfold encIt encItem
  dsimp only
  by_cases k1 : kd = 1
  · subst k1
    rw [if_pos (.inl rfl)]
    exact put1_any W v b h (by omega) n mo s f lv h2
  · by_cases k4 : kd = 4
    · subst k4
      rw [if_pos (.inr rfl)]
      exact put4_any W v b h (by omega) n mo s f lv h2
    · rw [if_neg (by omega)]
      by_cases k2 : kd = 2
      · subst k2
        rw [if_pos rfl]
        exact put2_any W v b h (by omega) n mo s f lv (by omega)
      · rw [if_neg k2]
        by_cases k3 : kd = 3
        · subst k3
          rw [if_pos rfl]
          exact put3_any W v b h (by omega) n mo s f lv
        · rw [if_neg k3]
          by_cases k5 : kd = 5
          · subst k5
            rw [if_pos rfl]
            exact put5_any W v b h hz n mo s f lv l h4 h5 (by omega)
          · rw [if_neg k5, List.append_nil]
            exact put0_any W v b h hz kd n mo s f lv k1 k2 k3 k4 k5
theorem ItGood.upd {w w' : World} {x : Itm} {b : Nat} (h : ItGood w x b) (hu : Upd [] w w') : ItGood w' x b := ⟨h.kd, h.n, h.mo, h.rd.upd0 hu, h.li, h.ss, h.ls⟩
theorem sub_byte (x : UInt8) : Value.int .u8 ((255 - (x.toNat : Int)) % 256) = bv (UInt8.ofNat (255 - x.toNat)) := by
  have h := x.toNat_lt
  have h3 : (UInt8.ofNat (255 - x.toNat)).toNat = 255 - x.toNat := by rw [UInt8.toNat_ofNat']; omega
  rw [bv, h3]; congr 1; omega
set_option maxHeartbeats 8000000 in
theorem wireWrites_any (w : World) (v : Value) (b : List UInt8) (h : Bytes w v b) (hz : b.length ≤ 1048576) (u : Value) (l : List Itm) (hl : RdN 6 itCells w u l) (hg : ∀ i, i < l.length → ItGood w (nth l i) 1048576) (hlz : l.length ≤ 1048576) :
    Calls Try.prog 9 #[v, u] w fun e w' => e = .returned (.bool true) ∧ Upd [] w w' := by
  have H := Lib.hid h
  obtain ⟨a, cap, rfl, -, -, -⟩ := h
  obtain ⟨a2, cap2, rfl, hlc2, hm2, hc2⟩ := hl
  have HC2 := Lib.hid hc2
  have HG := Lib.hid hg
  clear hc2 hg hm2 hlc2
  go_enter Try.func9, Try.ntmps9
  go_wp2_with fail
  refine (roomyByte_any _ b 91 _ H.out (by omega)).mono ?_
  rintro e w1 ⟨v1, rfl, hr1⟩
  have HF1 := Lib.hid (hr1.rd (by unfold maxLen; omega))
  have HP1 := Lib.hid (hr1.pre (by unfold maxLen; omega))
  obtain ⟨rfl, -, hu1⟩ := hr1
  have HU1 := Lib.hid hu1
  have HL := Lib.hid (H.out.upd0 HU1.out)
  clear hu1
  have HI1 : Hid (∀ W, Upd [] w1 W → Calls Try.prog 21 #[.slice (some ⟨w.heap.size, 0, none⟩) (b.length + 80) (b.length + 80), .slice a b.length cap, .int .u8 91] W fun e w' => e = .returned (.bool true) ∧ ∃ n, w' = W.drewN n) := fun W hw => intactByte_ok _ _ b 91 W (HF1.out.upd0 hw) (HL.out.upd0 hw) (by omega)
  have hc1 := fun W => run_cut_h (P := Try.prog) Try.underlying22 sizeByte (some ⟨w.heap.size, 0, none⟩) (b.length + 80) (b.length + 80) b.length (by omega) W
  go_wp2_with fail
  go_loopw [6, 7, 8, 9] (fun i p q k wr => ∃ n : Nat, i = .int .i64 (n : Int) ∧ n ≤ l.length ∧ n ≤ 100 ∧ Hid (Upd [] w1 wr)) (fun i _ _ _ _ => l.length - (intOf i).toNat)
  case atStart => exact ⟨0, rfl, Nat.zero_le _, Nat.zero_le _, Upd.refl _ _⟩
  case round =>
    obtain ⟨n, rfl, hn, hn2, hu⟩ := hrel
    by_cases hlt : n < l.length ∧ n < 100
    · obtain ⟨hl1, hl2⟩ := hlt
      have q0 : (0 : Int) ≤ b.length := by omega
      have q1 : (b.length : Int) ≤ ((b.length + 80 : Nat) : Int) := by omega
      obtain ⟨pb, po, rfl, hc⟩ := HC2.out (by intro e; rw [e] at hl1; simp at hl1)
      have hcs := fun j hj => hc n hl1 j hj
      have HIT := Lib.hid (((HG.out n hl1).upd HU1.out).upd hu.out)
      generalize nth l n = x at *
      obtain ⟨kd, nn, mo, s, f, lv, ll⟩ := x
      obtain ⟨la, ln, lk⟩ := lv
      obtain ⟨B, HBE⟩ : ∃ B, Hid (b ++ encIt ⟨kd, nn, mo, s, f, ⟨la, ln, lk⟩, ll⟩ = B) := ⟨_, rfl⟩
      have HC1 : Hid (∀ W, Upd [] wr W → Calls Try.prog 38 #[.slice (some ⟨w.heap.size, 0, none⟩) b.length (b.length + 80), .agg #[.int .i64 kd, .int .i64 nn, .int .i64 mo, .string s, .bool f, .slice la ln lk]] W fun e w' => PutSaid W B e w') := fun W hw => by
        rw [← HBE.out]; exact put_any W _ b (HP1.out.upd0 (hu.out.seq hw)) (by omega) ⟨kd, nn, mo, s, f, ⟨la, ln, lk⟩, ll⟩ (HIT.out.upd hw)
      have huw := HU1.out.seq hu.out
      have c0 : wr.cell? ⟨pb, po + n * 6, none⟩ = some (.int .i64 kd) := huw.cell (hcs 0 (by omega)) (by simp)
      have c1 : wr.cell? ⟨pb, po + n * 6 + 1, none⟩ = some (.int .i64 nn) := by rw [Nat.add_assoc]; exact huw.cell (hcs 1 (by omega)) (by simp)
      have c2 : wr.cell? ⟨pb, po + n * 6 + 2, none⟩ = some (.int .i64 mo) := by rw [Nat.add_assoc]; exact huw.cell (hcs 2 (by omega)) (by simp)
      have c3 : wr.cell? ⟨pb, po + n * 6 + 3, none⟩ = some (.string s) := by rw [Nat.add_assoc]; exact huw.cell (hcs 3 (by omega)) (by simp)
      have c4 : wr.cell? ⟨pb, po + n * 6 + 4, none⟩ = some (.bool f) := by rw [Nat.add_assoc]; exact huw.cell (hcs 4 (by omega)) (by simp)
      have c5 : wr.cell? ⟨pb, po + n * 6 + 5, none⟩ = some (.slice la ln lk) := by rw [Nat.add_assoc]; exact huw.cell (hcs 5 (by omega)) (by simp)
      clear hc hcs huw HIT
      go_wp2_with fail
      go_region_held3 (fun w' => w'.cell? ⟨pb, po + n * 6, none⟩ = some (.int .i64 kd) ∧ w'.cell? ⟨pb, po + n * 6 + 1, none⟩ = some (.int .i64 nn) ∧ w'.cell? ⟨pb, po + n * 6 + 2, none⟩ = some (.int .i64 mo) ∧ w'.cell? ⟨pb, po + n * 6 + 3, none⟩ = some (.string s) ∧ w'.cell? ⟨pb, po + n * 6 + 4, none⟩ = some (.bool f) ∧ w'.cell? ⟨pb, po + n * 6 + 5, none⟩ = some (.slice la ln lk)) (first | go_keep | exact ⟨hk3.cell c0 (by simp), hk3.cell c1 (by simp), hk3.cell c2 (by simp), hk3.cell c3 (by simp), hk3.cell c4 (by simp), hk3.cell c5 (by simp)⟩ | exact ⟨c0, c1, c2, c3, c4, c5⟩) (first
        | (go_at_call 38; (with_reducible refine (HC1.out _ (by repeat (first | with_reducible exact Upd.refl _ _ | with_reducible apply Upd.drew | with_reducible apply Upd.drewN))).mono ?_); rintro e w3 ⟨x3, y3, rfl, ho3, hoy3, hu3⟩; have hk3 : Upd [] wr w3 := Upd.seq (by repeat (first | with_reducible exact Upd.refl _ _ | with_reducible apply Upd.drew | with_reducible apply Upd.drewN)) hu3; dsimp only))
      obtain ⟨ap, kp, hvp, hkp, hkm, -⟩ := ho3.rd
      have hBm : B.length ≤ 9223372036854775807 := by unfold maxLen at hkm; omega
      clear hkm
      have hbase : w1.heap.size ≤ wr.heap.size := hu.out.size
      have HO3 : Hid (Own bv w1.heap.size 5 w3 x3 B) := ho3.base_le hbase
      have HOY := Lib.hid hoy3.rd
      have HU3 := Lib.hid (hu.out.seq hk3)
      clear ho3 hoy3 hu3 hk3 hbase c0 c1 c2 c3 c4 c5
      subst hvp
      go_wp2_with fail
      with_reducible refine (sameByte_ok _ _ B _ HO3.out.rd HOY.out).mono ?_
      rintro e w4 ⟨rfl, n4, rfl⟩
      have HO4 : Hid (Own bv w1.heap.size 5 (w3.drewN n4) (.slice ap B.length kp) B) := HO3.out
      have HU4 := Lib.hid (HU3.out.drewN n4)
      generalize w3.drewN n4 = w4 at *
      clear HO3 HOY HU3
      go_wp2_with fail
      go_loopw [9] (fun k wq => ∃ (m : Nat) (c : List UInt8), k = .int .i64 (m : Int) ∧ m ≤ B.length ∧ c.length = B.length ∧ Hid (Own bv w1.heap.size 5 wq (.slice ap B.length kp) c) ∧ Hid (Upd [] w1 wq)) (fun k _ => B.length - (intOf k).toNat)
      case atStart => exact ⟨0, B, rfl, Nat.zero_le _, rfl, HO4, HU4⟩
      case round =>
        obtain ⟨m, c, rfl, hm, hcl, ho, hu5⟩ := hrel
        clear HO4 HU4
        by_cases hlm : m < B.length
        · obtain ⟨gg, gc, hf, hgb, -⟩ := ho.out.form0 (by intro e; rw [e] at hcl; simp at hcl; omega)
          obtain ⟨rfl, -, -⟩ := Value.slice.inj hf
          have hcm := ho.out.cell m (by omega)
          have hfz := ho.out.frozen m
          have HS := Lib.hid (ho.out.set_ m (by omega) (UInt8.ofNat (255 - (nth c m).toNat)))
          have HSU := Lib.hid (hu5.out.setCell ⟨gg, m, none⟩ (bv (UInt8.ofNat (255 - (nth c m).toNat))) (.inr hgb))
          have hsb := sub_byte (nth c m)
          rw [← hsb] at HS HSU
          have hcl2 : (c.set m (UInt8.ofNat (255 - (nth c m).toNat))).length = B.length := by rw [List.length_set, hcl]
          generalize c.set m (UInt8.ofNat (255 - (nth c m).toNat)) = c2 at *
          generalize nth c m = y at *
          clear hf hsb
          have HCL := Lib.hid hcl
          have HCL2 := Lib.hid hcl2
          clear hcl hcl2
          go_wp2_with fail
          go_roundw
          case rel => exact ⟨m + 1, c2, by go_num, by omega, HCL2.out, HS, HSU⟩
          case measure => simp [intOf]; omega
        · obtain rfl : m = B.length := by omega
          clear hcl
          go_wp2_with fail
          go_roundw
          case rel => exact ⟨n + 1, by go_num, by omega, by omega, hu5⟩
          case measure => simp [intOf]; omega
    · have hx : ¬ (n : Int) < l.length ∨ ((n : Int) < l.length ∧ ¬ (n : Int) < 100) := by omega
      clear hlt
      rcases hx with hx | ⟨hx, hx2⟩
      all_goals go_wp2_with fail
      all_goals
        with_reducible refine (HI1.out _ hu.out).mono ?_
        rintro e w7 ⟨rfl, n7, rfl⟩
      all_goals go_wp2_with fail
      all_goals
        with_reducible refine (wireRuns_any _).mono ?_
        rintro e w9 ⟨rfl, hu9⟩
      all_goals go_wp2_with fail
      all_goals go_ret
      all_goals exact ⟨rfl, HU1.out.seq ((hu.out.drewN n7).seq hu9)⟩
end Go.Proofs.Ythnmlifnlmdelaa
