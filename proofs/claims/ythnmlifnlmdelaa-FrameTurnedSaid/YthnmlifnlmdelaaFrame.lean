/- Chapter 23's inner functions: four bytes of a number, a number of four bytes. -/
import Derived.Test.YthnmlifnlmdelaaBookByte
import Derived.Test.YthnmlifnlmdelaaSumOn
import Derived.Test.YthnmlifnlmdelaaOrBits
import Derived.Test.YthnmlifnlmdelaaQuiet
import Derived.Test.YthnmlifnlmdelaaOwnLit
namespace Go.Proofs.Ythnmlifnlmdelaa
open Go.RowKit
set_option linter.unusedSimpArgs false
set_option linter.unusedVariables false
theorem fnFour_any (n : Nat) (hn : n < 4294967296) (w : World) :
    Calls Try.prog 46 #[.int .u32 (n : Int)] w fun e w' => e = .returned (.slice (some ⟨w.heap.size, 0, none⟩) 4 4) ∧ Own bv w.heap.size 5 w' (.slice (some ⟨w.heap.size, 0, none⟩) 4 4) (four n) ∧ Upd [] w w' := by
  go_enter Try.func46, Try.ntmps46
  go_wp2
  go_ret
  exact ⟨rfl, Own.lit (four n) (Nat.le_refl _) rfl (by simp [four]; omega) rfl rfl (by decide), (Upd.refl [] w).alloc _⟩
theorem fnNumber_any (v : Value) (l : List UInt8) (w : World) (h : Bytes w v l) (hl : 4 ≤ l.length) :
    Calls Try.prog 48 #[v] w fun e w' => e = .returned (.int .u32 (num4 l : Int)) ∧ Upd [] w w' := by
  obtain ⟨a, cap, rfl, hlc, hm, hc⟩ := h
  obtain ⟨b, off, rfl, hc'⟩ := hc (by intro h; simp [h] at hl)
  have c0 : w.cell? ⟨b, off, none⟩ = some (bv (nth l 0)) := hc' 0 (by omega)
  have c1 := hc' 1 (by omega)
  have c2 := hc' 2 (by omega)
  have c3 := hc' 3 (by omega)
  have HN : Hid (num4 l = (nth l 0).toNat * 16777216 + (nth l 1).toNat * 65536 + (nth l 2).toNat * 256 + (nth l 3).toNat) := rfl
  have hlt := num4_lt l
  generalize num4 l = N at *
  generalize nth l 0 = x0 at *
  generalize nth l 1 = x1 at *
  generalize nth l 2 = x2 at *
  generalize nth l 3 = x3 at *
  have q0 : (0 : Int) < l.length := by omega
  have q1 : (1 : Int) < l.length := by omega
  have q2 : (2 : Int) < l.length := by omega
  have q3 : (3 : Int) < l.length := by omega
  clear hc hc' hm hlc
  go_enter Try.func48, Try.ntmps48
  go_wp2_with fail
  go_quiet (fail)
  go_wp2_with fail
  go_ret
  exact ⟨congrArg (fun n => Ending.returned (.int .u32 n)) ((num4_walk x0 x1 x2 x3).trans (by rw [HN.out])), by first | exact (Upd.refl [] _).drewN _ | exact (Upd.refl [] _).drew⟩
theorem rfFour_any (n : Nat) (hn : n < 4294967296) (w : World) :
    Calls Try.prog 49 #[.int .i64 (n : Int)] w fun e w' => e = .returned (.slice (some ⟨w.heap.size, 0, none⟩) 4 4) ∧ Own bv w.heap.size 5 w' (.slice (some ⟨w.heap.size, 0, none⟩) 4 4) (four n) ∧ Upd [] w w' := by
  go_enter Try.func49, Try.ntmps49
  go_wp2
  go_ret
  exact ⟨rfl, Own.lit (four n) (Nat.le_refl _) rfl (by simp [four]; omega) rfl rfl (by decide), (Upd.refl [] w).alloc _⟩
/-- A frame of a payload. -/
def frameOf (p : List UInt8) : List UInt8 := four p.length ++ (four (sumOf [four p.length, p]).toNat ++ p)
def putF (b p : List UInt8) : List UInt8 := if p.length < 1 ∨ 262144 < p.length then b else b ++ frameOf p
set_option maxHeartbeats 1000000 in
theorem fPut_any (v u : Value) (l p : List UInt8) (w : World) (h : Bytes w v l) (h2 : Bytes w u p) (hz : l.length ≤ 1000000000) (hz2 : p.length ≤ 140737488351232) :
    Calls Try.prog 15 #[v, u] w fun e w' => ∃ x, e = .returned x ∧ Own bv w.heap.size 5 w' x (putF l p) ∧ Upd [] w w' := by
  have H := Lib.hid h
  have H2 := Lib.hid h2
  obtain ⟨a, cap, rfl, -, -, -⟩ := h
  obtain ⟨a2, cap2, rfl, -, -, -⟩ := h2
  have hmk := fun u => run_mk (P := Try.prog) Try.underlying22 infoByte rfl u 0 (l.length + 8 + p.length) 0 ((l.length : Int) + 8 + p.length) (by omega) (by omega) (by omega) (by omega) (by omega)
  by_cases hp : p.length < 1 ∨ 262144 < p.length
  · have HF : Hid (putF l p = l) := if_pos hp
    go_enter Try.func15, Try.ntmps15
    rcases hp with hp | hp
    all_goals go_wp2_with (at_builtin; refine wpList_app bv_one rfl (.tmp 14) (.tmp 15) rfl Try.underlying22 infoByte rfl (.slice (some ⟨w.heap.size, 0, none⟩) 0 (l.length + 8 + p.length)) (.slice a l.length cap) [] l rfl rfl (Own.room (base := w.heap.size) (Nat.le_refl _) rfl (by simp) (by unfold maxLen; omega)) (H.out.alloc _) (by simp; omega) (by unfold maxLen; simp; omega) (by simp) ?_; intro v1 w1 ho hu hbk; rw [List.nil_append] at ho; have HU : Hid (Upd [] w w1) := ((Upd.refl [] w).alloc _).trans hu (by simp) (by simp [blk]); have HO := Lib.hid ho; clear ho hu hbk)
    all_goals go_ret
    all_goals exact ⟨_, rfl, by rw [HF.out]; exact HO.out, HU.out⟩
  · have HF : Hid (putF l p = l ++ frameOf p) := if_neg hp
    have hp1 : 1 ≤ p.length := by omega
    have hp2 : p.length ≤ 262144 := by omega
    go_enter Try.func15, Try.ntmps15
    go_wp2_with (at_builtin; refine wpList_app bv_one rfl (.tmp 14) (.tmp 15) rfl Try.underlying22 infoByte rfl (.slice (some ⟨w.heap.size, 0, none⟩) 0 (l.length + 8 + p.length)) (.slice a l.length cap) [] l rfl rfl (Own.room (base := w.heap.size) (Nat.le_refl _) rfl (by simp) (by unfold maxLen; omega)) (H.out.alloc _) (by simp; omega) (by unfold maxLen; simp; omega) (by simp) ?_; intro v1 w1 ho hu hbk; rw [List.nil_append] at ho; have HU : Hid (Upd [] w w1) := ((Upd.refl [] w).alloc _).trans hu (by simp) (by simp [blk]); have HO := Lib.hid ho; clear ho hu hbk)
    refine (fnFour_any p.length (by omega) _).mono ?_
    rintro e w2 ⟨rfl, ho2, hu2⟩
    have HO1 := Lib.hid (HO.out.upd hu2 (by simp))
    have HO2 := Lib.hid ho2
    have HU2 := Lib.hid (HU.out.seq hu2)
    have HD : Hid (∀ x ∈ blk (.slice (some ⟨w1.heap.size, 0, none⟩) 4 4), x ∉ blk v1) := fun x h1 h2 => by have := (ho2.ge x h1).1; have := (HO.out.ge x h2).2; omega
    have hs2 := HU2.out.size
    have hq : (four p.length).length = 4 := rfl
    clear ho2 hu2 HU HO
    go_wp2_with (at_builtin; refine wpList_app bv_one rfl (.tmp 30) (.tmp 31) rfl Try.underlying22 infoByte rfl v1 (.slice (some ⟨w1.heap.size, 0, none⟩) 4 4) l (four p.length) rfl rfl HO1.out HO2.out.rd (by simp [hq]; omega) (by unfold maxLen; simp [hq]; omega) hs2 ?_; intro v3 w3 ho hu hbk; have HU3 : Hid (Upd [] w w3) := HU2.out.trans hu (by simp) (fun x hx => .inr (HO1.out.ge x hx).1); have HO3 := Lib.hid ho; have HB3 := Lib.hid hbk; have HV3 := Lib.hid (HO2.out.upd hu HD.out); clear ho hu hbk)
    have HP := Lib.hid (H2.out.upd0 HU3.out)
    refine (of_any _ [four p.length, p] _ (Parts.two _ _ (four p.length) p rfl rfl rfl rfl HV3.out.rd HP.out)).mono ?_
    rintro e w4 ⟨rfl, rfl⟩
    have HU4 := Lib.hid (HU3.out.alloc (.cells #[.slice (some ⟨w1.heap.size, 0, none⟩) 4 4, .slice a2 p.length cap2] 22))
    have HO4 := Lib.hid (HO3.out.upd ((Upd.refl [] w3).alloc (.cells #[.slice (some ⟨w1.heap.size, 0, none⟩) 4 4, .slice a2 p.length cap2] 22)) (by simp))
    have HS : Hid ((sumOf [four p.length, p]).toNat < 4294967296) := (sumOf [four p.length, p]).isLt
    have HF2 : Hid (frameOf p = four p.length ++ (four (sumOf [four p.length, p]).toNat ++ p)) := rfl
    generalize (w3.alloc (.cells #[.slice (some ⟨w1.heap.size, 0, none⟩) 4 4, .slice a2 p.length cap2] 22)) = w4 at *
    generalize (sumOf [four p.length, p]).toNat = sm at *
    have hq4 : (l ++ four p.length).length = l.length + 4 := by rw [List.length_append, hq]
    have HLE : Hid (l ++ four p.length ++ four sm ++ p = putF l p) := by unfold Hid; rw [HF.out, HF2.out]; simp only [List.append_assoc]
    generalize l ++ four p.length = l4 at *
    clear HV3 HP HU3 HO3 HB3 HD HO1 HO2 HU2 HF2 HF
    go_wp2_with fail
    refine (fnFour_any sm HS.out _).mono ?_
    rintro e w5 ⟨rfl, ho5, hu5⟩
    have HO5 := Lib.hid (HO4.out.upd hu5 (by simp))
    have HR5 := Lib.hid ho5.rd
    have HU5 := Lib.hid (HU4.out.seq hu5)
    have hs5 := HU5.out.size
    have hq5 : (four sm).length = 4 := rfl
    have hq6 : (l4 ++ four sm).length = l.length + 8 := by rw [List.length_append, hq5, hq4]
    generalize four sm = fs at *
    generalize (.slice (some ⟨w4.heap.size, 0, none⟩) 4 4 : Value) = v5 at *
    clear ho5 hu5 HU4 HO4
    go_wp2_with (first
      | (at_builtin; refine wpList_app bv_one rfl (.tmp 33) (.tmp 38) rfl Try.underlying22 infoByte rfl v3 v5 l4 fs rfl rfl HO5.out HR5.out (by simp [hq4, hq5]; omega) (by unfold maxLen; simp [hq4, hq5]; omega) hs5 ?_; intro v6 w6 ho hu hbk; have HU6 : Hid (Upd [] w w6) := HU5.out.trans hu (by simp) (fun x hx => .inr (HO5.out.ge x hx).1); have HO6 := Lib.hid ho; have HP6 := Lib.hid (H2.out.upd0 HU6.out); have hs6 := HU6.out.size; clear ho hu hbk; generalize l4 ++ fs = l6 at *)
      | (at_builtin; refine wpList_app bv_one rfl (.tmp 40) (.tmp 41) rfl Try.underlying22 infoByte rfl v6 (.slice a2 p.length cap2) l6 p rfl rfl HO6.out HP6.out (by simp [hq6]; omega) (by unfold maxLen; simp [hq6]; omega) hs6 ?_; intro v7 w7 ho hu hbk; have HU7 : Hid (Upd [] w w7) := HU6.out.trans hu (by simp) (fun x hx => .inr (HO6.out.ge x hx).1); have HO7 := Lib.hid ho; clear ho hu hbk))
    go_ret
    exact ⟨_, rfl, by rw [← HLE.out]; exact HO7.out, HU7.out⟩
end Go.Proofs.Ythnmlifnlmdelaa
