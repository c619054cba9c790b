/- Chapter 23's frame, the document's; lists of bytes held against one another. -/
import Derived.Test.YthnmlifnlmdelaaFrameScan
namespace Go.Proofs.Ythnmlifnlmdelaa
open Go.RowKit
set_option linter.unusedSimpArgs false
set_option linter.unusedVariables false
/-- Lists of bytes that a slice of slices shows. -/
def PartsS (w : World) (v : Value) (ls : List (List UInt8)) : Prop :=
  ∃ vs : List Sl, vs.length = ls.length ∧ Rd slv w v vs ∧ ∀ j, j < ls.length → Bytes w (slv (nth vs j)) (nth ls j)
theorem OwnParts.rd {base : Nat} {w : World} {v : Value} {ls : List (List UInt8)} (h : OwnParts base w v ls) : PartsS w v ls := by
  obtain ⟨vs, h1, h2, h3⟩ := h
  exact ⟨vs, h1, h2.rd, fun j hj => (h3 j hj).rd⟩
theorem PartsS.upd0 {w w' : World} {v : Value} {ls : List (List UInt8)} (h : PartsS w v ls) (hu : Upd [] w w') : PartsS w' v ls := by
  obtain ⟨vs, h1, h2, h3⟩ := h
  exact ⟨vs, h1, h2.upd0 hu, fun j hj => (h3 j hj).upd0 hu⟩
set_option maxHeartbeats 1000000 in
theorem lists_ok (v u : Value) (ls : List (List UInt8)) (w : World) (h : PartsS w v ls) (h2 : PartsS w u ls) :
    Calls Try.prog 24 #[v, u] w fun e w' => e = .returned (.bool true) ∧ Upd [] w w' := by
  obtain ⟨vs, hvl, ⟨a, cap, rfl, hlc, hm, hc⟩, hb⟩ := h
  obtain ⟨us, hul, ⟨a2, cap2, rfl, hlc2, hm2, hc2⟩, hb2⟩ := h2
  have hm' : ls.length ≤ 9223372036854775807 := by unfold maxLen at hm; omega
  have HB := Lib.hid hb
  have HB2 := Lib.hid hb2
  have HC := Lib.hid hc
  have HC2 := Lib.hid hc2
  have HVL := Lib.hid hvl
  have HUL := Lib.hid hul
  rw [hvl] at HC
  rw [hul] at HC2
  rw [hvl, hul]
  clear hm hlc hm2 hlc2 hb hb2 hc hc2 hvl hul
  go_enter Try.func24, Try.ntmps24
  go_wp2
  go_loopw [5] (fun i wr => ∃ k : Nat, k ≤ ls.length ∧ i = .int .i64 (k : Int) ∧ Hid (Upd [] w wr)) (fun i _ => ls.length - (intOf i).toNat)
  case atStart => exact ⟨0, Nat.zero_le _, rfl, Upd.refl _ _⟩
  case round =>
    obtain ⟨k, hk, rfl, hu⟩ := hrel
    by_cases hlt : k < ls.length
    · obtain ⟨b, off, rfl, hc⟩ := HC.out (by intro h; have := HVL.out; simp [h] at this; omega)
      obtain ⟨b2, off2, rfl, hc2⟩ := HC2.out (by intro h; have := HUL.out; simp [h] at this; omega)
      have ck : ∀ x : Wx wr, x.val.cell? ⟨b, off + k, none⟩ = some (slv (nth vs k)) := Wx.cell (hu.out.cell (hc k hlt) (by simp))
      have ck2 : ∀ x : Wx wr, x.val.cell? ⟨b2, off2 + k, none⟩ = some (slv (nth us k)) := Wx.cell (hu.out.cell (hc2 k hlt) (by simp))
      have HX := Lib.hid ((HB.out k hlt).upd0 hu.out)
      have HX2 := Lib.hid ((HB2.out k hlt).upd0 hu.out)
      generalize nth vs k = s1 at *
      generalize nth us k = s2 at *
      generalize nth ls k = lk at *
      clear hc hc2
      go_wp2_with fail
      refine wp_region_wx (by kernel_rfl) (by kernel_rfl) ?_
      repeat (go_big_quiet_step (first
        | (go_at_call 19; exact Wx.draws (sameByte_ok _ _ lk _ (HX.out.upd0 (Wx.prop _)) (HX2.out.upd0 (Wx.prop _))))
        | fail))
      refine wpQuiet_nil ?_
      rintro _ ⟨x, rfl⟩
      have HU2 := Lib.hid (hu.out.seq x.prop)
      generalize x.val = w2 at *
      clear hu
      go_wp2_with fail
      go_roundw
      case rel => exact ⟨k + 1, by omega, by go_num, HU2⟩
      case measure => simp [intOf]; omega
    · obtain rfl : k = ls.length := by omega
      go_wp2
      go_ret
      exact ⟨rfl, hu.out⟩
set_option maxHeartbeats 4000000 in
theorem rFrame_any (v u : Value) (l p : List UInt8) (w : World) (h : Bytes w v l) (h2 : Bytes w u p) (hz : l.length ≤ 1000000000) (hz2 : p.length ≤ 1000000000) :
    Calls Try.prog 20 #[v, u] w fun e w' => ∃ x, e = .returned x ∧ Own bv w.heap.size 5 w' x (putF l p) ∧ Upd [] w w' := by
  have H := Lib.hid h
  have H2 := Lib.hid h2
  obtain ⟨a, cap, rfl, -, -, -⟩ := h
  obtain ⟨a2, cap2, rfl, -, -, -⟩ := h2
  by_cases hp : p.length < 1 ∨ 262144 < p.length
  · have HF : Hid (putF l p = l) := if_pos hp
    go_enter Try.func20, Try.ntmps20
    rcases hp with hp | hp
    · obtain hp0 : p.length = 0 := by omega
      go_wp2_with (at_builtin; refine wpList_app bv_one rfl (.tmp 7) (.tmp 8) rfl Try.underlying22 infoByte rfl (.slice (some ⟨w.heap.size, 0, none⟩) 0 0) (.slice a l.length cap) [] l rfl rfl (Own.room (base := w.heap.size) (Nat.le_refl _) rfl rfl (Nat.zero_le _)) (H.out.alloc _) (by simp; omega) (by unfold maxLen; simp; omega) (by simp) ?_; intro v1 w1 ho hu hbk; rw [List.nil_append] at ho; have HU : Hid (Upd [] w w1) := ((Upd.refl [] w).alloc _).trans hu (by simp) (by simp [blk]); have HO := Lib.hid ho; clear ho hu hbk)
      go_ret
      exact ⟨_, rfl, by rw [HF.out]; exact HO.out, HU.out⟩
    · have hp1 : ((p.length : Int) == 0) = false := by rw [beq_eq_false_iff_ne]; omega
      have hp2 : (262144 : Int) < p.length := by omega
      go_wp2_with (at_builtin; refine wpList_app bv_one rfl (.tmp 7) (.tmp 8) rfl Try.underlying22 infoByte rfl (.slice (some ⟨w.heap.size, 0, none⟩) 0 0) (.slice a l.length cap) [] l rfl rfl (Own.room (base := w.heap.size) (Nat.le_refl _) rfl rfl (Nat.zero_le _)) (H.out.alloc _) (by simp; omega) (by unfold maxLen; simp; omega) (by simp) ?_; intro v1 w1 ho hu hbk; rw [List.nil_append] at ho; have HU : Hid (Upd [] w w1) := ((Upd.refl [] w).alloc _).trans hu (by simp) (by simp [blk]); have HO := Lib.hid ho; clear ho hu hbk)
      go_ret
      exact ⟨_, rfl, by rw [HF.out]; exact HO.out, HU.out⟩
  · have HF : Hid (putF l p = l ++ frameOf p) := if_neg hp
    have hp1 : ((p.length : Int) == 0) = false := by rw [beq_eq_false_iff_ne]; omega
    have hp2 : ¬ (262144 : Int) < p.length := by omega
    have hp3 : p.length ≤ 262144 := by omega
    go_enter Try.func20, Try.ntmps20
    go_wp2_with (at_builtin; refine wpList_app bv_one rfl (.tmp 7) (.tmp 8) rfl Try.underlying22 infoByte rfl (.slice (some ⟨w.heap.size, 0, none⟩) 0 0) (.slice a l.length cap) [] l rfl rfl (Own.room (base := w.heap.size) (Nat.le_refl _) rfl rfl (Nat.zero_le _)) (H.out.alloc _) (by simp; omega) (by unfold maxLen; simp; omega) (by simp) ?_; intro v1 w1 ho hu hbk; rw [List.nil_append] at ho; have HU : Hid (Upd [] w w1) := ((Upd.refl [] w).alloc _).trans hu (by simp) (by simp [blk]); have HO := Lib.hid ho; clear ho hu hbk)
    refine (rfFour_any p.length (by omega) _).mono ?_
    rintro e w2 ⟨rfl, ho2, hu2⟩
    have HO1 := Lib.hid (HO.out.upd hu2 (by simp))
    have HO2 := Lib.hid ho2
    have HU2 := Lib.hid (HU.out.seq hu2)
    have HD : Hid (∀ x ∈ blk (.slice (some ⟨w1.heap.size, 0, none⟩) 4 4), x ∉ blk v1) := fun x h1 h2 => by have := (ho2.ge x h1).1; have := (HO.out.ge x h2).2; omega
    have hs2 := HU2.out.size
    have hq : (four p.length).length = 4 := rfl
    clear ho2 hu2 HU HO
    go_wp2_with (at_builtin; refine wpList_app bv_one rfl (.tmp 22) (.tmp 23) rfl Try.underlying22 infoByte rfl v1 (.slice (some ⟨w1.heap.size, 0, none⟩) 4 4) l (four p.length) rfl rfl HO1.out HO2.out.rd (by simp [hq]; omega) (by unfold maxLen; simp [hq]; omega) hs2 ?_; intro v3 w3 ho hu hbk; have HU3 : Hid (Upd [] w w3) := HU2.out.trans hu (by simp) (fun x hx => .inr (HO1.out.ge x hx).1); have HO3 := Lib.hid ho; have HV3 := Lib.hid (HO2.out.upd hu HD.out); clear ho hu hbk)
    have HP := Lib.hid (H2.out.upd0 HU3.out)
    refine (refOn_any 0#32 _ _ _ HV3.out.rd).mono ?_
    rintro e w4 ⟨rfl, rfl⟩
    go_wp2_with fail
    refine (refOn_any _ _ _ _ HP.out).mono ?_
    rintro e w4 ⟨rfl, rfl⟩
    have HS : Hid ((sumOf [four p.length, p]).toNat < 4294967296) := (sumOf [four p.length, p]).isLt
    have HF2 : Hid (frameOf p = four p.length ++ (four (sumOf [four p.length, p]).toNat ++ p)) := rfl
    have HSE : sumOn (sumOn 0#32 (four p.length)) p = sumOf [four p.length, p] := rfl
    rw [HSE]
    generalize (sumOf [four p.length, p]).toNat = sm at *
    have hq4 : (l ++ four p.length).length = l.length + 4 := by rw [List.length_append, hq]
    have HLE : Hid (l ++ four p.length ++ four sm ++ p = putF l p) := by unfold Hid; rw [HF.out, HF2.out]; simp only [List.append_assoc]
    generalize l ++ four p.length = l4 at *
    clear HV3 HP HD HO1 HO2 HU2 HF2 HF HSE
    have hsm := HS.out
    go_wp2_with fail
    refine (rfFour_any sm HS.out _).mono ?_
    rintro e w5 ⟨rfl, ho5, hu5⟩
    have HO5 := Lib.hid (HO3.out.upd hu5 (by simp))
    have HR5 := Lib.hid ho5.rd
    have HU5 := Lib.hid (HU3.out.seq hu5)
    have hs5 := HU5.out.size
    have hq5 : (four sm).length = 4 := rfl
    have hq6 : (l4 ++ four sm).length = l.length + 8 := by rw [List.length_append, hq5, hq4]
    generalize four sm = fs at *
    generalize (.slice (some ⟨w3.heap.size, 0, none⟩) 4 4 : Value) = v5 at *
    clear ho5 hu5 HU3 HO3
    go_wp2_with (first
      | (at_builtin; refine wpList_app bv_one rfl (.tmp 24) (.tmp 30) rfl Try.underlying22 infoByte rfl v3 v5 l4 fs rfl rfl HO5.out HR5.out (by simp [hq4, hq5]; omega) (by unfold maxLen; simp [hq4, hq5]; omega) hs5 ?_; intro v6 w6 ho hu hbk; have HU6 : Hid (Upd [] w w6) := HU5.out.trans hu (by simp) (fun x hx => .inr (HO5.out.ge x hx).1); have HO6 := Lib.hid ho; have HP6 := Lib.hid (H2.out.upd0 HU6.out); have hs6 := HU6.out.size; clear ho hu hbk; generalize l4 ++ fs = l6 at *)
      | (at_builtin; refine wpList_app bv_one rfl (.tmp 32) (.tmp 33) rfl Try.underlying22 infoByte rfl v6 (.slice a2 p.length cap2) l6 p rfl rfl HO6.out HP6.out (by simp [hq6]; omega) (by unfold maxLen; simp [hq6]; omega) hs6 ?_; intro v7 w7 ho hu hbk; have HU7 : Hid (Upd [] w w7) := HU6.out.trans hu (by simp) (fun x hx => .inr (HO6.out.ge x hx).1); have HO7 := Lib.hid ho; clear ho hu hbk))
    go_ret
    exact ⟨_, rfl, by rw [← HLE.out]; exact HO7.out, HU7.out⟩
end Go.Proofs.Ythnmlifnlmdelaa
