/- Chapter 23's Next. -/
import Derived.Test.YthnmlifnlmdelaaFrame
import Derived.Test.YthnmlifnlmdelaaOpen
import Derived.Test.YthnmlifnlmdelaaSliceCut
import Derived.Deep.RegionHeld3
namespace Go.Proofs.Ythnmlifnlmdelaa
open Go.RowKit
set_option linter.unusedSimpArgs false
set_option linter.unusedVariables false
/-- What Next tells: the payload, where it ends, the error; r: what stands at the place k. -/
def nextR (r : List UInt8) (k : Nat) : List UInt8 × Int × Int :=
  if r.length < 8 then ([], 0, 3)
  else if num4 r = 0 ∨ 262144 < num4 r then ([], 0, 4)
  else if r.length - 8 < num4 r then ([], 0, 3)
  else if (sumOf [r.take 4, (r.drop 8).take (num4 r)]).toNat ≠ num4 (r.drop 4) then ([], 0, 6)
  else ((r.drop 8).take (num4 r), (((k + 8 + num4 r : Nat) : Nat) : Int), 0)
def nextF (b : List UInt8) (at_ : Int) : List UInt8 × Int × Int :=
  if at_ < 0 ∨ (b.length : Int) < at_ then ([], 0, 1) else nextR (b.drop at_.toNat) at_.toNat
def NextSaid (w : World) (r : List UInt8 × Int × Int) (e : Ending) (w' : World) : Prop :=
  ∃ v, e = .returned (.tuple #[v, .int .i64 r.2.1, .int .i64 r.2.2]) ∧ Own bv w.heap.size 5 w' v r.1 ∧ Upd [] w w'
set_option maxHeartbeats 8000000 in
theorem fNext_any (v : Value) (l : List UInt8) (at_ : Int) (w : World) (h : Bytes w v l) (hz : l.length ≤ 1000000000) (hat : I64 at_) :
    Calls Try.prog 16 #[v, .int .i64 at_] w fun e w' => NextSaid w (nextF l at_) e w' := by
  have H := Lib.hid h
  obtain ⟨a, cap, rfl, hlc, hcm, -⟩ := h
  obtain ⟨ha1, ha2⟩ := hat
  by_cases hp : at_ < 0 ∨ (l.length : Int) < at_
  · have HF : Hid (nextF l at_ = ([], 0, 1)) := if_pos hp
    generalize nextF l at_ = r at *
    go_enter Try.func16, Try.ntmps16
    rcases hp with hp | hp
    all_goals go_wp2_with fail
    all_goals go_ret3
    all_goals exact ⟨_, by rw [HF.out]; rfl, by rw [HF.out]; exact Own.nil _ _ _, Upd.refl _ _⟩
  · obtain ⟨k, rfl⟩ := Int.eq_ofNat_of_zero_le (show 0 ≤ at_ by omega)
    have HN : Hid (nextF l (k : Int) = nextR (l.drop k) k) := by unfold Hid nextF; rw [if_neg hp]; rfl
    have hk : k ≤ l.length := by omega
    have hk1 : (k : Int) ≤ l.length := by omega
    have hk2 : (l.length : Int) ≤ cap := by omega
    have hk3 : (k : Int) ≤ cap := by omega
    have HR := Lib.hid (H.out.drop k hk)
    have hcut := run_cut (P := Try.prog) Try.underlying22 sizeByte a l.length cap k hk
    simp only [Nat.mul_one] at hcut
    generalize (if cap = k then a else a.map (·.add k)) = ak at *
    have hrl : (l.drop k).length = l.length - k := List.length_drop
    clear hp
    have q0 : ¬ (k : Int) < 0 := by omega
    have q1 : ¬ (l.length : Int) < k := by omega
    generalize nextF l (k : Int) = r at *
    generalize l.drop k = rl at *
    have hn : ((l.length - k : Nat) : Int) = (l.length : Int) - k := by omega
    have hckn : l.length - k ≤ cap - k := by omega
    have hck9 : cap - k ≤ maxLen := by omega
    rw [← hrl] at HR hcut hckn
    generalize cap - k = ck at *
    by_cases hs : rl.length < 8
    · have HG : Hid (r = ([], 0, 3)) := HN.out.trans (if_pos (by omega))
      have q2 : (rl.length : Int) < 8 := by omega
      clear HN hn hrl
      go_enter Try.func16, Try.ntmps16
      go_wp2_with fail
      go_ret3
      exact ⟨_, by rw [HG.out]; rfl, by rw [HG.out]; exact Own.nil _ _ _, Upd.refl _ _⟩
    · have HN := Lib.hid (HN.out.trans (if_neg (by omega)))
      have q2 : ¬ (rl.length : Int) < 8 := by omega
      have hNL := num4_lt rl
      have HNUM := fun (W : World) (hu : Upd [] w W) => Lib.hid (fnNumber_any _ _ _ (HR.out.upd0 hu) (by omega))
      generalize num4 rl = n at *
      by_cases hf : n = 0 ∨ 262144 < n
      · have HG : Hid (r = ([], 0, 4)) := HN.out.trans (if_pos hf)
        clear HN hn hrl
        go_enter Try.func16, Try.ntmps16
        go_wp2_with fail
        refine (HNUM _ (Upd.refl _ _)).out.mono ?_
        rintro e w1 ⟨rfl, hu1⟩
        rcases hf with rfl | hf
        · go_wp2_with fail
          go_ret3
          exact ⟨_, by rw [HG.out]; rfl, by rw [HG.out]; exact Own.nil _ _ _, hu1⟩
        · have hf2 : ((n : Int) == 0) = false := by rw [beq_eq_false_iff_ne]; omega
          have hf3 : (262144 : Int) < n := by omega
          go_wp2_with fail
          go_ret3
          exact ⟨_, by rw [HG.out]; rfl, by rw [HG.out]; exact Own.nil _ _ _, hu1⟩
      · have HN := Lib.hid (HN.out.trans (if_neg hf))
        have hf2 : ((n : Int) == 0) = false := by rw [beq_eq_false_iff_ne]; omega
        have hf3 : ¬ (262144 : Int) < n := by omega
        by_cases hb : rl.length - 8 < n
        · have HG : Hid (r = ([], 0, 3)) := HN.out.trans (if_pos hb)
          have hb2 : (rl.length : Int) - 8 < n := by omega
          clear HN hn hrl
          go_enter Try.func16, Try.ntmps16
          go_wp2_with fail
          refine (HNUM _ (Upd.refl _ _)).out.mono ?_
          rintro e w1 ⟨rfl, hu1⟩
          go_wp2_with fail
          go_ret3
          exact ⟨_, by rw [HG.out]; rfl, by rw [HG.out]; exact Own.nil _ _ _, hu1⟩
        · have HN := Lib.hid (HN.out.trans (if_neg hb))
          have hb2 : ¬ (rl.length : Int) - 8 < n := by omega
          have hc2 := fun W => run_cut_lh (P := Try.prog) Try.underlying22 sizeByte ak rl.length ck 8 (8 + n) (by omega) (by omega) W 8 (8 + (n : Int)) rfl (by omega)
          have hc3 : ∀ W, (Instr.slice 22 (.slice ak rl.length ck) none (some (.int .i64 4)) none).run Try.prog W = .ok (.slice ak 4 ck) W := run_cut_h (P := Try.prog) Try.underlying22 sizeByte ak rl.length ck 4 (by omega)
          have hc4 : ∀ W, (Instr.slice 22 (.slice ak rl.length ck) (some (.int .i64 4)) none none).run Try.prog W = .ok (.slice (if ck = 4 then ak else ak.map (·.add 4)) (rl.length - 4) (ck - 4)) W := run_cut (P := Try.prog) Try.underlying22 sizeByte ak rl.length ck 4 (by omega)
          simp only [Nat.mul_one, Nat.add_sub_cancel_left] at hc2
          have HP := Lib.hid (HR.out.sub 8 (8 + n) (by omega) (by omega))
          rw [Nat.add_sub_cancel_left] at HP
          have HT := Lib.hid (HR.out.take 4 (by omega))
          have HD := Lib.hid (HR.out.drop 4 (by omega))
          have hpl : ((rl.drop 8).take n).length = n := by rw [List.length_take, List.length_drop]; omega
          have HNUM2 := fun (W : World) (hu : Upd [] w W) => Lib.hid (fnNumber_any _ _ _ (HD.out.upd0 hu) (by rw [List.length_drop]; omega))
          generalize (if ck = 8 then ak else ak.map (·.add 8)) = a8 at *
          generalize (if ck = 4 then ak else ak.map (·.add 4)) = a4 at *
          generalize (rl.drop 8).take n = pl at *
          generalize rl.take 4 = r4 at *
          have hNL4 := num4_lt (rl.drop 4)
          generalize num4 (rl.drop 4) = m at *
          have hrb : rl.length ≤ 1000000000 := by omega
          clear hrl hn hcm hlc
          go_enter Try.func16, Try.ntmps16
          go_wp2_with fail
          refine (HNUM _ (Upd.refl _ _)).out.mono ?_
          rintro e w1 ⟨rfl, hu1⟩
          have HU1 := Lib.hid hu1
          clear hu1
          by_cases hsm : (sumOf [r4, pl]).toNat = m
          · have HG : Hid (r = (pl, ((k + 8 + n : Nat) : Int), 0)) := HN.out.trans (if_neg (fun h => h hsm))
            have hm2 : (((sumOf [r4, pl]).toNat : Int) != (m : Int)) = false := by rw [bne_eq_false_iff_eq]; omega
            clear HN hsm
            go_wp2_with fail
            go_region_held3 (fun w' => True) (trivial) (first
              | (go_at_call 47; refine (of_any _ [r4, pl] _ (Parts.drew (Parts.two _ _ r4 pl rfl rfl rfl rfl (HT.out.upd0 HU1.out) (HP.out.upd0 HU1.out)))).mono ?_; rintro e w' ⟨rfl, rfl⟩; dsimp only)
              | (go_at_call 48; refine (HNUM2 _ (by repeat (first | exact HU1.out | apply Upd.drew | apply Upd.drewN | apply Upd.alloc))).out.mono ?_; rintro e w2 ⟨rfl, hu2⟩; dsimp only))
            have HU2 := Lib.hid ((HU1.out.alloc _).drew.seq hu2)
            have HP2 := Lib.hid (HP.out.upd0 HU2.out)
            have hs2 := HU2.out.size
            clear hu2 HU1
            go_wp2_with (at_builtin; refine wpList_app bv_one rfl (.const (.slice none 0 0)) (.tmp 52) rfl Try.underlying22 infoByte rfl (.slice none 0 0) _ [] pl rfl rfl (Own.nil w.heap.size _ _) HP2.out (by simp; omega) (by unfold maxLen; simp; omega) hs2 ?_; intro v3 w3 ho hu hbk; rw [List.nil_append] at ho; have HU3 : Hid (Upd [] w w3) := HU2.out.trans hu (by simp) (by simp [blk]); have HO3 := Lib.hid ho; clear ho hu hbk)
            go_ret3
            exact ⟨_, by rw [HG.out]; simp only [Int.natCast_add]; rfl, by rw [HG.out]; exact HO3.out, HU3.out⟩
          · have HG : Hid (r = ([], 0, 6)) := HN.out.trans (if_pos hsm)
            have hm2 : (((sumOf [r4, pl]).toNat : Int) != (m : Int)) = true := by rw [bne_iff_ne]; omega
            clear HN hsm
            go_wp2_with fail
            go_region_held3 (fun w' => True) (trivial) (first
              | (go_at_call 47; refine (of_any _ [r4, pl] _ (Parts.drew (Parts.two _ _ r4 pl rfl rfl rfl rfl (HT.out.upd0 HU1.out) (HP.out.upd0 HU1.out)))).mono ?_; rintro e w' ⟨rfl, rfl⟩; dsimp only)
              | (go_at_call 48; refine (HNUM2 _ (by repeat (first | exact HU1.out | apply Upd.drew | apply Upd.drewN | apply Upd.alloc))).out.mono ?_; rintro e w2 ⟨rfl, hu2⟩; dsimp only))
            have HU2 := Lib.hid ((HU1.out.alloc _).drew.seq hu2)
            clear hu2 HU1
            go_wp2_with fail
            go_ret3
            exact ⟨_, by rw [HG.out]; rfl, by rw [HG.out]; exact Own.nil _ _ _, HU2.out⟩
end Go.Proofs.Ythnmlifnlmdelaa
