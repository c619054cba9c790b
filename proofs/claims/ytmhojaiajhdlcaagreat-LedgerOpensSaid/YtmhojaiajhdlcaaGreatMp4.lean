/- Texts of the proof, joined: Chapter 23's inner functions: four bytes of a number, a number of four bytes. Chapter 23's Next. Frames as plain law. A table as a list of rows by rising keys: the plain law. Tables: what the laws of chapter 4 want of rows by rising keys. The order of texts. Names of files: plain. Chapter 22 as plain law: files by rising names, raw writes, what they do. Chapter 22 as plain law: how much a call adds. Chapter 22 as plain law: any calls: how many files, how many raw writes, and of what names. Chapter 22 as plain law: one file, written once. Chapter 25 as plain law: a ledger's records and its file. Slices' values. Bytes in blocks that only grow at their end: slices that show a part of a block, and append onto them. -/
import Derived.Test.YtmhojaiajhdlcaaGreatMp1
import Derived.Test.YtmhojaiajhdlcaaGreatMp3
import Derived.Test.YtmhojaiajhdlcaaGreatMp2
import Derived.Deep.RegionHeld3
import Derived.Test.YtmhojaiajhdlcaaGreatRows
import Derived.ArgAppend
namespace Go.Proofs.YtmhojaiajhdlcaaGreat
open Go.RowKit
set_option linter.unusedSimpArgs false
set_option linter.unusedVariables false
theorem fnFour_any (n : Nat) (hn : n < 4294967296) (w : World) :
    Calls Tryz.prog 111 #[.int .u32 (n : Int)] w fun e w' => e = .returned (.slice (some ⟨w.heap.size, 0, none⟩) 4 4) ∧ Own bv w.heap.size 5 w' (.slice (some ⟨w.heap.size, 0, none⟩) 4 4) (four n) ∧ Upd [] w w' := by
  go_enter Tryz.func111, Tryz.ntmps111
  go_wp2
  go_ret
  exact ⟨rfl, Own.lit (four n) (Nat.le_refl _) rfl (by simp [four]; omega) rfl rfl (by decide), (Upd.refl [] w).alloc _⟩
theorem fnNumber_any (v : Value) (l : List UInt8) (w : World) (h : Bytes w v l) (hl : 4 ≤ l.length) :
    Calls Tryz.prog 109 #[v] w fun e w' => e = .returned (.int .u32 (num4 l : Int)) ∧ Upd [] w w' := by
  obtain ⟨a, cap, rfl, hlc, hm, hc⟩ := h
  obtain ⟨b, off, rfl, hc'⟩ := hc (by intro h; simp [h] at hl)
  have c0 : w.cell? ⟨b, off, none⟩ = some (bv (nth l 0)) := hc' 0 (by omega)
  have c1 := hc' 1 (by omega)
  have c2 := hc' 2 (by omega)
  have c3 := hc' 3 (by omega)
  have HN : Hid (num4 l = (nth l 0).toNat * 16777216 + (nth l 1).toNat * 65536 + (nth l 2).toNat * 256 + (nth l 3).toNat) := rfl
  have hlt := num4_lt l
  generalize num4 l = N at *
  generalize nth l 0 = x0 at *
  generalize nth l 1 = x1 at *
  generalize nth l 2 = x2 at *
  generalize nth l 3 = x3 at *
  have q0 : (0 : Int) < l.length := by omega
  have q1 : (1 : Int) < l.length := by omega
  have q2 : (2 : Int) < l.length := by omega
  have q3 : (3 : Int) < l.length := by omega
  clear hc hc' hm hlc
  go_enter Tryz.func109, Tryz.ntmps109
  go_wp2_with fail
  go_quiet (fail)
  go_wp2_with fail
  go_ret
  exact ⟨congrArg (fun n => Ending.returned (.int .u32 n)) ((num4_walk x0 x1 x2 x3).trans (by rw [HN.out])), by first | exact (Upd.refl [] _).drewN _ | exact (Upd.refl [] _).drew⟩
theorem rfFour_any (n : Nat) (hn : n < 4294967296) (w : World) :
    Calls Tryz.prog 61 #[.int .i64 (n : Int)] w fun e w' => e = .returned (.slice (some ⟨w.heap.size, 0, none⟩) 4 4) ∧ Own bv w.heap.size 5 w' (.slice (some ⟨w.heap.size, 0, none⟩) 4 4) (four n) ∧ Upd [] w w' := by
  go_enter Tryz.func61, Tryz.ntmps61
  go_wp2
  go_ret
  exact ⟨rfl, Own.lit (four n) (Nat.le_refl _) rfl (by simp [four]; omega) rfl rfl (by decide), (Upd.refl [] w).alloc _⟩
/-- A frame of a payload. -/
def frameOf (p : List UInt8) : List UInt8 := four p.length ++ (four (sumOf [four p.length, p]).toNat ++ p)
def putF (b p : List UInt8) : List UInt8 := if p.length < 1 ∨ 262144 < p.length then b else b ++ frameOf p
set_option maxHeartbeats 1000000 in
theorem fPut_any (v u : Value) (l p : List UInt8) (w : World) (h : Bytes w v l) (h2 : Bytes w u p) (hz : l.length ≤ 1000000000) (hz2 : p.length ≤ 140737488351232) :
    Calls Tryz.prog 78 #[v, u] w fun e w' => ∃ x, e = .returned x ∧ Own bv w.heap.size 5 w' x (putF l p) ∧ Upd [] w w' := by
  have H := Lib.hid h
  have H2 := Lib.hid h2
  obtain ⟨a, cap, rfl, -, -, -⟩ := h
  obtain ⟨a2, cap2, rfl, -, -, -⟩ := h2
  have hmk := fun u => run_mk (P := Tryz.prog) Tryz.underlying28 infoByte rfl u 0 (l.length + 8 + p.length) 0 ((l.length : Int) + 8 + p.length) (by omega) (by omega) (by omega) (by omega) (by omega)
  by_cases hp : p.length < 1 ∨ 262144 < p.length
  · have HF : Hid (putF l p = l) := if_pos hp
    go_enter Tryz.func78, Tryz.ntmps78
    rcases hp with hp | hp
    all_goals go_wp2_with (at_builtin; refine wpList_app bv_one rfl (.tmp 14) (.tmp 15) rfl Tryz.underlying28 infoByte rfl (.slice (some ⟨w.heap.size, 0, none⟩) 0 (l.length + 8 + p.length)) (.slice a l.length cap) [] l rfl rfl (Own.room (base := w.heap.size) (Nat.le_refl _) rfl (by simp) (by unfold maxLen; omega)) (H.out.alloc _) (by simp; omega) (by unfold maxLen; simp; omega) (by simp) ?_; intro v1 w1 ho hu hbk; rw [List.nil_append] at ho; have HU : Hid (Upd [] w w1) := ((Upd.refl [] w).alloc _).trans hu (by simp) (by simp [blk]); have HO := Lib.hid ho; clear ho hu hbk)
    all_goals go_ret
    all_goals exact ⟨_, rfl, by rw [HF.out]; exact HO.out, HU.out⟩
  · have HF : Hid (putF l p = l ++ frameOf p) := if_neg hp
    have hp1 : 1 ≤ p.length := by omega
    have hp2 : p.length ≤ 262144 := by omega
    go_enter Tryz.func78, Tryz.ntmps78
    go_wp2_with (at_builtin; refine wpList_app bv_one rfl (.tmp 14) (.tmp 15) rfl Tryz.underlying28 infoByte rfl (.slice (some ⟨w.heap.size, 0, none⟩) 0 (l.length + 8 + p.length)) (.slice a l.length cap) [] l rfl rfl (Own.room (base := w.heap.size) (Nat.le_refl _) rfl (by simp) (by unfold maxLen; omega)) (H.out.alloc _) (by simp; omega) (by unfold maxLen; simp; omega) (by simp) ?_; intro v1 w1 ho hu hbk; rw [List.nil_append] at ho; have HU : Hid (Upd [] w w1) := ((Upd.refl [] w).alloc _).trans hu (by simp) (by simp [blk]); have HO := Lib.hid ho; clear ho hu hbk)
    refine (fnFour_any p.length (by omega) _).mono ?_
    rintro e w2 ⟨rfl, ho2, hu2⟩
    have HO1 := Lib.hid (HO.out.upd hu2 (by simp))
    have HO2 := Lib.hid ho2
    have HU2 := Lib.hid (HU.out.seq hu2)
    have HD : Hid (∀ x ∈ blk (.slice (some ⟨w1.heap.size, 0, none⟩) 4 4), x ∉ blk v1) := fun x h1 h2 => by have := (ho2.ge x h1).1; have := (HO.out.ge x h2).2; omega
    have hs2 := HU2.out.size
    have hq : (four p.length).length = 4 := rfl
    clear ho2 hu2 HU HO
    go_wp2_with (at_builtin; refine wpList_app bv_one rfl (.tmp 30) (.tmp 31) rfl Tryz.underlying28 infoByte rfl v1 (.slice (some ⟨w1.heap.size, 0, none⟩) 4 4) l (four p.length) rfl rfl HO1.out HO2.out.rd (by simp [hq]; omega) (by unfold maxLen; simp [hq]; omega) hs2 ?_; intro v3 w3 ho hu hbk; have HU3 : Hid (Upd [] w w3) := HU2.out.trans hu (by simp) (fun x hx => .inr (HO1.out.ge x hx).1); have HO3 := Lib.hid ho; have HB3 := Lib.hid hbk; have HV3 := Lib.hid (HO2.out.upd hu HD.out); clear ho hu hbk)
    have HP := Lib.hid (H2.out.upd0 HU3.out)
    refine (of_any _ [four p.length, p] _ (Parts.two _ _ (four p.length) p rfl rfl rfl rfl HV3.out.rd HP.out)).mono ?_
    rintro e w4 ⟨rfl, rfl⟩
    have HU4 := Lib.hid (HU3.out.alloc (.cells #[.slice (some ⟨w1.heap.size, 0, none⟩) 4 4, .slice a2 p.length cap2] 28))
    have HO4 := Lib.hid (HO3.out.upd ((Upd.refl [] w3).alloc (.cells #[.slice (some ⟨w1.heap.size, 0, none⟩) 4 4, .slice a2 p.length cap2] 28)) (by simp))
    have HS : Hid ((sumOf [four p.length, p]).toNat < 4294967296) := (sumOf [four p.length, p]).isLt
    have HF2 : Hid (frameOf p = four p.length ++ (four (sumOf [four p.length, p]).toNat ++ p)) := rfl
    generalize (w3.alloc (.cells #[.slice (some ⟨w1.heap.size, 0, none⟩) 4 4, .slice a2 p.length cap2] 28)) = w4 at *
    generalize (sumOf [four p.length, p]).toNat = sm at *
    have hq4 : (l ++ four p.length).length = l.length + 4 := by rw [List.length_append, hq]
    have HLE : Hid (l ++ four p.length ++ four sm ++ p = putF l p) := by unfold Hid; rw [HF.out, HF2.out]; simp only [List.append_assoc]
    generalize l ++ four p.length = l4 at *
    clear HV3 HP HU3 HO3 HB3 HD HO1 HO2 HU2 HF2 HF
    go_wp2_with fail
    refine (fnFour_any sm HS.out _).mono ?_
    rintro e w5 ⟨rfl, ho5, hu5⟩
    have HO5 := Lib.hid (HO4.out.upd hu5 (by simp))
    have HR5 := Lib.hid ho5.rd
    have HU5 := Lib.hid (HU4.out.seq hu5)
    have hs5 := HU5.out.size
    have hq5 : (four sm).length = 4 := rfl
    have hq6 : (l4 ++ four sm).length = l.length + 8 := by rw [List.length_append, hq5, hq4]
    generalize four sm = fs at *
    generalize (.slice (some ⟨w4.heap.size, 0, none⟩) 4 4 : Value) = v5 at *
    clear ho5 hu5 HU4 HO4
    go_wp2_with (first
      | (at_builtin; refine wpList_app bv_one rfl (.tmp 33) (.tmp 38) rfl Tryz.underlying28 infoByte rfl v3 v5 l4 fs rfl rfl HO5.out HR5.out (by simp [hq4, hq5]; omega) (by unfold maxLen; simp [hq4, hq5]; omega) hs5 ?_; intro v6 w6 ho hu hbk; have HU6 : Hid (Upd [] w w6) := HU5.out.trans hu (by simp) (fun x hx => .inr (HO5.out.ge x hx).1); have HO6 := Lib.hid ho; have HP6 := Lib.hid (H2.out.upd0 HU6.out); have hs6 := HU6.out.size; clear ho hu hbk; generalize l4 ++ fs = l6 at *)
      | (at_builtin; refine wpList_app bv_one rfl (.tmp 40) (.tmp 41) rfl Tryz.underlying28 infoByte rfl v6 (.slice a2 p.length cap2) l6 p rfl rfl HO6.out HP6.out (by simp [hq6]; omega) (by unfold maxLen; simp [hq6]; omega) hs6 ?_; intro v7 w7 ho hu hbk; have HU7 : Hid (Upd [] w w7) := HU6.out.trans hu (by simp) (fun x hx => .inr (HO6.out.ge x hx).1); have HO7 := Lib.hid ho; clear ho hu hbk))
    go_ret
    exact ⟨_, rfl, by rw [← HLE.out]; exact HO7.out, HU7.out⟩
end Go.Proofs.YtmhojaiajhdlcaaGreat
namespace Go.Proofs.YtmhojaiajhdlcaaGreat
open Go.RowKit
set_option linter.unusedSimpArgs false
set_option linter.unusedVariables false
/-- What Next tells: the payload, where it ends, the error; r: what stands at the place k. -/
def nextR (r : List UInt8) (k : Nat) : List UInt8 × Int × Int :=
  if r.length < 8 then ([], 0, 3)
  else if num4 r = 0 ∨ 262144 < num4 r then ([], 0, 4)
  else if r.length - 8 < num4 r then ([], 0, 3)
  else if (sumOf [r.take 4, (r.drop 8).take (num4 r)]).toNat ≠ num4 (r.drop 4) then ([], 0, 6)
  else ((r.drop 8).take (num4 r), (((k + 8 + num4 r : Nat) : Nat) : Int), 0)
def nextF (b : List UInt8) (at_ : Int) : List UInt8 × Int × Int :=
  if at_ < 0 ∨ (b.length : Int) < at_ then ([], 0, 1) else nextR (b.drop at_.toNat) at_.toNat
def NextSaid (w : World) (r : List UInt8 × Int × Int) (e : Ending) (w' : World) : Prop :=
  ∃ v, e = .returned (.tuple #[v, .int .i64 r.2.1, .int .i64 r.2.2]) ∧ Own bv w.heap.size 5 w' v r.1 ∧ Upd [] w w'
set_option maxHeartbeats 8000000 in
theorem fNext_any (v : Value) (l : List UInt8) (at_ : Int) (w : World) (h : Bytes w v l) (hz : l.length ≤ 1000000000) (hat : I64 at_) :
    Calls Tryz.prog 73 #[v, .int .i64 at_] w fun e w' => NextSaid w (nextF l at_) e w' := by
  have H := Lib.hid h
  obtain ⟨a, cap, rfl, hlc, hcm, -⟩ := h
  obtain ⟨ha1, ha2⟩ := hat
  by_cases hp : at_ < 0 ∨ (l.length : Int) < at_
  · have HF : Hid (nextF l at_ = ([], 0, 1)) := if_pos hp
    generalize nextF l at_ = r at *
    go_enter Tryz.func73, Tryz.ntmps73
    rcases hp with hp | hp
    all_goals go_wp2_with fail
    all_goals go_ret3
    all_goals exact ⟨_, by rw [HF.out]; rfl, by rw [HF.out]; exact Own.nil _ _ _, Upd.refl _ _⟩
  · obtain ⟨k, rfl⟩ := Int.eq_ofNat_of_zero_le (show 0 ≤ at_ by omega)
    have HN : Hid (nextF l (k : Int) = nextR (l.drop k) k) := by unfold Hid nextF; rw [if_neg hp]; rfl
    have hk : k ≤ l.length := by omega
    have hk1 : (k : Int) ≤ l.length := by omega
    have hk2 : (l.length : Int) ≤ cap := by omega
    have hk3 : (k : Int) ≤ cap := by omega
    have HR := Lib.hid (H.out.drop k hk)
    have hcut := run_cut (P := Tryz.prog) Tryz.underlying28 sizeByte a l.length cap k hk
    simp only [Nat.mul_one] at hcut
    generalize (if cap = k then a else a.map (·.add k)) = ak at *
    have hrl : (l.drop k).length = l.length - k := List.length_drop
    clear hp
    have q0 : ¬ (k : Int) < 0 := by omega
    have q1 : ¬ (l.length : Int) < k := by omega
    generalize nextF l (k : Int) = r at *
    generalize l.drop k = rl at *
    have hn : ((l.length - k : Nat) : Int) = (l.length : Int) - k := by omega
    have hckn : l.length - k ≤ cap - k := by omega
    have hck9 : cap - k ≤ maxLen := by omega
    rw [← hrl] at HR hcut hckn
    generalize cap - k = ck at *
    by_cases hs : rl.length < 8
    · have HG : Hid (r = ([], 0, 3)) := HN.out.trans (if_pos (by omega))
      have q2 : (rl.length : Int) < 8 := by omega
      clear HN hn hrl
      go_enter Tryz.func73, Tryz.ntmps73
      go_wp2_with fail
      go_ret3
      exact ⟨_, by rw [HG.out]; rfl, by rw [HG.out]; exact Own.nil _ _ _, Upd.refl _ _⟩
    · have HN := Lib.hid (HN.out.trans (if_neg (by omega)))
      have q2 : ¬ (rl.length : Int) < 8 := by omega
      have hNL := num4_lt rl
      have HNUM := fun (W : World) (hu : Upd [] w W) => Lib.hid (fnNumber_any _ _ _ (HR.out.upd0 hu) (by omega))
      generalize num4 rl = n at *
      by_cases hf : n = 0 ∨ 262144 < n
      · have HG : Hid (r = ([], 0, 4)) := HN.out.trans (if_pos hf)
        clear HN hn hrl
        go_enter Tryz.func73, Tryz.ntmps73
        go_wp2_with fail
        refine (HNUM _ (Upd.refl _ _)).out.mono ?_
        rintro e w1 ⟨rfl, hu1⟩
        rcases hf with rfl | hf
        · go_wp2_with fail
          go_ret3
          exact ⟨_, by rw [HG.out]; rfl, by rw [HG.out]; exact Own.nil _ _ _, hu1⟩
        · have hf2 : ((n : Int) == 0) = false := by rw [beq_eq_false_iff_ne]; omega
          have hf3 : (262144 : Int) < n := by omega
          go_wp2_with fail
          go_ret3
          exact ⟨_, by rw [HG.out]; rfl, by rw [HG.out]; exact Own.nil _ _ _, hu1⟩
      · have HN := Lib.hid (HN.out.trans (if_neg hf))
        have hf2 : ((n : Int) == 0) = false := by rw [beq_eq_false_iff_ne]; omega
        have hf3 : ¬ (262144 : Int) < n := by omega
        by_cases hb : rl.length - 8 < n
        · have HG : Hid (r = ([], 0, 3)) := HN.out.trans (if_pos hb)
          have hb2 : (rl.length : Int) - 8 < n := by omega
          clear HN hn hrl
          go_enter Tryz.func73, Tryz.ntmps73
          go_wp2_with fail
          refine (HNUM _ (Upd.refl _ _)).out.mono ?_
          rintro e w1 ⟨rfl, hu1⟩
          go_wp2_with fail
          go_ret3
          exact ⟨_, by rw [HG.out]; rfl, by rw [HG.out]; exact Own.nil _ _ _, hu1⟩
        · have HN := Lib.hid (HN.out.trans (if_neg hb))
          have hb2 : ¬ (rl.length : Int) - 8 < n := by omega
          have hc2 := fun W => run_cut_lh (P := Tryz.prog) Tryz.underlying28 sizeByte ak rl.length ck 8 (8 + n) (by omega) (by omega) W 8 (8 + (n : Int)) rfl (by omega)
          have hc3 : ∀ W, (Instr.slice 28 (.slice ak rl.length ck) none (some (.int .i64 4)) none).run Tryz.prog W = .ok (.slice ak 4 ck) W := run_cut_h (P := Tryz.prog) Tryz.underlying28 sizeByte ak rl.length ck 4 (by omega)
          have hc4 : ∀ W, (Instr.slice 28 (.slice ak rl.length ck) (some (.int .i64 4)) none none).run Tryz.prog W = .ok (.slice (if ck = 4 then ak else ak.map (·.add 4)) (rl.length - 4) (ck - 4)) W := run_cut (P := Tryz.prog) Tryz.underlying28 sizeByte ak rl.length ck 4 (by omega)
          simp only [Nat.mul_one, Nat.add_sub_cancel_left] at hc2
          have HP := Lib.hid (HR.out.sub 8 (8 + n) (by omega) (by omega))
          rw [Nat.add_sub_cancel_left] at HP
          have HT := Lib.hid (HR.out.take 4 (by omega))
          have HD := Lib.hid (HR.out.drop 4 (by omega))
          have hpl : ((rl.drop 8).take n).length = n := by rw [List.length_take, List.length_drop]; omega
          have HNUM2 := fun (W : World) (hu : Upd [] w W) => Lib.hid (fnNumber_any _ _ _ (HD.out.upd0 hu) (by rw [List.length_drop]; omega))
          generalize (if ck = 8 then ak else ak.map (·.add 8)) = a8 at *
          generalize (if ck = 4 then ak else ak.map (·.add 4)) = a4 at *
          generalize (rl.drop 8).take n = pl at *
          generalize rl.take 4 = r4 at *
          have hNL4 := num4_lt (rl.drop 4)
          generalize num4 (rl.drop 4) = m at *
          have hrb : rl.length ≤ 1000000000 := by omega
          clear hrl hn hcm hlc
          go_enter Tryz.func73, Tryz.ntmps73
          go_wp2_with fail
          refine (HNUM _ (Upd.refl _ _)).out.mono ?_
          rintro e w1 ⟨rfl, hu1⟩
          have HU1 := Lib.hid hu1
          clear hu1
          by_cases hsm : (sumOf [r4, pl]).toNat = m
          · have HG : Hid (r = (pl, ((k + 8 + n : Nat) : Int), 0)) := HN.out.trans (if_neg (fun h => h hsm))
            have hm2 : (((sumOf [r4, pl]).toNat : Int) != (m : Int)) = false := by rw [bne_eq_false_iff_eq]; omega
            clear HN hsm
            go_wp2_with fail
            go_region_held3 (fun w' => True) (trivial) (first
              | (go_at_call 110; refine (of_any _ [r4, pl] _ (Parts.drew (Parts.two _ _ r4 pl rfl rfl rfl rfl (HT.out.upd0 HU1.out) (HP.out.upd0 HU1.out)))).mono ?_; rintro e w' ⟨rfl, rfl⟩; dsimp only)
              | (go_at_call 109; refine (HNUM2 _ (by repeat (first | exact HU1.out | apply Upd.drew | apply Upd.drewN | apply Upd.alloc))).out.mono ?_; rintro e w2 ⟨rfl, hu2⟩; dsimp only))
            have HU2 := Lib.hid ((HU1.out.alloc _).drew.seq hu2)
            have HP2 := Lib.hid (HP.out.upd0 HU2.out)
            have hs2 := HU2.out.size
            clear hu2 HU1
            go_wp2_with (at_builtin; refine wpList_app bv_one rfl (.const (.slice none 0 0)) (.tmp 52) rfl Tryz.underlying28 infoByte rfl (.slice none 0 0) _ [] pl rfl rfl (Own.nil w.heap.size _ _) HP2.out (by simp; omega) (by unfold maxLen; simp; omega) hs2 ?_; intro v3 w3 ho hu hbk; rw [List.nil_append] at ho; have HU3 : Hid (Upd [] w w3) := HU2.out.trans hu (by simp) (by simp [blk]); have HO3 := Lib.hid ho; clear ho hu hbk)
            go_ret3
            exact ⟨_, by rw [HG.out]; simp only [Int.natCast_add]; rfl, by rw [HG.out]; exact HO3.out, HU3.out⟩
          · have HG : Hid (r = ([], 0, 6)) := HN.out.trans (if_pos hsm)
            have hm2 : (((sumOf [r4, pl]).toNat : Int) != (m : Int)) = true := by rw [bne_iff_ne]; omega
            clear HN hsm
            go_wp2_with fail
            go_region_held3 (fun w' => True) (trivial) (first
              | (go_at_call 110; refine (of_any _ [r4, pl] _ (Parts.drew (Parts.two _ _ r4 pl rfl rfl rfl rfl (HT.out.upd0 HU1.out) (HP.out.upd0 HU1.out)))).mono ?_; rintro e w' ⟨rfl, rfl⟩; dsimp only)
              | (go_at_call 109; refine (HNUM2 _ (by repeat (first | exact HU1.out | apply Upd.drew | apply Upd.drewN | apply Upd.alloc))).out.mono ?_; rintro e w2 ⟨rfl, hu2⟩; dsimp only))
            have HU2 := Lib.hid ((HU1.out.alloc _).drew.seq hu2)
            clear hu2 HU1
            go_wp2_with fail
            go_ret3
            exact ⟨_, by rw [HG.out]; rfl, by rw [HG.out]; exact Own.nil _ _ _, HU2.out⟩
end Go.Proofs.YtmhojaiajhdlcaaGreat
namespace Go.Proofs.YtmhojaiajhdlcaaGreat
open Go.RowKit
set_option linter.unusedSimpArgs false
set_option linter.unusedVariables false
def Fit (p : List UInt8) : Prop := 1 ≤ p.length ∧ p.length ≤ 262144
theorem frameOf_len (p : List UInt8) : (frameOf p).length = 8 + p.length := by simp [frameOf, four_len]; omega
theorem frameOf_eq (p : List UInt8) : frameOf p = four p.length ++ (four (sumOf [four p.length, p]).toNat ++ p) := rfl
/-- A frame is found. -/
theorem next_frame (p r : List UInt8) (k : Nat) (hp : Fit p) : nextR (frameOf p ++ r) k = (p, ((k + 8 + p.length : Nat) : Int), 0) := by
  obtain ⟨h1, h2⟩ := hp
  have hl : (frameOf p ++ r).length = 8 + p.length + r.length := by rw [List.length_append, frameOf_len]
  have hn : num4 (frameOf p ++ r) = p.length := by rw [frameOf_eq, List.append_assoc]; exact num4_four _ (by omega) _
  have h4 : (frameOf p ++ r).take 4 = four p.length := by rw [frameOf_eq, List.append_assoc]; exact List.take_left' (four_len _)
  have hd4 : (frameOf p ++ r).drop 4 = four (sumOf [four p.length, p]).toNat ++ (p ++ r) := by rw [frameOf_eq, List.append_assoc, List.append_assoc]; exact List.drop_left' (four_len _)
  have hd8 : (frameOf p ++ r).drop 8 = p ++ r := by
    have : (frameOf p ++ r).drop 8 = ((frameOf p ++ r).drop 4).drop 4 := by rw [List.drop_drop]
    rw [this, hd4]; exact List.drop_left' (four_len _)
  have hpr : ((frameOf p ++ r).drop 8).take p.length = p := by rw [hd8]; exact List.take_left' rfl
  have hs : num4 ((frameOf p ++ r).drop 4) = (sumOf [four p.length, p]).toNat := by rw [hd4]; exact num4_four _ (sumOf [four p.length, p]).isLt _
  unfold nextR
  rw [hn, hpr, hs, h4, hl, if_neg (by omega), if_neg (by omega), if_neg (by omega), if_neg (by simp)]
theorem num4_take (l : List UInt8) (n : Nat) (h : 4 ≤ n) : num4 (l.take n) = num4 l := by
  unfold num4; rw [nth_take _ _ _ (by omega), nth_take _ _ _ (by omega), nth_take _ _ _ (by omega), nth_take _ _ _ (by omega)]
/-- A frame that is cut off is not found. -/
theorem next_cut (p : List UInt8) (m k : Nat) (hp : Fit p) (hm : m < 8 + p.length) : (nextR ((frameOf p).take m) k).2.2 ≠ 0 := by
  obtain ⟨h1, h2⟩ := hp
  have hl : ((frameOf p).take m).length = m := by rw [List.length_take, frameOf_len]; omega
  unfold nextR
  rw [hl]
  by_cases h8 : m < 8
  · rw [if_pos h8]; simp
  · have hn : num4 ((frameOf p).take m) = p.length := by
      rw [num4_take _ _ (by omega)]
      have := num4_four p.length (by omega) (four (sumOf [four p.length, p]).toNat ++ p)
      rwa [← frameOf_eq] at this
    rw [if_neg h8, hn, if_neg (by omega), if_pos (by omega)]; simp
theorem next_nil (k : Nat) : (nextR [] k).2.2 ≠ 0 := by unfold nextR; simp
theorem nextF_at (b : List UInt8) (k : Nat) (h : k ≤ b.length) : nextF b (k : Int) = nextR (b.drop k) k := by
  unfold nextF; rw [if_neg (by omega)]; rfl
def framesOf (L : List (List UInt8)) : List UInt8 := L.flatMap frameOf
def endAt (L : List (List UInt8)) (i : Nat) : Nat := (framesOf (L.take i)).length
theorem framesOf_snoc (L : List (List UInt8)) (p : List UInt8) : framesOf (L ++ [p]) = framesOf L ++ frameOf p := by simp [framesOf]
theorem endAt_all (L : List (List UInt8)) (i : Nat) (h : L.length ≤ i) : endAt L i = (framesOf L).length := by unfold endAt; rw [List.take_of_length_le h]
theorem framesOf_ge (L : List (List UInt8)) : L.length ≤ (framesOf L).length := by
  induction L with
  | nil => simp [framesOf]
  | cons p L ih => simp only [framesOf, List.flatMap_cons, List.length_append, frameOf_len, List.length_cons] at ih ⊢; omega

theorem putF_fit (b p : List UInt8) (h : Fit p) : putF b p = b ++ frameOf p := if_neg (by have := h.1; have := h.2; omega)
theorem putF_no (b p : List UInt8) (h : ¬ Fit p) : putF b p = b := if_pos (by unfold Fit at h; omega)
end Go.Proofs.YtmhojaiajhdlcaaGreat
namespace Go.Proofs.YtmhojaiajhdlcaaGreat
open Go.RowKit
set_option linter.unusedSimpArgs false
set_option linter.unusedVariables false
set_option linter.unusedSectionVars false
/-- An order of keys. -/
structure KOrd {κ : Type} (lt : κ → κ → Bool) : Prop where
  irr : ∀ a, lt a a = false
  trans : ∀ a b c, lt a b = true → lt b c = true → lt a c = true
  tot : ∀ a b, lt a b = false → lt b a = false → a = b
section
variable {κ ν : Type} [Inhabited κ] [Inhabited ν] [DecidableEq κ] {lt : κ → κ → Bool}
def below (lt : κ → κ → Bool) (l : List (κ × ν)) (k : κ) : Nat := (l.takeWhile fun p => lt p.1 k).length
def isIn (lt : κ → κ → Bool) (l : List (κ × ν)) (k : κ) : Bool := decide (below lt l k < l.length ∧ (nth l (below lt l k)).1 = k)
def tSet (lt : κ → κ → Bool) (l : List (κ × ν)) (k : κ) (v : ν) : List (κ × ν) := l.take (below lt l k) ++ (k, v) :: l.drop (below lt l k + if isIn lt l k then 1 else 0)
def tDel (lt : κ → κ → Bool) (l : List (κ × ν)) (k : κ) : List (κ × ν) := if isIn lt l k then l.take (below lt l k) ++ l.drop (below lt l k + 1) else l
def Rising (lt : κ → κ → Bool) (l : List (κ × ν)) : Prop := ∀ i j, i < j → j < l.length → lt (nth l i).1 (nth l j).1 = true
theorem below_le (l : List (κ × ν)) (k : κ) : below lt l k ≤ l.length := by
  unfold below
  induction l with
  | nil => simp
  | cons p l ih => rw [List.takeWhile_cons]; split <;> simp; exact ih
theorem below_lt : ∀ (l : List (κ × ν)) (k : κ) (j : Nat), j < below lt l k → lt (nth l j).1 k = true
  | [], k, j, h => by simp [below] at h
  | p :: l, k, j, h => by
    unfold below at h
    rw [List.takeWhile_cons] at h
    split at h
    · rename_i hp
      cases j with
      | zero => rw [nth_cons_zero]; exact hp
      | succ j => rw [nth_cons_succ]; exact below_lt l k j (by simpa [below] using h)
    · simp at h
theorem below_ge : ∀ (l : List (κ × ν)) (k : κ), below lt l k < l.length → lt (nth l (below lt l k)).1 k = false
  | [], k, h => by simp [below] at h
  | p :: l, k, h => by
    cases hp : lt p.1 k with
    | false =>
      have : below lt (p :: l) k = 0 := by unfold below; rw [List.takeWhile_cons]; simp [hp]
      rw [this, nth_cons_zero]; exact hp
    | true =>
      have e : below lt (p :: l) k = below lt l k + 1 := by unfold below; rw [List.takeWhile_cons]; simp [hp]
      rw [e, nth_cons_succ]
      exact below_ge l k (by rw [e] at h; simpa using h)
theorem below_eq (l : List (κ × ν)) (k : κ) (i : Nat) (h1 : i ≤ l.length) (h2 : ∀ j, j < i → lt (nth l j).1 k = true) (h3 : i < l.length → lt (nth l i).1 k = false) : below lt l k = i := by
  rcases Nat.lt_trichotomy (below lt l k) i with h | h | h
  · have a := below_ge l k (Nat.lt_of_lt_of_le h h1)
    rw [h2 _ h] at a; exact absurd a (by simp)
  · exact h
  · have a := below_lt l k i h
    have b := h3 (Nat.lt_of_lt_of_le h (below_le l k))
    rw [a] at b; exact absurd b (by simp)
def tGet (lt : κ → κ → Bool) (z : ν) (l : List (κ × ν)) (k : κ) : ν × Bool := if isIn lt l k then ((nth l (below lt l k)).2, true) else (z, false)
def tAt (zk : κ) (zv : ν) (l : List (κ × ν)) (i : Int) : κ × ν × Bool := if 0 ≤ i ∧ i < l.length then ((nth l i.toNat).1, (nth l i.toNat).2, true) else (zk, zv, false)
theorem tSet_len (l : List (κ × ν)) (k : κ) (v : ν) : (tSet lt l k v).length ≤ l.length + 1 := by
  unfold tSet
  have := below_le (lt := lt) l k
  rw [List.length_append, List.length_take, List.length_cons, List.length_drop]
  split <;> omega
theorem tDel_len (l : List (κ × ν)) (k : κ) : (tDel lt l k).length ≤ l.length := by
  unfold tDel
  split
  · rw [List.length_append, List.length_take, List.length_drop]; omega
  · exact Nat.le_refl _
theorem tSet_in (l : List (κ × ν)) (k : κ) (v : ν) (h : isIn lt l k = true) : tSet lt l k v = l.set (below lt l k) ((nth l (below lt l k)).1, v) := by
  unfold tSet
  rw [h]
  unfold isIn at h
  obtain ⟨h1, h2⟩ := of_decide_eq_true h
  rw [h2, List.set_eq_take_append_cons_drop, if_pos h1]
  rfl
theorem Rising.mono (ho : KOrd lt) {l : List (κ × ν)} (h : Rising lt l) (k : κ) (i j : Nat) (hij : i ≤ j) (hj : j < l.length) (hl : lt (nth l j).1 k = true) : lt (nth l i).1 k = true := by
  rcases Nat.lt_or_eq_of_le hij with e | e
  · exact ho.trans _ _ _ (h i j e hj) hl
  · rw [e]; exact hl
theorem Rising.nil : Rising lt ([] : List (κ × ν)) := fun i j _ h => by simp at h
theorem Rising.take {l : List (κ × ν)} (h : Rising lt l) (n : Nat) : Rising lt (l.take n) := fun i j hij hj => by
  rw [List.length_take] at hj
  rw [nth_take l n i (by omega), nth_take l n j (by omega)]; exact h i j hij (by omega)
theorem Rising.drop {l : List (κ × ν)} (h : Rising lt l) (n : Nat) : Rising lt (l.drop n) := fun i j hij hj => by
  rw [List.length_drop] at hj
  rw [nth_drop, nth_drop]; exact h _ _ (by omega) (by omega)
theorem Rising.app {l m : List (κ × ν)} (hl : Rising lt l) (hm : Rising lt m) (hlm : ∀ i j, i < l.length → j < m.length → lt (nth l i).1 (nth m j).1 = true) : Rising lt (l ++ m) := fun i j hij hj => by
  rw [List.length_append] at hj
  by_cases h1 : j < l.length
  · rw [nth_append_left _ _ _ h1, nth_append_left _ _ _ (by omega)]; exact hl i j hij h1
  · rw [nth_append_right _ _ j (by omega)]
    by_cases h2 : i < l.length
    · rw [nth_append_left _ _ _ h2]; exact hlm _ _ h2 (by omega)
    · rw [nth_append_right _ _ i (by omega)]; exact hm _ _ (by omega) (by omega)
theorem Rising.one (p : κ × ν) : Rising lt [p] := fun i j hij hj => by simp at hj; omega
/-- What stands from a place on is above the key, the key's own row left out. -/
theorem above (ho : KOrd lt) {l : List (κ × ν)} (h : Rising lt l) (k : κ) (j : Nat) (hj : below lt l k + (if isIn lt l k then 1 else 0) ≤ j) (hl : j < l.length) : lt k (nth l j).1 = true := by
  have hb : below lt l k < l.length := by split at hj <;> omega
  have h1 := below_ge l k hb
  by_cases hin : isIn lt l k = true
  · rw [if_pos hin] at hj
    unfold isIn at hin
    have e := (of_decide_eq_true hin).2
    have := h (below lt l k) j (by omega) hl
    rwa [e] at this
  · rw [if_neg hin] at hj
    have hne : (nth l (below lt l k)).1 ≠ k := by
      intro e; apply hin; unfold isIn; exact decide_eq_true ⟨hb, e⟩
    have h2 : lt k (nth l (below lt l k)).1 = true := by
      cases hc : lt k (nth l (below lt l k)).1 with
      | true => rfl
      | false => exact absurd (ho.tot _ _ h1 hc) hne
    rcases Nat.lt_or_eq_of_le hj with q | q
    · exact ho.trans _ _ _ h2 (h _ _ (by simpa using q) hl)
    · rw [Nat.add_zero] at q; rw [← q]; exact h2
theorem Rising.set_ (ho : KOrd lt) {l : List (κ × ν)} (h : Rising lt l) (k : κ) (v : ν) : Rising lt (tSet lt l k v) := by
  unfold tSet
  refine (h.take _).app ?_ ?_
  · have : (k, v) :: l.drop (below lt l k + if isIn lt l k then 1 else 0) = [(k, v)] ++ l.drop (below lt l k + if isIn lt l k then 1 else 0) := rfl
    rw [this]
    refine (Rising.one _).app (h.drop _) ?_
    intro i j hi hj
    simp at hi; subst hi
    rw [List.length_drop] at hj
    rw [nth_drop]
    exact above ho h k _ (by omega) (by omega)
  · intro i j hi hj
    rw [List.length_take] at hi
    rw [nth_take _ _ _ (by omega)]
    have h1 := below_lt (lt := lt) l k i (by omega)
    cases j with
    | zero => rw [nth_cons_zero]; exact h1
    | succ j =>
      rw [nth_cons_succ, nth_drop]
      rw [List.length_cons, List.length_drop] at hj
      exact ho.trans _ _ _ h1 (above ho h k _ (by omega) (by omega))
theorem Rising.del (ho : KOrd lt) {l : List (κ × ν)} (h : Rising lt l) (k : κ) : Rising lt (tDel lt l k) := by
  unfold tDel
  split
  · refine (h.take _).app (h.drop _) ?_
    intro i j hi hj
    rw [List.length_take] at hi
    rw [List.length_drop] at hj
    rw [nth_take _ _ _ (by omega), nth_drop]
    exact h _ _ (by omega) (by omega)
  · exact h
end
theorem intOrd : KOrd (fun a b : Int => decide (a < b)) := ⟨fun a => by simp, fun a b c => by simp; omega, fun a b => by simp; omega⟩
end Go.Proofs.YtmhojaiajhdlcaaGreat
namespace Go.Proofs.YtmhojaiajhdlcaaGreat
open Go.RowKit
set_option linter.unusedSimpArgs false
set_option linter.unusedVariables false
set_option linter.unusedSectionVars false
section
variable {κ ν : Type} [Inhabited κ] [Inhabited ν] [DecidableEq κ] {lt : κ → κ → Bool}
theorem lt_below (ho : KOrd lt) {l : List (κ × ν)} (h : Rising lt l) (k : κ) (i : Nat) (hi : i < l.length) : lt (nth l i).1 k = decide (i < below lt l k) := by
  by_cases hb : i < below lt l k
  · rw [below_lt l k i hb, decide_eq_true hb]
  · rw [decide_eq_false hb]
    cases hq : lt (nth l i).1 k with
    | false => rfl
    | true =>
      have h1 := below_ge (lt := lt) l k (by omega)
      rw [h.mono ho k (below lt l k) i (by omega) hi hq] at h1
      exact absurd h1 (by simp)
theorem below_at (ho : KOrd lt) {l : List (κ × ν)} (h : Rising lt l) (i : Nat) (hi : i < l.length) : below lt l (nth l i).1 = i :=
  below_eq l _ i (by omega) (fun j hj => h j i hj hi) (fun _ => ho.irr _)
theorem isIn_at (ho : KOrd lt) {l : List (κ × ν)} (h : Rising lt l) (i : Nat) (hi : i < l.length) : isIn lt l (nth l i).1 = true := by
  unfold isIn
  rw [below_at ho h i hi]
  exact decide_eq_true ⟨hi, rfl⟩
theorem tGet_at (ho : KOrd lt) (z : ν) {l : List (κ × ν)} (h : Rising lt l) (i : Nat) (hi : i < l.length) : tGet lt z l (nth l i).1 = ((nth l i).2, true) := by
  unfold tGet
  rw [isIn_at ho h i hi, below_at ho h i hi]; rfl
theorem tAt_at (zk : κ) (zv : ν) (l : List (κ × ν)) (i : Nat) (hi : i < l.length) : tAt zk zv l (i : Int) = ((nth l i).1, (nth l i).2, true) := by
  unfold tAt
  rw [if_pos ⟨by omega, by omega⟩]; rfl
theorem nth_keys (l : List (κ × ν)) (i : Nat) (hi : i < l.length) : nth (l.map (·.1)) i = (nth l i).1 := by
  rw [nth_get _ _ (by simpa using hi), nth_get _ _ hi]; simp
theorem tSet_mem (l : List (κ × ν)) (k : κ) (v : ν) (p : κ × ν) (h : p ∈ tSet lt l k v) : p = (k, v) ∨ p ∈ l := by
  unfold tSet at h
  rcases List.mem_append.1 h with h | h
  · exact .inr (List.mem_of_mem_take h)
  · rcases List.mem_cons.1 h with h | h
    · exact .inl h
    · exact .inr (List.mem_of_mem_drop h)
theorem tDel_mem (l : List (κ × ν)) (k : κ) (p : κ × ν) (h : p ∈ tDel lt l k) : p ∈ l := by
  unfold tDel at h
  split at h
  · rcases List.mem_append.1 h with h | h
    · exact List.mem_of_mem_take h
    · exact List.mem_of_mem_drop h
  · exact h
theorem nth_mem {l : List (κ × ν)} (i : Nat) (hi : i < l.length) : nth l i ∈ l := by rw [nth_get l i hi]; exact List.getElem_mem hi
theorem min_below (ho : KOrd lt) {l : List (κ × ν)} (h : Rising lt l) (k : κ) (i : Nat) (hi : i < l.length) : min (i + 1) (below lt l k) = min i (below lt l k) + (if lt (nth l i).1 k then 1 else 0) := by
  rw [lt_below ho h k i hi]
  by_cases hb : i < below lt l k
  · rw [decide_eq_true hb, if_pos rfl]; omega
  · rw [decide_eq_false hb, if_neg (by simp)]; omega
end
section
variable {κ ν κ' ν' : Type} [Inhabited κ] [Inhabited ν] [DecidableEq κ] [Inhabited κ'] [Inhabited ν'] [DecidableEq κ'] {lt : κ → κ → Bool} {lt' : κ' → κ' → Bool} (f : κ → κ') (h : ν → ν') (ok : κ → Prop)
/-- A table's rows with other names for keys and things, the order kept. -/
def tMap (l : List (κ × ν)) : List (κ' × ν') := l.map fun p => (f p.1, h p.2)
theorem tMap_nth (l : List (κ × ν)) (i : Nat) (hi : i < l.length) : nth (tMap f h l) i = (f (nth l i).1, h (nth l i).2) := by
  unfold tMap
  rw [nth_get _ _ (by simpa using hi), nth_get _ _ hi]; simp
variable (hf : ∀ a b, ok a → ok b → lt' (f a) (f b) = lt a b) (hi : ∀ a b, ok a → ok b → f a = f b → a = b)
include hf
theorem tMap_below (l : List (κ × ν)) (hl : ∀ p ∈ l, ok p.1) (k : κ) (hk : ok k) : below lt' (tMap f h l) (f k) = below lt l k := by
  unfold below tMap
  induction l with
  | nil => rfl
  | cons p l ih =>
    rw [List.map_cons, List.takeWhile_cons, List.takeWhile_cons]
    rw [hf p.1 k (hl p (by simp)) hk]
    split
    · rw [List.length_cons, List.length_cons, ih (fun q hq => hl q (by simp [hq]))]
    · rfl
include hi
theorem tMap_isIn (l : List (κ × ν)) (hl : ∀ p ∈ l, ok p.1) (k : κ) (hk : ok k) : isIn lt' (tMap f h l) (f k) = isIn lt l k := by
  unfold isIn
  rw [tMap_below f h ok hf l hl k hk]
  have hlen : (tMap f h l).length = l.length := by simp [tMap]
  rw [hlen]
  apply decide_eq_decide.2
  constructor
  · rintro ⟨h1, h2⟩
    rw [tMap_nth f h l _ h1] at h2
    exact ⟨h1, hi _ _ (hl _ (nth_mem _ h1)) hk h2⟩
  · rintro ⟨h1, h2⟩
    refine ⟨h1, ?_⟩
    rw [tMap_nth f h l _ h1]
    exact congrArg f h2
theorem tMap_set (l : List (κ × ν)) (hl : ∀ p ∈ l, ok p.1) (k : κ) (hk : ok k) (v : ν) : tSet lt' (tMap f h l) (f k) (h v) = tMap f h (tSet lt l k v) := by
  unfold tSet
  rw [tMap_isIn f h ok hf hi l hl k hk, tMap_below f h ok hf l hl k hk]
  unfold tMap
  simp [List.map_take, List.map_drop]
theorem tMap_del (l : List (κ × ν)) (hl : ∀ p ∈ l, ok p.1) (k : κ) (hk : ok k) : tDel lt' (tMap f h l) (f k) = tMap f h (tDel lt l k) := by
  unfold tDel
  rw [tMap_isIn f h ok hf hi l hl k hk, tMap_below f h ok hf l hl k hk]
  unfold tMap
  split <;> simp [List.map_take, List.map_drop]
theorem tMap_get (z : ν') (l : List (κ × ν)) (hl : ∀ p ∈ l, ok p.1) (k : κ) (hk : ok k) (z0 : ν) : tGet lt' z (tMap f h l) (f k) = if isIn lt l k then (h (tGet lt z0 l k).1, true) else (z, false) := by
  unfold tGet
  rw [tMap_isIn f h ok hf hi l hl k hk, tMap_below f h ok hf l hl k hk]
  split
  · rename_i hin
    unfold isIn at hin
    rw [tMap_nth f h l _ (of_decide_eq_true hin).1]
  · rfl
end
end Go.Proofs.YtmhojaiajhdlcaaGreat
namespace Go.Proofs.YtmhojaiajhdlcaaGreat
open Go.RowKit
set_option linter.unusedSimpArgs false
set_option linter.unusedVariables false
theorem bl_irr : ∀ a : List UInt8, Op.bytesLess a a = false
  | [] => rfl
  | x :: a => by simp [Op.bytesLess, bl_irr a]
theorem bl_cons (x y : UInt8) (a b : List UInt8) : Op.bytesLess (x :: a) (y :: b) = true ↔ x.toNat < y.toNat ∨ (x = y ∧ Op.bytesLess a b = true) := by
  simp [Op.bytesLess, UInt8.lt_iff_toNat_lt]
theorem bl_trans : ∀ a b c : List UInt8, Op.bytesLess a b = true → Op.bytesLess b c = true → Op.bytesLess a c = true
  | [], [], c, h, _ => by simp [Op.bytesLess] at h
  | [], _ :: _, [], _, h => by simp [Op.bytesLess] at h
  | [], _ :: _, _ :: _, _, _ => by simp [Op.bytesLess]
  | _ :: _, [], _, h, _ => by simp [Op.bytesLess] at h
  | _ :: _, _ :: _, [], _, h => by simp [Op.bytesLess] at h
  | x :: a, y :: b, z :: c, h, k => by
    rw [bl_cons] at h k ⊢
    rcases h with h | ⟨rfl, h⟩
    · rcases k with k | ⟨rfl, k⟩
      · exact .inl (by omega)
      · exact .inl h
    · rcases k with k | ⟨rfl, k⟩
      · exact .inl k
      · exact .inr ⟨rfl, bl_trans a b c h k⟩
theorem bl_tot : ∀ a b : List UInt8, Op.bytesLess a b = false → Op.bytesLess b a = false → a = b
  | [], [], _, _ => rfl
  | [], _ :: _, h, _ => by simp [Op.bytesLess] at h
  | _ :: _, [], _, h => by simp [Op.bytesLess] at h
  | x :: a, y :: b, h, k => by
    have h1 : ¬ (x.toNat < y.toNat ∨ (x = y ∧ Op.bytesLess a b = true)) := fun q => by rw [(bl_cons x y a b).2 q] at h; exact absurd h (by simp)
    have k1 : ¬ (y.toNat < x.toNat ∨ (y = x ∧ Op.bytesLess b a = true)) := fun q => by rw [(bl_cons y x b a).2 q] at k; exact absurd k (by simp)
    have e : x = y := UInt8.toNat_inj.1 (by omega)
    subst e
    have h2 : Op.bytesLess a b = false := by
      cases hq : Op.bytesLess a b with
      | false => rfl
      | true => exact absurd (.inr ⟨rfl, hq⟩) h1
    have k2 : Op.bytesLess b a = false := by
      cases hq : Op.bytesLess b a with
      | false => rfl
      | true => exact absurd (.inr ⟨rfl, hq⟩) k1
    rw [bl_tot a b h2 k2]
abbrev strLt (a b : ByteArray) : Bool := Op.bytesLess a.toList b.toList
theorem strOrd : KOrd strLt := ⟨fun a => bl_irr _, fun a b c => bl_trans _ _ _, fun a b h k => str_inj _ _ (bl_tot _ _ h k)⟩
instance : DecidableEq ByteArray := fun a b => decidable_of_iff (a.toList = b.toList) ⟨str_inj a b, fun h => by rw [h]⟩
end Go.Proofs.YtmhojaiajhdlcaaGreat
namespace Go.Proofs.YtmhojaiajhdlcaaGreat
open Go.RowKit
/-- A name is 1 to 32 bytes from 33 to 126. -/
def nameOk (s : ByteArray) : Bool := decide (1 ≤ s.size ∧ s.size ≤ 32 ∧ ∀ j (h : j < s.size), 33 ≤ (s[j]).toNat ∧ (s[j]).toNat ≤ 126)
end Go.Proofs.YtmhojaiajhdlcaaGreat
namespace Go.Proofs.YtmhojaiajhdlcaaGreat
open Go.RowKit
set_option linter.unusedSimpArgs false
set_option linter.unusedVariables false
abbrev DF := List (ByteArray × List UInt8)
def dTotal (fs : DF) : Nat := (fs.map fun p => p.2.length).sum
/-- A raw write. -/
structure Wr where
  kd : Int
  nm : ByteArray
  tn : ByteArray
  p : List UInt8
  n : Int
instance : Inhabited Wr := ⟨⟨0, ⟨#[]⟩, ⟨#[]⟩, [], 0⟩⟩
abbrev inD (fs : DF) (s : ByteArray) : Bool := isIn strLt fs s
def dGet (fs : DF) (s : ByteArray) : List UInt8 × Bool := tGet strLt [] fs s
theorem dGet_in (fs : DF) (s : ByteArray) : (dGet fs s).2 = inD fs s := by unfold dGet tGet inD; cases isIn strLt fs s <;> rfl
theorem dGet_no {fs : DF} {s : ByteArray} (h : inD fs s = false) : dGet fs s = ([], false) := by unfold dGet tGet; rw [show isIn strLt fs s = _ from h]; rfl
def wApply (x : Wr) (fs : DF) : DF :=
  if x.kd = 1 then tSet strLt fs x.nm [] else
  if x.kd = 2 then tSet strLt fs x.nm ((dGet fs x.nm).1 ++ x.p) else
  if x.kd = 3 then (if inD fs x.nm then tSet strLt (tDel strLt fs x.nm) x.tn (dGet fs x.nm).1 else fs) else
  if x.kd = 4 then tSet strLt fs x.nm ((dGet fs x.nm).1.take x.n.toNat) else
  if x.kd = 5 then tDel strLt fs x.nm else fs
def wAll (fs : DF) (l : List Wr) : DF := l.foldl (fun f x => wApply x f) fs
structure WrOk (x : Wr) (fs : DF) : Prop where
  len : fs.length ≤ 5000
  kd : 1 ≤ x.kd ∧ x.kd ≤ 5
  put : x.kd = 2 → x.p ≠ [] ∧ (dGet fs x.nm).1.length + x.p.length ≤ 16777216
  cut : x.kd = 4 → 0 ≤ x.n ∧ x.n ≤ (dGet fs x.nm).1.length
  tot : dTotal (wApply x fs) ≤ 16777216
  has : x.kd ≠ 1 → inD fs x.nm = true
  new : x.kd = 1 → inD fs x.nm = false
def LogOk : DF → List Wr → Prop
  | _, [] => True
  | fs, x :: l => WrOk x fs ∧ LogOk (wApply x fs) l
theorem LogOk.snoc : ∀ {fs : DF} {l : List Wr} {x : Wr}, LogOk fs l → WrOk x (wAll fs l) → LogOk fs (l ++ [x])
  | fs, [], x, _, h => ⟨h, trivial⟩
  | fs, y :: l, x, h, k => ⟨h.1, LogOk.snoc h.2 k⟩
theorem LogOk.at_ : ∀ {fs : DF} {l : List Wr} (k : Nat), LogOk fs l → k < l.length → WrOk (nth l k) (wAll fs (l.take k))
  | fs, [], k, _, h => by simp at h
  | fs, y :: l, 0, h, _ => h.1
  | fs, y :: l, k + 1, h, hk => by
    rw [nth_cons_succ, List.take_succ_cons]
    exact LogOk.at_ (fs := wApply y fs) k h.2 (by simpa using hk)
theorem LogOk.take : ∀ {fs : DF} {l : List Wr} (k : Nat), LogOk fs l → LogOk fs (l.take k)
  | fs, [], k, _ => by simp [LogOk]
  | fs, y :: l, 0, h => trivial
  | fs, y :: l, k + 1, h => ⟨h.1, LogOk.take k h.2⟩
theorem wAll_snoc (fs : DF) (l : List Wr) (x : Wr) : wAll fs (l ++ [x]) = wApply x (wAll fs l) := by unfold wAll; rw [List.foldl_append]; rfl
theorem take_succ_nth {α : Type} [Inhabited α] (l : List α) (k : Nat) (h : k < l.length) : l.take (k + 1) = l.take k ++ [nth l k] := by rw [List.take_add_one, nth_get _ _ h, List.getElem?_eq_getElem h]; rfl
theorem wAll_take (fs : DF) (l : List Wr) (k : Nat) (h : k < l.length) : wAll fs (l.take (k + 1)) = wApply (nth l k) (wAll fs (l.take k)) := by rw [take_succ_nth l k h, wAll_snoc]
theorem wApply_rising {fs : DF} (h : Rising strLt fs) (x : Wr) : Rising strLt (wApply x fs) := by
  unfold wApply
  split
  · exact h.set_ strOrd _ _
  split
  · exact h.set_ strOrd _ _
  split
  · split
    · exact (h.del strOrd _).set_ strOrd _ _
    · exact h
  split
  · exact h.set_ strOrd _ _
  split
  · exact h.del strOrd _
  · exact h
theorem wAll_rising {fs : DF} (h : Rising strLt fs) : ∀ l : List Wr, Rising strLt (wAll fs l)
  | [] => h
  | x :: l => wAll_rising (wApply_rising h x) l
theorem total_app (a b : DF) : dTotal (a ++ b) = dTotal a + dTotal b := by unfold dTotal; rw [List.map_append, List.sum_append]
theorem total_cons (p : ByteArray × List UInt8) (b : DF) : dTotal (p :: b) = p.2.length + dTotal b := by unfold dTotal; rw [List.map_cons, List.sum_cons]
theorem split_at (fs : DF) (i : Nat) (h : i < fs.length) : fs.take i ++ nth fs i :: fs.drop (i + 1) = fs := by
  rw [nth_get _ _ h, List.getElem_cons_drop, List.take_append_drop]
theorem total_take (fs : DF) (i : Nat) (h : i < fs.length) : dTotal (fs.take (i + 1)) = dTotal (fs.take i) + (nth fs i).2.length := by
  rw [take_succ_nth fs i h, total_app, total_cons]; rfl
theorem total_le (fs : DF) (i : Nat) : dTotal (fs.take i) ≤ dTotal fs := by
  have := total_app (fs.take i) (fs.drop i)
  rw [List.take_append_drop] at this; omega
theorem in_at {fs : DF} {s : ByteArray} (h : inD fs s = true) : below strLt fs s < fs.length ∧ (nth fs (below strLt fs s)).1 = s := by unfold inD isIn at h; exact of_decide_eq_true h
theorem dGet_yes {fs : DF} {s : ByteArray} (h : inD fs s = true) : dGet fs s = ((nth fs (below strLt fs s)).2, true) := by unfold dGet tGet; rw [show isIn strLt fs s = _ from h]; rfl
theorem total_set_in {fs : DF} {s : ByteArray} (v : List UInt8) (h : inD fs s = true) : dTotal (tSet strLt fs s v) + (dGet fs s).1.length = dTotal fs + v.length := by
  obtain ⟨h1, h2⟩ := in_at h
  have h3 := split_at fs _ h1
  have h4 : dTotal fs = dTotal (fs.take (below strLt fs s)) + ((nth fs (below strLt fs s)).2.length + dTotal (fs.drop (below strLt fs s + 1))) := by
    conv => lhs; rw [← h3]
    rw [total_app, total_cons]
  unfold tSet
  rw [show isIn strLt fs s = true from h, if_pos rfl, total_app, total_cons, dGet_yes h, h4]
  show dTotal _ + (v.length + _) + (nth fs (below strLt fs s)).2.length = _
  omega
theorem total_set_no {fs : DF} {s : ByteArray} (v : List UInt8) (h : inD fs s = false) : dTotal (tSet strLt fs s v) = dTotal fs + v.length := by
  have h4 := total_app (fs.take (below strLt fs s)) (fs.drop (below strLt fs s))
  rw [List.take_append_drop] at h4
  unfold tSet
  rw [show isIn strLt fs s = false from h, if_neg (by simp), total_app, total_cons, Nat.add_zero, h4]
  show _ + (v.length + _) = _
  omega
theorem total_del {fs : DF} {s : ByteArray} (h : inD fs s = true) : dTotal (tDel strLt fs s) + (dGet fs s).1.length = dTotal fs := by
  obtain ⟨h1, h2⟩ := in_at h
  have h3 := split_at fs _ h1
  have h4 : dTotal fs = dTotal (fs.take (below strLt fs s)) + ((nth fs (below strLt fs s)).2.length + dTotal (fs.drop (below strLt fs s + 1))) := by
    conv => lhs; rw [← h3]
    rw [total_app, total_cons]
  unfold tDel
  rw [show isIn strLt fs s = true from h, if_pos rfl, total_app, dGet_yes h, h4]
  show dTotal _ + _ + (nth fs (below strLt fs s)).2.length = _
  omega
theorem total_set_le {fs : DF} (s : ByteArray) (v : List UInt8) : dTotal (tSet strLt fs s v) ≤ dTotal fs + v.length := by
  cases h : inD fs s with
  | true => have := total_set_in v h; omega
  | false => have := total_set_no v h; omega
theorem get_le_total (fs : DF) (s : ByteArray) : (dGet fs s).1.length ≤ dTotal fs := by
  cases h : inD fs s with
  | true => have := total_del h; omega
  | false => rw [dGet_no h]; simp
theorem set_len_in {fs : DF} {s : ByteArray} (v : List UInt8) (h : inD fs s = true) : (tSet strLt fs s v).length = fs.length := by
  rw [tSet_in fs s v h, List.length_set]
theorem below_set {fs : DF} (hr : Rising strLt fs) (s : ByteArray) (v : List UInt8) : below strLt (tSet strLt fs s v) s = below strLt fs s := by
  have hle := below_le (lt := strLt) fs s
  have htk : (fs.take (below strLt fs s)).length = below strLt fs s := by rw [List.length_take]; omega
  refine below_eq _ _ _ (by unfold tSet; simp; omega) (fun j hj => ?_) (fun _ => ?_)
  · unfold tSet
    rw [nth_append_left _ _ _ (by rw [htk]; exact hj), nth_take _ _ _ hj]
    exact below_lt fs s j hj
  · unfold tSet
    rw [nth_append_right _ _ _ (by rw [htk]; exact Nat.le_refl _), htk, Nat.sub_self, nth_cons_zero]
    exact strOrd.irr s
theorem nth_set_at (fs : DF) (s : ByteArray) (v : List UInt8) : nth (tSet strLt fs s v) (below strLt fs s) = (s, v) := by
  have hle := below_le (lt := strLt) fs s
  have htk : (fs.take (below strLt fs s)).length = below strLt fs s := by rw [List.length_take]; omega
  unfold tSet
  rw [nth_append_right _ _ _ (by rw [htk]; exact Nat.le_refl _), htk, Nat.sub_self, nth_cons_zero]
theorem in_set {fs : DF} (hr : Rising strLt fs) (s : ByteArray) (v : List UInt8) : inD (tSet strLt fs s v) s = true := by
  have hle := below_le (lt := strLt) fs s
  unfold inD isIn
  rw [below_set hr, nth_set_at]
  exact decide_eq_true ⟨by unfold tSet; simp; omega, rfl⟩
theorem get_set {fs : DF} (hr : Rising strLt fs) (s : ByteArray) (v : List UInt8) : dGet (tSet strLt fs s v) s = (v, true) := by
  rw [dGet_yes (in_set hr s v), below_set hr, nth_set_at]
/-- A disk's state. -/
structure DS where
  now : DF
  mark : DF
  log : List Wr
def dDo (x : Wr) (s : DS) : DS := ⟨wApply x s.now, s.mark, s.log ++ [x]⟩
structure DOk (s : DS) : Prop where
  ris : Rising strLt s.now
  rim : Rising strLt s.mark
  eq : s.now = wAll s.mark s.log
  log : LogOk s.mark s.log
  tot : dTotal s.now ≤ 16777216
  totm : dTotal s.mark ≤ 16777216
theorem DOk.do_ {s : DS} (h : DOk s) {x : Wr} (hx : WrOk x s.now) : DOk (dDo x s) :=
  ⟨wApply_rising h.ris x, h.rim, by unfold dDo; dsimp only; rw [wAll_snoc, ← h.eq], h.log.snoc (by rw [← h.eq]; exact hx), hx.tot, h.totm⟩
abbrev wMake (nm : ByteArray) : Wr := ⟨1, nm, ⟨#[]⟩, [], 0⟩
abbrev wPut (nm : ByteArray) (p : List UInt8) : Wr := ⟨2, nm, ⟨#[]⟩, p, 0⟩
abbrev wRen (nm tn : ByteArray) : Wr := ⟨3, nm, tn, [], 0⟩
abbrev wCut (nm : ByteArray) (n : Int) : Wr := ⟨4, nm, ⟨#[]⟩, [], n⟩
abbrev wRem (nm : ByteArray) : Wr := ⟨5, nm, ⟨#[]⟩, [], 0⟩
def chunks (p : List UInt8) : List (List UInt8) := (List.range ((p.length + 31) / 32)).map fun i => (p.drop (32 * i)).take 32
def dPut (nm : ByteArray) (s : DS) (l : List (List UInt8)) : DS := l.foldl (fun s c => dDo (wPut nm c) s) s
theorem chunks_len (p : List UInt8) : (chunks p).length = (p.length + 31) / 32 := by unfold chunks; simp
theorem chunks_nth (p : List UInt8) (i : Nat) (h : i < (chunks p).length) : nth (chunks p) i = (p.drop (32 * i)).take 32 := by
  unfold chunks at h ⊢
  rw [nth_get _ _ h]; simp
theorem dPut_snoc (nm : ByteArray) (s : DS) (l : List (List UInt8)) (c : List UInt8) : dPut nm s (l ++ [c]) = dDo (wPut nm c) (dPut nm s l) := by unfold dPut; rw [List.foldl_append]; rfl
theorem dPut_take (nm : ByteArray) (s : DS) (p : List UInt8) (i : Nat) (h : i < (chunks p).length) : dPut nm s ((chunks p).take (i + 1)) = dDo (wPut nm ((p.drop (32 * i)).take 32)) (dPut nm s ((chunks p).take i)) := by
  rw [take_succ_nth _ _ h, dPut_snoc, chunks_nth p i h]
theorem put_now (nm : ByteArray) (c : List UInt8) (s : DS) : (dDo (wPut nm c) s).now = tSet strLt s.now nm ((dGet s.now nm).1 ++ c) := rfl
/-- Behind so many chunks. -/
structure PutOk (nm : ByteArray) (s0 s : DS) (n : Nat) : Prop where
  ok : DOk s
  has : inD s.now nm = true
  len : s.now.length = s0.now.length
  tot : dTotal s.now = dTotal s0.now + n
  log : s.log.length ≤ s0.log.length + n
  mark : s.mark = s0.mark
theorem PutOk.step {nm : ByteArray} {s0 s : DS} {n : Nat} (h : PutOk nm s0 s n) (c : List UInt8) (hc : c ≠ []) (hl : s0.now.length ≤ 5000) (ht : dTotal s0.now + (n + c.length) ≤ 16777216) : WrOk (wPut nm c) s.now ∧ PutOk nm s0 (dDo (wPut nm c) s) (n + c.length) := by
  have h1 := total_set_in ((dGet s.now nm).1 ++ c) h.has
  have h2 := get_le_total s.now nm
  rw [List.length_append] at h1
  have h3 := h.tot
  have hcl : 0 < c.length := List.length_pos_iff.2 hc
  have hw : WrOk (wPut nm c) s.now := ⟨by rw [h.len]; exact hl, ⟨by show (1 : Int) ≤ 2; decide, by show (2 : Int) ≤ 5; decide⟩, fun _ => ⟨hc, by show (dGet s.now nm).1.length + c.length ≤ _; omega⟩, fun q => absurd q (show ¬ (2 : Int) = 4 by decide), by show dTotal (tSet strLt s.now nm ((dGet s.now nm).1 ++ c)) ≤ _; omega, fun _ => h.has, fun q => absurd q (show ¬ (2 : Int) = 1 by decide)⟩
  refine ⟨hw, h.ok.do_ hw, in_set h.ok.ris _ _, by rw [put_now, set_len_in _ h.has]; exact h.len, by rw [put_now]; omega, ?_, h.mark⟩
  have := h.log
  unfold dDo; simp; omega
theorem PutOk.all {nm : ByteArray} {s0 : DS} (p : List UInt8) (h : DOk s0) (hin : inD s0.now nm = true) (hl : s0.now.length ≤ 5000) (ht : dTotal s0.now + p.length ≤ 16777216) : ∀ i, i ≤ (chunks p).length → PutOk nm s0 (dPut nm s0 ((chunks p).take i)) (min (32 * i) p.length)
  | 0, _ => ⟨h, hin, rfl, by simp [dPut], by simp [dPut], rfl⟩
  | i + 1, hi => by
    have hlen := chunks_len p
    rw [dPut_take nm s0 p i (by omega)]
    have ih := PutOk.all p h hin hl ht i (by omega)
    have hlt : 32 * i < p.length := by omega
    have hcl : ((p.drop (32 * i)).take 32).length = min 32 (p.length - 32 * i) := by rw [List.length_take, List.length_drop]
    have := (ih.step ((p.drop (32 * i)).take 32) (fun q => by rw [q] at hcl; simp at hcl; omega) hl (by rw [hcl]; omega)).2
    rw [hcl] at this
    rw [show min (32 * (i + 1)) p.length = min (32 * i) p.length + min 32 (p.length - 32 * i) by omega]
    exact this
def dAppend (s : DS) (nm : ByteArray) (p : List UInt8) : Int × DS :=
  if nameOk nm then (if 16777216 < dTotal s.now + p.length then (9, s) else (0, dPut nm (if inD s.now nm then s else dDo (wMake nm) s) (chunks p))) else (14, s)
def dRename (s : DS) (nm tn : ByteArray) : Int × DS := if nameOk tn then (if inD s.now nm then (0, dDo (wRen nm tn) s) else (7, s)) else (14, s)
def dCut (s : DS) (nm : ByteArray) (n : Int) : Int × DS := if inD s.now nm then (if n < 0 ∨ (dGet s.now nm).1.length < n then (1, s) else (0, dDo (wCut nm n) s)) else (7, s)
def dRemove (s : DS) (nm : ByteArray) : Int × DS := if inD s.now nm then (0, dDo (wRem nm) s) else (7, s)
def dMark (s : DS) : DS := ⟨s.now, s.now, []⟩
def dBackF (s : DS) (n : Int) : DF := wAll s.mark (s.log.take n.toNat)
def dBack (s : DS) (n : Int) : DS := ⟨dBackF s n, dBackF s n, []⟩
theorem DOk.make {s : DS} (h : DOk s) (nm : ByteArray) (hn : inD s.now nm = false) (hl : s.now.length ≤ 5000) : WrOk (wMake nm) s.now ∧ DOk (dDo (wMake nm) s) ∧ inD (dDo (wMake nm) s).now nm = true ∧ dTotal (dDo (wMake nm) s).now = dTotal s.now ∧ (dDo (wMake nm) s).now.length ≤ s.now.length + 1 := by
  have ht := total_set_no (s := nm) [] hn
  have hw : WrOk (wMake nm) s.now := ⟨hl, ⟨by show (1 : Int) ≤ 1; decide, by show (1 : Int) ≤ 5; decide⟩, fun q => absurd q (show ¬ (1 : Int) = 2 by decide), fun q => absurd q (show ¬ (1 : Int) = 4 by decide), by show dTotal (tSet strLt s.now nm []) ≤ _; have := h.tot; simp at ht; omega, fun q => absurd (show (1 : Int) = 1 from rfl) q, fun _ => hn⟩
  have he : (dDo (wMake nm) s).now = tSet strLt s.now nm [] := rfl
  refine ⟨hw, h.do_ hw, ?_, ?_, ?_⟩
  · rw [he]; exact in_set h.ris _ _
  · rw [he, ht]; rfl
  · rw [he]; exact tSet_len _ _ _
theorem DOk.ren {s : DS} (h : DOk s) (nm tn : ByteArray) (hn : inD s.now nm = true) (hl : s.now.length ≤ 5000) : WrOk (wRen nm tn) s.now ∧ DOk (dDo (wRen nm tn) s) := by
  suffices hw : WrOk (wRen nm tn) s.now from ⟨hw, h.do_ hw⟩
  refine ⟨hl, ⟨by show (1 : Int) ≤ 3; decide, by show (3 : Int) ≤ 5; decide⟩, fun q => absurd q (show ¬ (3 : Int) = 2 by decide), fun q => absurd q (show ¬ (3 : Int) = 4 by decide), ?_, fun _ => hn, fun q => absurd q (show ¬ (3 : Int) = 1 by decide)⟩
  show dTotal (if inD s.now nm = true then tSet strLt (tDel strLt s.now nm) tn (dGet s.now nm).1 else s.now) ≤ _
  rw [if_pos hn]
  have h1 := total_set_le (fs := tDel strLt s.now nm) tn (dGet s.now nm).1
  have h2 := total_del hn
  have := h.tot
  omega
theorem DOk.cut {s : DS} (h : DOk s) (nm : ByteArray) (n : Int) (hn : inD s.now nm = true) (h0 : 0 ≤ n) (hle : n ≤ (dGet s.now nm).1.length) (hl : s.now.length ≤ 5000) : WrOk (wCut nm n) s.now ∧ DOk (dDo (wCut nm n) s) := by
  suffices hw : WrOk (wCut nm n) s.now from ⟨hw, h.do_ hw⟩
  refine ⟨hl, ⟨by show (1 : Int) ≤ 4; decide, by show (4 : Int) ≤ 5; decide⟩, fun q => absurd q (show ¬ (4 : Int) = 2 by decide), fun _ => ⟨h0, hle⟩, ?_, fun _ => hn, fun q => absurd q (show ¬ (4 : Int) = 1 by decide)⟩
  show dTotal (tSet strLt s.now nm ((dGet s.now nm).1.take n.toNat)) ≤ _
  have h1 := total_set_in ((dGet s.now nm).1.take n.toNat) hn
  rw [List.length_take] at h1
  have := h.tot
  omega
theorem DOk.rem {s : DS} (h : DOk s) (nm : ByteArray) (hn : inD s.now nm = true) (hl : s.now.length ≤ 5000) : WrOk (wRem nm) s.now ∧ DOk (dDo (wRem nm) s) := by
  suffices hw : WrOk (wRem nm) s.now from ⟨hw, h.do_ hw⟩
  refine ⟨hl, ⟨by show (1 : Int) ≤ 5; decide, by show (5 : Int) ≤ 5; decide⟩, fun q => absurd q (show ¬ (5 : Int) = 2 by decide), fun q => absurd q (show ¬ (5 : Int) = 4 by decide), ?_, fun _ => hn, fun q => absurd q (show ¬ (5 : Int) = 1 by decide)⟩
  show dTotal (tDel strLt s.now nm) ≤ _
  have h1 := total_del hn
  have := h.tot
  omega
theorem wAll_tot : ∀ {fs : DF} {l : List Wr}, LogOk fs l → dTotal fs ≤ 16777216 → dTotal (wAll fs l) ≤ 16777216
  | fs, [], _, h => h
  | fs, x :: l, h, _ => wAll_tot (fs := wApply x fs) h.2 h.1.tot
theorem DOk.mark {s : DS} (h : DOk s) : DOk (dMark s) := ⟨h.ris, h.ris, rfl, trivial, h.tot, h.tot⟩
theorem DOk.back {s : DS} (h : DOk s) (n : Int) : DOk (dBack s n) :=
  have hr := wAll_rising h.rim (s.log.take n.toNat)
  have ht := wAll_tot (h.log.take n.toNat) h.totm
  ⟨hr, hr, rfl, trivial, ht, ht⟩
theorem DOk.zero : DOk ⟨[], [], []⟩ := ⟨Rising.nil, Rising.nil, rfl, trivial, by simp [dTotal], by simp [dTotal]⟩
theorem DOk.append {s : DS} (h : DOk s) (nm : ByteArray) (p : List UInt8) (hl : s.now.length ≤ 4999) : DOk (dAppend s nm p).2 := by
  unfold dAppend
  split
  · split
    · exact h
    · rename_i ht
      dsimp only
      cases hin : inD s.now nm with
      | true =>
        rw [if_pos rfl]
        have := (PutOk.all p h hin (by omega) (by omega) (chunks p).length (Nat.le_refl _)).ok
        rwa [List.take_length] at this
      | false =>
        rw [if_neg (by simp)]
        obtain ⟨h1, h2, h3, h4, h5⟩ := h.make nm hin (by omega)
        have := (PutOk.all p h2 h3 (by omega) (by omega) (chunks p).length (Nat.le_refl _)).ok
        rwa [List.take_length] at this
  · exact h
end Go.Proofs.YtmhojaiajhdlcaaGreat
namespace Go.Proofs.YtmhojaiajhdlcaaGreat
open Go.RowKit
set_option linter.unusedSimpArgs false
set_option linter.unusedVariables false
structure Grows (s s' : DS) (n : Nat) : Prop where
  now : s'.now.length ≤ s.now.length + 1
  log : s'.log.length ≤ s.log.length + n + 1
  mark : s'.mark = s.mark
theorem Grows.refl (s : DS) (n : Nat) : Grows s s n := ⟨by omega, by omega, rfl⟩
theorem grows_do (x : Wr) (s : DS) (n : Nat) : Grows s (dDo x s) n := by
  refine ⟨?_, by unfold dDo; simp, rfl⟩
  have h1 := fun k v => tSet_len (lt := strLt) s.now k v
  have h2 := tDel_len (lt := strLt) s.now x.nm
  have h3 := tSet_len (lt := strLt) (tDel strLt s.now x.nm) x.tn (dGet s.now x.nm).1
  show (wApply x s.now).length ≤ _
  unfold wApply
  split
  · exact h1 _ _
  split
  · exact h1 _ _
  split
  · split <;> omega
  split
  · exact h1 _ _
  split <;> omega
theorem grows_append {s : DS} (h : DOk s) (nm : ByteArray) (p : List UInt8) (hl : s.now.length ≤ 4999) : Grows s (dAppend s nm p).2 p.length := by
  unfold dAppend
  split
  · split
    · exact Grows.refl _ _
    · rename_i ht
      dsimp only
      cases hin : inD s.now nm with
      | true =>
        rw [if_pos rfl]
        have h1 := PutOk.all p h hin (by omega) (by omega) (chunks p).length (Nat.le_refl _)
        rw [List.take_length] at h1
        exact ⟨by rw [h1.len]; omega, by have := h1.log; omega, h1.mark⟩
      | false =>
        rw [if_neg (by simp)]
        obtain ⟨k1, k2, k3, k4, k5⟩ := h.make nm hin (by omega)
        have h1 := PutOk.all p k2 k3 (by omega) (by omega) (chunks p).length (Nat.le_refl _)
        rw [List.take_length] at h1
        have hlog : (dDo (wMake nm) s).log.length = s.log.length + 1 := by unfold dDo; simp
        exact ⟨by rw [h1.len]; exact k5, by have := h1.log; omega, h1.mark⟩
  · exact Grows.refl _ _
theorem grows_rename (s : DS) (nm tn : ByteArray) (n : Nat) : Grows s (dRename s nm tn).2 n := by
  unfold dRename
  split
  · split
    · exact grows_do _ _ _
    · exact Grows.refl _ _
  · exact Grows.refl _ _
theorem grows_cut (s : DS) (nm : ByteArray) (m : Int) (n : Nat) : Grows s (dCut s nm m).2 n := by
  unfold dCut
  split
  · split
    · exact Grows.refl _ _
    · exact grows_do _ _ _
  · exact Grows.refl _ _
theorem grows_remove (s : DS) (nm : ByteArray) (n : Nat) : Grows s (dRemove s nm).2 n := by
  unfold dRemove
  split
  · exact grows_do _ _ _
  · exact Grows.refl _ _
/-- Back of all: the files are what they were. -/
theorem back_all {s : DS} (h : DOk s) : (dBack s (s.log.length : Int)).now = s.now := by
  show dBackF s _ = _
  unfold dBackF
  rw [Int.toNat_natCast, List.take_length, ← h.eq]
theorem back_log (s : DS) (n : Int) : (dBack s n).log = [] := rfl
theorem back_zero {s : DS} (h : s.mark = []) : (dBack s 0).now = [] := by
  show dBackF s 0 = _
  unfold dBackF
  rw [h]; rfl
theorem back_nlen {s : DS} (h : DOk s) (hm : s.mark = []) (n : Int) : (dBack s n).now.length ≤ 100000 := by
  show (dBackF s n).length ≤ _
  unfold dBackF
  have : ∀ {fs : DF} {l : List Wr}, LogOk fs l → fs.length ≤ 100000 → (wAll fs l).length ≤ 100000 := by
    intro fs l
    induction l generalizing fs with
    | nil => exact fun _ h => h
    | cons x l ih =>
      intro h _
      refine ih (fs := wApply x fs) h.2 ?_
      have := (grows_do x ⟨fs, [], []⟩ 0).now
      have h5 := h.1.len
      have h6 : (wApply x fs).length ≤ fs.length + 1 := this
      omega
  exact this (h.log.take _) (by rw [hm]; simp)
end Go.Proofs.YtmhojaiajhdlcaaGreat
namespace Go.Proofs.YtmhojaiajhdlcaaGreat
open Go.RowKit
set_option linter.unusedSimpArgs false
set_option linter.unusedVariables false
/-- The names of a raw write. -/
def WrNm (x : Wr) : Prop := nameOk x.nm = true ∧ (x.kd = 3 → nameOk x.tn = true)
def FsNm (fs : DF) : Prop := ∀ p ∈ fs, nameOk p.1 = true
theorem FsNm.set_ {fs : DF} (h : FsNm fs) (k : ByteArray) (v : List UInt8) (hk : nameOk k = true) : FsNm (tSet strLt fs k v) := by
  intro p hp
  unfold tSet at hp
  rcases List.mem_append.1 hp with q | q
  · exact h p (List.mem_of_mem_take q)
  · rcases List.mem_cons.1 q with rfl | q
    · exact hk
    · exact h p (List.mem_of_mem_drop q)
theorem FsNm.del {fs : DF} (h : FsNm fs) (k : ByteArray) : FsNm (tDel strLt fs k) := by
  intro p hp
  unfold tDel at hp
  split at hp
  · rcases List.mem_append.1 hp with q | q
    · exact h p (List.mem_of_mem_take q)
    · exact h p (List.mem_of_mem_drop q)
  · exact h p hp
theorem FsNm.has {fs : DF} (h : FsNm fs) {k : ByteArray} (hin : inD fs k = true) : nameOk k = true := by
  obtain ⟨h1, h2⟩ := in_at hin
  rw [← h2]
  exact h _ (by rw [nth_get _ _ h1]; exact List.getElem_mem _)
theorem FsNm.apply {fs : DF} (h : FsNm fs) {x : Wr} (hx : WrNm x) : FsNm (wApply x fs) := by
  unfold wApply
  split
  · exact h.set_ _ _ hx.1
  split
  · exact h.set_ _ _ hx.1
  split
  · rename_i h3
    split
    · exact (h.del _).set_ _ _ (hx.2 h3)
    · exact h
  split
  · exact h.set_ _ _ hx.1
  split
  · exact h.del _
  · exact h
theorem FsNm.all : ∀ {l : List Wr} {fs : DF}, FsNm fs → (∀ x ∈ l, WrNm x) → FsNm (wAll fs l)
  | [], fs, h, _ => h
  | x :: l, fs, h, hl => FsNm.all (fs := wApply x fs) (h.apply (hl x (by simp))) (fun y hy => hl y (by simp [hy]))
theorem aApply_len (x : Wr) (fs : DF) : (wApply x fs).length ≤ fs.length + 1 := (grows_do x ⟨fs, [], []⟩ 0).now
theorem aAll_len : ∀ (l : List Wr) (fs : DF), (wAll fs l).length ≤ fs.length + l.length
  | [], fs => by simp [wAll]
  | x :: l, fs => by
    have h1 := aAll_len l (wApply x fs)
    have h2 := aApply_len x fs
    have h3 : wAll fs (x :: l) = wAll (wApply x fs) l := rfl
    rw [h3, List.length_cons]; omega
/-- Behind k calls. -/
structure Any (k : Nat) (s : DS) : Prop where
  ok : DOk s
  sum : s.mark.length + s.log.length ≤ 18 * k
  mnm : FsNm s.mark
  lnm : ∀ x ∈ s.log, WrNm x
theorem Any.zero : Any 0 ⟨[], [], []⟩ := ⟨DOk.zero, by simp, fun p h => by simp at h, fun p h => by simp at h⟩
theorem Any.nnm {k : Nat} {s : DS} (h : Any k s) : FsNm s.now := by rw [h.ok.eq]; exact h.mnm.all h.lnm
theorem Any.nlen {k : Nat} {s : DS} (h : Any k s) : s.now.length ≤ 18 * k := by
  have := aAll_len s.log s.mark
  rw [← h.ok.eq] at this
  have := h.sum; omega
theorem Any.up {k : Nat} {s : DS} (h : Any k s) : Any (k + 1) s := ⟨h.ok, by have := h.sum; omega, h.mnm, h.lnm⟩
theorem Any.do_ {k : Nat} {s : DS} (h : Any k s) {x : Wr} (hx : WrOk x s.now) (hn : WrNm x) : Any (k + 1) (dDo x s) :=
  ⟨h.ok.do_ hx, by have := h.sum; unfold dDo; simp; omega, h.mnm, fun y hy => by
    rcases List.mem_append.1 hy with q | q
    · exact h.lnm y q
    · simp at q; subst q; exact hn⟩
theorem dPut_log (nm : ByteArray) : ∀ (l : List (List UInt8)) (s : DS), (dPut nm s l).log = s.log ++ l.map (wPut nm)
  | [], s => by simp [dPut]
  | c :: l, s => by
    have h : dPut nm s (c :: l) = dPut nm (dDo (wPut nm c) s) l := rfl
    rw [h, dPut_log nm l]; unfold dDo; simp
theorem dPut_mark (nm : ByteArray) : ∀ (l : List (List UInt8)) (s : DS), (dPut nm s l).mark = s.mark
  | [], s => rfl
  | c :: l, s => by
    have h : dPut nm s (c :: l) = dPut nm (dDo (wPut nm c) s) l := rfl
    rw [h, dPut_mark nm l]; rfl
theorem puts_nm {nm : ByteArray} (h : nameOk nm = true) (l : List (List UInt8)) : ∀ x ∈ l.map (wPut nm), WrNm x := by
  intro x hx
  obtain ⟨c, _, rfl⟩ := List.mem_map.1 hx
  exact ⟨h, fun q => absurd q (show ¬ (2 : Int) = 3 by decide)⟩
theorem Any.append {k : Nat} {s : DS} (h : Any k s) (nm : ByteArray) (p : List UInt8) (hp : p.length ≤ 500) (hk : k ≤ 100) : Any (k + 1) (dAppend s nm p).2 := by
  have hl := h.nlen
  have hok := h.ok.append nm p (by omega)
  have hcl := chunks_len p
  have hs := h.sum
  revert hok
  unfold dAppend
  cases hn : nameOk nm with
  | false => intro _; exact h.up
  | true =>
    rw [if_pos rfl]
    split
    · intro _; exact h.up
    · cases hin : inD s.now nm with
      | true =>
        rw [if_pos rfl]
        intro hok
        refine ⟨hok, ?_, by dsimp only; rw [dPut_mark]; exact h.mnm, ?_⟩
        · dsimp only; rw [dPut_mark, dPut_log, List.length_append, List.length_map]; omega
        · intro x hx
          dsimp only at hx
          rw [dPut_log] at hx
          rcases List.mem_append.1 hx with q | q
          · exact h.lnm x q
          · exact puts_nm hn _ x q
      | false =>
        rw [if_neg (by simp)]
        intro hok
        refine ⟨hok, ?_, by dsimp only; rw [dPut_mark]; exact h.mnm, ?_⟩
        · dsimp only; rw [dPut_mark, dPut_log, List.length_append, List.length_map]; unfold dDo; dsimp only; rw [List.length_append]; simp; omega
        · intro x hx
          dsimp only at hx
          rw [dPut_log] at hx
          rcases List.mem_append.1 hx with q | q
          · rcases List.mem_append.1 (show x ∈ s.log ++ [wMake nm] from q) with q | q
            · exact h.lnm x q
            · simp at q; subst q; exact ⟨hn, fun q => absurd q (show ¬ (1 : Int) = 3 by decide)⟩
          · exact puts_nm hn _ x q
theorem Any.rename {k : Nat} {s : DS} (h : Any k s) (nm tn : ByteArray) (hk : k ≤ 100) : Any (k + 1) (dRename s nm tn).2 := by
  have hl := h.nlen
  unfold dRename
  cases hn : nameOk tn with
  | false => exact h.up
  | true =>
    cases hin : inD s.now nm with
    | false => exact h.up
    | true => exact h.do_ (h.ok.ren nm tn hin (by omega)).1 ⟨h.nnm.has hin, fun _ => hn⟩
theorem Any.cut {k : Nat} {s : DS} (h : Any k s) (nm : ByteArray) (n : Int) (hk : k ≤ 100) : Any (k + 1) (dCut s nm n).2 := by
  have hl := h.nlen
  unfold dCut
  cases hin : inD s.now nm with
  | false => exact h.up
  | true =>
    rw [if_pos rfl]
    split
    · exact h.up
    · rename_i hb
      exact h.do_ (h.ok.cut nm n hin (by omega) (by omega) (by omega)).1 ⟨h.nnm.has hin, fun q => absurd q (show ¬ (4 : Int) = 3 by decide)⟩
theorem Any.remove {k : Nat} {s : DS} (h : Any k s) (nm : ByteArray) (hk : k ≤ 100) : Any (k + 1) (dRemove s nm).2 := by
  have hl := h.nlen
  unfold dRemove
  cases hin : inD s.now nm with
  | false => exact h.up
  | true => exact h.do_ (h.ok.rem nm hin (by omega)).1 ⟨h.nnm.has hin, fun q => absurd q (show ¬ (5 : Int) = 3 by decide)⟩
theorem Any.mark {k : Nat} {s : DS} (h : Any k s) : Any (k + 1) (dMark s) :=
  ⟨h.ok.mark, by have := h.nlen; show s.now.length + 0 ≤ _; omega, h.nnm, fun x hx => by simp [dMark] at hx⟩
theorem Any.back {k : Nat} {s : DS} (h : Any k s) (n : Int) : Any (k + 1) (dBack s n) := by
  refine ⟨h.ok.back n, ?_, h.mnm.all fun x hx => h.lnm x (List.mem_of_mem_take hx), fun x hx => by simp [dBack] at hx⟩
  have h1 := aAll_len (s.log.take n.toNat) s.mark
  have h2 := h.sum
  rw [List.length_take] at h1
  show (wAll s.mark (s.log.take n.toNat)).length + 0 ≤ _
  omega
theorem Any.no {k : Nat} {s : DS} (h : Any k s) (nm : ByteArray) (hn : nameOk nm = false) : inD s.now nm = false := by
  cases hin : inD s.now nm with
  | false => rfl
  | true => rw [h.nnm.has hin] at hn; exact absurd hn (by simp)
end Go.Proofs.YtmhojaiajhdlcaaGreat
namespace Go.Proofs.YtmhojaiajhdlcaaGreat
open Go.RowKit
set_option linter.unusedSimpArgs false
set_option linter.unusedVariables false
theorem chunks_flat (p : List UInt8) : ∀ k, ((chunks p).take k).flatten = p.take (32 * k)
  | 0 => by simp
  | k + 1 => by
    have hl := chunks_len p
    rcases Nat.lt_or_ge k (chunks p).length with h | h
    · rw [take_succ_nth _ k h, List.flatten_append, chunks_flat p k, chunks_nth p k h]
      rw [show 32 * (k + 1) = 32 * k + 32 by omega, List.take_add]
      simp
    · rw [List.take_of_length_le (by omega), ← List.take_of_length_le h, chunks_flat p k, List.take_of_length_le (by omega), List.take_of_length_le (by omega)]
theorem chunks_all (p : List UInt8) : (chunks p).flatten = p := by
  have h := chunks_flat p (chunks p).length
  have hl := chunks_len p
  rw [List.take_length, List.take_of_length_le (by omega)] at h
  exact h
section
variable (nm : ByteArray)
theorem below_one {ν : Type} (x : ν) : below strLt [(nm, x)] nm = 0 := by unfold below; rw [List.takeWhile_cons, strOrd.irr nm]; rfl
theorem isIn_one {ν : Type} [Inhabited ν] (x : ν) : isIn strLt [(nm, x)] nm = true := by unfold isIn; rw [below_one]; exact decide_eq_true ⟨by simp, rfl⟩
theorem get_one (b : List UInt8) : dGet [(nm, b)] nm = (b, true) := by rw [dGet_yes (isIn_one nm b), below_one]; rfl
theorem set_one (b c : List UInt8) : tSet strLt [(nm, b)] nm c = [(nm, c)] := by unfold tSet; rw [isIn_one, below_one]; rfl
theorem set_none (c : List UInt8) : tSet strLt ([] : DF) nm c = [(nm, c)] := rfl
theorem put_one (mk : DF) : ∀ (l : List (List UInt8)) (b : List UInt8) (lg : List Wr), dPut nm ⟨[(nm, b)], mk, lg⟩ l = ⟨[(nm, b ++ l.flatten)], mk, lg ++ l.map (wPut nm)⟩
  | [], b, lg => by simp [dPut]
  | c :: l, b, lg => by
    have h1 : dPut nm ⟨[(nm, b)], mk, lg⟩ (c :: l) = dPut nm (dDo (wPut nm c) ⟨[(nm, b)], mk, lg⟩) l := rfl
    have h2 : dDo (wPut nm c) ⟨[(nm, b)], mk, lg⟩ = ⟨[(nm, b ++ c)], mk, lg ++ [wPut nm c]⟩ := by
      unfold dDo
      have : wApply (wPut nm c) [(nm, b)] = tSet strLt [(nm, b)] nm ((dGet [(nm, b)] nm).1 ++ c) := rfl
      rw [this, get_one, set_one]
    rw [h1, h2, put_one mk l (b ++ c) (lg ++ [wPut nm c])]
    simp
theorem wAll_puts : ∀ (l : List (List UInt8)) (b : List UInt8), wAll [(nm, b)] (l.map (wPut nm)) = [(nm, b ++ l.flatten)]
  | [], b => by simp [wAll]
  | c :: l, b => by
    have h1 : wAll [(nm, b)] ((c :: l).map (wPut nm)) = wAll (wApply (wPut nm c) [(nm, b)]) (l.map (wPut nm)) := rfl
    have h2 : wApply (wPut nm c) [(nm, b)] = [(nm, b ++ c)] := by
      have : wApply (wPut nm c) [(nm, b)] = tSet strLt [(nm, b)] nm ((dGet [(nm, b)] nm).1 ++ c) := rfl
      rw [this, get_one, set_one]
    rw [h1, h2, wAll_puts l (b ++ c)]
    simp
theorem append_one (p : List UInt8) (hok : nameOk nm = true) (hp : p.length ≤ 16777216) : dAppend ⟨[], [], []⟩ nm p = (0, ⟨[(nm, p)], [], wMake nm :: (chunks p).map (wPut nm)⟩) := by
  unfold dAppend
  have h0 : dTotal [] = 0 := rfl
  rw [hok, if_pos rfl, if_neg (by show ¬ 16777216 < dTotal [] + p.length; omega)]
  have h1 : (if inD (⟨[], [], []⟩ : DS).now nm = true then (⟨[], [], []⟩ : DS) else dDo (wMake nm) ⟨[], [], []⟩) = ⟨[(nm, [])], [], [wMake nm]⟩ := rfl
  rw [h1, put_one, List.nil_append, chunks_all]; rfl
theorem back_one (p : List UInt8) (n : Int) : dGet (dBackF ⟨[(nm, p)], [], wMake nm :: (chunks p).map (wPut nm)⟩ n) nm = (p.take (32 * (n.toNat - 1)), decide (n.toNat ≠ 0)) := by
  unfold dBackF
  dsimp only
  cases hn : n.toNat with
  | zero => rfl
  | succ m =>
    rw [List.take_succ_cons]
    have h1 : wAll [] (wMake nm :: ((chunks p).map (wPut nm)).take m) = wAll [(nm, [])] (((chunks p).map (wPut nm)).take m) := rfl
    rw [h1, ← List.map_take, wAll_puts, List.nil_append, chunks_flat, get_one]
    simp
end
end Go.Proofs.YtmhojaiajhdlcaaGreat
namespace Go.Proofs.YtmhojaiajhdlcaaGreat
open Go.RowKit
set_option linter.unusedSimpArgs false
set_option linter.unusedVariables false
abbrev nmL : ByteArray := ⟨#[108, 101, 100, 103, 101, 114]⟩
theorem nmL_ok : nameOk nmL = true := by unfold nameOk; decide
def nxt (b : List UInt8) (at_ : Nat) (rl : List Rec) : Option (Rec × Nat) :=
  if (nextF b at_).2.2 = 0 ∧ (getRec (nextF b at_).1).2 = true ∧ hasK rl (getRec (nextF b at_).1).1.key = false then some ((getRec (nextF b at_).1).1, (nextF b at_).2.1.toNat) else none
def scanL (b : List UInt8) : Nat → Nat → List Rec → List Rec × Nat
  | 0, at_, rl => (rl, at_)
  | f + 1, at_, rl => match nxt b at_ rl with
    | some q => scanL b f q.2 (rl ++ [q.1])
    | none => (rl, at_)
def lScan (b : List UInt8) : List Rec × Nat := scanL b (b.length + 1) 0 []
def lOpen (s : DS) : List Rec × DS :=
  ((lScan (dGet s.now nmL).1).1, if (lScan (dGet s.now nmL).1).2 < (dGet s.now nmL).1.length then (dCut s nmL (lScan (dGet s.now nmL).1).2).2 else s)
def lAdd (rl : List Rec) (s : DS) (r : Rec) : (Bool × Int) × List Rec × DS :=
  if recOk r then
    if hasK rl r.key then ((false, 0), rl, s)
    else if (dAppend s nmL (frameOf (encRec r))).1 = 0 then ((true, 0), rl ++ [r], (dAppend s nmL (frameOf (encRec r))).2)
    else ((false, (dAppend s nmL (frameOf (encRec r))).1), rl, (dAppend s nmL (frameOf (encRec r))).2)
  else ((false, 1), rl, s)
theorem nextF_to (b : List UInt8) (k : Nat) (hk : k ≤ b.length) (he : (nextF b (k : Int)).2.2 = 0) :
    ∃ n, 1 ≤ n ∧ n ≤ 262144 ∧ k + 8 + n ≤ b.length ∧ (nextF b (k : Int)).2.1 = ((k + 8 + n : Nat) : Int) ∧ (nextF b (k : Int)).1.length = n := by
  rw [nextF_at b k hk] at he ⊢
  have hl : (b.drop k).length = b.length - k := List.length_drop
  unfold nextR at he ⊢
  split at he
  · exact absurd he (by simp)
  · rename_i h1
    split at he
    · exact absurd he (by simp)
    · rename_i h2
      split at he
      · exact absurd he (by simp)
      · rename_i h3
        split at he
        · exact absurd he (by simp)
        · rename_i h4
          rw [if_neg h1, if_neg h2, if_neg h3, if_neg h4]
          refine ⟨num4 (b.drop k), by omega, by omega, by omega, rfl, ?_⟩
          dsimp only
          rw [List.length_take, List.length_drop]; omega
theorem fit_rec {r : Rec} (h : recOk r = true) : Fit (encRec r) := by have := encRec_len h; exact ⟨by omega, by omega⟩
/-- The file of records. -/
def Fr (rl : List Rec) : List UInt8 := framesOf (rl.map encRec)
theorem Fr_nil : Fr [] = [] := rfl
theorem Fr_snoc (rl : List Rec) (r : Rec) : Fr (rl ++ [r]) = Fr rl ++ frameOf (encRec r) := by unfold Fr; rw [List.map_append]; exact framesOf_snoc _ _
theorem Fr_app (a b : List Rec) : Fr (a ++ b) = Fr a ++ Fr b := by unfold Fr framesOf; rw [List.map_append, List.flatMap_append]
theorem Fr_cons (r : Rec) (b : List Rec) : Fr (r :: b) = frameOf (encRec r) ++ Fr b := by simp [Fr, framesOf]
def Ee (all : List Rec) (m : Nat) : Nat := (Fr (all.take m)).length
theorem Ee_zero (all : List Rec) : Ee all 0 = 0 := by simp [Ee, Fr, framesOf]
theorem Ee_succ (all : List Rec) (m : Nat) (h : m < all.length) : Ee all (m + 1) = Ee all m + (frameOf (encRec (nth all m))).length := by
  unfold Ee
  rw [List.take_add_one, List.getElem?_eq_getElem h, ← nth_get all m h]
  show (Fr (all.take m ++ [nth all m])).length = _
  rw [Fr_snoc, List.length_append]
theorem Ee_all (all : List Rec) (m : Nat) (h : all.length ≤ m) : Ee all m = (Fr all).length := by unfold Ee; rw [List.take_of_length_le h]
theorem Ee_mono (all : List Rec) {m n : Nat} (h : m ≤ n) : Ee all m ≤ Ee all n := by
  unfold Ee
  have : all.take n = all.take m ++ (all.take n).drop m := by
    have := List.take_append_drop m (all.take n)
    rw [List.take_take, Nat.min_eq_left h] at this; exact this.symm
  rw [this, Fr_app, List.length_append]; omega
theorem Ee_lt (all : List Rec) {m n : Nat} (h : m < n) (hn : n ≤ all.length) : Ee all m < Ee all n := by
  have h1 := Ee_succ all m (by omega)
  have h2 := Ee_mono all (show m + 1 ≤ n by omega)
  rw [frameOf_len] at h1; omega
theorem Fr_drop (all : List Rec) (m : Nat) : (Fr all).drop (Ee all m) = Fr (all.drop m) := by
  have h : Fr all = Fr (all.take m) ++ Fr (all.drop m) := by rw [← Fr_app, List.take_append_drop]
  unfold Ee
  rw [h]
  exact List.drop_left
theorem Fr_take (all : List Rec) (m : Nat) : (Fr all).take (Ee all m) = Fr (all.take m) := by
  have h : Fr all = Fr (all.take m) ++ Fr (all.drop m) := by rw [← Fr_app, List.take_append_drop]
  unfold Ee
  rw [h]
  exact List.take_left
/-- Records whose keys all differ. -/
def Uniq (all : List Rec) : Prop := ∀ i j, i < j → j < all.length → (nth all i).key ≠ (nth all j).key
theorem hasK_iff (rl : List Rec) (k : Key) : hasK rl k = true ↔ ∃ j, j < rl.length ∧ (nth rl j).key = k := by
  unfold hasK
  rw [List.any_eq_true]
  constructor
  · rintro ⟨x, hx, h⟩
    obtain ⟨j, hj, rfl⟩ := List.mem_iff_getElem.1 hx
    exact ⟨j, hj, by rw [nth_get _ _ hj]; exact of_decide_eq_true h⟩
  · rintro ⟨j, hj, h⟩
    exact ⟨nth rl j, nth_in j hj, decide_eq_true h⟩
theorem Uniq.no {all : List Rec} (h : Uniq all) (m : Nat) (hm : m < all.length) : hasK (all.take m) (nth all m).key = false := by
  cases hb : hasK (all.take m) (nth all m).key with
  | false => rfl
  | true =>
    obtain ⟨j, hj, he⟩ := (hasK_iff _ _).1 hb
    rw [List.length_take] at hj
    rw [nth_take _ _ _ (by omega)] at he
    exact absurd he (h j m (by omega) hm)
theorem Uniq.yes {all : List Rec} (m i : Nat) (hi : i < m) (hm : m ≤ all.length) : hasK (all.take m) (nth all i).key = true :=
  (hasK_iff _ _).2 ⟨i, by rw [List.length_take]; omega, by rw [nth_take _ _ _ hi]⟩
theorem Uniq.nil : Uniq [] := fun i j _ h => by simp at h
theorem Uniq.snoc {rl : List Rec} (h : Uniq rl) (r : Rec) (hr : hasK rl r.key = false) : Uniq (rl ++ [r]) := fun i j hij hj => by
  rw [List.length_append, List.length_singleton] at hj
  by_cases hl : j < rl.length
  · rw [nth_append_left _ _ _ (by omega), nth_append_left _ _ _ hl]; exact h i j hij hl
  · rw [nth_append_left _ _ _ (by omega), nth_append_right _ _ j (by omega), show j - rl.length = 0 by omega, nth_cons_zero]
    intro e
    have := (hasK_iff rl r.key).2 ⟨i, by omega, e⟩
    rw [hr] at this; exact absurd this (by simp)
/-- A file that is a beginning of the records' file is read up to its last whole frame. -/
theorem scan_take (all : List Rec) (hok : ∀ r ∈ all, recOk r = true) (hu : Uniq all) (n : Nat) (hn : n ≤ (Fr all).length) : ∀ (d m f : Nat), all.length - m = d → m ≤ all.length → Ee all m ≤ n → d < f →
    ∃ M, m ≤ M ∧ M ≤ all.length ∧ Ee all M ≤ n ∧ (M < all.length → n < Ee all (M + 1)) ∧ scanL ((Fr all).take n) f (Ee all m) (all.take m) = (all.take M, Ee all M) := by
  intro d
  induction d with
  | zero =>
    intro m f hd hm hE hf
    obtain ⟨f, rfl⟩ : ∃ g, f = g + 1 := ⟨f - 1, by omega⟩
    refine ⟨m, Nat.le_refl _, hm, hE, fun h => by omega, ?_⟩
    have hE2 := Ee_all all m (by omega)
    have hlen : ((Fr all).take n).length = n := by rw [List.length_take]; omega
    have hx : nxt ((Fr all).take n) (Ee all m) (all.take m) = none := by
      unfold nxt
      rw [if_neg]
      rintro ⟨h1, -⟩
      rw [nextF_at _ _ (by omega)] at h1
      have : ((Fr all).take n).drop (Ee all m) = [] := List.drop_of_length_le (by omega)
      rw [this] at h1
      exact next_nil _ h1
    show (match nxt ((Fr all).take n) (Ee all m) (all.take m) with | some q => scanL ((Fr all).take n) f q.2 (all.take m ++ [q.1]) | none => (all.take m, Ee all m)) = _
    rw [hx]
  | succ d ih =>
    intro m f hd hm hE hf
    obtain ⟨f, rfl⟩ : ∃ g, f = g + 1 := ⟨f - 1, by omega⟩
    have hml : m < all.length := by omega
    have hlen : ((Fr all).take n).length = n := by rw [List.length_take]; omega
    have hmem : nth all m ∈ all := nth_in m hml
    have hfit := fit_rec (hok _ hmem)
    have hs := Ee_succ all m hml
    have hdrop : ((Fr all).take n).drop (Ee all m) = (frameOf (encRec (nth all m)) ++ Fr (all.drop (m + 1))).take (n - Ee all m) := by
      rw [List.drop_take, Fr_drop, List.drop_eq_getElem_cons hml, Fr_cons, nth_get all m hml]
    have hgo : ∀ x, scanL ((Fr all).take n) (f + 1) (Ee all m) (all.take m) = x ↔ (match nxt ((Fr all).take n) (Ee all m) (all.take m) with | some q => scanL ((Fr all).take n) f q.2 (all.take m ++ [q.1]) | none => (all.take m, Ee all m)) = x := fun x => Iff.rfl
    by_cases hw : Ee all (m + 1) ≤ n
    · have hfr : ((Fr all).take n).drop (Ee all m) = frameOf (encRec (nth all m)) ++ (Fr (all.drop (m + 1))).take (n - Ee all m - (frameOf (encRec (nth all m))).length) := by
        rw [hdrop, List.take_append, List.take_of_length_le (by omega)]
      have hnx : nxt ((Fr all).take n) (Ee all m) (all.take m) = some (nth all m, Ee all (m + 1)) := by
        unfold nxt
        rw [nextF_at _ _ (by omega), hfr, next_frame _ _ _ hfit]
        dsimp only
        rw [get_enc (hok _ hmem), if_pos ⟨rfl, rfl, hu.no m hml⟩, hs, frameOf_len]
        simp; omega
      obtain ⟨M, h1, h2, h3, h4, h5⟩ := ih (m + 1) f (by omega) (by omega) hw (by omega)
      refine ⟨M, by omega, h2, h3, h4, ?_⟩
      rw [hgo, hnx]
      dsimp only
      have ht : all.take m ++ [nth all m] = all.take (m + 1) := by rw [List.take_add_one, List.getElem?_eq_getElem hml, ← nth_get all m hml]; rfl
      rw [ht]; exact h5
    · refine ⟨m, Nat.le_refl _, hm, hE, fun _ => by omega, ?_⟩
      have hfr : ((Fr all).take n).drop (Ee all m) = (frameOf (encRec (nth all m))).take (n - Ee all m) := by
        rw [hdrop, List.take_append_of_le_length (by omega)]
      have hnx : nxt ((Fr all).take n) (Ee all m) (all.take m) = none := by
        unfold nxt
        rw [if_neg]
        rintro ⟨h1, -⟩
        rw [nextF_at _ _ (by omega), hfr] at h1
        rw [frameOf_len] at hs
        exact next_cut _ _ _ hfit (by omega) h1
      rw [hgo, hnx]
theorem Fr_ge (all : List Rec) : all.length ≤ (Fr all).length := by have := framesOf_ge (all.map encRec); simpa [Fr] using this
theorem lScan_take (all : List Rec) (hok : ∀ r ∈ all, recOk r = true) (hu : Uniq all) (n : Nat) (hn : n ≤ (Fr all).length) (m0 : Nat) (hm0 : m0 ≤ all.length) (h0 : Ee all m0 ≤ n) :
    ∃ M, m0 ≤ M ∧ M ≤ all.length ∧ Ee all M ≤ n ∧ lScan ((Fr all).take n) = (all.take M, Ee all M) := by
  have hlen : ((Fr all).take n).length = n := by rw [List.length_take]; omega
  have hE0 := Ee_zero all
  -- as many whole frames as fit: never more rounds than bytes
  have hfuel : ∀ (f : Nat), n < f → ∃ M, M ≤ all.length ∧ Ee all M ≤ n ∧ (M < all.length → n < Ee all (M + 1)) ∧ scanL ((Fr all).take n) f 0 [] = (all.take M, Ee all M) := by
    intro f hf
    -- the records that fit number no more than n: cut the list there
    have key : ∀ (d m f : Nat), n - Ee all m ≤ d → m ≤ all.length → Ee all m ≤ n → n - Ee all m < f → ∃ M, M ≤ all.length ∧ Ee all M ≤ n ∧ (M < all.length → n < Ee all (M + 1)) ∧ scanL ((Fr all).take n) f (Ee all m) (all.take m) = (all.take M, Ee all M) := by
      intro d
      induction d with
      | zero =>
        intro m f hd hm hE hf
        by_cases hml : m < all.length
        · have hlt := Ee_lt all (show m < m + 1 by omega) (by omega)
          obtain ⟨f, rfl⟩ : ∃ g, f = g + 1 := ⟨f - 1, by omega⟩
          refine ⟨m, hm, hE, fun _ => by omega, ?_⟩
          have hnx : nxt ((Fr all).take n) (Ee all m) (all.take m) = none := by
            unfold nxt
            rw [if_neg]
            rintro ⟨h1, -⟩
            rw [nextF_at _ _ (by omega), List.drop_of_length_le (by omega)] at h1
            exact next_nil _ h1
          show (match nxt ((Fr all).take n) (Ee all m) (all.take m) with | some q => scanL ((Fr all).take n) f q.2 (all.take m ++ [q.1]) | none => (all.take m, Ee all m)) = _
          rw [hnx]
        · obtain ⟨M, h1, h2, h3, h4, h5⟩ := scan_take all hok hu n hn _ m f rfl hm hE (by omega)
          exact ⟨M, h2, h3, h4, h5⟩
      | succ d ih =>
        intro m f hd hm hE hf
        by_cases hml : m < all.length
        · have hlt := Ee_lt all (show m < m + 1 by omega) (by omega)
          by_cases hw : Ee all (m + 1) ≤ n
          · obtain ⟨f, rfl⟩ : ∃ g, f = g + 1 := ⟨f - 1, by omega⟩
            obtain ⟨M, h1, h2, h3, h4⟩ := ih (m + 1) f (by omega) (by omega) hw (by omega)
            refine ⟨M, h1, h2, h3, ?_⟩
            have hmem : nth all m ∈ all := nth_in m hml
            have hs := Ee_succ all m hml
            have hfr : ((Fr all).take n).drop (Ee all m) = frameOf (encRec (nth all m)) ++ (Fr (all.drop (m + 1))).take (n - Ee all m - (frameOf (encRec (nth all m))).length) := by
              rw [List.drop_take, Fr_drop, List.drop_eq_getElem_cons hml, Fr_cons, ← nth_get all m hml, List.take_append, List.take_of_length_le (by omega)]
            have hnx : nxt ((Fr all).take n) (Ee all m) (all.take m) = some (nth all m, Ee all (m + 1)) := by
              unfold nxt
              rw [nextF_at _ _ (by omega), hfr, next_frame _ _ _ (fit_rec (hok _ hmem))]
              dsimp only
              rw [get_enc (hok _ hmem), if_pos ⟨rfl, rfl, hu.no m hml⟩, hs, frameOf_len]
              simp; omega
            show (match nxt ((Fr all).take n) (Ee all m) (all.take m) with | some q => scanL ((Fr all).take n) f q.2 (all.take m ++ [q.1]) | none => (all.take m, Ee all m)) = _
            rw [hnx]
            dsimp only
            have ht : all.take m ++ [nth all m] = all.take (m + 1) := by rw [List.take_add_one, List.getElem?_eq_getElem hml, ← nth_get all m hml]; rfl
            rw [ht]; exact h4
          · obtain ⟨f, rfl⟩ : ∃ g, f = g + 1 := ⟨f - 1, by omega⟩
            have hmem : nth all m ∈ all := nth_in m hml
            have hs := Ee_succ all m hml
            refine ⟨m, hm, hE, fun _ => by omega, ?_⟩
            have hnx : nxt ((Fr all).take n) (Ee all m) (all.take m) = none := by
              unfold nxt
              rw [if_neg]
              rintro ⟨h1, -⟩
              rw [nextF_at _ _ (by omega), List.drop_take, Fr_drop, List.drop_eq_getElem_cons hml, Fr_cons, ← nth_get all m hml, List.take_append_of_le_length (by omega)] at h1
              rw [frameOf_len] at hs
              exact next_cut _ _ _ (fit_rec (hok _ hmem)) (by omega) h1
            show (match nxt ((Fr all).take n) (Ee all m) (all.take m) with | some q => scanL ((Fr all).take n) f q.2 (all.take m ++ [q.1]) | none => (all.take m, Ee all m)) = _
            rw [hnx]
        · obtain ⟨M, h1, h2, h3, h4, h5⟩ := scan_take all hok hu n hn _ m f rfl hm hE (by omega)
          exact ⟨M, h2, h3, h4, h5⟩
    have := key (n - Ee all 0) 0 f (Nat.le_refl _) (Nat.zero_le _) (by omega) (by omega)
    rw [hE0, List.take_zero] at this
    exact this
  obtain ⟨M, h1, h2, h3, h4⟩ := hfuel (n + 1) (by omega)
  refine ⟨M, ?_, h1, h2, by unfold lScan; rw [hlen]; exact h4⟩
  rcases Nat.lt_or_ge M m0 with q | q
  · have := h3 (by omega)
    have := Ee_mono all (show M + 1 ≤ m0 by omega)
    omega
  · exact q
end Go.Proofs.YtmhojaiajhdlcaaGreat
namespace Go.Proofs.YtmhojaiajhdlcaaGreat
/-- A slice's value. -/
structure Sl where
  a : Option Addr
  n : Nat
  k : Nat
instance : Inhabited Sl := ⟨⟨none, 0, 0⟩⟩
abbrev slv (s : Sl) : Value := .slice s.a s.n s.k
theorem slv_one (s : Sl) : (slv s).oneCell' = true := rfl
end Go.Proofs.YtmhojaiajhdlcaaGreat
namespace Go.Proofs.YtmhojaiajhdlcaaGreat
open Go.RowKit
set_option linter.unusedSimpArgs false
set_option linter.unusedVariables false
/-- What a block holds, and how much it can hold. -/
abbrev KB := Nat → List UInt8 × Nat
abbrev OwnB (base : Nat) (w : World) (x : Nat) (c : List UInt8 × Nat) : Prop := Own bv base 5 w (.slice (some ⟨x, 0, none⟩) c.1.length c.2) c.1
/-- The blocks of B hold what K says. -/
structure Bks (base : Nat) (w : World) (B : List Nat) (K : KB) : Prop where
  own : ∀ x ∈ B, OwnB base w x (K x)
/-- A slice shows bytes of the blocks. -/
structure Sh (B : List Nat) (K : KB) (s : Sl) (l : List UInt8) : Prop where
  n : s.n = l.length
  k : s.n ≤ s.k
  m : s.k ≤ maxLen
  nul : s.a = none → s.k = 0
  ex : l ≠ [] → ∃ b off, s.a = some ⟨b, off, none⟩ ∧ b ∈ B ∧ off + l.length ≤ (K b).1.length ∧ ((K b).1.drop off).take l.length = l
/-- A slice with room behind it is the end of its block. -/
def Gr (B : List Nat) (K : KB) (s : Sl) (l : List UInt8) : Prop := s.n < s.k → ∃ b, s.a = some ⟨b, 0, none⟩ ∧ b ∈ B ∧ K b = (l, s.k)
/-- The block that a slice may grow in. -/
def gb (s : Sl) : List Nat := if s.n < s.k then blk (slv s) else []
/-- More blocks, and more in them. -/
structure Ext (B : List Nat) (K : KB) (B' : List Nat) (K' : KB) : Prop where
  sub : ∀ x ∈ B, x ∈ B'
  pre : ∀ x ∈ B, ∃ t, (K' x).1 = (K x).1 ++ t
section
variable {base : Nat} {w w' : World} {B B' B'' : List Nat} {K K' K'' : KB} {s : Sl} {l : List UInt8}
theorem Ext.refl (B : List Nat) (K : KB) : Ext B K B K := ⟨fun _ h => h, fun _ _ => ⟨[], (List.append_nil _).symm⟩⟩
theorem Ext.trans (h : Ext B K B' K') (k : Ext B' K' B'' K'') : Ext B K B'' K'' :=
  ⟨fun x hx => k.sub x (h.sub x hx), fun x hx => by
    obtain ⟨t, ht⟩ := h.pre x hx
    obtain ⟨u, hu⟩ := k.pre x (h.sub x hx)
    exact ⟨t ++ u, by rw [hu, ht, List.append_assoc]⟩⟩
theorem Bks.upd (h : Bks base w B K) {S : List Nat} (hu : Upd S w w') (hs : ∀ x ∈ B, x ∉ S) : Bks base w' B K :=
  ⟨fun x hx => (h.own x hx).upd hu (fun y hy => by simp [blk] at hy; subst hy; exact hs _ hx)⟩
theorem Bks.ge (h : Bks base w B K) : ∀ x ∈ B, base ≤ x ∧ x < w.heap.size := fun x hx => (h.own x hx).ge x (by simp [blk])
theorem Bks.typ (h : Bks base w B K) : ∀ x ∈ B, ∃ C f, w.heap[x]? = some (.cells C 5 f) := fun x hx => by
  rcases (h.own x hx).2 with ⟨he, _⟩ | ⟨g, cap, cur, he, _, hg, _⟩
  · simp at he
  · injection he with e1 e2 e3; injection e1 with e1; injection e1 with e1 e4; subst e1; exact ⟨_, _, hg⟩
theorem Sh.ext (h : Sh B K s l) (he : Ext B K B' K') : Sh B' K' s l := by
  refine ⟨h.n, h.k, h.m, h.nul, fun hne => ?_⟩
  obtain ⟨b, off, h1, h2, h3, h4⟩ := h.ex hne
  obtain ⟨t, ht⟩ := he.pre b h2
  refine ⟨b, off, h1, he.sub b h2, by rw [ht, List.length_append]; omega, ?_⟩
  rw [ht, List.drop_append_of_le_length (by omega), List.take_append_of_le_length (by rw [List.length_drop]; omega)]
  exact h4
theorem Sh.rd (hB : Bks base w B K) (h : Sh B K s l) : Bytes w (slv s) l := by
  have h1 := h.n
  have h2 := h.k
  have h3 := h.m
  have h4 := h.ex
  obtain ⟨a, n, k⟩ := s
  dsimp only at h1 h2 h3 h4
  subst h1
  refine ⟨a, k, rfl, h2, h3, fun hne => ?_⟩
  obtain ⟨b, off, rfl, hb, h5, h6⟩ := h4 hne
  refine ⟨b, off, rfl, fun j hj => ?_⟩
  obtain ⟨a', k', he, -, -, hc⟩ := (hB.own b hb).rd
  injection he with e1 e2 e3
  subst e1
  obtain ⟨b', off', e4, hc⟩ := hc (fun q => by rw [q] at h5; simp only [List.length_nil] at h5; omega)
  injection e4 with e4; injection e4 with e4 e5; subst e4; subst e5
  have hq := hc (off + j) (by omega)
  rw [Nat.zero_add] at hq
  have hn : nth l j = nth (K b).1 (off + j) := by
    have : nth (((K b).1.drop off).take l.length) j = nth l j := by rw [h6]
    rw [← this, nth_take _ _ _ hj, nth_drop]
  rw [hn]; exact hq
theorem gb_in (hg : Gr B K s l) : ∀ x ∈ gb s, x ∈ B ∧ K x = (l, s.k) ∧ s.a = some ⟨x, 0, none⟩ := by
  intro x hx
  unfold gb at hx
  split at hx
  · rename_i h
    obtain ⟨b, h1, h2, h3⟩ := hg h
    rw [show slv s = .slice s.a s.n s.k from rfl, h1] at hx
    simp [blk] at hx; subst hx
    exact ⟨h2, h3, h1⟩
  · simp at hx
theorem Gr.full (h : s.k ≤ s.n) : Gr B K s l := fun q => absurd q (by omega)
theorem gb_full (h : s.k ≤ s.n) : gb s = [] := by unfold gb; rw [if_neg (by omega)]
theorem Sh.nil : Sh B K ⟨none, 0, 0⟩ [] := ⟨rfl, Nat.le_refl _, Nat.zero_le _, fun _ => rfl, fun h => absurd rfl h⟩
/-- The first bytes, without room behind them. -/
theorem Sh.cut (h : Sh B K s l) (n : Nat) (hn : n ≤ l.length) : Sh B K ⟨s.a, n, n⟩ (l.take n) := by
  have h1 := h.n
  have h2 := h.k
  have h3 := h.m
  refine ⟨by rw [List.length_take]; show n = _; omega, Nat.le_refl _, by show n ≤ _; omega, fun q => by have := h.nul q; show n = 0; omega, fun hne => ?_⟩
  have hl : l ≠ [] := fun q => hne (by rw [q]; simp)
  obtain ⟨b, off, e1, e2, e3, e4⟩ := h.ex hl
  refine ⟨b, off, e1, e2, by rw [List.length_take]; omega, ?_⟩
  rw [List.length_take, Nat.min_eq_left hn, ← e4, List.take_take, Nat.min_eq_left hn]
/-- A new block. -/
theorem Bks.new (hB : Bks base w B K) {w' : World} {v : Value} {l : List UInt8} (ho : Own bv w.heap.size 5 w' v l) (hu : Upd [] w w') (hbase : base ≤ w.heap.size) :
    ∃ s B' K', v = slv s ∧ Bks base w' B' K' ∧ Ext B K B' K' ∧ (∀ x ∈ B', x ∈ B ∨ w.heap.size ≤ x) ∧ Sh B' K' s l ∧ Gr B' K' s l ∧ (∀ x ∈ gb s, w.heap.size ≤ x) ∧ (∀ x ∈ B, K' x = K x) := by
  have ho' := ho
  obtain ⟨h1, h2⟩ := ho'
  rcases h2 with ⟨rfl, hn⟩ | ⟨g, cap, cur, rfl, hb, hg, hc, hm, hs, ht⟩
  · obtain rfl : l = [] := List.eq_nil_of_length_eq_zero hn
    exact ⟨⟨none, 0, 0⟩, B, K, rfl, hB.upd hu (by simp), Ext.refl _ _, fun x hx => .inl hx, Sh.nil, Gr.full (Nat.le_refl _), fun x hx => by rw [gb_full (Nat.le_refl _)] at hx; simp at hx, fun _ _ => rfl⟩
  · have hne : ∀ x ∈ B, x ≠ g := fun x hx q => by have := (hB.ge x hx).2; omega
    have hk : ∀ x ∈ B, (if x = g then (l, cap) else K x) = K x := fun x hx => if_neg (hne x hx)
    refine ⟨⟨some ⟨g, 0, none⟩, l.length, cap⟩, g :: B, fun x => if x = g then (l, cap) else K x, rfl, ⟨fun x hx => ?_⟩, ⟨fun x hx => by simp [hx], fun x hx => ⟨[], by rw [hk x hx, List.append_nil]⟩⟩, fun x hx => ?_, ⟨rfl, hc, hm, fun q => by simp at q, fun _ => ⟨g, 0, rfl, by simp, by simp, by simp⟩⟩, fun _ => ⟨g, rfl, by simp, by simp⟩, fun x hx => ?_, hk⟩
    · rcases List.mem_cons.1 hx with rfl | hx
      · show OwnB base w' x (if x = x then (l, cap) else K x)
        rw [if_pos rfl]; exact ho.base_le hbase
      · show OwnB base w' x (if x = g then (l, cap) else K x)
        rw [hk x hx]; exact (hB.own x hx).upd hu (by simp)
    · rcases List.mem_cons.1 hx with rfl | hx
      · exact .inr hb
      · exact .inl hx
    · unfold gb at hx
      split at hx
      · simp [blk] at hx; omega
      · simp at hx
theorem Gr.keep (h : Gr B K s l) (hs : ∀ x ∈ B, x ∈ B') (hk : ∀ x ∈ B, K' x = K x) : Gr B' K' s l := fun q => by
  obtain ⟨b, h1, h2, h3⟩ := h q
  exact ⟨b, h1, hs b h2, by rw [hk b h2, h3]⟩
/-- Behind an append: the new slice, the blocks, and what becomes of others. -/
def Grew (base : Nat) (w : World) (B : List Nat) (K : KB) (s : Sl) (l : List UInt8) (v' : Value) (w' : World) : Prop :=
  ∃ s' B' K', v' = slv s' ∧ Bks base w' B' K' ∧ Ext B K B' K' ∧ (∀ x ∈ B', x ∈ B ∨ w.heap.size ≤ x) ∧ Sh B' K' s' l ∧ Gr B' K' s' l ∧ Upd B w w' ∧ (∀ s2 l2, Gr B K s2 l2 → Ap (gb s2) (gb s) → Gr B' K' s2 l2 ∧ Ap (gb s2) (gb s'))
theorem infoB8 : (Tryz.prog.info? 5).map (fun i => (i.zero, i.size, i.bytes)) = some (some (.int .u8 0), 1, 1) := by kernel_rfl
theorem app_step {ty : TypeId} {u : Value} {p : List UInt8} (hB : Bks base w B K) (hs : Sh B K s l) (hg : Gr B K s l) (hp : Bytes w u p) (hne : p ≠ []) (hlen : l.length + p.length ≤ 1000000000) (hbase : base ≤ w.heap.size) :
    ∃ v' w', (Builtin.append_ #[28, 28] ty #[slv s, u]).run Tryz.prog w = .ok v' w' ∧ Grew base w B K s (l ++ p) v' w' := by
  have hrd := hs.rd hB
  have h1 := hs.n
  have h2 := hs.k
  have h3 := hs.m
  have h4 := hs.nul
  have hmax : l.length + p.length ≤ maxLen := by unfold maxLen; omega
  obtain ⟨i, i1, i2, i3, i4⟩ := info_parts infoB8
  obtain ⟨A, cap, rfl, hle, hcm, hcell0⟩ := hp
  obtain ⟨pb, poff, rfl, hcell⟩ := hcell0 hne
  have hnews : ∀ j u, (p.map bv)[j]? = some u → w.cell? ((⟨pb, poff, none⟩ : Addr).add j) = some u := fun j u hj => by
    rw [add_none]
    rw [List.getElem?_map] at hj
    obtain ⟨x, hx, rfl⟩ := Option.map_eq_some_iff.1 hj
    rw [hcell j (List.getElem?_eq_some_iff.1 hx).1, nth_of p j x hx]
  have hpos : 0 < p.length := List.length_pos_iff.2 hne
  by_cases hroom : l.length + p.length ≤ s.k
  · -- there is room
    obtain ⟨b, hb, hbB, hK⟩ := hg (by omega)
    have hown := hB.own b hbB
    rw [hK] at hown
    obtain ⟨o1, o2⟩ := hown
    rcases o2 with ⟨he, _⟩ | ⟨g, cap', cur, he, hbg, hgc, hnc, hcm', hcs, htk⟩
    · simp at he
    injection he with e1 e2 e3
    injection e1 with e1; injection e1 with e1 e5; subst e1
    dsimp only at e3 hcs htk
    rw [Nat.mul_one] at hcs htk
    have hfit : l.length * i.size + (p.map bv).length ≤ cur.size := by rw [i3, Nat.mul_one, List.length_map, hcs, ← e3]; exact hroom
    have hr := run_append_room (P := Tryz.prog) w 28 ty 5 i Tryz.underlying28 i1 b l.length s.k cur hgc ⟨pb, poff, none⟩ p.length cap (p.map bv) (by simp [i3]) hnews (oneCell_map bv_one p) hroom hfit
    rw [i3, Nat.mul_one, List.length_map, htk] at hr
    rw [show slv s = .slice s.a s.n s.k from rfl, hb, h1]
    generalize hys : (l.map bv ++ p.map bv ++ cur.toList.drop (l.length + p.length)).toArray = ys at hr
    have hys2 : ys.toList = (l ++ p).map bv ++ cur.toList.drop (l.length + p.length) := by rw [← hys]; simp
    have hysz : ys.size = s.k := by
      rw [← hys]
      simp only [List.size_toArray, List.length_append, List.length_map, List.length_drop, Array.length_toList, hcs]
      omega
    have hnew : OwnB base (w.setRow b ys) b (l ++ p, s.k) := by
      refine ⟨by simp, .inr ⟨b, s.k, ys, rfl, hbg, setRow_heap w b cur ys _ _ hgc, by simp; omega, h3, by rw [hysz, Nat.mul_one], ?_⟩⟩
      rw [hys2, Nat.mul_one, List.take_append_of_le_length (by simp)]
      exact List.take_of_length_le (by simp)
    have hu : Upd [b] w (w.setRow b ys) := ⟨rfl, rfl, rfl, by simp, fun k _ hk => setRow_other w b k _ (by simpa using hk)⟩
    refine ⟨_, _, hr, ⟨some ⟨b, 0, none⟩, l.length + p.length, s.k⟩, B, fun x => if x = b then (l ++ p, s.k) else K x, rfl, ⟨fun x hx => ?_⟩, ⟨fun _ h => h, fun x hx => ?_⟩, fun x hx => .inl hx, ⟨by simp, hroom, h3, fun q => by simp at q, fun _ => ⟨b, 0, rfl, hbB, by show 0 + _ ≤ (if b = b then (l ++ p, s.k) else K b).1.length; rw [if_pos rfl]; simp, by show ((if b = b then (l ++ p, s.k) else K b).1.drop 0).take _ = _; rw [if_pos rfl]; exact List.take_length⟩⟩, fun _ => ⟨b, rfl, hbB, by show (if b = b then (l ++ p, s.k) else K b) = _; rw [if_pos rfl]⟩, hu.mono (fun x hx => by simp at hx; subst hx; exact .inl hbB), fun s2 l2 g2 hap => ?_⟩
    · show OwnB base (w.setRow b ys) x (if x = b then (l ++ p, s.k) else K x)
      split
      · rename_i h; subst h; exact hnew
      · rename_i h; exact (hB.own x hx).upd hu (fun y hy => by simp [blk] at hy; subst hy; simpa using h)
    · show ∃ t, (if x = b then (l ++ p, s.k) else K x).1 = (K x).1 ++ t
      split
      · rename_i h; subst h; rw [hK]; exact ⟨p, rfl⟩
      · exact ⟨[], (List.append_nil _).symm⟩
    · have hgb : gb s = [b] := by unfold gb; rw [if_pos (by omega), show slv s = .slice s.a s.n s.k from rfl, hb]; rfl
      rw [hgb] at hap
      refine ⟨fun q => ?_, fun x hx => ?_⟩
      · obtain ⟨b2, q1, q2, q3⟩ := g2 q
        have hn2 : b2 ≠ b := fun e => hap b2 (by unfold gb; rw [if_pos q, show slv s2 = .slice s2.a s2.n s2.k from rfl, q1]; simp [blk]) (by simp [e])
        exact ⟨b2, q1, q2, by show (if b2 = b then (l ++ p, s.k) else K b2) = _; rw [if_neg hn2, q3]⟩
      · have h9 := hap x hx
        unfold gb
        split
        · simpa [blk] using h9
        · simp
  · -- it grows
    have key : ∃ v' w', (Builtin.append_ #[28, 28] ty #[slv s, .slice (some ⟨pb, poff, none⟩) p.length cap]).run Tryz.prog w = .ok v' w' ∧ Own bv w.heap.size 5 w' v' (l ++ p) ∧ Upd [] w w' := by
      obtain ⟨a, n, k⟩ := s
      dsimp only at h1 h2 h3 h4 hroom hrd
      subst h1
      cases a with
      | some ad =>
        have holds : ∀ j u, (l.map bv)[j]? = some u → w.cell? (ad.add j) = some u := fun j u hj => by
          rw [List.getElem?_map] at hj
          obtain ⟨x, hx, rfl⟩ := Option.map_eq_some_iff.1 hj
          have hjl := (List.getElem?_eq_some_iff.1 hx).1
          obtain ⟨a', k', he, -, -, hc⟩ := hrd
          have e1 : some ad = a' := (Value.slice.inj he).1
          obtain ⟨b, off, e4, hc⟩ := hc (by intro q; rw [q] at hjl; simp at hjl)
          obtain rfl : ad = ⟨b, off, none⟩ := Option.some.inj (e1.trans e4)
          rw [add_none, hc j hjl, nth_of l j x hx]
        obtain ⟨v', w', hr, r1, r2⟩ := run_append_arg_grows (P := Tryz.prog) w 28 ty 5 i _ 1 1 Tryz.underlying28 i1 i2 i3 i4 rfl (by decide) ad l.length k (l.map bv) (by simp) holds ⟨pb, poff, none⟩ p.length cap (p.map bv) (by simp) hnews (by omega) hmax (by omega)
        exact ⟨v', w', hr, by unfold Own; rw [List.length_append, List.map_append]; exact r1, Upd.of_grown r2⟩
      | none =>
        obtain rfl : k = 0 := h4 rfl
        obtain rfl : l = [] := List.eq_nil_of_length_eq_zero (by omega)
        obtain ⟨v', w', hr, r1, r2, _⟩ := run_append_own (P := Tryz.prog) w w.heap.size 28 ty 5 i _ 1 1 Tryz.underlying28 i1 i2 i3 i4 rfl (by decide) (.slice none 0 0) 0 [] (World.ownsRow_nil w _ _ 1) ⟨pb, poff, none⟩ p.length cap (p.map bv) (by simp) hnews (oneCell_map bv_one p) (by simpa using hmax) (by simp at hlen ⊢; omega) (Nat.le_refl _)
        refine ⟨v', w', hr, by unfold Own; rw [List.length_append, List.map_append]; exact r1, Upd.of_grown r2⟩
    obtain ⟨v', w', hr, ho, hu⟩ := key
    obtain ⟨s', B', K', rfl, k1, k2, k3, k4, k5, k6, k7⟩ := hB.new ho hu hbase
    refine ⟨_, _, hr, s', B', K', rfl, k1, k2, k3, k4, k5, hu.mono (by simp), fun s2 l2 g2 hap => ⟨g2.keep k2.sub k7, fun x hx hx' => ?_⟩⟩
    have := k6 x hx'
    have := (hB.ge x (gb_in g2 x hx).1).2
    omega
end
end Go.Proofs.YtmhojaiajhdlcaaGreat
