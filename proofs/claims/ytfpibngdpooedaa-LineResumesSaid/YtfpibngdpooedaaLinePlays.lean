/- The walk of LinePlays. -/
import Derived.Test.YtfpibngdpooedaaLineRuns
import Derived.Test.YtfpibngdpooedaaLineBytes
import Derived.Test.YtfpibngdpooedaaOpen
import Derived.Deep.RegionHeld3
import Derived.Deep.DeepCutAuto
namespace Go.Proofs.Ytfpibngdpooedaa
open Go.RowKit
set_option linter.unusedSimpArgs false
set_option linter.unusedVariables false

/-- The splitter's state behind so many bytes. -/
def lineSt (b : List UInt8) : Nat → Nat × Bool
  | 0 => (0, false)
  | k + 1 => (lineStep (lineSt b k).1 (lineSt b k).2 (nth b k)).2
theorem lineSt_le (b : List UInt8) (k : Nat) : (lineSt b k).1 ≤ 200 := by
  induction k with
  | zero => simp [lineSt]
  | succ k ih => exact lineStep_le _ _ _ ih
set_option maxRecDepth 20000 in
set_option maxHeartbeats 4000000 in
theorem linePlays_any (w : World) (v : Value) (l : List (UInt8 × Int)) (hl : ∀ r ∈ l, I64 r.2) (h : RdN 2 runCells w v l) :
    Calls Try.prog 8 #[v] w fun e w' => e = .returned (.bool true) ∧ Upd [] w w' := by
  have hlen : ∃ a cap, v = .slice a l.length cap := by obtain ⟨a, cap, h, _⟩ := h; exact ⟨a, cap, h⟩
  obtain ⟨a, cap, rfl⟩ := hlen
  have H := Lib.hid h
  have hbl := Lib.hid (bytesOf_le 1500 l)
  clear h
  go_enter Try.func8, Try.ntmps8
  go_wp2_with fail
  refine (lineBytes_any _ _ l 1500 (by omega) hl H.out).mono ?_
  rintro e w1 ⟨u, rfl, ho, hu⟩
  generalize bytesOf 1500 l = bL at ho hbl
  have HR := Lib.hid ho.rd
  have hblk := Lib.hid (fun x hx => (ho.ge x hx).2)
  have HU1 := Lib.hid hu
  obtain ⟨ao, co, rfl, hco, hcm, hbc⟩ := ho.rd
  have hb2 := hbl.out
  have hle1 := hu.size
  clear ho hu
  go_wp2_with fail
  refine (lineNew_any _).mono ?_
  rintro e w2 ⟨rfl, hs, hu⟩
  have HU2 := Lib.hid ((HU1.out.seq hu).alloc (.cells #[.int .i64 0, .bool false] 65))
  have HS2 := Lib.hid (hs.upd ((Upd.refl [] _).alloc (.cells #[.int .i64 0, .bool false] 65)) (by simp))
  have HW2 := Lib.hid (Blk.new w2 65 [.int .i64 0, .bool false])
  have HR2 := Lib.hid ((HR.out.upd0 hu).alloc (.cells #[.int .i64 0, .bool false] 65))
  have hlt := hs.lt
  clear hs hu HR hbc
  go_wp2_with fail
  go_loopw [6] (fun i wr => ∃ k : Nat, k ≤ bL.length ∧ i = .int .i64 k ∧ Hid (SplBlk wr w1.heap.size (lineSt bL k).1 (lineSt bL k).2) ∧ Hid (Blk wr w2.heap.size 65 [.int .i64 ((lineSt bL k).1 : Int), .bool (lineSt bL k).2]) ∧ Hid (Bytes wr (.slice ao bL.length co) bL) ∧ Hid (Upd [] w wr)) (fun i _ => bL.length - (intOf i).toNat)
  case atStart => exact ⟨0, Nat.zero_le _, rfl, HS2, HW2, HR2, HU2⟩
  case round =>
    obtain ⟨k, hk, rfl, hs, hw, hr, hu⟩ := hrel
    clear HS2 HW2 HR2 HU2
    by_cases hltk : k < bL.length
    · obtain ⟨b, off, rfl, hcell⟩ := hr.out.at_ k hltk
      have HST : Hid (lineSt bL (k + 1) = (lineStep (lineSt bL k).1 (lineSt bL k).2 (nth bL k)).2) := rfl
      have hn200 := Lib.hid (lineSt_le bL k)
      have hn2 := Lib.hid (lineSt_le bL (k + 1))
      generalize hch : nth bL k = ch at *
      have HCH := Lib.hid hch
      clear hch
      generalize lineSt bL k = st at *
      obtain ⟨n, long⟩ := st
      simp only at hs hw HST hn200
      generalize hls : lineStep n long ch = ls at HST
      obtain ⟨kd, n2, long2⟩ := ls
      simp only at HST
      rw [HST.out] at hn2
      have HLS := Lib.hid hls
      clear hls
      have hbb : b < w1.heap.size := hblk.out b (by simp [blk])
      have e0 : wr.cell? ⟨w2.heap.size, 0, none⟩ = some (.int .i64 (n : Int)) := hw.out.cell 0
      have e1 : wr.cell? ⟨w2.heap.size, 1, none⟩ = some (.bool long) := hw.out.cell 1
      have f0 : wr.frozen? ⟨w2.heap.size, 0, none⟩ = false := hw.out.frozen 0
      have f1 : wr.frozen? ⟨w2.heap.size, 1, none⟩ = false := hw.out.frozen 1
      have q1 : (k : Int) < bL.length := by omega
      have q0 : (0 : Int) ≤ k := by omega
      have hkb : bL.length ≤ 1500 := hb2
      have hlw : w2.heap.size < wr.heap.size := hw.out.lt
      go_upto_region 9 with fail
      go_cut [7, 8] (fun s7 s8 wx => ∃ g : Nat, s7 = .pointer (some ⟨g, 0, none⟩) ∧ s8 = .int .i64 (kd : Int) ∧ Hid (Blk wx g 65 [.int .i64 (n2 : Int), .bool long2]) ∧ Hid (SplBlk wx w1.heap.size n long) ∧ Hid (Blk wx w2.heap.size 65 [.int .i64 (n : Int), .bool long]) ∧ Hid (Bytes wx (.slice (some ⟨b, off, none⟩) bL.length co) bL) ∧ Hid (Upd [] w wx) ∧ Hid (w2.heap.size ≠ g))
      case first =>
        go_region_held3 (fun w' => w'.cell? ⟨w2.heap.size, 0, none⟩ = some (.int .i64 (n : Int)) ∧ w'.cell? ⟨w2.heap.size, 1, none⟩ = some (.bool long) ∧ w'.cell? ⟨b, off + k, none⟩ = some (bv ch)) (first | go_keep | exact ⟨g0, g1, g2⟩ | exact ⟨((Upd.refl [] w9).alloc _).cell g0 (by simp), ((Upd.refl [] w9).alloc _).cell g1 (by simp), ((Upd.refl [] w9).alloc _).cell g2 (by simp)⟩ | exact ⟨(((Upd.refl [wr.heap.size] w9).setCell _ _ (.inl (by simp))).setCell _ _ (.inl (by simp))).cell g0 (by simp; omega), (((Upd.refl [wr.heap.size] w9).setCell _ _ (.inl (by simp))).setCell _ _ (.inl (by simp))).cell g1 (by simp; omega), (((Upd.refl [wr.heap.size] w9).setCell _ _ (.inl (by simp))).setCell _ _ (.inl (by simp))).cell g2 (by simp; omega)⟩)
          (first | (go_at_call 38; refine (refLine_any _ n long ch hn200.out).mono ?_; rintro e w9 ⟨rfl, hu9⟩; have g0 := hu9.cell (p := ⟨w2.heap.size, 0, none⟩) (v := .int .i64 (n : Int)) (by go_simp) (by simp); have g1 := hu9.cell (p := ⟨w2.heap.size, 1, none⟩) (v := .bool long) (by go_simp) (by simp); have g2 := hu9.cell (p := ⟨b, off + k, none⟩) (v := bv ch) (by go_simp) (by simp); (try (have k3 := Lib.hid ((Blk.new wr.drew 65 [.int .i64 0, .bool false]).upd hu9 (by simp)); have k4 : w9.cell? ⟨wr.heap.size, 0, none⟩ = some (.int .i64 0) := k3.out.cell 0; have k5 : w9.cell? ⟨wr.heap.size, 1, none⟩ = some (.bool false) := k3.out.cell 1; have k6 : w9.frozen? ⟨wr.heap.size, 0, none⟩ = false := k3.out.frozen 0; have k7 : w9.frozen? ⟨wr.heap.size, 1, none⟩ = false := k3.out.frozen 1)); have hv9 : Upd [] wr w9 := (by first | exact (Upd.refl [] wr).drew.seq hu9 | exact ((Upd.refl [] wr).alloc _).drew.seq hu9); have HV9 := Lib.hid hv9; clear hv9; rw [HLS.out]; dsimp only) | fail)
        · go_wp2_with fail
          go_meet
          exact ⟨_, rfl, rfl, Blk.new w9 65 [.int .i64 (n2 : Int), .bool long2], Blk.upd hs.out (HV9.out.alloc _) (by simp), Blk.upd hw.out (HV9.out.alloc _) (by simp), hr.out.upd0 (HV9.out.alloc _), (hu.out.seq HV9.out).alloc _, by have := HV9.out.size; intro e; omega⟩
        · go_wp2_with fail
          go_meet
          have hU := ((Upd.refl [wr.heap.size] w9).setCell ⟨wr.heap.size, 0, none⟩ (.int .i64 (n2 : Int)) (.inl (by simp))).setCell ⟨wr.heap.size, 1, none⟩ (.bool long2) (.inl (by simp))
          exact ⟨_, rfl, rfl, (k3.out.set_ 0 (.int .i64 (n2 : Int))).set_ 1 (.bool long2), Blk.upd (Blk.upd hs.out HV9.out (by simp)) hU (by simp; omega), Blk.upd (Blk.upd hw.out HV9.out (by simp)) hU (by simp; omega), (hr.out.upd0 HV9.out).upd hU (by simp [blk]; omega), (hu.out.seq HV9.out).trans hU (by simp) (by have := hu.out.size; simp; omega), by intro e; omega⟩
      case rest =>
        obtain ⟨g, rfl, rfl, hg, hs', hw', hr', hu', hne⟩ := hcut
        have d0 : wc.cell? ⟨g, 0, none⟩ = some (.int .i64 (n2 : Int)) := hg.out.cell 0
        have d1 : wc.cell? ⟨g, 1, none⟩ = some (.bool long2) := hg.out.cell 1
        have d2 : wc.cell? ⟨w2.heap.size, 0, none⟩ = some (.int .i64 (n : Int)) := hw'.out.cell 0
        have d3 : wc.cell? ⟨w2.heap.size, 1, none⟩ = some (.bool long) := hw'.out.cell 1
        have d4 : wc.frozen? ⟨w2.heap.size, 0, none⟩ = false := hw'.out.frozen 0
        have d5 : wc.frozen? ⟨w2.heap.size, 1, none⟩ = false := hw'.out.frozen 1
        clear e0 e1 f0 f1 hcell
        go_wp2_with fail
        have hU := ((Upd.refl [w2.heap.size] wc).setCell ⟨w2.heap.size, 0, none⟩ (.int .i64 (n2 : Int)) (.inl (by simp))).setCell ⟨w2.heap.size, 1, none⟩ (.bool long2) (.inl (by simp))
        have hsA := Lib.hid (Blk.upd hs'.out hU (by simp; omega))
        have hwA := Lib.hid ((hw'.out.set_ 0 (.int .i64 (n2 : Int))).set_ 1 (.bool long2))
        have hrA := Lib.hid (hr'.out.upd hU (by simp [blk]; omega))
        have huA := Lib.hid (hu'.out.trans hU (T := []) (by simp) (by intro x hx; simp at hx; subst hx; right; omega))
        clear hU d0 d1 d2 d3 d4 d5 hg hs' hw' hr' hu'
        generalize (wc.setCell ⟨w2.heap.size, 0, none⟩ (.int .i64 (n2 : Int))).setCell ⟨w2.heap.size, 1, none⟩ (.bool long2) = W at *
        have e0 : W.cell? ⟨w2.heap.size, 0, none⟩ = some (.int .i64 (n2 : Int)) := hwA.out.cell 0
        have e1 : W.cell? ⟨w2.heap.size, 1, none⟩ = some (.bool long2) := hwA.out.cell 1
        have e2 : W.cell? ⟨b, off + k, none⟩ = some (bv ch) := by
          obtain ⟨b', off', hb', hc'⟩ := hrA.out.at_ k hltk
          injection hb' with hb'; injection hb' with hb1 hb2; subst hb1; subst hb2
          rw [hc', HCH.out]
        go_region_held3 (fun w' => w'.cell? ⟨w2.heap.size, 0, none⟩ = some (.int .i64 (n2 : Int)) ∧ w'.cell? ⟨w2.heap.size, 1, none⟩ = some (.bool long2) ∧ w'.cell? ⟨b, off + k, none⟩ = some (bv ch)) (first | go_keep | exact ⟨g0, g1, g2⟩)
          (first
            | (go_at_call 31; go_must (refine (lineByte_eq _ w1.heap.size n long ch (kd : Int) n2 long2 (show SplBlk W.drew w1.heap.size n long from hsA.out) hn200.out ⟨by rw [HLS.out], by rw [HLS.out], by rw [HLS.out]⟩).mono ?_; rintro e w10 ⟨rfl, hs10, hu10⟩; have g0 := hu10.cell (p := ⟨w2.heap.size, 0, none⟩) (v := .int .i64 (n2 : Int)) (by go_simp) (by simp; omega); have g1 := hu10.cell (p := ⟨w2.heap.size, 1, none⟩) (v := .bool long2) (by go_simp) (by simp; omega); have g2 := hu10.cell (p := ⟨b, off + k, none⟩) (v := bv ch) (by go_simp) (by simp; omega); have HS10 := Lib.hid hs10; have HU10 := Lib.hid (show Upd [w1.heap.size] W w10 from ((Upd.refl [] W).drew).trans (T := [w1.heap.size]) hu10 (by simp) (by simp)); clear hs10 hu10; dsimp only))
            | (go_at_call 32; refine (lineLen_any _ _ n2 long2 HS10.out).mono ?_; rintro e w' ⟨rfl, rfl⟩; dsimp only)
            | (go_at_call 33; refine (lineLong_any _ _ n2 long2 HS10.out).mono ?_; rintro e w' ⟨rfl, rfl⟩; dsimp only))
        go_wp2_with fail
        go_roundw
        case rel => exact ⟨k + 1, by omega, by go_num, by rw [HST.out]; exact HS10, by rw [HST.out]; exact Blk.upd hwA.out HU10.out (by simp; omega), hrA.out.upd HU10.out (by simp [blk]; omega), huA.out.trans HU10.out (by simp) (by simp; omega)⟩
        case measure => simp [intOf]; omega
    · obtain rfl : k = bL.length := by omega
      go_wp2_with fail
      refine (lineRuns_any _).mono ?_
      rintro e w9 ⟨rfl, hu9⟩
      have HU9 := Lib.hid (hu.out.seq hu9)
      clear hu9
      go_wp2_with fail
      go_ret
      exact ⟨rfl, HU9.out⟩
end Go.Proofs.Ytfpibngdpooedaa
