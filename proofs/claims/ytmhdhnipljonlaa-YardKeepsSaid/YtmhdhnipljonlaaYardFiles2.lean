/- Chapter 21: Files. -/
import Derived.Test.YtmhdhnipljonlaaYardFiles
namespace Go.Proofs.Ytmhdhnipljonlaa
open Go.RowKit
set_option linter.unusedSimpArgs false
set_option linter.unusedVariables false
theorem afCells_len : ∀ p, (afCells p).length = 3 := fun _ => rfl
theorem afCells_one : ∀ p, ∀ u ∈ afCells p, u.oneCell' = true := by intro p u hu; simp [afCells] at hu; rcases hu with rfl | rfl | rfl <;> rfl
theorem infoAF : (Try.prog.info? 31).map (fun i => (i.zero, i.size, i.bytes)) = some (some (.agg #[.int .i64 0, .string ⟨#[]⟩, .int .i64 0]), 3, 32) := by kernel_rfl
theorem undAF : Try.prog.underlying 32 = some (.slice 31) := by kernel_rfl
theorem files_take (cs : CL) (k : Nat) (hk : k < cs.length) : (yFiles (filesOf cs)).take (k + 1) = (yFiles (filesOf cs)).take k ++ [((nth cs k).1, (nth cs k).2.1.1, ((nth cs k).2.2.length : Int))] := by
  have h2 : k < (filesOf cs).length := by rw [files_len]; exact hk
  show (List.map tellF (filesOf cs)).take (k + 1) = (List.map tellF (filesOf cs)).take k ++ _
  rw [List.take_succ_eq_append_getElem (by rw [List.length_map]; exact h2), List.getElem_map, ← nth_get (filesOf cs) k h2, nth_files cs k hk]
  rfl
section
variable {w0 w : World} {gy : Nat} {G : List Nat} {fl : FL} {tk : List (Int × Int)}
set_option maxRecDepth 20000 in
set_option maxHeartbeats 1000000 in
theorem yFiles_any (h : YD w0 w gy G fl tk) :
    Calls Try.prog 19 #[.pointer (some ⟨gy, 0, none⟩)] w fun e w' => ∃ v, e = .returned v ∧ OwnN 3 afCells w.heap.size 31 w' v (yFiles fl) ∧ Upd [] w w' := by
  obtain ⟨gf, gt, F, T, cs, hc, rfl, hlen, hin, rfl⟩ := h.ex
  have HC := Lib.hid hc
  have HRL : Hid ((rowsOf cs).length ≤ 100000) := by unfold Hid; rw [rows_len]; omega
  have HLC : Hid (((rowsOf cs).length : Int) = (cs.length : Int)) := by unfold Hid; rw [rows_len]
  have y0 := hc.p0
  clear hc h hin
  go_enter Try.func19, Try.ntmps19
  go_wp2_with fail
  (with_reducible refine (txIF_Len _ HC.out.files HLC.out).mono ?_)
  rintro e w' ⟨rfl, rfl⟩
  clear y0
  go_wp2_with fail
  go_loopw [3, 13] (fun v i wr => ∃ k : Nat, k ≤ cs.length ∧ i = .int .i64 k ∧ Hid (OwnN 3 afCells w.heap.size 31 wr v ((yFiles (filesOf cs)).take k)) ∧ Hid (Upd [] w wr)) (fun _ i _ => cs.length - (intOf i).toNat)
  case atStart => exact ⟨0, Nat.zero_le _, rfl, OwnN.nil _ _ _, Upd.refl _ _⟩
  case round =>
    obtain ⟨k, hk, rfl, ho, hu⟩ := hrel
    by_cases hlt : k < cs.length
    · have HT := Lib.hid (files_take cs k hlt)
      have HA := Lib.hid (tAt_rows cs k hlt)
      have HM := Lib.hid (HC.out.own _ (nth_mem k hlt))
      have hlen2 : ((yFiles (filesOf cs)).take k).length = k := by unfold yFiles; rw [List.length_take, List.length_map, files_len]; omega
      generalize nth cs k = c0 at *
      obtain ⟨x, ⟨nm, sl⟩, bs⟩ := c0
      have hsn : sl.n = bs.length := by
        have ho := HM.out
        rcases ho.2 with ⟨he, h0⟩ | ⟨g', cap', cur, he, -⟩
        · injection he with e1 e2 e3; rw [e2]; exact h0.symm
        · injection he with e1 e2 e3
      obtain ⟨sa, sn, sk⟩ := sl
      have hsn : sn = bs.length := hsn
      subst hsn
      have HT : Hid ((yFiles (filesOf cs)).take (k + 1) = (yFiles (filesOf cs)).take k ++ [(x, nm, (bs.length : Int))]) := HT
      obtain ⟨ao2, co2, rfl, -⟩ := ho.out.rd afCells_len
      rw [hlen2] at ho ⊢
      have HLEN := Lib.hid hlen2
      have HKS : Hid (∃ ks, ks = (yFiles (filesOf cs)).take k) := ⟨_, rfl⟩
      generalize hks : (yFiles (filesOf cs)).take k = ks at *
      clear hlen2 hks HKS HM
      have q0 : (0 : Int) ≤ k := by omega
      have q1 : (k : Int) < cs.length := by omega
      have HI64 : Hid (I64 (k : Int)) := ⟨by omega, by omega⟩
      have HB : Hid ((ks.length + [(x, nm, (bs.length : Int))].length) * 32 ≤ 140737488355328) := by unfold Hid; rw [HLEN.out]; simp; omega
      have HL : Hid (ks.length + [(x, nm, (bs.length : Int))].length ≤ maxLen) := by unfold Hid maxLen; rw [HLEN.out]; simp; omega
      have y1 := (HC.out.upd0 hu.out).p0
      go_wp2_with fail
      (with_reducible refine (txIF_At (k : Int) x (nm, ⟨sa, bs.length, sk⟩) true HI64.out ((HC.out.upd0 hu.out).files) HRL.out HA.out).mono ?_)
      rintro e w2 ⟨rfl, hu2⟩
      have HU2 := Lib.hid ((hu.out.seq hu2).alloc (.cells #[sv nm, .slice sa bs.length sk] 91))
      have HO2 := Lib.hid (ho.out.upd (hu2.alloc (.cells #[sv nm, .slice sa bs.length sk] 91)) (by simp))
      have hsz2 := HU2.out.size
      have HRD : Hid (RdN 3 afCells ((w2.alloc (.cells #[sv nm, .slice sa bs.length sk] 91)).alloc (.cells #[iv x, sv nm, .int .i64 (bs.length : Int)] 31)) (.slice (some ⟨w2.heap.size + 1, 0, none⟩) 1 1) [(x, nm, (bs.length : Int))]) := by
        have hb := Blk.new (w2.alloc (.cells #[sv nm, .slice sa bs.length sk] 91)) 31 [iv x, sv nm, .int .i64 (bs.length : Int)]
        refine ⟨_, 1, rfl, by simp, by simp [maxLen], fun _ => ⟨w2.heap.size + 1, 0, rfl, fun j hj i hi => ?_⟩⟩
        simp at hj; subst hj
        have := hb.cell i
        rw [show (w2.alloc (.cells #[sv nm, .slice sa bs.length sk] 91)).heap.size = w2.heap.size + 1 by simp] at this
        rw [nth_cons_zero, show 0 + (0 * 3 + i) = i by omega]; exact this
      clear hu2 y1 ho
      go_wp2_with (at_builtin; go_must (refine wpList_app_of rfl _ _ rfl (.slice ao2 k co2) (.slice (some ⟨w2.heap.size + 1, 0, none⟩) 1 1) rfl rfl (run_appN (c := afCells) afCells_len (by decide) afCells_one undAF infoAF rfl _ _ ks [(x, nm, (bs.length : Int))] (HO2.out.upd ((Upd.refl [] _).alloc _) (by simp)) HRD.out HB.out HL.out (by simp at hsz2 ⊢; omega)) ?_; rintro v1 w3 ⟨ho3, hu3, hk3⟩; have HO3 := Lib.hid ho3; have HU3 : Hid (Upd [] w w3) := ((HU2.out.alloc _).trans hu3 (by simp) (fun y hy => .inr (HO2.out.ge y hy).1)); clear ho3 hu3 hk3))
      go_roundw
      case rel => exact ⟨k + 1, by omega, by go_num, by rw [HT.out]; exact HO3, HU3⟩
      case measure => simp [intOf]; omega
    · obtain rfl : k = cs.length := by omega
      go_wp2_with fail
      go_ret
      exact ⟨_, rfl, by have := ho.out; rwa [List.take_of_length_le (by unfold yFiles; rw [List.length_map, files_len]; omega)] at this, hu.out⟩
end
end Go.Proofs.Ytmhdhnipljonlaa
