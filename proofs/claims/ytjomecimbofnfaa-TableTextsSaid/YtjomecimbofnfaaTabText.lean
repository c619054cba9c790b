/- The law's text: a number as eight bytes. -/
import Derived.Test.YtjomecimbofnfaaRows
import Derived.Test.YtjomecimbofnfaaBigEnd
import Derived.Test.YtjomecimbofnfaaOwnSet
namespace Go.Proofs.Ytjomecimbofnfaa
open Go.RowKit
set_option linter.unusedSimpArgs false
set_option linter.unusedVariables false
theorem infoByte8 : (Try.prog.info? 5).map (fun i => (i.zero, i.size, i.bytes)) = some (some (.int .u8 0), 1, 1) := by kernel_rfl
/-- The bytes, the first i of them laid. -/
def laid (m i : Nat) : List UInt8 := (beB 8 m).take i ++ List.replicate (8 - i) 0
theorem laid_len (m i : Nat) (h : i ≤ 8) : (laid m i).length = 8 := by simp [laid, beB_len]; omega
theorem laid_set (m i : Nat) (h : i < 8) : (laid m i).set i (UInt8.ofNat (m / 256 ^ (7 - i))) = laid m (i + 1) := by
  have hl := beB_len 8 m
  unfold laid
  rw [List.set_append_right _ _ (by simp [hl]; omega)]
  have e1 : i - (List.take i (beB 8 m)).length = 0 := by simp [hl]; omega
  obtain ⟨r, hr⟩ : ∃ r, 8 - i = r + 1 := ⟨7 - i, by omega⟩
  rw [e1, hr, List.replicate_succ, List.set_cons_zero, List.take_succ_eq_append_getElem (by omega), show 8 - (i + 1) = r by omega]
  have := beB_nth 8 m i h
  rw [nth_get _ _ (by omega)] at this
  rw [this]
  simp
theorem laid_all (m : Nat) : laid m 8 = beB 8 m := by
  unfold laid
  rw [List.take_of_length_le (by rw [beB_len]; omega)]; simp
set_option maxRecDepth 20000 in
set_option maxHeartbeats 1000000 in
theorem text_any (w : World) (n : Int) (hn : I64 n) :
    Calls Try.prog 54 #[iv n] w fun e w' => e = .returned (.string (txt n)) ∧ Upd [] w w' := by
  have hx := u64_top n hn
  have hmk := fun u => run_mk (P := Try.prog) Try.underlying50 infoByte8 rfl u 8 8 8 8 (by omega) (by omega) (by omega) (by omega) (by omega)
  have HT : Hid (txt n = strOf (beB 8 (top n))) := rfl
  have hm : top n < 18446744073709551616 := by obtain ⟨h1, h2⟩ := hn; unfold top; omega
  rw [show (n + 9223372036854775808).toNat = top n from rfl] at hx
  generalize top n = m at *
  go_enter Try.func54, Try.ntmps54
  go_wp2_with fail
  go_loopw [5] (fun i wr => ∃ k : Nat, k ≤ 8 ∧ i = .int .i64 k ∧ Hid (Blk wr w.heap.size 5 ((laid m k).map bv)) ∧ Hid (Upd [] w wr)) (fun i _ => 8 - (intOf i).toNat)
  case atStart => exact ⟨0, by omega, rfl, Blk.new w _ _, (Upd.refl [] w).alloc _⟩
  case round =>
    obtain ⟨k, hk, rfl, hb, hu⟩ := hrel
    by_cases hlt : k < 8
    · have d0 : wr.cell? ⟨w.heap.size, k, none⟩ = some (bv (nth (laid m k) k)) := by rw [hb.out.cell, List.getElem?_map, List.getElem?_eq_getElem (by rw [laid_len m k (by omega)]; exact hlt), nth_get _ _ (by rw [laid_len m k (by omega)]; exact hlt)]; rfl
      have f0 := hb.out.frozen k
      have HS : Hid (Blk (wr.setCell ⟨w.heap.size, k, none⟩ (bv (UInt8.ofNat (m / 256 ^ (7 - k))))) w.heap.size 5 ((laid m (k + 1)).map bv)) := by
        have := hb.out.set_ k (bv (UInt8.ofNat (m / 256 ^ (7 - k))))
        rw [← List.map_set, laid_set m k hlt] at this
        exact this
      have HU2 : Hid (Upd [] w (wr.setCell ⟨w.heap.size, k, none⟩ (bv (UInt8.ofNat (m / 256 ^ (7 - k)))))) := hu.out.setCell _ _ (.inr (Nat.le_refl _))
      rw [← byte_at] at HS HU2
      have q0 : (0 : Int) ≤ k := by omega
      have q1 : (k : Int) < 8 := by omega
      have e1 : (56 : Int) - 8 * k = 8 * ((7 - k : Nat) : Int) := by omega
      go_wp2_with fail
      go_roundw
      case rel => exact ⟨k + 1, by omega, by go_num, HS, HU2⟩
      case measure => simp [intOf]; omega
    · obtain rfl : k = 8 := by omega
      have hcv := fun W (h : Bytes W (.slice (some ⟨w.heap.size, 0, none⟩) 8 8) (beB 8 m)) => convb_str (P := Try.prog) Try.underlying50 Try.underlying5 Try.underlying9 W _ _ h
      have hbb : Bytes wr (.slice (some ⟨w.heap.size, 0, none⟩) 8 8) (beB 8 m) := by
        refine Blk.rd_pre (e := 5) (ys := []) (beB 8 m) 8 8 ?_ (by rw [beB_len]) (by omega) (by decide)
        rw [List.append_nil, ← laid_all]; exact hb.out
      have hcv1 := hcv wr hbb
      go_wp2_with fail
      go_ret
      exact ⟨by rw [HT.out]; rfl, hu.out⟩
end Go.Proofs.Ytjomecimbofnfaa
