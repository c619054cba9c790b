/- The book's functions at bytes. -/
import Derived.Test.YtmhdhnipljonlaaRows
import Derived.Test.YtmhdhnipljonlaaWithin
namespace Go.Proofs.Ytmhdhnipljonlaa
open Go.RowKit
set_option linter.unusedSimpArgs false
set_option linter.unusedVariables false

set_option maxHeartbeats 400000 in
theorem sameByte_any (v u : Value) (l m : List UInt8) (w : World) (h : Bytes w v l) (h2 : Bytes w u m) :
    Calls Try.prog 27 #[v, u] w fun e w' => e = .returned (.bool (decide (l = m))) ∧ ∃ n, w' = w.drewN n := by
  obtain ⟨a, cap, rfl, hlc, hm, hc⟩ := h
  obtain ⟨a2, cap2, rfl, hlc2, hm2, hc2⟩ := h2
  have hm' : l.length ≤ 9223372036854775807 := by unfold maxLen at hm; omega
  have hm2' : m.length ≤ 9223372036854775807 := by unfold maxLen at hm2; omega
  clear hm hlc hm2 hlc2
  by_cases hlen : l.length = m.length
  · have HL := Lib.hid hlen
    have t1 : ((l.length : Int) != (m.length : Int)) = false := by rw [bne_eq_false_iff_eq]; omega
    have H1 := Lib.hid hc
    have H2 := Lib.hid hc2
    clear hlen hc hc2
    go_enter Try.func27, Try.ntmps27
    go_wp2
    go_loopw [5] (fun i wr => ∃ k n : Nat, wr = w.drewN n ∧ k ≤ l.length ∧ i = .int .i64 k ∧ Hid (∀ j, j < k → nth l j = nth m j)) (fun i _ => l.length - (intOf i).toNat)
    case atStart => exact ⟨0, 0, rfl, Nat.zero_le _, rfl, fun j hj => absurd hj (by omega)⟩
    case round =>
      obtain ⟨k, n, rfl, hk, rfl, hs⟩ := hrel
      by_cases hlt : k < l.length
      · obtain ⟨b, off, rfl, hc'⟩ := H1.out (by intro h; simp [h] at hlt)
        have hlt2 : k < m.length := by rw [← HL.out]; exact hlt
        obtain ⟨b2, off2, rfl, hc2'⟩ := H2.out (by intro h; simp [h] at hlt2)
        have hck := hc' k hlt
        have hck2 := hc2' k hlt2
        clear hc' hc2'
        have q1 : (k : Int) < (l.length : Int) := by omega
        have q2 : (k : Int) < (m.length : Int) := by omega
        go_wp2
        go_quiet (fail)
        go_wp2
        · have hne : ((nth l k).toNat : Int) ≠ ((nth m k).toNat : Int) := by first | assumption | exact bne_iff_ne.1 (by assumption)
          go_ret
          exact ⟨congrArg (fun b => Ending.returned (.bool b)) (decide_eq_false (fun e => by rw [e] at hne; exact hne rfl)).symm, _, World.drewN_drewN ..⟩
        · have heq : nth l k = nth m k := UInt8.toNat_inj.1 (by have : ((nth l k).toNat : Int) = ((nth m k).toNat : Int) := by first | assumption | exact bne_eq_false_iff_eq.1 (by assumption)
                                                                omega)
          go_roundw
          case rel => exact ⟨k + 1, _, rfl, by omega, by go_num, fun j hj => by
            by_cases e : j = k
            · rw [e]; exact heq
            · exact hs.out j (by omega)⟩
          case measure => simp [intOf]; omega
      · obtain rfl : k = l.length := by omega
        go_wp2
        go_ret
        exact ⟨congrArg (fun b => Ending.returned (.bool b)) (decide_eq_true (same_ext HL.out hs.out)).symm, _, rfl⟩
  · have t1 : ((l.length : Int) != (m.length : Int)) = true := by rw [bne_iff_ne]; omega
    have t2 : decide (l = m) = false := by simp; intro h; exact hlen (by rw [h])
    have T2 := Lib.hid t2
    clear hlen t2
    go_enter Try.func27, Try.ntmps27
    go_wp2
    go_ret
    exact ⟨congrArg (fun b => Ending.returned (.bool b)) T2.out.symm, 0, rfl⟩

theorem infoByte : (Try.prog.info? 5).map (fun i => (i.zero, i.size, i.bytes)) = some (some (.int .u8 0), 1, 1) := by kernel_rfl
theorem sizeByte : (Try.prog.info? 5).map (·.size) = some 1 := by kernel_rfl
set_option maxHeartbeats 400000 in
theorem roomyByte_any (v : Value) (l : List UInt8) (m : UInt8) (w : World) (h : Bytes w v l) (hz : l.length ≤ 140737488351232) :
    Calls Try.prog 25 #[v, bv m] w fun e w' => ∃ u, e = .returned u ∧ Roomed bv 5 w w' u l m := by
  have h0 := h
  obtain ⟨a, cap, rfl, hlc, hm, hc⟩ := h
  clear hm hlc hc
  have hmk := fun u => run_mk (P := Try.prog) Try.underlying27 infoByte rfl u (l.length + 80) (l.length + 80) ((l.length : Int) + 80) ((l.length : Int) + 80) (by omega) (by omega) (by omega) (by omega) (by omega)
  go_enter Try.func25, Try.ntmps25
  go_wp2_with ((with_reducible refine wpList_cp bv_one rfl (.tmp 11) (.tmp 12) 27 27 5 rfl Try.underlying27 sizeByte w.heap.size (l.length + 80) (l.length + 80) (.slice a l.length cap) rfl rfl l (h0.alloc _) 5 (List.replicate (l.length + 80) (.int .u8 0)) (Blk.new _ _ _) (by omega) (by simp) ?_); intro w1 hb hu hs)
  have HB : Hid (Blk w1 w.heap.size 5 (l.map bv ++ (List.replicate 0 (bv m) ++ List.replicate 80 (.int .u8 0)))) := by
    rw [List.drop_replicate, show l.length + 80 - l.length = 80 from by omega] at hb; exact hb
  have HU : Hid (Upd [] w w1) := ((Upd.refl [] w).alloc _).trans hu (by simp) (by simp)
  clear hb hu hmk h0 hs
  go_loopw [6] (fun i wr => ∃ k : Nat, k ≤ 80 ∧ i = .int .i64 ((l.length : Int) + k) ∧ Hid (Blk wr w.heap.size 5 (l.map bv ++ (List.replicate k (bv m) ++ List.replicate (80 - k) (.int .u8 0)))) ∧ Hid (Upd [] w wr)) (fun i _ => l.length + 80 - (intOf i).toNat)
  case atStart => exact ⟨0, by omega, by simp, HB, HU⟩
  case round =>
    obtain ⟨k, hk, rfl, hb, hu⟩ := hrel
    by_cases hlt : k < 80
    · have hcell : wr.cell? ⟨w.heap.size, l.length + k, none⟩ = some (.int .u8 0) := by
        rw [hb.out.cell, List.getElem?_append_right (by simp), List.getElem?_append_right (by simp), List.getElem?_replicate, if_pos (by simp; omega)]
      have hfr : wr.frozen? ⟨w.heap.size, l.length + k, none⟩ = false := hb.out.frozen _
      have hb' : Hid (Blk (wr.setCell ⟨w.heap.size, l.length + k, none⟩ (bv m)) w.heap.size 5 (l.map bv ++ (List.replicate (k + 1) (bv m) ++ List.replicate (80 - (k + 1)) (.int .u8 0)))) := by
        have := hb.out.set_ (l.length + k) (bv m)
        rw [set_mid _ k (80 - k) _ _ _ (by simp) (by omega)] at this; exact this
      have hu' : Hid (Upd [] w (wr.setCell ⟨w.heap.size, l.length + k, none⟩ (bv m))) := hu.out.setCell _ _ (.inr (Nat.le_refl _))
      clear HB HU hb hu
      go_wp2
      go_roundw
      case rel => exact ⟨k + 1, by omega, by go_num, hb', hu'⟩
      case measure => simp [intOf]; omega
    · obtain rfl : k = 80 := by omega
      go_wp2
      go_ret
      exact ⟨_, rfl, rfl, by simpa using hb.out, hu.out⟩

set_option maxHeartbeats 400000 in
theorem intactByte_any (v u : Value) (f l : List UInt8) (m : UInt8) (w : World) (h : Bytes w v f) (h2 : Bytes w u l) (hz : l.length ≤ 140737488351232) :
    Calls Try.prog 26 #[v, u, bv m] w fun e w' => e = .returned (.bool (decide (f = l ++ List.replicate 80 m))) ∧ ∃ n, w' = w.drewN n := by
  have h0 := h
  have h20 := h2
  obtain ⟨a, cap, rfl, hlc, hm, hc⟩ := h
  obtain ⟨a2, cap2, rfl, hlc2, hm2, hc2⟩ := h2
  have hm' : f.length ≤ 9223372036854775807 := by unfold maxLen at hm; omega
  clear hm hm2 hlc2 hc2
  by_cases hlen : f.length = l.length + 80
  · have t1 : ((f.length : Int) != (l.length : Int) + 80) = false := by rw [bne_eq_false_iff_eq]; omega
    have hs := (sameByte_any _ _ _ _ w (h0.take l.length (by omega)) h20)
    have hle : l.length ≤ cap := by omega
    have q1 : (l.length : Int) ≤ (cap : Int) := by omega
    have HL := Lib.hid hlen
    have HC := Lib.hid hc
    have HS := Lib.hid hs
    clear hlen hc h0 h20 hs hlc
    by_cases hsm : f.take l.length = l
    · have HF := Lib.hid hsm
      have T : decide (f.take l.length = l) = true := decide_eq_true hsm
      rw [T] at HS
      clear hsm T
      go_enter Try.func26, Try.ntmps26
      go_wp2_with (go_at_call 27; refine HS.out.mono ?_; rintro e w' ⟨rfl, n0, rfl⟩)
      go_loopw [7] (fun i wr => ∃ k n : Nat, wr = w.drewN n ∧ k ≤ 80 ∧ i = .int .i64 ((l.length : Int) + k) ∧ Hid (∀ j, l.length ≤ j → j < l.length + k → nth f j = m)) (fun i _ => f.length - (intOf i).toNat)
      case atStart => exact ⟨0, n0, rfl, by omega, by simp, fun j h1 h2 => by omega⟩
      case round =>
        obtain ⟨k, n, rfl, hk, rfl, hr⟩ := hrel
        have hfl : (f.length : Int) = l.length + 80 := by have := HL.out; omega
        have HFL := Lib.hid hfl
        by_cases hlt : k < 80
        · have b1 : (l.length : Int) + k < (f.length : Int) := by omega
          obtain ⟨b, off, rfl, hc'⟩ := HC.out (by intro h; rw [h] at b1; simp at b1; omega)
          have hck := hc' (l.length + k) (by omega)
          rw [← Nat.add_assoc] at hck
          have hck2 : w.cell? ⟨b, off + (l.length + k), none⟩ = some (bv (nth f (l.length + k))) := by rw [← Nat.add_assoc]; exact hck
          clear hc' hck hfl
          go_wp2
          · have hne : ((nth f (l.length + k)).toNat : Int) ≠ (m.toNat : Int) := bne_iff_ne.1 (by assumption)
            go_ret
            exact ⟨congrArg (fun b => Ending.returned (.bool b)) (decide_eq_false (intact_bad f l m (l.length + k) (by omega) (by omega) (fun e => hne (by rw [e])))).symm, _, rfl⟩
          · have heq : nth f (l.length + k) = m := UInt8.toNat_inj.1 (by have := bne_eq_false_iff_eq.1 (show (((nth f (l.length + k)).toNat : Int) != (m.toNat : Int)) = false by assumption); omega)
            have H2 := Lib.hid heq
            clear heq
            go_roundw
            case rel => exact ⟨k + 1, _, rfl, by omega, by go_num, fun j h1 h2 => by
              by_cases e : j = l.length + k
              · rw [e]; exact H2.out
              · exact hr.out j h1 (by omega)⟩
            case measure => simp only [intOf]; omega
        · obtain rfl : k = 80 := by omega
          have b1 : ¬ (l.length : Int) + (80 : Nat) < (f.length : Int) := by omega
          clear hfl
          go_wp2
          go_ret
          exact ⟨congrArg (fun b => Ending.returned (.bool b)) (decide_eq_true (intact_split f l m HL.out HF.out hr.out)).symm, _, rfl⟩
    · have T : decide (f.take l.length = l) = false := decide_eq_false hsm
      rw [T] at HS
      have HF : Hid (f ≠ l ++ List.replicate 80 m) := fun e => hsm (by rw [e]; simp)
      clear hsm T
      go_enter Try.func26, Try.ntmps26
      go_wp2_with (go_at_call 27; refine HS.out.mono ?_; rintro e w' ⟨rfl, n0, rfl⟩)
      go_ret
      exact ⟨congrArg (fun b => Ending.returned (.bool b)) (decide_eq_false HF.out).symm, _, rfl⟩
  · have t1 : ((f.length : Int) != (l.length : Int) + 80) = true := by rw [bne_iff_ne]; omega
    have HF : Hid (f ≠ l ++ List.replicate 80 m) := fun e => hlen (by rw [e]; simp)
    clear hlen h0 h20 hc hlc
    go_enter Try.func26, Try.ntmps26
    go_wp2
    go_ret
    exact ⟨congrArg (fun b => Ending.returned (.bool b)) (decide_eq_false HF.out).symm, 0, rfl⟩

theorem intactByte_ok (v u : Value) (l : List UInt8) (m : UInt8) (w : World) (h : Bytes w v (l ++ List.replicate 80 m)) (h2 : Bytes w u l) (hz : l.length ≤ 140737488351232) :
    Calls Try.prog 26 #[v, u, bv m] w fun e w' => e = .returned (.bool true) ∧ ∃ n, w' = w.drewN n := by
  have h := intactByte_any v u _ l m w h h2 hz
  rw [decide_eq_true rfl] at h; exact h
theorem sameByte_ok (v u : Value) (l : List UInt8) (w : World) (h : Bytes w v l) (h2 : Bytes w u l) :
    Calls Try.prog 27 #[v, u] w fun e w' => e = .returned (.bool true) ∧ ∃ n, w' = w.drewN n := by
  have h := sameByte_any v u l l w h h2
  rw [decide_eq_true rfl] at h; exact h
end Go.Proofs.Ytmhdhnipljonlaa
