/- Runs as bytes. -/
import Derived.Test.YtfpibngdpooedaaLine
import Derived.Test.YtfpibngdpooedaaBookByte
import Derived.Test.YtfpibngdpooedaaRdN
namespace Go.Proofs.Ytfpibngdpooedaa
open Go.RowKit
set_option linter.unusedSimpArgs false
set_option linter.unusedVariables false

abbrev runCells (r : UInt8 × Int) : List Value := [bv r.1, .int .i64 r.2]
def addRun (most : Nat) (acc : List UInt8) (r : UInt8 × Int) : List UInt8 := acc ++ List.replicate (min (within r.2 0 220).toNat (most - acc.length)) r.1
def bytesOf (most : Nat) (l : List (UInt8 × Int)) : List UInt8 := l.foldl (addRun most) []
theorem bytesOf_take (most : Nat) (l : List (UInt8 × Int)) (k : Nat) (h : k < l.length) : bytesOf most (l.take (k + 1)) = addRun most (bytesOf most (l.take k)) (nth l k) := by
  unfold bytesOf
  rw [List.take_succ_eq_append_getElem h, List.foldl_append]
  simp [nth_get l k h]
theorem addRun_le (most : Nat) (acc : List UInt8) (r : UInt8 × Int) (h : acc.length ≤ most) : (addRun most acc r).length ≤ most := by
  unfold addRun; rw [List.length_append, List.length_replicate]; omega
theorem bytesOf_le (most : Nat) (l : List (UInt8 × Int)) : (bytesOf most l).length ≤ most := by
  unfold bytesOf
  suffices h : ∀ (acc : List UInt8), acc.length ≤ most → (l.foldl (addRun most) acc).length ≤ most from h [] (Nat.zero_le _)
  induction l with
  | nil => intro acc h; exact h
  | cons x l ih => intro acc h; exact ih _ (addRun_le most acc x h)

theorem rep_snoc {α : Type} (acc : List α) (j : Nat) (c : α) : acc ++ List.replicate (j + 1) c = acc ++ List.replicate j c ++ [c] := by rw [List.replicate_succ', ← List.append_assoc]
set_option maxRecDepth 20000 in
set_option maxHeartbeats 1000000 in
theorem lineBytes_any (w : World) (v : Value) (l : List (UInt8 × Int)) (most : Nat) (hm : most ≤ 4096) (hl : ∀ r ∈ l, -9223372036854775808 ≤ r.2 ∧ r.2 ≤ 9223372036854775807) (h : RdN 2 runCells w v l) :
    Calls Try.prog 37 #[v, .int .i64 (most : Int)] w fun e w' => ∃ u, e = .returned u ∧ Own bv w.heap.size 5 w' u (bytesOf most l) ∧ Upd [] w w' := by
  have h0 := h
  obtain ⟨a, cap, rfl, hlc, hcm, hc⟩ := h
  have hm' : l.length ≤ 9223372036854775807 := by unfold maxLen at hcm; omega
  have HC := Lib.hid hc
  have H := Lib.hid h0
  clear hlc hcm hc h0
  go_enter Try.func37, Try.ntmps37
  go_wp2_with fail
  go_loopw [5, 6] (fun t i wr => ∃ k : Nat, k ≤ l.length ∧ i = .int .i64 k ∧ Hid (Own bv w.heap.size 5 wr t (bytesOf most (l.take k))) ∧ Hid (Upd [] w wr)) (fun _ i _ => l.length - (intOf i).toNat)
  case atStart => exact ⟨0, Nat.zero_le _, rfl, World.ownsRow_nil _ _ _ _, Upd.refl _ _⟩
  case round =>
    obtain ⟨k, hk, rfl, ho, hu⟩ := hrel
    rename_i t
    by_cases hlt : k < l.length
    · obtain ⟨b, off, rfl, hc'⟩ := HC.out (by intro h; simp [h] at hlt)
      have c0 := hu.out.cell (hc' k hlt 0 (by omega)) (by simp)
      have c1 := hu.out.cell (hc' k hlt 1 (by omega)) (by simp)
      have D0 := Lib.hid (hc' k hlt 0 (by omega))
      rw [Nat.add_zero] at c0 D0
      simp only [List.getElem?_cons_zero] at D0
      have c1' : wr.cell? ⟨b, off + k * 2 + 1, none⟩ = some (.int .i64 (nth l k).2) := by rw [Nat.add_assoc]; exact c1
      have HN := Lib.hid (hl (nth l k) (by rw [nth_get l k hlt]; exact List.getElem_mem hlt))
      have HT := Lib.hid (bytesOf_take most l k hlt)
      have HLE := Lib.hid (bytesOf_le most (l.take k))
      clear hc'
      go_wp2_with fail
      refine (within_any _ _ _ _ HN.out (by omega) (by omega) (by omega)).mono ?_
      rintro e w' ⟨rfl, rfl⟩
      obtain ⟨n1, n2⟩ := within_in (nth l k).2 0 220 (by omega)
      have HW := Lib.hid (Int.toNat_of_nonneg n1)
      have hn3 : (within (nth l k).2 0 220).toNat ≤ 220 := by omega
      unfold addRun at HT
      generalize (within (nth l k).2 0 220).toNat = n at HW hn3 HT
      rw [← HW.out]
      generalize (nth l k).1 = ch at *
      generalize bytesOf most (l.take k) = acc at *
      clear n1 n2
      go_wp2_with fail
      go_loopw [5, 8] (fun t i wr => ∃ j : Nat, j ≤ min n (most - acc.length) ∧ i = .int .i64 j ∧ Hid (Own bv w.heap.size 5 wr t (acc ++ List.replicate j ch)) ∧ Hid (Upd [] w wr)) (fun _ i _ => 220 - (intOf i).toNat)
      case atStart => exact ⟨0, Nat.zero_le _, rfl, by simpa using ho, hu⟩
      case round =>
        obtain ⟨j, hj, rfl, ho, hu⟩ := hrel
        have hlenA : (acc ++ List.replicate j ch).length = acc.length + j := by simp
        have HR := Lib.hid ho.out.rd
        obtain ⟨ao, co, rfl, hco, hcm, _⟩ := ho.out.rd
        rw [hlenA] at ho HR hco ⊢
        clear hlenA
        have hle := HLE.out
        by_cases hjn : j < n
        · by_cases hjm : acc.length + j < most
          · have e0 := hu.out.cell D0.out (by simp)
            have q2 : (acc.length : Int) + j < most := by omega
            have hsz := hu.out.size
            go_wp2_with (at_builtin; go_must (refine wpList_app bv_one rfl _ _ rfl Try.underlying52 infoByte rfl (.slice ao (acc.length + j) co) (.slice (some ⟨wr.heap.size, 0, none⟩) 1 1) (acc ++ List.replicate j ch) [ch] rfl rfl (ho.out.upd ((Upd.refl [] _).alloc _) (by simp)) (Rd.lit [ch] rfl rfl rfl (by decide) (by decide)) (by simp <;> omega) (by unfold maxLen; simp <;> omega) (by simp <;> omega) ?_; intro v1 w2 ho2 hu2 hbk; have HO2 := Lib.hid ho2; rw [← rep_snoc] at HO2; have HU2 : Hid (Upd [] w w2) := (hu.out.alloc _).trans hu2 (by simp) (fun x hx => .inr ((ho.out.ge x hx).1)); clear ho2 hu2 hbk))
            go_roundw
            case rel => exact ⟨j + 1, by omega, by go_num, HO2, HU2⟩
            case measure => simp [intOf]; omega
          · have q2 : ¬ (acc.length : Int) + j < most := by omega
            have hjE : j = min n (most - acc.length) := by omega
            have HJE := Lib.hid hjE
            clear hjE
            go_wp2
            go_roundw
            case rel => exact ⟨k + 1, by omega, by go_num, by rw [HT.out, ← HJE.out]; exact ho, hu⟩
            case measure => simp [intOf]; omega
        · have q2 : ¬ (j : Int) < n := by omega
          have hjE : j = min n (most - acc.length) := by omega
          have HJE := Lib.hid hjE
          clear hjE
          go_wp2
          go_roundw
          case rel => exact ⟨k + 1, by omega, by go_num, by rw [HT.out, ← HJE.out]; exact ho, hu⟩
          case measure => simp [intOf]; omega
    · obtain rfl : k = l.length := by omega
      go_wp2_with fail
      go_ret
      exact ⟨_, rfl, by rw [← List.take_length (l := l)]; exact ho.out, hu.out⟩
end Go.Proofs.Ytfpibngdpooedaa
