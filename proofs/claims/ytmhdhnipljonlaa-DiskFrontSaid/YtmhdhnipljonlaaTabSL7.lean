/- Chapter 4's Keys at string,[]uint8. -/
import Derived.Test.YtmhdhnipljonlaaTabSL6
namespace Go.Proofs.Ytmhdhnipljonlaa
open Go.RowKit
set_option linter.unusedSimpArgs false
set_option linter.unusedVariables false
theorem infoKeySL : (Try.prog.info? 9).map (fun i => (i.zero, i.size, i.bytes)) = some (some (.string ⟨#[]⟩), 1, 16) := by kernel_rfl
theorem undKSL : Try.prog.underlying 56 = some (.slice 9) := by kernel_rfl
section
variable {base : Nat} {g : Nat} {lv : Value} {l : List (ByteArray × Sl)} {w w' : World}
set_option maxRecDepth 20000 in
set_option maxHeartbeats 400000 in
theorem tKeysSL_any (w : World) (hs : TBSL base w g lv l) (hlen : l.length ≤ 100000) :
    Calls Try.prog 63 #[.pointer (some ⟨g, 0, none⟩)] w fun e w' => ∃ v, e = .returned v ∧ Own sv w.heap.size 9 w' v (l.map (·.1)) ∧ Upd [] w w' := by
  have HS := Lib.hid hs
  obtain ⟨ao, co, rfl, hlc, hcm, hcell⟩ := hs.rows.rd rcSL_len
  have c0 : w.cell? ⟨g, 0, none⟩ = some (.slice ao l.length co) := hs.tab.cell 0
  have HC := Lib.hid hcell
  clear hs hcell hcm
  go_enter Try.func63, Try.ntmps63
  go_wp2_with fail
  go_loopw [3, 5, 11] (fun v p i wr => ∃ k : Nat, k ≤ l.length ∧ i = .int .i64 k ∧ Hid (Own sv w.heap.size 9 wr v ((l.take k).map (·.1))) ∧ Hid (Upd [] w wr)) (fun _ _ i _ => l.length - (intOf i).toNat)
  case atStart => exact ⟨0, Nat.zero_le _, rfl, World.ownsRow_nil _ _ _ _, Upd.refl _ _⟩
  case round =>
    obtain ⟨k, hk, rfl, ho, hu⟩ := hrel
    by_cases hlt : k < l.length
    · have HT : Hid ((l.take (k + 1)).map (·.1) = (l.take k).map (·.1) ++ [(nth l k).1]) := by unfold Hid; rw [List.take_succ_eq_append_getElem hlt, nth_get l k hlt, List.map_append]; rfl
      have hlen2 : ((l.take k).map (·.1)).length = k := by rw [List.length_map, List.length_take]; omega
      obtain ⟨bl, off, rfl, hc⟩ := HC.out (by intro h; simp [h] at hlt)
      obtain ⟨ao2, co2, rfl, -⟩ := ho.out.rd
      rw [hlen2] at ho ⊢
      have HLEN := Lib.hid hlen2
      have d0 : wr.cell? ⟨bl, off + k * 2, none⟩ = some (sv (nth l k).1) := hu.out.cell (hc _ hlt 0 (by omega)) (by simp)
      have d1 : wr.cell? ⟨bl, off + k * 2 + 1, none⟩ = some (slv (nth l k).2) := hu.out.cell (hc _ hlt 1 (by omega)) (by simp)
      have HKS : Hid (∃ ks, ks = (l.take k).map (·.1)) := ⟨_, rfl⟩
      generalize hks : (l.take k).map (·.1) = ks at *
      generalize (nth l k).1 = x at *
      generalize (nth l k).2 = y at *
      clear hlen2 hc hks HKS
      have q0 : (0 : Int) ≤ k := by omega
      have q1 : (k : Int) < l.length := by omega
      have HB : Hid ((ks.length + [x].length) * 16 ≤ 140737488355328) := by unfold Hid; rw [HLEN.out]; simp; omega
      have HL : Hid (ks.length + [x].length ≤ maxLen) := by unfold Hid maxLen; rw [HLEN.out]; simp; omega
      have hsz := hu.out.size
      go_wp2_with (at_builtin; go_must (refine wpList_app_of rfl _ _ rfl (.slice ao2 k co2) (.slice (some ⟨wr.heap.size + 1, 0, none⟩) 1 1) rfl rfl (run_app (c := sv) (fun _ => rfl) undKSL infoKeySL rfl _ _ ks [x] (ho.out.upd (((Upd.refl [] _).alloc _).alloc _) (by simp)) (Rd.lit [x] (by simp) rfl rfl (by decide) (by decide)) HB.out HL.out (by simp <;> omega)) ?_; rintro v1 w3 ⟨ho3, hu3, hk3⟩; have HO3 := Lib.hid ho3; have HU3 : Hid (Upd [] w w3) := (((hu.out.alloc _).alloc _).trans hu3 (by simp) (fun y hy => .inr (ho.out.ge y hy).1)); clear ho3 hu3 hk3))
      go_roundw
      case rel => exact ⟨k + 1, by omega, by go_num, by rw [HT.out]; exact HO3, HU3⟩
      case measure => simp [intOf]; omega
    · obtain rfl : k = l.length := by omega
      go_wp2_with fail
      go_ret
      exact ⟨_, rfl, by have := ho.out; rwa [List.take_length] at this, hu.out⟩
end
end Go.Proofs.Ytmhdhnipljonlaa
