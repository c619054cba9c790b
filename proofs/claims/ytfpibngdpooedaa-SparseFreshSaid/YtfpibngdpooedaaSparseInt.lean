/- Chapter 5's functions at int. -/
import Derived.Test.YtfpibngdpooedaaRows
import Derived.Test.YtfpibngdpooedaaSparLaw
import Derived.Test.YtfpibngdpooedaaOpen
namespace Go.Proofs.Ytfpibngdpooedaa
open Go.RowKit
set_option linter.unusedSimpArgs false
set_option linter.unusedVariables false

theorem infoItemInt : (Try.prog.info? 85).map (fun i => (i.zero, i.size, i.bytes)) = some (some (.agg #[.int .i64 0, .int .i64 0]), 2, 16) := by kernel_rfl
theorem infoIntInt : (Try.prog.info? 3).map (fun i => (i.zero, i.size, i.bytes)) = some (some (.int .i64 0), 1, 8) := by kernel_rfl
abbrev SparInt (base : Nat) (w : World) (g gp : Nat) (lv : Value) (pl : List Nat) (it : List (Nat × Int)) : Prop := Spar iv 80 85 3 base w g gp lv pl it
section
variable {base : Nat} {g gp : Nat} {lv : Value} {pl : List Nat} {it : List (Nat × Int)}
set_option maxRecDepth 20000 in
set_option maxHeartbeats 400000 in
theorem spHasInt_any (w : World) (i : Int) (hi : I64 i) (hs : SparInt base w g gp lv pl it) (hit : it.length ≤ 10000) :
    Calls Try.prog 27 #[.pointer (some ⟨g, 0, none⟩), .int .i64 i] w fun e w' => e = .returned (.bool (spHasI pl it i)) ∧ w = w' := by
  obtain ⟨ao, co, rfl, hlc, hcm, hcell⟩ := hs.things.rd (itC_len _)
  have c0 : w.cell? ⟨g, 0, none⟩ = some (.slice (some ⟨gp, 0, none⟩) pl.length pl.length) := hs.set_.cell 0
  have c1 : w.cell? ⟨g, 1, none⟩ = some (.slice ao it.length co) := hs.set_.cell 1
  have hpl := hs.le
  have HP := Lib.hid hs.place
  have HC := Lib.hid hcell
  obtain ⟨hi1, hi2⟩ := hi
  clear hs hcell hcm
  by_cases h0 : i < 0
  · have H := Lib.hid (spHasI_neg pl it i h0)
    go_enter Try.func27, Try.ntmps27
    go_wp2
    go_ret
    exact ⟨by rw [H.out]; rfl, rfl⟩
  · by_cases h1 : (pl.length : Int) ≤ i
    · have H := Lib.hid (spHasI_big pl it i h1)
      go_enter Try.func27, Try.ntmps27
      go_wp2
      go_ret
      exact ⟨by rw [H.out]; rfl, rfl⟩
    · obtain ⟨j, rfl⟩ := Int.eq_ofNat_of_zero_le (Int.not_lt.1 h0)
      have h1' : j < pl.length := by omega
      rw [spHasI_nat]
      have cp : w.cell? ⟨gp, j, none⟩ = some (nv (nth pl j)) := by rw [HP.out.cell]; exact nv_get pl j h1'
      have HH : Hid (spHas pl it j = decide (nth pl j < it.length ∧ (nth it (nth pl j)).1 = j)) := by
        unfold Hid spHas; simp [h1']
      generalize nth pl j = k at *
      clear h0 h1
      by_cases hk : k < it.length
      · obtain ⟨b, off, rfl, hc⟩ := HC.out (by intro h; simp [h] at hk)
        have d0 : w.cell? ⟨b, off + k * 2, none⟩ = some (nv (nth it k).1) := hc k hk 0 (by omega)
        have H2 : Hid (spHas pl it j = decide ((nth it k).1 = j)) := by
          unfold Hid; rw [HH.out]; congr 1; simp [hk]
        generalize (nth it k).1 = m at *
        clear hc HC
        by_cases hm : m = j
        · have t1 : ((m : Int) == j) = true := by rw [beq_iff_eq]; omega
          have H : Hid (spHas pl it j = true) := by unfold Hid; rw [H2.out]; simp [hm]
          clear hm
          go_enter Try.func27, Try.ntmps27
          go_wp2
          go_ret
          exact ⟨by rw [H.out]; rfl, rfl⟩
        · have t1 : ((m : Int) == j) = false := by rw [beq_eq_false_iff_ne]; omega
          have H : Hid (spHas pl it j = false) := by unfold Hid; rw [H2.out]; simp [hm]
          clear hm
          go_enter Try.func27, Try.ntmps27
          go_wp2
          go_ret
          exact ⟨by rw [H.out]; rfl, rfl⟩
      · have H : Hid (spHas pl it j = false) := by unfold Hid; rw [HH.out]; simp [hk]
        have hk' : decide (k < it.length) = false := by simpa using hk
        go_enter Try.func27, Try.ntmps27
        go_wp2
        go_ret
        exact ⟨by rw [H.out]; rfl, rfl⟩
theorem spLenInt_any (w : World) (hs : SparInt base w g gp lv pl it) :
    Calls Try.prog 22 #[.pointer (some ⟨g, 0, none⟩)] w fun e w' => e = .returned (.int .i64 (it.length : Int)) ∧ w = w' := by
  obtain ⟨ao, co, rfl, hlc, hcm, hcell⟩ := hs.things.rd (itC_len _)
  have c1 : w.cell? ⟨g, 1, none⟩ = some (.slice ao it.length co) := hs.set_.cell 1
  clear hcell hcm hlc
  go_enter Try.func22, Try.ntmps22
  go_wp2
  go_ret
  exact ⟨rfl, rfl⟩
theorem spSizeInt_any (w : World) (hs : SparInt base w g gp lv pl it) :
    Calls Try.prog 23 #[.pointer (some ⟨g, 0, none⟩)] w fun e w' => e = .returned (.int .i64 (pl.length : Int)) ∧ w = w' := by
  have c0 : w.cell? ⟨g, 0, none⟩ = some (.slice (some ⟨gp, 0, none⟩) pl.length pl.length) := hs.set_.cell 0
  go_enter Try.func23, Try.ntmps23
  go_wp2
  go_ret
  exact ⟨rfl, rfl⟩
theorem spNewInt_no (w : World) (i : Int) (h : i < 0 ∨ 4096 < i) :
    Calls Try.prog 19 #[.int .i64 i] w fun e w' => e = .returned (.tuple #[.pointer none, .int .i64 1]) ∧ w = w' := by
  rcases h with h | h
  all_goals
    go_enter Try.func19, Try.ntmps19
    go_wp2
    go_ret2
    exact ⟨rfl, rfl⟩
theorem spNewInt_ok (w : World) (n : Nat) (h : n ≤ 4096) :
    Calls Try.prog 19 #[.int .i64 (n : Int)] w fun e w' => ∃ g gp, e = .returned (.tuple #[.pointer (some ⟨g, 0, none⟩), .int .i64 0]) ∧ SparInt w.heap.size w' g gp (.slice none 0 0) (List.replicate n 0) [] ∧ Upd [] w w' := by
  have hmk := fun (u : World) (L C : Int) (hL : L = (n : Int)) (hC : C = (n : Int)) => run_mk Try.underlying51 infoIntInt rfl u n n L C hL hC (Nat.le_refl _) (by omega) (by omega)
  have hm := fun u => hmk u n n rfl rfl
  have HM := Lib.hid (List.map_replicate (f := nv) (n := n) (a := 0))
  clear hmk
  have hz : ∃ r : List Value, List.replicate n (Value.int .i64 0) = r := ⟨_, rfl⟩
  obtain ⟨r, hr⟩ := hz
  rw [show nv 0 = Value.int .i64 0 from rfl, hr] at HM
  rw [hr] at hm
  have h0 : (0 : Int) ≤ n := by omega
  have h1 : (n : Int) ≤ 4096 := by omega
  clear hr
  go_enter Try.func19, Try.ntmps19
  go_wp2
  go_ret2
  refine ⟨w.heap.size + 1, w.heap.size, rfl, ⟨?_, ?_, OwnN.nil _ _ _, by omega, Nat.le_refl _, by decide, by decide, by decide, by simp; exact h⟩, ((Upd.refl [] w).alloc _).alloc _⟩
  · rw [List.length_replicate]
    have := Blk.new (w.alloc (.cells r.toArray 3)) 80 [.slice (some ⟨w.heap.size, 0, none⟩) n n, .slice none 0 0]
    simpa using this
  · rw [HM.out]
    exact (Blk.new w 3 r).upd ((Upd.refl [] _).alloc _) (by simp)
set_option maxRecDepth 20000 in
set_option maxHeartbeats 400000 in
theorem spGetInt_no (w : World) (i : Int) (hi : I64 i) (hs : SparInt base w g gp lv pl it) (hit : it.length ≤ 10000) (hn : spHasI pl it i = false) :
    Calls Try.prog 28 #[.pointer (some ⟨g, 0, none⟩), .int .i64 i] w fun e w' => e = .returned (.tuple #[.int .i64 0, .bool false]) ∧ w = w' := by
  have hc := spHasInt_any w i hi hs hit
  rw [hn] at hc
  have HC := Lib.hid hc
  clear hc hn
  go_enter Try.func28, Try.ntmps28
  go_wp2_with fail
  refine HC.out.mono ?_
  rintro e w' ⟨rfl, rfl⟩
  go_wp2_with fail
  go_ret2
  exact ⟨rfl, rfl⟩
set_option maxRecDepth 20000 in
set_option maxHeartbeats 400000 in
theorem spGetInt_ok (w : World) (i : Nat) (hi : I64 i) (hs : SparInt base w g gp lv pl it) (hit : it.length ≤ 10000) (hn : spHas pl it i = true) :
    Calls Try.prog 28 #[.pointer (some ⟨g, 0, none⟩), .int .i64 (i : Int)] w fun e w' => e = .returned (.tuple #[iv (nth it (nth pl i)).2, .bool true]) ∧ Upd [] w w' := by
  have hc := spHasInt_any w i hi hs hit
  rw [spHasI_nat, hn] at hc
  have HC := Lib.hid hc
  clear hc
  obtain ⟨ao, co, rfl, hlc, hcm, hcell⟩ := hs.things.rd (itC_len _)
  have c0 : w.cell? ⟨g, 0, none⟩ = some (.slice (some ⟨gp, 0, none⟩) pl.length pl.length) := hs.set_.cell 0
  have c1 : w.cell? ⟨g, 1, none⟩ = some (.slice ao it.length co) := hs.set_.cell 1
  have hpl := hs.le
  unfold spHas at hn
  obtain ⟨h1, h2, h3⟩ := of_decide_eq_true hn
  have cp : w.cell? ⟨gp, i, none⟩ = some (nv (nth pl i)) := by rw [hs.place.cell]; exact nv_get pl i h1
  obtain ⟨b, off, rfl, hc⟩ := hcell (by intro h; simp [h] at h2)
  have d1 : w.cell? ⟨b, off + nth pl i * 2 + 1, none⟩ = some (iv (nth it (nth pl i)).2) := hc _ h2 1 (by omega)
  generalize (nth it (nth pl i)).2 = x at *
  generalize nth pl i = k at *
  have q0 : (0 : Int) ≤ i := by omega
  have q1 : (i : Int) < pl.length := by omega
  have q2 : (0 : Int) ≤ k := by omega
  have q3 : (k : Int) < it.length := by omega
  clear hc hn h3 hs hcell hcm
  go_enter Try.func28, Try.ntmps28
  go_wp2_with fail
  refine HC.out.mono ?_
  rintro e w' ⟨rfl, rfl⟩
  go_wp2_with fail
  go_quiet (fail)
  go_wp2_with fail
  go_ret2
  exact ⟨rfl, by first | exact (Upd.refl [] _).drewN _ | exact (Upd.refl [] _).drew⟩
set_option maxRecDepth 20000 in
set_option maxHeartbeats 400000 in
theorem spAtInt_no (w : World) (i : Int) (hi : I64 i) (hs : SparInt base w g gp lv pl it) (hit : it.length ≤ 10000) (hn : i < 0 ∨ it.length ≤ i) :
    Calls Try.prog 29 #[.pointer (some ⟨g, 0, none⟩), .int .i64 i] w fun e w' => e = .returned (.tuple #[.int .i64 0, .int .i64 0, .bool false]) ∧ w = w' := by
  obtain ⟨ao, co, rfl, hlc, hcm, hcell⟩ := hs.things.rd (itC_len _)
  have c1 : w.cell? ⟨g, 1, none⟩ = some (.slice ao it.length co) := hs.set_.cell 1
  obtain ⟨hi1, hi2⟩ := hi
  clear hs hcell hcm hlc
  rcases hn with hn | hn
  · go_enter Try.func29, Try.ntmps29
    go_wp2
    go_ret3
    exact ⟨rfl, rfl⟩
  · have q : 0 ≤ i := by omega
    go_enter Try.func29, Try.ntmps29
    go_wp2
    go_ret3
    exact ⟨rfl, rfl⟩
set_option maxRecDepth 20000 in
set_option maxHeartbeats 400000 in
theorem spAtInt_ok (w : World) (k : Nat) (hs : SparInt base w g gp lv pl it) (hit : it.length ≤ 10000) (hn : k < it.length) :
    Calls Try.prog 29 #[.pointer (some ⟨g, 0, none⟩), .int .i64 (k : Int)] w fun e w' => e = .returned (.tuple #[.int .i64 ((nth it k).1 : Int), iv (nth it k).2, .bool true]) ∧ Upd [] w w' := by
  obtain ⟨ao, co, rfl, hlc, hcm, hcell⟩ := hs.things.rd (itC_len _)
  have c1 : w.cell? ⟨g, 1, none⟩ = some (.slice ao it.length co) := hs.set_.cell 1
  obtain ⟨b, off, rfl, hc⟩ := hcell (by intro h; simp [h] at hn)
  have d0 : w.cell? ⟨b, off + k * 2, none⟩ = some (nv (nth it k).1) := hc _ hn 0 (by omega)
  have d1 : w.cell? ⟨b, off + k * 2 + 1, none⟩ = some (iv (nth it k).2) := hc _ hn 1 (by omega)
  generalize (nth it k).2 = x at *
  generalize (nth it k).1 = m at *
  have q2 : (0 : Int) ≤ k := by omega
  have q3 : (k : Int) < it.length := by omega
  clear hc hs hcell hcm
  go_enter Try.func29, Try.ntmps29
  go_wp2_with fail
  go_quiet (fail)
  go_wp2_with fail
  go_ret3
  exact ⟨rfl, by first | exact (Upd.refl [] _).drewN _ | exact (Upd.refl [] _).drew⟩
set_option maxRecDepth 20000 in
set_option maxHeartbeats 400000 in
theorem spAddInt_no (w : World) (i : Int) (x : Int) (hi : I64 i) (hs : SparInt base w g gp lv pl it) (hit : it.length ≤ 10000) (hn : i < 0 ∨ pl.length ≤ i ∨ spHasI pl it i = true) :
    Calls Try.prog 25 #[.pointer (some ⟨g, 0, none⟩), .int .i64 i, iv x] w fun e w' => e = .returned (.bool false) ∧ w = w' := by
  have hc := spHasInt_any w i hi hs hit
  have c0 : w.cell? ⟨g, 0, none⟩ = some (.slice (some ⟨gp, 0, none⟩) pl.length pl.length) := hs.set_.cell 0
  have hpl := hs.le
  obtain ⟨hi1, hi2⟩ := hi
  by_cases h1 : i < 0
  · clear hs hn hc
    go_enter Try.func25, Try.ntmps25
    go_wp2_with fail
    go_ret
    exact ⟨rfl, rfl⟩
  · by_cases h2 : pl.length ≤ i
    · clear hs hn hc
      have q : 0 ≤ i := by omega
      go_enter Try.func25, Try.ntmps25
      go_wp2_with fail
      go_ret
      exact ⟨rfl, rfl⟩
    · have h3 : spHasI pl it i = true := by
        rcases hn with h | h | h
        · exact absurd h h1
        · exact absurd h h2
        · exact h
      rw [h3] at hc
      have HC := Lib.hid hc
      have q : 0 ≤ i := by omega
      have q2 : i < pl.length := by omega
      clear hs hn hc h3 h1 h2
      go_enter Try.func25, Try.ntmps25
      go_wp2_with fail
      refine HC.out.mono ?_
      rintro e w' ⟨rfl, rfl⟩
      go_wp2_with fail
      go_ret
      exact ⟨rfl, rfl⟩
end
end Go.Proofs.Ytfpibngdpooedaa
