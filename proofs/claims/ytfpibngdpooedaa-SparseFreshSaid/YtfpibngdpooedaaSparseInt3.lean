/- Chapter 5's functions at int, of a list of rows. -/
import Derived.Test.YtfpibngdpooedaaSparPlain
import Derived.Test.YtfpibngdpooedaaSparseInt2
namespace Go.Proofs.Ytfpibngdpooedaa
open Go.RowKit
set_option linter.unusedSimpArgs false
set_option linter.unusedVariables false
/-- The set at g, of numbers below n, has the rows it; its blocks are F. -/
def RowsInt (base : Nat) (w : World) (g : Nat) (F : List Nat) (n : Nat) (it : List (Nat × Int)) : Prop :=
  ∃ gp lv pl, SparInt base w g gp lv pl it ∧ F = spF g gp lv ∧ SpInv pl it ∧ pl.length = n
section
variable {base : Nat} {g n : Nat} {F : List Nat} {it : List (Nat × Int)} {w w' : World}
theorem RowsInt.upd (h : RowsInt base w g F n it) {S : List Nat} (hu : Upd S w w') (hs : ∀ x ∈ F, x ∉ S) : RowsInt base w' g F n it := by
  obtain ⟨gp, lv, pl, hS, rfl, hI, hn⟩ := h
  exact ⟨gp, lv, pl, hS.upd hu hs, rfl, hI, hn⟩
theorem RowsInt.upd0 (h : RowsInt base w g F n it) (hu : Upd [] w w') : RowsInt base w' g F n it := h.upd hu (by simp)
theorem RowsInt.lt (h : RowsInt base w g F n it) : ∀ x ∈ F, base ≤ x ∧ x < w.heap.size := by
  obtain ⟨gp, lv, pl, hS, rfl, hI, hn⟩ := h
  exact hS.lt
theorem RowsInt.base_ (h : RowsInt base w g F n it) : base ≤ w.heap.size := by
  obtain ⟨gp, lv, pl, hS, rfl, hI, hn⟩ := h
  have := hS.lt g (by simp [spF]); omega
theorem RowsInt.n_le (h : RowsInt base w g F n it) : n ≤ 4096 := by
  obtain ⟨gp, lv, pl, hS, rfl, hI, hn⟩ := h
  rw [← hn]; exact hS.le
theorem rHasInt_any (w : World) (i : Int) (hi : I64 i) (hs : RowsInt base w g F n it) (hit : it.length ≤ 5000) :
    Calls Try.prog 27 #[.pointer (some ⟨g, 0, none⟩), .int .i64 i] w fun e w' => e = .returned (.bool (rHas it i)) ∧ w = w' := by
  obtain ⟨gp, lv, pl, hS, rfl, hI, rfl⟩ := hs
  have := spHasInt_any w i hi hS (by omega)
  rwa [sp_has hI] at this
theorem rLenInt_any (w : World) (hs : RowsInt base w g F n it) :
    Calls Try.prog 22 #[.pointer (some ⟨g, 0, none⟩)] w fun e w' => e = .returned (.int .i64 (it.length : Int)) ∧ w = w' := by
  obtain ⟨gp, lv, pl, hS, rfl, hI, rfl⟩ := hs
  exact spLenInt_any w hS
theorem rSizeInt_any (w : World) (hs : RowsInt base w g F n it) :
    Calls Try.prog 23 #[.pointer (some ⟨g, 0, none⟩)] w fun e w' => e = .returned (.int .i64 (n : Int)) ∧ w = w' := by
  obtain ⟨gp, lv, pl, hS, rfl, hI, rfl⟩ := hs
  exact spSizeInt_any w hS
theorem rNewInt_ok (w : World) (n : Nat) (h : n ≤ 4096) :
    Calls Try.prog 19 #[.int .i64 (n : Int)] w fun e w' => ∃ g F, e = .returned (.tuple #[.pointer (some ⟨g, 0, none⟩), .int .i64 0]) ∧ RowsInt w.heap.size w' g F n [] ∧ Upd [] w w' :=
  (spNewInt_ok w n h).mono fun _ _ ⟨g, gp, he, hS, hu⟩ => ⟨g, _, he, ⟨gp, _, _, hS, rfl, spInv_nil _, by simp⟩, hu⟩
theorem rGetInt_any (w : World) (i : Int) (hi : I64 i) (hs : RowsInt base w g F n it) (hit : it.length ≤ 5000) :
    Calls Try.prog 28 #[.pointer (some ⟨g, 0, none⟩), .int .i64 i] w fun e w' => e = .returned (.tuple #[iv (rGet it 0 i).1, .bool (rGet it 0 i).2]) ∧ Upd [] w w' := by
  obtain ⟨gp, lv, pl, hS, rfl, hI, rfl⟩ := hs
  cases hh : rHas it i with
  | false =>
    rw [rGet_no 0 hh]
    refine (spGetInt_no w i hi hS (by omega) (by rw [sp_has hI]; exact hh)).mono fun e w' ⟨he, hw⟩ => ⟨he, by rw [hw]; exact Upd.refl _ _⟩
  | true =>
    have h1 : spHasI pl it i = true := by rw [sp_has hI]; exact hh
    have h0 : 0 ≤ i := by
      unfold spHasI at h1; rw [Bool.and_eq_true, decide_eq_true_iff] at h1; exact h1.1
    obtain ⟨k, rfl⟩ := Int.eq_ofNat_of_zero_le h0
    rw [spHasI_nat] at h1
    rw [sp_get hI 0 k h1]
    exact spGetInt_ok w k hi hS (by omega) h1
theorem rAtInt_any (w : World) (k : Int) (hk : I64 k) (hs : RowsInt base w g F n it) (hit : it.length ≤ 5000) :
    Calls Try.prog 29 #[.pointer (some ⟨g, 0, none⟩), .int .i64 k] w fun e w' => e = .returned (.tuple #[.int .i64 (rAt it 0 k).1, iv (rAt it 0 k).2.1, .bool (rAt it 0 k).2.2]) ∧ Upd [] w w' := by
  obtain ⟨gp, lv, pl, hS, rfl, hI, rfl⟩ := hs
  by_cases h : k < 0 ∨ (it.length : Int) ≤ k
  · rw [rAt_no it 0 k h]
    exact (spAtInt_no w k hk hS (by omega) h).mono fun e w' ⟨he, hw⟩ => ⟨he, by rw [hw]; exact Upd.refl _ _⟩
  · obtain ⟨j, rfl⟩ := Int.eq_ofNat_of_zero_le (show 0 ≤ k by omega)
    have hj : j < it.length := by omega
    rw [rAt_ok it 0 j hj]
    exact spAtInt_ok w j hS (by omega) hj
theorem rAddInt_any (w : World) (i : Int) (x : Int) (hi : I64 i) (hs : RowsInt base w g F n it) (hit : it.length ≤ 5000) :
    Calls Try.prog 25 #[.pointer (some ⟨g, 0, none⟩), .int .i64 i, iv x] w fun e w' => e = .returned (.bool (rCan n it i)) ∧
      ∃ F', RowsInt base w' g F' n (rAdd n it i x) ∧ Upd F w w' ∧ (∀ y ∈ F', y ∈ F ∨ w.heap.size ≤ y) := by
  have hb := hs.base_
  obtain ⟨gp, lv, pl, hS, rfl, hI, rfl⟩ := hs
  unfold rAdd
  cases hc : rCan pl.length it i with
  | false =>
    have hn : i < 0 ∨ (pl.length : Int) ≤ i ∨ spHasI pl it i = true := by
      rw [sp_has hI]
      unfold rCan at hc
      rw [Bool.and_eq_false_iff] at hc
      rcases hc with h | h
      · have := of_decide_eq_false h; omega
      · exact .inr (.inr (by simpa using h))
    exact (spAddInt_no w i x hi hS (by omega) hn).mono fun e w' ⟨he, hw⟩ => ⟨he, _, ⟨gp, lv, pl, by rw [← hw]; exact hS, rfl, hI, rfl⟩, by rw [hw]; exact Upd.refl _ _, fun y hy => .inl hy⟩
  | true =>
    unfold rCan at hc
    rw [Bool.and_eq_true, decide_eq_true_iff] at hc
    obtain ⟨⟨h0, h1⟩, h2⟩ := hc
    obtain ⟨j, rfl⟩ := Int.eq_ofNat_of_zero_le h0
    have hj : j < pl.length := by omega
    have hn : spHas pl it j = false := by
      rw [← spHasI_nat, sp_has hI]; simpa using h2
    refine (spAddInt_ok w j x hS hit hb hj hn).mono ?_
    rintro e w' ⟨he, lv', hS', hu, hf⟩
    refine ⟨he, _, ⟨gp, lv', _, hS', rfl, spInv_add hI j x hj hn, by simp⟩, hu, ?_⟩
    intro y hy
    simp only [spF, List.mem_cons] at hy ⊢
    rcases hy with h | h | h
    · exact .inl (.inl h)
    · exact .inl (.inr (.inl h))
    · rcases hf y h with q | q
      · exact .inl (.inr (.inr q))
      · exact .inr q
theorem rClearInt_any (w : World) (hs : RowsInt base w g F n it) (hit : it.length ≤ 5000) :
    Calls Try.prog 26 #[.pointer (some ⟨g, 0, none⟩)] w fun e w' => e = .returned (.tuple #[]) ∧ ∃ F', RowsInt base w' g F' n [] ∧ Upd F w w' ∧ (∀ y ∈ F', y ∈ F) := by
  obtain ⟨gp, lv, pl, hS, rfl, hI, rfl⟩ := hs
  refine (spClearInt_any w hS hit).mono ?_
  rintro e w' ⟨he, lv', hS', hu, hf⟩
  refine ⟨he, _, ⟨gp, lv', pl, hS', rfl, spInv_nil _, rfl⟩, hu, ?_⟩
  intro y hy
  simp only [spF, List.mem_cons] at hy ⊢
  rcases hy with h | h | h
  · exact .inl h
  · exact .inr (.inl h)
  · exact .inr (.inr (hf y h))
end
end Go.Proofs.Ytfpibngdpooedaa
