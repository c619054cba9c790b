/- Chapter 5's functions at string, of a list of rows. -/
import Derived.Test.YtfpibngdpooedaaSparPlain
import Derived.Test.YtfpibngdpooedaaSparseStr2
namespace Go.Proofs.Ytfpibngdpooedaa
open Go.RowKit
set_option linter.unusedSimpArgs false
set_option linter.unusedVariables false
/-- The set at g, of numbers below n, has the rows it; its blocks are F. -/
def RowsStr (base : Nat) (w : World) (g : Nat) (F : List Nat) (n : Nat) (it : List (Nat × ByteArray)) : Prop :=
  ∃ gp lv pl, SparStr base w g gp lv pl it ∧ F = spF g gp lv ∧ SpInv pl it ∧ pl.length = n
section
variable {base : Nat} {g n : Nat} {F : List Nat} {it : List (Nat × ByteArray)} {w w' : World}
theorem RowsStr.upd (h : RowsStr base w g F n it) {S : List Nat} (hu : Upd S w w') (hs : ∀ x ∈ F, x ∉ S) : RowsStr base w' g F n it := by
  obtain ⟨gp, lv, pl, hS, rfl, hI, hn⟩ := h
  exact ⟨gp, lv, pl, hS.upd hu hs, rfl, hI, hn⟩
theorem RowsStr.upd0 (h : RowsStr base w g F n it) (hu : Upd [] w w') : RowsStr base w' g F n it := h.upd hu (by simp)
theorem RowsStr.lt (h : RowsStr base w g F n it) : ∀ x ∈ F, base ≤ x ∧ x < w.heap.size := by
  obtain ⟨gp, lv, pl, hS, rfl, hI, hn⟩ := h
  exact hS.lt
theorem RowsStr.base_ (h : RowsStr base w g F n it) : base ≤ w.heap.size := by
  obtain ⟨gp, lv, pl, hS, rfl, hI, hn⟩ := h
  have := hS.lt g (by simp [spF]); omega
theorem RowsStr.n_le (h : RowsStr base w g F n it) : n ≤ 4096 := by
  obtain ⟨gp, lv, pl, hS, rfl, hI, hn⟩ := h
  rw [← hn]; exact hS.le
theorem rHasStr_any (w : World) (i : Int) (hi : I64 i) (hs : RowsStr base w g F n it) (hit : it.length ≤ 5000) :
    Calls Try.prog 16 #[.pointer (some ⟨g, 0, none⟩), .int .i64 i] w fun e w' => e = .returned (.bool (rHas it i)) ∧ w = w' := by
  obtain ⟨gp, lv, pl, hS, rfl, hI, rfl⟩ := hs
  have := spHasStr_any w i hi hS (by omega)
  rwa [sp_has hI] at this
theorem rLenStr_any (w : World) (hs : RowsStr base w g F n it) :
    Calls Try.prog 17 #[.pointer (some ⟨g, 0, none⟩)] w fun e w' => e = .returned (.int .i64 (it.length : Int)) ∧ w = w' := by
  obtain ⟨gp, lv, pl, hS, rfl, hI, rfl⟩ := hs
  exact spLenStr_any w hS
theorem rSizeStr_any (w : World) (hs : RowsStr base w g F n it) :
    Calls Try.prog 20 #[.pointer (some ⟨g, 0, none⟩)] w fun e w' => e = .returned (.int .i64 (n : Int)) ∧ w = w' := by
  obtain ⟨gp, lv, pl, hS, rfl, hI, rfl⟩ := hs
  exact spSizeStr_any w hS
theorem rNewStr_ok (w : World) (n : Nat) (h : n ≤ 4096) :
    Calls Try.prog 12 #[.int .i64 (n : Int)] w fun e w' => ∃ g F, e = .returned (.tuple #[.pointer (some ⟨g, 0, none⟩), .int .i64 0]) ∧ RowsStr w.heap.size w' g F n [] ∧ Upd [] w w' :=
  (spNewStr_ok w n h).mono fun _ _ ⟨g, gp, he, hS, hu⟩ => ⟨g, _, he, ⟨gp, _, _, hS, rfl, spInv_nil _, by simp⟩, hu⟩
theorem rGetStr_any (w : World) (i : Int) (hi : I64 i) (hs : RowsStr base w g F n it) (hit : it.length ≤ 5000) :
    Calls Try.prog 18 #[.pointer (some ⟨g, 0, none⟩), .int .i64 i] w fun e w' => e = .returned (.tuple #[sv (rGet it ByteArray.empty i).1, .bool (rGet it ByteArray.empty i).2]) ∧ Upd [] w w' := by
  obtain ⟨gp, lv, pl, hS, rfl, hI, rfl⟩ := hs
  cases hh : rHas it i with
  | false =>
    rw [rGet_no ByteArray.empty hh]
    refine (spGetStr_no w i hi hS (by omega) (by rw [sp_has hI]; exact hh)).mono fun e w' ⟨he, hw⟩ => ⟨he, by rw [hw]; exact Upd.refl _ _⟩
  | true =>
    have h1 : spHasI pl it i = true := by rw [sp_has hI]; exact hh
    have h0 : 0 ≤ i := by
      unfold spHasI at h1; rw [Bool.and_eq_true, decide_eq_true_iff] at h1; exact h1.1
    obtain ⟨k, rfl⟩ := Int.eq_ofNat_of_zero_le h0
    rw [spHasI_nat] at h1
    rw [sp_get hI ByteArray.empty k h1]
    exact spGetStr_ok w k hi hS (by omega) h1
theorem rAtStr_any (w : World) (k : Int) (hk : I64 k) (hs : RowsStr base w g F n it) (hit : it.length ≤ 5000) :
    Calls Try.prog 14 #[.pointer (some ⟨g, 0, none⟩), .int .i64 k] w fun e w' => e = .returned (.tuple #[.int .i64 (rAt it ByteArray.empty k).1, sv (rAt it ByteArray.empty k).2.1, .bool (rAt it ByteArray.empty k).2.2]) ∧ Upd [] w w' := by
  obtain ⟨gp, lv, pl, hS, rfl, hI, rfl⟩ := hs
  by_cases h : k < 0 ∨ (it.length : Int) ≤ k
  · rw [rAt_no it ByteArray.empty k h]
    exact (spAtStr_no w k hk hS (by omega) h).mono fun e w' ⟨he, hw⟩ => ⟨he, by rw [hw]; exact Upd.refl _ _⟩
  · obtain ⟨j, rfl⟩ := Int.eq_ofNat_of_zero_le (show 0 ≤ k by omega)
    have hj : j < it.length := by omega
    rw [rAt_ok it ByteArray.empty j hj]
    exact spAtStr_ok w j hS (by omega) hj
theorem rAddStr_any (w : World) (i : Int) (x : ByteArray) (hi : I64 i) (hs : RowsStr base w g F n it) (hit : it.length ≤ 5000) :
    Calls Try.prog 13 #[.pointer (some ⟨g, 0, none⟩), .int .i64 i, sv x] w fun e w' => e = .returned (.bool (rCan n it i)) ∧
      ∃ F', RowsStr base w' g F' n (rAdd n it i x) ∧ Upd F w w' ∧ (∀ y ∈ F', y ∈ F ∨ w.heap.size ≤ y) := by
  have hb := hs.base_
  obtain ⟨gp, lv, pl, hS, rfl, hI, rfl⟩ := hs
  unfold rAdd
  cases hc : rCan pl.length it i with
  | false =>
    have hn : i < 0 ∨ (pl.length : Int) ≤ i ∨ spHasI pl it i = true := by
      rw [sp_has hI]
      unfold rCan at hc
      rw [Bool.and_eq_false_iff] at hc
      rcases hc with h | h
      · have := of_decide_eq_false h; omega
      · exact .inr (.inr (by simpa using h))
    exact (spAddStr_no w i x hi hS (by omega) hn).mono fun e w' ⟨he, hw⟩ => ⟨he, _, ⟨gp, lv, pl, by rw [← hw]; exact hS, rfl, hI, rfl⟩, by rw [hw]; exact Upd.refl _ _, fun y hy => .inl hy⟩
  | true =>
    unfold rCan at hc
    rw [Bool.and_eq_true, decide_eq_true_iff] at hc
    obtain ⟨⟨h0, h1⟩, h2⟩ := hc
    obtain ⟨j, rfl⟩ := Int.eq_ofNat_of_zero_le h0
    have hj : j < pl.length := by omega
    have hn : spHas pl it j = false := by
      rw [← spHasI_nat, sp_has hI]; simpa using h2
    refine (spAddStr_ok w j x hS hit hb hj hn).mono ?_
    rintro e w' ⟨he, lv', hS', hu, hf⟩
    refine ⟨he, _, ⟨gp, lv', _, hS', rfl, spInv_add hI j x hj hn, by simp⟩, hu, ?_⟩
    intro y hy
    simp only [spF, List.mem_cons] at hy ⊢
    rcases hy with h | h | h
    · exact .inl (.inl h)
    · exact .inl (.inr (.inl h))
    · rcases hf y h with q | q
      · exact .inl (.inr (.inr q))
      · exact .inr q
theorem rClearStr_any (w : World) (hs : RowsStr base w g F n it) (hit : it.length ≤ 5000) :
    Calls Try.prog 15 #[.pointer (some ⟨g, 0, none⟩)] w fun e w' => e = .returned (.tuple #[]) ∧ ∃ F', RowsStr base w' g F' n [] ∧ Upd F w w' ∧ (∀ y ∈ F', y ∈ F) := by
  obtain ⟨gp, lv, pl, hS, rfl, hI, rfl⟩ := hs
  refine (spClearStr_any w hS hit).mono ?_
  rintro e w' ⟨he, lv', hS', hu, hf⟩
  refine ⟨he, _, ⟨gp, lv', pl, hS', rfl, spInv_nil _, rfl⟩, hu, ?_⟩
  intro y hy
  simp only [spF, List.mem_cons] at hy ⊢
  rcases hy with h | h | h
  · exact .inl h
  · exact .inr (.inl h)
  · exact .inr (.inr (hf y h))
end
end Go.Proofs.Ytfpibngdpooedaa
