/- A slice cut at its beginning, or at its end: the run. -/
import Derived.Test.YtmhdhnipljonlaaBase
namespace Go.Proofs.Ytmhdhnipljonlaa
open Go.RowKit
set_option linter.unusedSimpArgs false
set_option linter.unusedVariables false
theorem run_cut {P : Program} {t e : TypeId} {size : Nat} (ht : P.underlying t = some (.slice e)) (hi : (P.info? e).map (·.size) = some size) (a : Option Addr) (n cap k : Nat) (hk : k ≤ n) (W : World) :
    (Instr.slice t (.slice a n cap) (some (.int .i64 (k : Int))) none none).run P W = .ok (.slice (if cap = k then a else a.map (·.add (k * size))) (n - k) (cap - k)) W := by
  have he : P.elem t = e := by simp [Program.elem, ht]
  obtain ⟨i, h1, h2⟩ : ∃ i, P.info? e = some i ∧ i.size = size := by
    cases hq : P.info? e with
    | none => simp [hq] at hi
    | some i => exact ⟨i, rfl, by simpa [hq] using hi⟩
  rw [run_slice_l (P := P) (w := W) t a n cap (by rw [he]; exact ht) .i64 (k : Int) (by omega) (by omega), he]
  simp [sizeOf, typeInfo, h1, h2, sliced]
theorem run_cut_h {P : Program} {t e : TypeId} {size : Nat} (ht : P.underlying t = some (.slice e)) (hi : (P.info? e).map (·.size) = some size) (a : Option Addr) (n cap k : Nat) (hk : k ≤ cap) (W : World) :
    (Instr.slice t (.slice a n cap) none (some (.int .i64 (k : Int))) none).run P W = .ok (.slice a k cap) W := by
  have he : P.elem t = e := by simp [Program.elem, ht]
  obtain ⟨i, h1, h2⟩ : ∃ i, P.info? e = some i ∧ i.size = size := by
    cases hq : P.info? e with
    | none => simp [hq] at hi
    | some i => exact ⟨i, rfl, by simpa [hq] using hi⟩
  rw [run_slice_h (P := P) (w := W) t a n cap (by rw [he]; exact ht) .i64 (k : Int) (by omega) (by omega), he]
  simp [sizeOf, typeInfo, h1, h2, sliced]
  intro _
  cases a with
  | none => rfl
  | some x => obtain ⟨b, off, arr⟩ := x; simp only [Option.map_some, Addr.add]; cases arr <;> simp
theorem run_cut_lh {P : Program} {t e : TypeId} {size : Nat} (ht : P.underlying t = some (.slice e)) (hi : (P.info? e).map (·.size) = some size) (a : Option Addr) (n cap k m : Nat) (hk : k ≤ m) (hm : m ≤ cap) (W : World) (K M : Int) (hK : K = (k : Int)) (hM : M = (m : Int)) :
    (Instr.slice t (.slice a n cap) (some (.int .i64 K)) (some (.int .i64 M)) none).run P W = .ok (.slice (if cap = k then a else a.map (·.add (k * size))) (m - k) (cap - k)) W := by
  subst hK; subst hM
  have he : P.elem t = e := by simp [Program.elem, ht]
  obtain ⟨i, h1, h2⟩ : ∃ i, P.info? e = some i ∧ i.size = size := by
    cases hq : P.info? e with
    | none => simp [hq] at hi
    | some i => exact ⟨i, rfl, by simpa [hq] using hi⟩
  rw [run_slice_lh (P := P) (w := W) t a n cap (by rw [he]; exact ht) .i64 .i64 (k : Int) (m : Int) (by omega) (by omega) (by omega), he]
  simp [sizeOf, typeInfo, h1, h2, sliced]
theorem run_cut_hm {P : Program} {t e : TypeId} {size : Nat} (ht : P.underlying t = some (.slice e)) (hi : (P.info? e).map (·.size) = some size) (a : Option Addr) (n cap m : Nat) (hm : m ≤ cap) (W : World) :
    (Instr.slice t (.slice a n cap) none (some (.int .i64 (m : Int))) (some (.int .i64 (m : Int)))).run P W = .ok (.slice a m m) W := by
  have he : P.elem t = e := by simp [Program.elem, ht]
  obtain ⟨i, h1, h2⟩ : ∃ i, P.info? e = some i ∧ i.size = size := by
    cases hq : P.info? e with
    | none => simp [hq] at hi
    | some i => exact ⟨i, rfl, by simpa [hq] using hi⟩
  rw [run_slice_hm (P := P) (w := W) t a n cap (by rw [he]; exact ht) .i64 .i64 (m : Int) (m : Int) (by omega) (by omega) (by omega), he]
  simp [sizeOf, typeInfo, h1, h2, sliced]
  intro _
  cases a with
  | none => rfl
  | some x => obtain ⟨b, off, arr⟩ := x; simp only [Option.map_some, Addr.add]; cases arr <;> simp
end Go.Proofs.Ytmhdhnipljonlaa
