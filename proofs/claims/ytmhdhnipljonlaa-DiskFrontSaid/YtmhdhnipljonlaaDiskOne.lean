/- Chapter 22 as plain law: one file, written once. -/
import Derived.Test.YtmhdhnipljonlaaDiskPlain
namespace Go.Proofs.Ytmhdhnipljonlaa
open Go.RowKit
set_option linter.unusedSimpArgs false
set_option linter.unusedVariables false
theorem chunks_flat (p : List UInt8) : ∀ k, ((chunks p).take k).flatten = p.take (32 * k)
  | 0 => by simp
  | k + 1 => by
    have hl := chunks_len p
    rcases Nat.lt_or_ge k (chunks p).length with h | h
    · rw [take_succ_nth _ k h, List.flatten_append, chunks_flat p k, chunks_nth p k h]
      rw [show 32 * (k + 1) = 32 * k + 32 by omega, List.take_add]
      simp
    · rw [List.take_of_length_le (by omega), ← List.take_of_length_le h, chunks_flat p k, List.take_of_length_le (by omega), List.take_of_length_le (by omega)]
theorem chunks_all (p : List UInt8) : (chunks p).flatten = p := by
  have h := chunks_flat p (chunks p).length
  have hl := chunks_len p
  rw [List.take_length, List.take_of_length_le (by omega)] at h
  exact h
section
variable (nm : ByteArray)
theorem below_one {ν : Type} (x : ν) : below strLt [(nm, x)] nm = 0 := by unfold below; rw [List.takeWhile_cons, strOrd.irr nm]; rfl
theorem isIn_one {ν : Type} [Inhabited ν] (x : ν) : isIn strLt [(nm, x)] nm = true := by unfold isIn; rw [below_one]; exact decide_eq_true ⟨by simp, rfl⟩
theorem get_one (b : List UInt8) : dGet [(nm, b)] nm = (b, true) := by rw [dGet_yes (isIn_one nm b), below_one]; rfl
theorem set_one (b c : List UInt8) : tSet strLt [(nm, b)] nm c = [(nm, c)] := by unfold tSet; rw [isIn_one, below_one]; rfl
theorem set_none (c : List UInt8) : tSet strLt ([] : DF) nm c = [(nm, c)] := rfl
theorem put_one (mk : DF) : ∀ (l : List (List UInt8)) (b : List UInt8) (lg : List Wr), dPut nm ⟨[(nm, b)], mk, lg⟩ l = ⟨[(nm, b ++ l.flatten)], mk, lg ++ l.map (wPut nm)⟩
  | [], b, lg => by simp [dPut]
  | c :: l, b, lg => by
    have h1 : dPut nm ⟨[(nm, b)], mk, lg⟩ (c :: l) = dPut nm (dDo (wPut nm c) ⟨[(nm, b)], mk, lg⟩) l := rfl
    have h2 : dDo (wPut nm c) ⟨[(nm, b)], mk, lg⟩ = ⟨[(nm, b ++ c)], mk, lg ++ [wPut nm c]⟩ := by
      unfold dDo
      have : wApply (wPut nm c) [(nm, b)] = tSet strLt [(nm, b)] nm ((dGet [(nm, b)] nm).1 ++ c) := rfl
      rw [this, get_one, set_one]
    rw [h1, h2, put_one mk l (b ++ c) (lg ++ [wPut nm c])]
    simp
theorem wAll_puts : ∀ (l : List (List UInt8)) (b : List UInt8), wAll [(nm, b)] (l.map (wPut nm)) = [(nm, b ++ l.flatten)]
  | [], b => by simp [wAll]
  | c :: l, b => by
    have h1 : wAll [(nm, b)] ((c :: l).map (wPut nm)) = wAll (wApply (wPut nm c) [(nm, b)]) (l.map (wPut nm)) := rfl
    have h2 : wApply (wPut nm c) [(nm, b)] = [(nm, b ++ c)] := by
      have : wApply (wPut nm c) [(nm, b)] = tSet strLt [(nm, b)] nm ((dGet [(nm, b)] nm).1 ++ c) := rfl
      rw [this, get_one, set_one]
    rw [h1, h2, wAll_puts l (b ++ c)]
    simp
theorem append_one (p : List UInt8) (hok : nameOk nm = true) (hp : p.length ≤ 16777216) : dAppend ⟨[], [], []⟩ nm p = (0, ⟨[(nm, p)], [], wMake nm :: (chunks p).map (wPut nm)⟩) := by
  unfold dAppend
  have h0 : dTotal [] = 0 := rfl
  rw [hok, if_pos rfl, if_neg (by show ¬ 16777216 < dTotal [] + p.length; omega)]
  have h1 : (if inD (⟨[], [], []⟩ : DS).now nm = true then (⟨[], [], []⟩ : DS) else dDo (wMake nm) ⟨[], [], []⟩) = ⟨[(nm, [])], [], [wMake nm]⟩ := rfl
  rw [h1, put_one, List.nil_append, chunks_all]; rfl
theorem back_one (p : List UInt8) (n : Int) : dGet (dBackF ⟨[(nm, p)], [], wMake nm :: (chunks p).map (wPut nm)⟩ n) nm = (p.take (32 * (n.toNat - 1)), decide (n.toNat ≠ 0)) := by
  unfold dBackF
  dsimp only
  cases hn : n.toNat with
  | zero => rfl
  | succ m =>
    rw [List.take_succ_cons]
    have h1 : wAll [] (wMake nm :: ((chunks p).map (wPut nm)).take m) = wAll [(nm, [])] (((chunks p).map (wPut nm)).take m) := rfl
    rw [h1, ← List.map_take, wAll_puts, List.nil_append, chunks_flat, get_one]
    simp
end
end Go.Proofs.Ytmhdhnipljonlaa
