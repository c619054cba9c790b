/- Tables: what the laws of chapter 4 want of rows by rising keys. -/
import Derived.Test.YtmhdhnipljonlaaTabPlain
namespace Go.Proofs.Ytmhdhnipljonlaa
open Go.RowKit
set_option linter.unusedSimpArgs false
set_option linter.unusedVariables false
set_option linter.unusedSectionVars false
section
variable {κ ν : Type} [Inhabited κ] [Inhabited ν] [DecidableEq κ] {lt : κ → κ → Bool}
theorem lt_below (ho : KOrd lt) {l : List (κ × ν)} (h : Rising lt l) (k : κ) (i : Nat) (hi : i < l.length) : lt (nth l i).1 k = decide (i < below lt l k) := by
  by_cases hb : i < below lt l k
  · rw [below_lt l k i hb, decide_eq_true hb]
  · rw [decide_eq_false hb]
    cases hq : lt (nth l i).1 k with
    | false => rfl
    | true =>
      have h1 := below_ge (lt := lt) l k (by omega)
      rw [h.mono ho k (below lt l k) i (by omega) hi hq] at h1
      exact absurd h1 (by simp)
theorem below_at (ho : KOrd lt) {l : List (κ × ν)} (h : Rising lt l) (i : Nat) (hi : i < l.length) : below lt l (nth l i).1 = i :=
  below_eq l _ i (by omega) (fun j hj => h j i hj hi) (fun _ => ho.irr _)
theorem isIn_at (ho : KOrd lt) {l : List (κ × ν)} (h : Rising lt l) (i : Nat) (hi : i < l.length) : isIn lt l (nth l i).1 = true := by
  unfold isIn
  rw [below_at ho h i hi]
  exact decide_eq_true ⟨hi, rfl⟩
theorem tGet_at (ho : KOrd lt) (z : ν) {l : List (κ × ν)} (h : Rising lt l) (i : Nat) (hi : i < l.length) : tGet lt z l (nth l i).1 = ((nth l i).2, true) := by
  unfold tGet
  rw [isIn_at ho h i hi, below_at ho h i hi]; rfl
theorem tAt_at (zk : κ) (zv : ν) (l : List (κ × ν)) (i : Nat) (hi : i < l.length) : tAt zk zv l (i : Int) = ((nth l i).1, (nth l i).2, true) := by
  unfold tAt
  rw [if_pos ⟨by omega, by omega⟩]; rfl
theorem nth_keys (l : List (κ × ν)) (i : Nat) (hi : i < l.length) : nth (l.map (·.1)) i = (nth l i).1 := by
  rw [nth_get _ _ (by simpa using hi), nth_get _ _ hi]; simp
theorem tSet_mem (l : List (κ × ν)) (k : κ) (v : ν) (p : κ × ν) (h : p ∈ tSet lt l k v) : p = (k, v) ∨ p ∈ l := by
  unfold tSet at h
  rcases List.mem_append.1 h with h | h
  · exact .inr (List.mem_of_mem_take h)
  · rcases List.mem_cons.1 h with h | h
    · exact .inl h
    · exact .inr (List.mem_of_mem_drop h)
theorem tDel_mem (l : List (κ × ν)) (k : κ) (p : κ × ν) (h : p ∈ tDel lt l k) : p ∈ l := by
  unfold tDel at h
  split at h
  · rcases List.mem_append.1 h with h | h
    · exact List.mem_of_mem_take h
    · exact List.mem_of_mem_drop h
  · exact h
theorem nth_mem {l : List (κ × ν)} (i : Nat) (hi : i < l.length) : nth l i ∈ l := by rw [nth_get l i hi]; exact List.getElem_mem hi
theorem min_below (ho : KOrd lt) {l : List (κ × ν)} (h : Rising lt l) (k : κ) (i : Nat) (hi : i < l.length) : min (i + 1) (below lt l k) = min i (below lt l k) + (if lt (nth l i).1 k then 1 else 0) := by
  rw [lt_below ho h k i hi]
  by_cases hb : i < below lt l k
  · rw [decide_eq_true hb, if_pos rfl]; omega
  · rw [decide_eq_false hb, if_neg (by simp)]; omega
end
section
variable {κ ν κ' ν' : Type} [Inhabited κ] [Inhabited ν] [DecidableEq κ] [Inhabited κ'] [Inhabited ν'] [DecidableEq κ'] {lt : κ → κ → Bool} {lt' : κ' → κ' → Bool} (f : κ → κ') (h : ν → ν') (ok : κ → Prop)
/-- A table's rows with other names for keys and things, the order kept. -/
def tMap (l : List (κ × ν)) : List (κ' × ν') := l.map fun p => (f p.1, h p.2)
theorem tMap_nth (l : List (κ × ν)) (i : Nat) (hi : i < l.length) : nth (tMap f h l) i = (f (nth l i).1, h (nth l i).2) := by
  unfold tMap
  rw [nth_get _ _ (by simpa using hi), nth_get _ _ hi]; simp
variable (hf : ∀ a b, ok a → ok b → lt' (f a) (f b) = lt a b) (hi : ∀ a b, ok a → ok b → f a = f b → a = b)
include hf
theorem tMap_below (l : List (κ × ν)) (hl : ∀ p ∈ l, ok p.1) (k : κ) (hk : ok k) : below lt' (tMap f h l) (f k) = below lt l k := by
  unfold below tMap
  induction l with
  | nil => rfl
  | cons p l ih =>
    rw [List.map_cons, List.takeWhile_cons, List.takeWhile_cons]
    rw [hf p.1 k (hl p (by simp)) hk]
    split
    · rw [List.length_cons, List.length_cons, ih (fun q hq => hl q (by simp [hq]))]
    · rfl
include hi
theorem tMap_isIn (l : List (κ × ν)) (hl : ∀ p ∈ l, ok p.1) (k : κ) (hk : ok k) : isIn lt' (tMap f h l) (f k) = isIn lt l k := by
  unfold isIn
  rw [tMap_below f h ok hf l hl k hk]
  have hlen : (tMap f h l).length = l.length := by simp [tMap]
  rw [hlen]
  apply decide_eq_decide.2
  constructor
  · rintro ⟨h1, h2⟩
    rw [tMap_nth f h l _ h1] at h2
    exact ⟨h1, hi _ _ (hl _ (nth_mem _ h1)) hk h2⟩
  · rintro ⟨h1, h2⟩
    refine ⟨h1, ?_⟩
    rw [tMap_nth f h l _ h1]
    exact congrArg f h2
theorem tMap_set (l : List (κ × ν)) (hl : ∀ p ∈ l, ok p.1) (k : κ) (hk : ok k) (v : ν) : tSet lt' (tMap f h l) (f k) (h v) = tMap f h (tSet lt l k v) := by
  unfold tSet
  rw [tMap_isIn f h ok hf hi l hl k hk, tMap_below f h ok hf l hl k hk]
  unfold tMap
  simp [List.map_take, List.map_drop]
theorem tMap_del (l : List (κ × ν)) (hl : ∀ p ∈ l, ok p.1) (k : κ) (hk : ok k) : tDel lt' (tMap f h l) (f k) = tMap f h (tDel lt l k) := by
  unfold tDel
  rw [tMap_isIn f h ok hf hi l hl k hk, tMap_below f h ok hf l hl k hk]
  unfold tMap
  split <;> simp [List.map_take, List.map_drop]
theorem tMap_get (z : ν') (l : List (κ × ν)) (hl : ∀ p ∈ l, ok p.1) (k : κ) (hk : ok k) (z0 : ν) : tGet lt' z (tMap f h l) (f k) = if isIn lt l k then (h (tGet lt z0 l k).1, true) else (z, false) := by
  unfold tGet
  rw [tMap_isIn f h ok hf hi l hl k hk, tMap_below f h ok hf l hl k hk]
  split
  · rename_i hin
    unfold isIn at hin
    rw [tMap_nth f h l _ (of_decide_eq_true hin).1]
  · rfl
end
end Go.Proofs.Ytmhdhnipljonlaa
