/- Texts appended to bytes; texts read. -/
import Derived.Test.YthnmlifnlmdelaaStrPlain
import Derived.Lib.AppendStr
namespace Go.Proofs.Ythnmlifnlmdelaa
open Go.RowKit Go.Lib
set_option linter.unusedSimpArgs false
set_option linter.unusedVariables false

theorem strCells_eq (s : ByteArray) : strCells s = s.data.toList.map bv := by simp [strCells, bv]
theorem Own.ne {α β : Type} {c : α → Value} {c' : β → Value} {base base' : Nat} {e e' : TypeId} {w : World} {v v' : Value} {l : List α} {l' : List β} (h : Own c base e w v l) (k : Own c' base' e' w v' l') (hne : e ≠ e') : ∀ x ∈ blk v, x ∉ blk v' := by
  intro x hx hx'
  rcases h.2 with ⟨rfl, _⟩ | ⟨g, cap, cur, rfl, hb, hg, _⟩
  · simp [blk] at hx
  · rcases k.2 with ⟨rfl, _⟩ | ⟨g', cap', cur', rfl, hb', hg', _⟩
    · simp [blk] at hx'
    · simp [blk] at hx hx'; subst hx; subst hx'
      rw [hg] at hg'
      simp at hg'
      exact hne hg'.2
theorem wpList_app_str {P : Program} {ops : Array Oper} {rest : List Oper} {o : Oper} {a : Act} {w : World} {Q : Exit → Act → World → Prop}
    (hgd : o.guard = none) (s x : Operand) {t ts e : TypeId} (ho : o.op = .call { callee := .builtin .append, args := #[s, x], argTypes := #[t, ts] })
    {base : Nat} (ht : P.underlying t = some (.slice e)) (hts : P.underlying ts = some .string) (hi : (P.info? e).map (fun i => (i.zero, i.size, i.bytes)) = some (some (.int .u8 0), 1, 1))
    (v : Value) (S : ByteArray) (l : List UInt8) (hs : a.eval s = v) (hx : a.eval x = .string S) (hv : Own bv base e w v l) (hb : l.length + S.size ≤ 140737488355328) (hl : l.length + S.size ≤ maxLen) (hbase : base ≤ w.heap.size)
    (h : ∀ v' w', Own bv base e w' v' (l ++ S.data.toList) → Upd (blk v) w w' → wpList P ops Q rest (a.put o.dst v') w') : wpList P ops Q (o :: rest) a w := by
  obtain ⟨i, h1, h2, h3, h4⟩ := info_parts hi
  obtain ⟨v', w', hr, k1, k2, _⟩ := run_append_own_string (P := P) w base t ts o.type e i ht hts h1 h2 h3 h4 v l.length (l.map bv) hv S hl hb hbase
  have hown : Own bv base e w' v' (l ++ S.data.toList) := by
    unfold Own
    have hz : S.data.toList.length = S.size := by simp
    rw [List.length_append, List.map_append, hz, ← strCells_eq]; exact k1
  refine wpList_plain hgd fun K hK => ?_
  unfold Oper.wp execOp
  simp only [ho, resolve, invoke, builtin, Sem.run_bind, Sem.run_pure, Result.andThen_ok, List.map_toArray, List.map_cons, List.map_nil, hs, hx, hr]
  exact hK _ _ (h v' w' hown (by rw [blk_own]; exact Upd.of_grown k2))
end Go.Proofs.Ythnmlifnlmdelaa
