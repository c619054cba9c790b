/- Texts of the proof, joined: Drawn regions whose order is forced for the most part: their plain walk in the text's order, and forks where two operations may come up. -/
import Derived.Deep.RegionHeld3
import Derived.RegionTactic
namespace Go.Proofs.Ytmhojaiajhdlcaa
set_option linter.unusedSimpArgs false
set_option linter.unusedVariables false
section
variable {P : Program} {l : List Oper} {Q : Exit → Act → World → Prop} {K : Act → World → Prop} {md : Region.Mode}
/-- Q, but K at the end. -/
def QK (Q : Exit → Act → World → Prop) (K : Act → World → Prop) : Exit → Act → World → Prop
  | .normal, a, w => K a w
  | .exit i, a, w => Q (.exit i) a w
  | .goto i, a, w => Q (.goto i) a w
  | .ret, a, w => Q .ret a w
  | .panic c, a, w => Q (.panic c) a w
  | .outgrown, a, w => Q .outgrown a w
theorem QK.calm {Q : Exit → Act → World → Prop} {c : _} {a a' : Act} {w : World} (h : Q (.panic c) a' w → Q (.panic c) a w) : QK Q K (.panic c) a' w → QK Q K (.panic c) a w := h
def isMove (o : Oper) : Bool := match o.op with
  | .move _ => true
  | _ => false
/-- The first n of s are listed. -/
def tf (n s : Nat) : Array Bool := (List.replicate n true ++ List.replicate (s - n) false).toArray
def stepOk (md : Region.Mode) (ops : Array Oper) (n : Nat) : Bool :=
  Region.ready md ops (tf n ops.size) == [n] || ((Region.ready md ops (tf n ops.size)).contains n && Region.free md ops (tf n ops.size) n && (match ops[n]? with | some o => isMove o | none => false))
def natOk (md : Region.Mode) (ops : Array Oper) (n : Nat) : Nat → Bool
  | 0 => true
  | k + 1 => stepOk md ops n && natOk md ops (n + 1) k
theorem tf_set {n s : Nat} (h : n < s) : (tf n s).setIfInBounds n true = tf (n + 1) s := by
  unfold tf
  rw [List.setIfInBounds_toArray, List.set_append_right _ _ (by simp)]
  congr 1
  obtain ⟨d, hd⟩ : ∃ d, s - n = d + 1 := ⟨s - n - 1, by omega⟩
  rw [hd, List.length_replicate, Nat.sub_self, List.replicate_succ, List.set_cons_zero, show s - (n + 1) = d by omega, List.replicate_succ', List.append_assoc]
  rfl
theorem tf_zero (s : Nat) : tf 0 s = Array.replicate s false := by
  unfold tf; simp
theorem wp_QK {o : Oper} {a : Act} {w : World} {K' : Act → World → Prop} (hh : o.wp P a w K' (QK Q K)) : o.wp P a w K' Q := by
  unfold Oper.wp at *
  generalize (execOp a.eval o).run P w = r at *
  cases r with
  | ok n w' =>
    cases n <;> simp only [Oper.upon] at hh ⊢ <;>
      first
        | exact hh
        | exact Calls.mono hh (fun e w'' he => by cases e <;> exact he)
  | halt x w' => cases x <;> simp only [Oper.upon] at hh ⊢ <;> exact hh
theorem wpOp_of_list {i : Nat} {o : Oper} {ops : Array Oper} {rest : List Oper} {a : Act} {w : World} {K' : Act → World → Prop} (ho : ops[i]? = some o) (h : wpList P ops (QK Q K) (o :: rest) a w) (hK : ∀ a w, wpList P ops (QK Q K) rest a w → K' a w) : wpOp P ops Q i K' a w := by
  unfold wpOp
  rw [ho]
  unfold wpList at h
  show if Region.wanted o (yielded ops a.tmps) = true then _ else _
  split
  · rename_i hw
    rw [if_pos hw] at h
    exact h.imp (fun q => wp_QK (Oper.wp_mono hK q)) (fun q => ⟨q.1, q.2⟩)
  · rename_i hw
    rw [if_neg hw] at h
    exact hK _ _ h
theorem any_one_list {i : Nat} {o : Oper} {listed listed' : Array Bool} {fuel : Nat} {a : Act} {w : World} (hr : Region.ready md l.toArray listed = [i]) (ho : l.toArray[i]? = some o) (hl : listed.setIfInBounds i true = listed')
    (h : wpList P l.toArray (QK Q (fun a w => wpAny P md l.toArray Q fuel listed' a w)) [o] a w) : wpAny P md l.toArray Q (fuel + 1) listed a w := by
  subst hl
  refine wpAny_all hr (by simp) (fun j hj => ?_)
  obtain rfl : j = i := by simpa using hj
  exact wpOp_of_list ho h (fun a w q => q)
theorem any_two_list {i j : Nat} {oi oj : Oper} {listed li lj : Array Bool} {fuel : Nat} {a : Act} {w : World} (hr : Region.ready md l.toArray listed = [i, j]) (hoi : l.toArray[i]? = some oi) (hoj : l.toArray[j]? = some oj) (hli : listed.setIfInBounds i true = li) (hlj : listed.setIfInBounds j true = lj)
    (h1 : wpList P l.toArray (QK Q (fun a w => wpAny P md l.toArray Q fuel li a w)) [oi] a w) (h2 : wpList P l.toArray (QK Q (fun a w => wpAny P md l.toArray Q fuel lj a w)) [oj] a w) : wpAny P md l.toArray Q (fuel + 1) listed a w := by
  subst hli hlj
  refine wpAny_all hr (by simp) (fun k hk => ?_)
  rcases List.mem_cons.1 hk with rfl | hk
  · exact wpOp_of_list hoi h1 (fun a w q => q)
  · obtain rfl : k = j := by simpa using hk
    exact wpOp_of_list hoj h2 (fun a w q => q)
theorem any_seq (hs : Region.noSelect l.toArray = true) (hQ : ∀ c a d v w, Q (.panic c) (a.put d v) w → Q (.panic c) a w) {fuel : Nat} : ∀ (k n : Nat) (a : Act) (w : World), natOk md l.toArray n k = true → n + k ≤ l.length → wpList P l.toArray (QK Q K) ((l.drop n).take k) a w →
    (∀ a w, K a w → wpAny P md l.toArray Q fuel (tf (n + k) l.length) a w) → wpAny P md l.toArray Q (fuel + k) (tf n l.length) a w
  | 0, n, a, w, _, _, h, hK => by
    have h' : QK Q K .normal a w := by simpa [wpList] using h
    exact hK a w h'
  | k + 1, n, a, w, hn, hl, h, hK => by
    have hlt : n < l.length := by omega
    have ho : l.toArray[n]? = some l[n] := by simp
    have hd : (l.drop n).take (k + 1) = l[n] :: (l.drop (n + 1)).take k := by rw [List.drop_eq_getElem_cons hlt, List.take_succ_cons]
    rw [hd] at h
    unfold natOk at hn
    rw [Bool.and_eq_true] at hn
    have ih : ∀ a w, wpList P l.toArray (QK Q K) ((l.drop (n + 1)).take k) a w → wpAny P md l.toArray Q (fuel + k) (tf (n + 1) l.length) a w := fun a w q =>
      any_seq hs hQ k (n + 1) a w hn.2 (by omega) q (by rw [show n + 1 + k = n + (k + 1) by omega]; exact hK)
    have h1 := hn.1
    unfold stepOk at h1
    rw [show l.toArray.size = l.length by simp, Bool.or_eq_true, Bool.and_eq_true, Bool.and_eq_true, beq_iff_eq, ho] at h1
    show wpAny P md l.toArray Q ((fuel + k) + 1) (tf n l.length) a w
    rcases h1 with q | ⟨⟨q1, q2⟩, q3⟩
    · refine wpAny_all q (by simp) (fun j hj => ?_)
      obtain rfl : j = n := by simpa using hj
      rw [tf_set hlt]
      exact wpOp_of_list ho h ih
    · have hy : Yields P l.toArray l[n] (if Region.wanted l[n] (yielded l.toArray a.tmps) = true then (match l[n].op with | .move x => a.eval x | _ => undef) else undef) a := by
        by_cases hw : Region.wanted l[n] (yielded l.toArray a.tmps) = true
        · refine .inl ⟨hw, fun w => ?_⟩
          rw [if_pos hw]
          generalize hgo : l[n] = o at q3 ⊢
          obtain ⟨d, op, ty, pos, af, gd⟩ := o
          simp only [isMove] at q3
          cases op <;> simp at q3
          rfl
        · exact .inr ⟨by simpa using hw, by rw [if_neg hw]⟩
      refine wpAny_take ho hs q2 q1 (fun c a w => hQ c a _ _ w) hy ?_
      rw [tf_set hlt]
      refine ih _ _ ?_
      unfold wpList at h
      by_cases hw : Region.wanted l[n] (yielded l.toArray a.tmps) = true
      · rw [if_pos hw] at h
        rw [if_pos hw]
        rcases hy with ⟨_, y2⟩ | ⟨y1, _⟩
        · rw [if_pos hw] at y2
          rcases h with h | h
          · unfold Oper.wp at h
            rw [y2 w] at h
            exact h
          · have := h.1.1
            exfalso
            generalize hgo : l[n] = o at q3 this
            obtain ⟨d, op, ty, pos, af, gd⟩ := o
            simp only [isMove] at q3
            cases op <;> simp at q3
            rename_i xx
            have h0 : (Sem.runT P (execOp a.eval { dst := d, op := Op.move xx, type := ty, pos := pos, after := af, guard := gd }) w #[]).2 = #[] := rfl
            rw [h0] at this
            simp at this
        · rw [hw] at y1; cases y1
      · rw [if_neg hw] at h
        rw [if_neg hw]
        exact h
theorem QK_self (Q : Exit → Act → World → Prop) : QK Q (fun a w => Q .normal a w) = Q := by
  funext e a w
  cases e <;> rfl
variable {ops : Array Oper} {a : Act} {w : World} {s f F k n : Nat}
/-- The beginning: the first k in the text's order. -/
theorem reg_seq {id : Nat} (he : l.toArray = ops) (hl : l.length = s) (hm : P.follows .mixedOrders = true) (hs : Region.noSelect ops = true) (hQ : ∀ c a d v w, Q (.panic c) (a.put d v) w → Q (.panic c) a w) (hn : natOk .any ops 0 k = true) (hf : f + k = s)
    (h : wpList P l.toArray (QK Q (fun a w => wpAny P .any l.toArray Q f (tf k s) a w)) (l.take k) a w.drew) : (Code.region id l.toArray true).wp P Q a w := by
  subst he
  refine wp_region_any hm ?_
  subst hl
  have e0 : Array.replicate l.toArray.size false = tf 0 l.length := by rw [tf_zero]; simp
  rw [e0, show l.toArray.size = f + k by simp [hf]]
  exact any_seq hs hQ k 0 a _ hn (by omega) (by simpa using h) (fun a w q => by rw [Nat.zero_add]; exact q)
/-- The next k in the text's order. -/
theorem mid_seq (he : l.toArray = ops) (hl : l.length = s) (hs : Region.noSelect ops = true) (hQ : ∀ c a d v w, Q (.panic c) (a.put d v) w → Q (.panic c) a w) (n k f m : Nat) (hn : natOk .any ops n k = true) (hm : m = n + k) (hF : F = f + k) (hk : m ≤ s)
    (h : wpList P l.toArray (QK Q (fun a w => wpAny P .any l.toArray Q f (tf m s) a w)) ((l.drop n).take k) a w) : wpAny P .any l.toArray Q F (tf n s) a w := by
  subst he hm hF hl
  exact any_seq hs hQ k n a _ hn hk h (fun a w q => q)
/-- The rest in the text's order. -/
theorem end_seq (he : l.toArray = ops) (hl : l.length = s) (hs : Region.noSelect ops = true) (hQ : ∀ c a d v w, Q (.panic c) (a.put d v) w → Q (.panic c) a w) (n : Nat) (hn : natOk .any ops n F = true) (hk : n + F = s) (hr : Region.ready .any ops (tf s s) = [])
    (h : wpList P l.toArray Q (l.drop n) a w) : wpAny P .any l.toArray Q F (tf n s) a w := by
  subst he hl
  have h0 := any_seq (K := fun a w => Q .normal a w) (fuel := 0) hs hQ F n a w hn (by omega) (by rw [QK_self, List.take_of_length_le (by simp; omega)]; exact h) (fun a w q => by rw [hk]; exact wpAny_done hr q 0)
  rwa [Nat.zero_add] at h0
/-- One alone may come up. -/
theorem one_seq {i : Nat} {o : Oper} {listed : Array Bool} (he : l.toArray = ops) (listed' : Array Bool) (hr : Region.ready .any ops listed = [i]) (ho : l.toArray[i]? = some o) (hl : listed.setIfInBounds i true = listed')
    (h : wpList P l.toArray (QK Q (fun a w => wpAny P .any l.toArray Q f listed' a w)) [o] a w) : wpAny P .any l.toArray Q (f + 1) listed a w := by
  subst he
  exact any_one_list hr ho hl h
/-- Two may come up. -/
theorem two_seq {i j : Nat} {oi oj : Oper} {listed : Array Bool} (he : l.toArray = ops) (li lj : Array Bool) (hr : Region.ready .any ops listed = [i, j]) (hoi : l.toArray[i]? = some oi) (hoj : l.toArray[j]? = some oj) (hli : listed.setIfInBounds i true = li) (hlj : listed.setIfInBounds j true = lj)
    (h1 : wpList P l.toArray (QK Q (fun a w => wpAny P .any l.toArray Q f li a w)) [oi] a w) (h2 : wpList P l.toArray (QK Q (fun a w => wpAny P .any l.toArray Q f lj a w)) [oj] a w) : wpAny P .any l.toArray Q (f + 1) listed a w := by
  subst he
  exact any_two_list hr hoi hoj hli hlj h1 h2
theorem wpOp_ok {i : Nat} {o : Oper} {v : Value} {K' : Act → World → Prop} (ho : ops[i]? = some o) (hw : Region.wanted o (yielded ops a.tmps) = true) (hv : (execOp a.eval o).run P w = .ok (.value v) w) (h : K' (a.put o.dst v) w) : wpOp P ops Q i K' a w := by
  unfold wpOp
  simp only [ho]
  simp only [hw, if_true, Oper.wp, hv, Oper.upon]
  exact .inl h
/-- Two that read may come up: their order is all one. -/
theorem pair_seq {i j : Nat} {oi oj : Oper} {listed : Array Bool} {v u : Value} (he : l.toArray = ops) (listed' : Array Bool) (hs : Region.noSelect ops = true) (hr : Region.ready .any ops listed = [i, j]) (hri : Region.ready .any ops (listed.setIfInBounds i true) = [j]) (hrj : Region.ready .any ops (listed.setIfInBounds j true) = [i])
    (hoi : l.toArray[i]? = some oi) (hoj : l.toArray[j]? = some oj) (hap : oi.apart l.toArray oj = true) (hl : (listed.setIfInBounds i true).setIfInBounds j true = listed') (hl2 : (listed.setIfInBounds j true).setIfInBounds i true = listed')
    (hwi : Region.wanted oi (yielded l.toArray a.tmps) = true) (hwj : Region.wanted oj (yielded l.toArray a.tmps) = true) (hvi : (execOp a.eval oi).run P w = .ok (.value v) w) (hvj : (execOp a.eval oj).run P w = .ok (.value u) w)
    (h : wpAny P .any l.toArray Q f listed' ((a.put oi.dst v).put oj.dst u) w) : wpAny P .any l.toArray Q (f + 2) listed a w := by
  subst he
  obtain ⟨p1, p2, p3⟩ := Oper.apart_spec hap
  have si := Region.noSelect_spec hs i oi
  have sj := Region.noSelect_spec hs j oj
  refine wpAny_all hr (by simp) (fun k hk => ?_)
  rcases List.mem_cons.1 hk with rfl | hk
  · refine wpOp_ok hoi hwi hvi ?_
    refine wpAny_all hri (by simp) (fun m hm => ?_)
    obtain rfl : m = j := by simpa using hm
    refine wpOp_ok hoj (by rw [wanted_put oj a oi.dst v p1]; exact hwj) (by rw [execOp_put oj (fun cs b => sj cs b hoj) a oi.dst v p1]; exact hvj) ?_
    rw [hl]; exact h
  · obtain rfl : k = j := by simpa using hk
    refine wpOp_ok hoj hwj hvj ?_
    refine wpAny_all hrj (by simp) (fun m hm => ?_)
    obtain rfl : m = i := by simpa using hm
    refine wpOp_ok hoi (by rw [wanted_put oi a oj.dst u p3]; exact hwi) (by rw [execOp_put oi (fun cs b => si cs b hoi) a oj.dst u p3]; exact hvi) ?_
    rw [hl2, ← Act.put_comm a v u p2]; exact h
theorem qk_normal (h : K a w) : QK Q K .normal a w := h
end
/-- A region of a function's code, by its number. -/
def findReg (n : Nat) : Code → Option Code
  | .region id ops b => if id = n then some (.region id ops b) else none
  | .seq a b => match findReg n a with
    | some c => some c
    | none => findReg n b
  | .block _ c => findReg n c
  | .loop c => findReg n c
  | .scope c => findReg n c
  | .cond _ a b => match findReg n a with
    | some c => some c
    | none => findReg n b
  | _ => none
def rgOps (n : Nat) (o : Option Code) : Array Oper := match o.bind (findReg n) with
  | some (.region _ ops _) => ops
  | _ => #[]
end Go.Proofs.Ytmhojaiajhdlcaa
