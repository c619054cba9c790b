/- JournalSmall: the law returns true, whatever it is given. -/
import Derived.Test.YtmhojaiajhdlcaaMj8
import Derived.Test.YtmhojaiajhdlcaaMj1
import Derived.Deep.RegionHeld3
import Derived.RegionTactic
import Derived.Deep.CutBlock
import Derived.Deep.DeepCutAuto
namespace Go.Proofs.Ytmhojaiajhdlcaa
open Go.RowKit
set_option linter.unusedSimpArgs false
set_option linter.unusedVariables false
theorem within_nat (cut : Int) (m : Nat) : ∃ n : Nat, within cut 0 (m : Int) = (n : Int) ∧ n ≤ m := by
  have hp : 0 < (m : Int) - 0 + 1 := by omega
  have h1 := Int.emod_nonneg cut (b := (m : Int) - 0 + 1) (by omega)
  have h2 := Int.emod_lt_of_pos cut hp
  obtain ⟨n, hn⟩ := Int.eq_ofNat_of_zero_le h1
  refine ⟨n, ?_, by omega⟩
  unfold within
  rw [hn]; omega
/-- What the slots below n have, and forty for each. -/
def allOf (t : JS) : Nat → Nat
  | 0 => 0
  | n + 1 => allOf t n + (jGet t (n : Int)).size + 40
def rowsOf (t : JS) : Nat := (t.map fun p => p.2.size + 40).sum
theorem rowsOf_app (a b : JS) : rowsOf (a ++ b) = rowsOf a + rowsOf b := by unfold rowsOf; rw [List.map_append, List.sum_append]
theorem below_next {t : JS} (hr : Rising ltI t) (n : Int) : below ltI t (n + 1) = below ltI t n + (if isIn ltI t n then 1 else 0) := by
  have hle := below_le (lt := ltI) t n
  have hin : isIn ltI t n = true → below ltI t n < t.length ∧ (nth t (below ltI t n)).1 = n := fun h => by unfold isIn at h; exact of_decide_eq_true h
  refine below_eq _ _ _ ?_ (fun j hj => ?_) (fun h => ?_)
  · cases h : isIn ltI t n with
    | true => have := (hin h).1; simp; omega
    | false => simp; exact hle
  · by_cases hj2 : j < below ltI t n
    · have h1 := below_lt (lt := ltI) t n j hj2
      have h2 : (nth t j).1 < n := of_decide_eq_true h1
      exact decide_eq_true (by omega)
    · cases h : isIn ltI t n with
      | true =>
        rw [h] at hj
        have hj3 : j = below ltI t n := by simp at hj; omega
        rw [hj3, (hin h).2]
        exact decide_eq_true (by omega)
      | false => rw [h] at hj; simp at hj; omega
  · have h1 := above intOrd hr n _ (Nat.le_refl _) h
    have h2 : n < (nth t (below ltI t n + if isIn ltI t n = true then 1 else 0)).1 := of_decide_eq_true h1
    exact decide_eq_false (by omega)
theorem rows_below {t : JS} (hr : Rising ltI t) (hk : ∀ p ∈ t, 0 ≤ p.1) : ∀ n : Nat, rowsOf (t.take (below ltI t (n : Int))) ≤ allOf t n
  | 0 => by
    have : below ltI t ((0 : Nat) : Int) = 0 := below_eq _ _ _ (Nat.zero_le _) (fun j hj => by omega) (fun h => by
      have := hk _ (nth_mem 0 h)
      exact decide_eq_false (by omega))
    rw [this]; simp [rowsOf, allOf]
  | n + 1 => by
    have ih := rows_below hr hk n
    rw [show ((n + 1 : Nat) : Int) = (n : Int) + 1 by omega, below_next hr]
    show _ ≤ allOf t n + (jGet t (n : Int)).size + 40
    cases h : isIn ltI t (n : Int) with
    | false => rw [if_neg (by simp), Nat.add_zero]; omega
    | true =>
      rw [if_pos rfl]
      have h2 := h
      unfold isIn at h2
      obtain ⟨h3, h4⟩ := of_decide_eq_true h2
      rw [take_succ_nth _ _ h3, rowsOf_app]
      have hg : jGet t (n : Int) = (nth t (below ltI t (n : Int))).2 := by unfold jGet tGet; rw [h]; rfl
      rw [hg]
      have : rowsOf [nth t (below ltI t (n : Int))] = (nth t (below ltI t (n : Int))).2.size + 40 := by simp [rowsOf]
      omega
/-- Rows of six slots, none too long. -/
structure Six (t : JS) : Prop where
  ris : Rising ltI t
  ks : ∀ p ∈ t, 0 ≤ p.1 ∧ p.1 ≤ 5 ∧ p.2.size ≤ 60000
theorem Six.nil : Six [] := ⟨Rising.nil, by simp⟩
theorem Six.rows {t : JS} (h : Six t) : rowsOf t ≤ allOf t 6 := by
  have h1 := rows_below h.ris (fun p hp => (h.ks p hp).1) 6
  have h2 : below ltI t ((6 : Nat) : Int) = t.length := below_eq _ _ _ (Nat.le_refl _) (fun j hj => by
    have := (h.ks _ (nth_mem j hj)).2.1
    exact decide_eq_true (by omega)) (fun q => absurd q (Nat.lt_irrefl _))
  rw [h2, List.take_length] at h1
  exact h1
theorem six_frame {p : Ch} (h : 0 ≤ p.1 ∧ p.1 ≤ 5 ∧ p.2.size ≤ 60000) : (frameOf (encChs [p])).length ≤ p.2.size + 40 := by
  have h1 := encNum_len 1
  have h2 := nb_le8 1 (by omega)
  have h3 := encNum_len p.1.toNat
  have h4 := nb_le8 p.1.toNat (by omega)
  have h5 := encNum_len p.2.size
  have h6 : nb p.2.size ≤ 2 := by
    rcases Nat.lt_or_ge 2 (nb p.2.size) with q | q
    · have := (nb_lt 2 p.2.size).1 q
      omega
    · exact q
  have h7 := encText_len p.2
  have h8 : (encCh p).length = (encNum p.1.toNat).length + (encText p.2).length := by unfold encCh; rw [List.length_append]
  have h9 : nb 1 = 1 := nb_one 1 (by omega) (by omega)
  have h10 : nb p.1.toNat ≤ 1 := by
    rcases Nat.eq_zero_or_pos p.1.toNat with q | q
    · rw [q, nb_zero]; omega
    · have := nb_one p.1.toNat (by omega) (by omega)
      omega
  rw [frameOf_len, encChs_one, List.length_append]
  omega
theorem jRows_le : ∀ (t : JS), (∀ p ∈ t, 0 ≤ p.1 ∧ p.1 ≤ 5 ∧ p.2.size ≤ 60000) → (jRows t).length ≤ rowsOf t
  | [], _ => by simp [jRows, rowsOf]
  | p :: t, h => by
    have h1 := six_frame (h p (by simp))
    have h2 := jRows_le t (fun q hq => h q (by simp [hq]))
    have e1 : jRows (p :: t) = frameOf (encChs [p]) ++ jRows t := by unfold jRows; rw [List.flatMap_cons]
    have e2 : rowsOf (p :: t) = p.2.size + 40 + rowsOf t := by simp [rowsOf]
    rw [e1, e2, List.length_append]; omega
theorem allOf_le {t : JS} (h : Six t) : ∀ n, allOf t n ≤ 60040 * n
  | 0 => Nat.le_refl _
  | n + 1 => by
    have ih := allOf_le h n
    have : (jGet t (n : Int)).size ≤ 60000 := by
      unfold jGet
      rcases get_cases (lt := ltI) s0 t (n : Int) with ⟨v, hv⟩ | hn
      · rw [hv]; exact (h.ks _ ((get_mem intOrd s0 h.ris _ _).1 hv)).2.2
      · rw [hn]; decide
    show allOf t n + _ + 40 ≤ _
    omega
theorem Six.hold {t : JS} (h : Six t) (k : Int) (d : ByteArray) (hk : 0 ≤ k ∧ k ≤ 5) (hd : d.size ≤ 60000) : Six (jAll t [(k, d)]) := by
  show Six (jHold1 t (k, d))
  unfold jHold1
  split
  · exact ⟨h.ris.del intOrd _, fun p hp => h.ks p ((mem_del intOrd h.ris _ _).1 hp).1⟩
  · refine ⟨h.ris.set_ intOrd _ _, fun p hp => ?_⟩
    rcases (mem_set intOrd h.ris _ _ _).1 hp with rfl | q
    · exact ⟨hk.1, hk.2, hd⟩
    · exact h.ks p q.1
/-- Behind k Sets. -/
structure SmI (k : Nat) (t : JS) (s : DS) : Prop where
  st : St (fun _ => True) (12000000 * k) s
  inv : JInv t s
  six : Six t
  small : (dGet s.now nmJ).1.length ≤ 262144 ∨ (dGet s.now nmJ).1.length ≤ allOf t 6
theorem SmI.zero : SmI 0 [] ⟨[], [], []⟩ := ⟨St.zero trivial, JInv.zero, Six.nil, .inl (Nat.zero_le _)⟩
theorem SmI.step {k : Nat} {t : JS} {s : DS} (h : SmI k t s) (n : Int) (d : ByteArray) (hn : 0 ≤ n ∧ n ≤ 5) (hd : d.size ≤ 60000) : ∃ s', jSet t s [(n, d)] = (0, jAll t [(n, d)], s') ∧ SmI (k + 1) (jAll t [(n, d)]) s' := by
  have hf := six_frame (p := (n, d)) ⟨hn.1, hn.2, hd⟩
  have hfl := frameOf_len (encChs [(n, d)])
  dsimp only at hf
  have hok : ChsOk [(n, d)] := ⟨fun c hc => by rw [List.mem_singleton.1 hc]; exact ⟨hn.1, by show n ≤ 40; omega, by show d.size ≤ 262144; omega⟩, by simp, by simp, by omega⟩
  have S := sets h.st h.inv [(n, d)] (fun _ _ _ => trivial) (fun _ => trivial)
  have h6 := h.six.hold n d hn hd
  have ha := allOf_le h6 6
  have ha0 := allOf_le h.six 6
  have hr := jRows_le _ h6.ks
  have hr2 := h6.rows
  have htot := h.st.tot
  rw [h.inv.n] at htot
  have hsm := h.small
  dsimp only [List.length_nil] at htot
  obtain ⟨e, t', s', he⟩ : ∃ e t2 s2, jSet t s [(n, d)] = (e, t2, s2) := ⟨_, _, _, rfl⟩
  rw [he] at S
  have z : e = 0 := S.fit hok (by omega)
  have y : t' = jAll t [(n, d)] := (S.yes z).1
  subst z
  subst y
  refine ⟨s', he, S.st.more (by omega), S.inv, h6, ?_⟩
  rcases S.small rfl (by omega) with q | q
  · exact .inl q
  · right
    show (dGet s'.now nmJ).1.length ≤ _
    rw [show (dGet s'.now nmJ).1 = _ from q]
    omega
end Go.Proofs.Ytmhojaiajhdlcaa
namespace Go.Proofs.Ytmhojaiajhdlcaa
set_option linter.unusedSimpArgs false
set_option linter.unusedVariables false
section
variable {P : Program} {l : List Oper} {Q : Exit → Act → World → Prop} {K : Act → World → Prop} {md : Region.Mode}
/-- Q, but K at the end. -/
def QK (Q : Exit → Act → World → Prop) (K : Act → World → Prop) : Exit → Act → World → Prop
  | .normal, a, w => K a w
  | .exit i, a, w => Q (.exit i) a w
  | .goto i, a, w => Q (.goto i) a w
  | .ret, a, w => Q .ret a w
  | .panic c, a, w => Q (.panic c) a w
  | .outgrown, a, w => Q .outgrown a w
theorem QK.calm {Q : Exit → Act → World → Prop} {c : _} {a a' : Act} {w : World} (h : Q (.panic c) a' w → Q (.panic c) a w) : QK Q K (.panic c) a' w → QK Q K (.panic c) a w := h
def isMove (o : Oper) : Bool := match o.op with
  | .move _ => true
  | _ => false
/-- The first n of s are listed. -/
def tf (n s : Nat) : Array Bool := (List.replicate n true ++ List.replicate (s - n) false).toArray
def stepOk (md : Region.Mode) (ops : Array Oper) (n : Nat) : Bool :=
  Region.ready md ops (tf n ops.size) == [n] || ((Region.ready md ops (tf n ops.size)).contains n && Region.free md ops (tf n ops.size) n && (match ops[n]? with | some o => isMove o | none => false))
def natOk (md : Region.Mode) (ops : Array Oper) (n : Nat) : Nat → Bool
  | 0 => true
  | k + 1 => stepOk md ops n && natOk md ops (n + 1) k
theorem tf_set {n s : Nat} (h : n < s) : (tf n s).setIfInBounds n true = tf (n + 1) s := by
  unfold tf
  rw [List.setIfInBounds_toArray, List.set_append_right _ _ (by simp)]
  congr 1
  obtain ⟨d, hd⟩ : ∃ d, s - n = d + 1 := ⟨s - n - 1, by omega⟩
  rw [hd, List.length_replicate, Nat.sub_self, List.replicate_succ, List.set_cons_zero, show s - (n + 1) = d by omega, List.replicate_succ', List.append_assoc]
  rfl
theorem tf_zero (s : Nat) : tf 0 s = Array.replicate s false := by
  unfold tf; simp
theorem wp_QK {o : Oper} {a : Act} {w : World} {K' : Act → World → Prop} (hh : o.wp P a w K' (QK Q K)) : o.wp P a w K' Q := by
  unfold Oper.wp at *
  generalize (execOp a.eval o).run P w = r at *
  cases r with
  | ok n w' =>
    cases n <;> simp only [Oper.upon] at hh ⊢ <;>
      first
        | exact hh
        | exact Calls.mono hh (fun e w'' he => by cases e <;> exact he)
  | halt x w' => cases x <;> simp only [Oper.upon] at hh ⊢ <;> exact hh
theorem wpOp_of_list {i : Nat} {o : Oper} {ops : Array Oper} {rest : List Oper} {a : Act} {w : World} {K' : Act → World → Prop} (ho : ops[i]? = some o) (h : wpList P ops (QK Q K) (o :: rest) a w) (hK : ∀ a w, wpList P ops (QK Q K) rest a w → K' a w) : wpOp P ops Q i K' a w := by
  unfold wpOp
  rw [ho]
  unfold wpList at h
  show if Region.wanted o (yielded ops a.tmps) = true then _ else _
  split
  · rename_i hw
    rw [if_pos hw] at h
    exact h.imp (fun q => wp_QK (Oper.wp_mono hK q)) (fun q => ⟨q.1, q.2⟩)
  · rename_i hw
    rw [if_neg hw] at h
    exact hK _ _ h
theorem any_one_list {i : Nat} {o : Oper} {listed listed' : Array Bool} {fuel : Nat} {a : Act} {w : World} (hr : Region.ready md l.toArray listed = [i]) (ho : l.toArray[i]? = some o) (hl : listed.setIfInBounds i true = listed')
    (h : wpList P l.toArray (QK Q (fun a w => wpAny P md l.toArray Q fuel listed' a w)) [o] a w) : wpAny P md l.toArray Q (fuel + 1) listed a w := by
  subst hl
  refine wpAny_all hr (by simp) (fun j hj => ?_)
  obtain rfl : j = i := by simpa using hj
  exact wpOp_of_list ho h (fun a w q => q)
theorem any_two_list {i j : Nat} {oi oj : Oper} {listed li lj : Array Bool} {fuel : Nat} {a : Act} {w : World} (hr : Region.ready md l.toArray listed = [i, j]) (hoi : l.toArray[i]? = some oi) (hoj : l.toArray[j]? = some oj) (hli : listed.setIfInBounds i true = li) (hlj : listed.setIfInBounds j true = lj)
    (h1 : wpList P l.toArray (QK Q (fun a w => wpAny P md l.toArray Q fuel li a w)) [oi] a w) (h2 : wpList P l.toArray (QK Q (fun a w => wpAny P md l.toArray Q fuel lj a w)) [oj] a w) : wpAny P md l.toArray Q (fuel + 1) listed a w := by
  subst hli hlj
  refine wpAny_all hr (by simp) (fun k hk => ?_)
  rcases List.mem_cons.1 hk with rfl | hk
  · exact wpOp_of_list hoi h1 (fun a w q => q)
  · obtain rfl : k = j := by simpa using hk
    exact wpOp_of_list hoj h2 (fun a w q => q)
theorem any_seq (hs : Region.noSelect l.toArray = true) (hQ : ∀ c a d v w, Q (.panic c) (a.put d v) w → Q (.panic c) a w) {fuel : Nat} : ∀ (k n : Nat) (a : Act) (w : World), natOk md l.toArray n k = true → n + k ≤ l.length → wpList P l.toArray (QK Q K) ((l.drop n).take k) a w →
    (∀ a w, K a w → wpAny P md l.toArray Q fuel (tf (n + k) l.length) a w) → wpAny P md l.toArray Q (fuel + k) (tf n l.length) a w
  | 0, n, a, w, _, _, h, hK => by
    have h' : QK Q K .normal a w := by simpa [wpList] using h
    exact hK a w h'
  | k + 1, n, a, w, hn, hl, h, hK => by
    have hlt : n < l.length := by omega
    have ho : l.toArray[n]? = some l[n] := by simp
    have hd : (l.drop n).take (k + 1) = l[n] :: (l.drop (n + 1)).take k := by rw [List.drop_eq_getElem_cons hlt, List.take_succ_cons]
    rw [hd] at h
    unfold natOk at hn
    rw [Bool.and_eq_true] at hn
    have ih : ∀ a w, wpList P l.toArray (QK Q K) ((l.drop (n + 1)).take k) a w → wpAny P md l.toArray Q (fuel + k) (tf (n + 1) l.length) a w := fun a w q =>
      any_seq hs hQ k (n + 1) a w hn.2 (by omega) q (by rw [show n + 1 + k = n + (k + 1) by omega]; exact hK)
    have h1 := hn.1
    unfold stepOk at h1
    rw [show l.toArray.size = l.length by simp, Bool.or_eq_true, Bool.and_eq_true, Bool.and_eq_true, beq_iff_eq, ho] at h1
    show wpAny P md l.toArray Q ((fuel + k) + 1) (tf n l.length) a w
    rcases h1 with q | ⟨⟨q1, q2⟩, q3⟩
    · refine wpAny_all q (by simp) (fun j hj => ?_)
      obtain rfl : j = n := by simpa using hj
      rw [tf_set hlt]
      exact wpOp_of_list ho h ih
    · have hy : Yields P l.toArray l[n] (if Region.wanted l[n] (yielded l.toArray a.tmps) = true then (match l[n].op with | .move x => a.eval x | _ => undef) else undef) a := by
        by_cases hw : Region.wanted l[n] (yielded l.toArray a.tmps) = true
        · refine .inl ⟨hw, fun w => ?_⟩
          rw [if_pos hw]
          generalize hgo : l[n] = o at q3 ⊢
          obtain ⟨d, op, ty, pos, af, gd⟩ := o
          simp only [isMove] at q3
          cases op <;> simp at q3
          rfl
        · exact .inr ⟨by simpa using hw, by rw [if_neg hw]⟩
      refine wpAny_take ho hs q2 q1 (fun c a w => hQ c a _ _ w) hy ?_
      rw [tf_set hlt]
      refine ih _ _ ?_
      unfold wpList at h
      by_cases hw : Region.wanted l[n] (yielded l.toArray a.tmps) = true
      · rw [if_pos hw] at h
        rw [if_pos hw]
        rcases hy with ⟨_, y2⟩ | ⟨y1, _⟩
        · rw [if_pos hw] at y2
          rcases h with h | h
          · unfold Oper.wp at h
            rw [y2 w] at h
            exact h
          · have := h.1.1
            exfalso
            generalize hgo : l[n] = o at q3 this
            obtain ⟨d, op, ty, pos, af, gd⟩ := o
            simp only [isMove] at q3
            cases op <;> simp at q3
            rename_i xx
            have h0 : (Sem.runT P (execOp a.eval { dst := d, op := Op.move xx, type := ty, pos := pos, after := af, guard := gd }) w #[]).2 = #[] := rfl
            rw [h0] at this
            simp at this
        · rw [hw] at y1; cases y1
      · rw [if_neg hw] at h
        rw [if_neg hw]
        exact h
theorem QK_self (Q : Exit → Act → World → Prop) : QK Q (fun a w => Q .normal a w) = Q := by
  funext e a w
  cases e <;> rfl
variable {ops : Array Oper} {a : Act} {w : World} {s f F k n : Nat}
/-- The beginning: the first k in the text's order. -/
theorem reg_seq {id : Nat} (he : l.toArray = ops) (hl : l.length = s) (hm : P.follows .mixedOrders = true) (hs : Region.noSelect ops = true) (hQ : ∀ c a d v w, Q (.panic c) (a.put d v) w → Q (.panic c) a w) (hn : natOk .any ops 0 k = true) (hf : f + k = s)
    (h : wpList P l.toArray (QK Q (fun a w => wpAny P .any l.toArray Q f (tf k s) a w)) (l.take k) a w.drew) : (Code.region id l.toArray true).wp P Q a w := by
  subst he
  refine wp_region_any hm ?_
  subst hl
  have e0 : Array.replicate l.toArray.size false = tf 0 l.length := by rw [tf_zero]; simp
  rw [e0, show l.toArray.size = f + k by simp [hf]]
  exact any_seq hs hQ k 0 a _ hn (by omega) (by simpa using h) (fun a w q => by rw [Nat.zero_add]; exact q)
/-- The next k in the text's order. -/
theorem mid_seq (he : l.toArray = ops) (hl : l.length = s) (hs : Region.noSelect ops = true) (hQ : ∀ c a d v w, Q (.panic c) (a.put d v) w → Q (.panic c) a w) (n k f m : Nat) (hn : natOk .any ops n k = true) (hm : m = n + k) (hF : F = f + k) (hk : m ≤ s)
    (h : wpList P l.toArray (QK Q (fun a w => wpAny P .any l.toArray Q f (tf m s) a w)) ((l.drop n).take k) a w) : wpAny P .any l.toArray Q F (tf n s) a w := by
  subst he hm hF hl
  exact any_seq hs hQ k n a _ hn hk h (fun a w q => q)
/-- The rest in the text's order. -/
theorem end_seq (he : l.toArray = ops) (hl : l.length = s) (hs : Region.noSelect ops = true) (hQ : ∀ c a d v w, Q (.panic c) (a.put d v) w → Q (.panic c) a w) (n : Nat) (hn : natOk .any ops n F = true) (hk : n + F = s) (hr : Region.ready .any ops (tf s s) = [])
    (h : wpList P l.toArray Q (l.drop n) a w) : wpAny P .any l.toArray Q F (tf n s) a w := by
  subst he hl
  have h0 := any_seq (K := fun a w => Q .normal a w) (fuel := 0) hs hQ F n a w hn (by omega) (by rw [QK_self, List.take_of_length_le (by simp; omega)]; exact h) (fun a w q => by rw [hk]; exact wpAny_done hr q 0)
  rwa [Nat.zero_add] at h0
/-- One alone may come up. -/
theorem one_seq {i : Nat} {o : Oper} {listed : Array Bool} (he : l.toArray = ops) (listed' : Array Bool) (hr : Region.ready .any ops listed = [i]) (ho : l.toArray[i]? = some o) (hl : listed.setIfInBounds i true = listed')
    (h : wpList P l.toArray (QK Q (fun a w => wpAny P .any l.toArray Q f listed' a w)) [o] a w) : wpAny P .any l.toArray Q (f + 1) listed a w := by
  subst he
  exact any_one_list hr ho hl h
/-- Two may come up. -/
theorem two_seq {i j : Nat} {oi oj : Oper} {listed : Array Bool} (he : l.toArray = ops) (li lj : Array Bool) (hr : Region.ready .any ops listed = [i, j]) (hoi : l.toArray[i]? = some oi) (hoj : l.toArray[j]? = some oj) (hli : listed.setIfInBounds i true = li) (hlj : listed.setIfInBounds j true = lj)
    (h1 : wpList P l.toArray (QK Q (fun a w => wpAny P .any l.toArray Q f li a w)) [oi] a w) (h2 : wpList P l.toArray (QK Q (fun a w => wpAny P .any l.toArray Q f lj a w)) [oj] a w) : wpAny P .any l.toArray Q (f + 1) listed a w := by
  subst he
  exact any_two_list hr hoi hoj hli hlj h1 h2
theorem wpOp_ok {i : Nat} {o : Oper} {v : Value} {K' : Act → World → Prop} (ho : ops[i]? = some o) (hw : Region.wanted o (yielded ops a.tmps) = true) (hv : (execOp a.eval o).run P w = .ok (.value v) w) (h : K' (a.put o.dst v) w) : wpOp P ops Q i K' a w := by
  unfold wpOp
  simp only [ho]
  simp only [hw, if_true, Oper.wp, hv, Oper.upon]
  exact .inl h
/-- Two that read may come up: their order is all one. -/
theorem pair_seq {i j : Nat} {oi oj : Oper} {listed : Array Bool} {v u : Value} (he : l.toArray = ops) (listed' : Array Bool) (hs : Region.noSelect ops = true) (hr : Region.ready .any ops listed = [i, j]) (hri : Region.ready .any ops (listed.setIfInBounds i true) = [j]) (hrj : Region.ready .any ops (listed.setIfInBounds j true) = [i])
    (hoi : l.toArray[i]? = some oi) (hoj : l.toArray[j]? = some oj) (hap : oi.apart l.toArray oj = true) (hl : (listed.setIfInBounds i true).setIfInBounds j true = listed') (hl2 : (listed.setIfInBounds j true).setIfInBounds i true = listed')
    (hwi : Region.wanted oi (yielded l.toArray a.tmps) = true) (hwj : Region.wanted oj (yielded l.toArray a.tmps) = true) (hvi : (execOp a.eval oi).run P w = .ok (.value v) w) (hvj : (execOp a.eval oj).run P w = .ok (.value u) w)
    (h : wpAny P .any l.toArray Q f listed' ((a.put oi.dst v).put oj.dst u) w) : wpAny P .any l.toArray Q (f + 2) listed a w := by
  subst he
  obtain ⟨p1, p2, p3⟩ := Oper.apart_spec hap
  have si := Region.noSelect_spec hs i oi
  have sj := Region.noSelect_spec hs j oj
  refine wpAny_all hr (by simp) (fun k hk => ?_)
  rcases List.mem_cons.1 hk with rfl | hk
  · refine wpOp_ok hoi hwi hvi ?_
    refine wpAny_all hri (by simp) (fun m hm => ?_)
    obtain rfl : m = j := by simpa using hm
    refine wpOp_ok hoj (by rw [wanted_put oj a oi.dst v p1]; exact hwj) (by rw [execOp_put oj (fun cs b => sj cs b hoj) a oi.dst v p1]; exact hvj) ?_
    rw [hl]; exact h
  · obtain rfl : k = j := by simpa using hk
    refine wpOp_ok hoj hwj hvj ?_
    refine wpAny_all hrj (by simp) (fun m hm => ?_)
    obtain rfl : m = i := by simpa using hm
    refine wpOp_ok hoi (by rw [wanted_put oi a oj.dst u p3]; exact hwi) (by rw [execOp_put oi (fun cs b => si cs b hoi) a oj.dst u p3]; exact hvi) ?_
    rw [hl2, ← Act.put_comm a v u p2]; exact h
theorem qk_normal (h : K a w) : QK Q K .normal a w := h
end
/-- A region of a function's code, by its number. -/
def findReg (n : Nat) : Code → Option Code
  | .region id ops b => if id = n then some (.region id ops b) else none
  | .seq a b => match findReg n a with
    | some c => some c
    | none => findReg n b
  | .block _ c => findReg n c
  | .loop c => findReg n c
  | .scope c => findReg n c
  | .cond _ a b => match findReg n a with
    | some c => some c
    | none => findReg n b
  | _ => none
def rgOps (n : Nat) (o : Option Code) : Array Oper := match o.bind (findReg n) with
  | some (.region _ ops _) => ops
  | _ => #[]
end Go.Proofs.Ytmhojaiajhdlcaa
namespace Go.Proofs.Ytmhojaiajhdlcaa
set_option linter.unusedVariables false
/-- What stands behind a region that is a statement by itself, wherever it stands. -/
def restAt (n : Nat) : Code → Option Code
  | .seq a b => match a with
    | .region id ops m => if id = n then some b else restAt n b
    | _ => match restAt n a with
      | some c => some c
      | none => restAt n b
  | .block _ c => restAt n c
  | .loop c => restAt n c
  | .scope c => restAt n c
  | .cond _ a b => match restAt n a with
    | some c => some c
    | none => restAt n b
  | _ => none
def regAtOf (n : Nat) (o : Option Code) : Code := (o.bind (findReg n)).getD .skip
def restAtOf (n : Nat) (o : Option Code) : Code := (o.bind (restAt n)).getD .skip
end Go.Proofs.Ytmhojaiajhdlcaa
namespace Go.Proofs.Ytmhojaiajhdlcaa
open Go.RowKit
set_option linter.unusedSimpArgs false
set_option linter.unusedVariables false
noncomputable def regS9 : Code := regAtOf 9 Try.f6.body
noncomputable def restS9 : Code := restAtOf 9 Try.f6.body
set_option maxRecDepth 100000 in
set_option maxHeartbeats 8000000 in
theorem sm9 {w W : World} {gd gj k n : Nat} {t : JS} {s : DS} {l1 : List Int} {a1 : Option Addr} {c1 : Nat} {x0 x2 x3 x4 x7 x10 x11 x12 x13 x14 x15 x16 x17 x18 x19 x20 x21 x22 x23 x24 x25 x26 x27 x28 x29 x30 x31 x32 x33 x34 x35 x36 x37 x38 x39 x40 x41 x42 x43 x44 x45 x46 x47 x48 x49 x50 x51 x52 x53 x54 x55 x56 x57 x58 x59 x60 x61 x62 x63 x64 x65 x66 x67 x68 x69 x70 x71 x72 x73 x74 x75 x76 x77 x78 x79 x80 x81 : Value} {Q : Exit → Act → World → Prop} (hJ : JP w W gd gj t s) (hSM : SmI k t s) (hk : k ≤ 25) (hn : n ≤ 60000) (h1 : Rd iv w (.slice a1 l1.length c1) l1) (hg1 : ∀ x ∈ l1, I64 x)
    (hQ : ∀ (y4 y10 y11 y12 y40 y41 y42 y43 y44 y45 y46 y47 y48 y49 y50 y51 y52 y53 y54 y55 y56 y57 y58 y59 y60 y61 y62 y63 y64 y65 y66 y67 y68 y69 y70 y71 y72 y73 y74 y75 y76 y77 y78 y79 y80 : Value) (t9 : JS) (s9 : DS) (w' : World), JP w w' gd gj t9 s9 ∧ SmI (k + 1) t9 s9 → Q .normal ⟨#[x0, .slice a1 l1.length c1, x2, x3, y4, .pointer (some ⟨gd, 0, none⟩), .pointer (some ⟨gj, 0, none⟩), x7, .int .i64 (k : Int), .int .i64 (n : Int), y10, y11, y12, x13, x14, x15, x16, x17, x18, x19, x20, x21, x22, x23, x24, x25, x26, x27, x28, x29, x30, x31, x32, x33, x34, x35, x36, x37, x38, x39, y40, y41, y42, y43, y44, y45, y46, y47, y48, y49, y50, y51, y52, y53, y54, y55, y56, y57, y58, y59, y60, y61, y62, y63, y64, y65, y66, y67, y68, y69, y70, y71, y72, y73, y74, y75, y76, y77, y78, y79, y80, x81], []⟩ w') {K : Act → World → Prop} (hK : ∀ a w, Code.wp Try.prog restS9 Q a w → K a w) : Code.wp Try.prog regS9 (Exit.then K Q) ⟨#[x0, .slice a1 l1.length c1, x2, x3, x4, .pointer (some ⟨gd, 0, none⟩), .pointer (some ⟨gj, 0, none⟩), x7, .int .i64 (k : Int), .int .i64 (n : Int), x10, x11, x12, x13, x14, x15, x16, x17, x18, x19, x20, x21, x22, x23, x24, x25, x26, x27, x28, x29, x30, x31, x32, x33, x34, x35, x36, x37, x38, x39, x40, x41, x42, x43, x44, x45, x46, x47, x48, x49, x50, x51, x52, x53, x54, x55, x56, x57, x58, x59, x60, x61, x62, x63, x64, x65, x66, x67, x68, x69, x70, x71, x72, x73, x74, x75, x76, x77, x78, x79, x80, x81], []⟩ W := by
  conv => arg 2; whnf
  change ∀ a w, Code.wp _ (Code.seq _ _) Q a w → K a w at hK
  have HQ := Lib.hid hQ
  clear hQ
  obtain ⟨a9, c9, he9, hlc1, hcm1, hcell1⟩ := h1
  injection he9 with e1 e2 e3
  subst e1; subst e3
  have hm1 : l1.length ≤ 9223372036854775807 := by unfold maxLen at hcm1; omega
  have q0 : (0 : Int) ≤ k := by omega
  by_cases hl : k < l1.length
  · obtain ⟨b, off, rfl, hc⟩ := hcell1 (by intro h; simp [h] at hl)
    have hy := hg1 (nth l1 k) (by rw [nth_get _ _ hl]; exact List.getElem_mem _)
    have c0 := hJ.old.cell (hc k hl) (by simp)
    generalize nth l1 k = y at *
    obtain ⟨m, hwm, hm⟩ := within_nat y 5
    have HM : Hid (within y 0 5 = (m : Int)) := hwm
    have HY : Hid (-9223372036854775808 ≤ y ∧ y ≤ 9223372036854775807) := hy
    have q4 : (k : Int) < l1.length := by omega
    clear hc hcell1 hwm hy hlc1 hcm1 hg1 hl e2
    go_wp2_with fail
    (with_reducible refine (within_any y 0 5 W HY.out (by omega) (by omega) (by omega)).mono ?_)
    rw [HM.out]
    rintro e w9 ⟨rfl, rfl⟩
    go_upto_region 12 with fail
    obtain ⟨s', hset, hsm'⟩ := hSM.step (m : Int) (zs n) ⟨by omega, by omega⟩ (by rw [zs_size]; exact hn)
    obtain ⟨t', ht'⟩ : ∃ t', jAll t [((m : Int), zs n)] = t' := ⟨_, rfl⟩
    rw [ht'] at hset hsm'
    obtain ⟨zf, hz1, hz2, hz3, hz4⟩ := make_zero n (n : Int) rfl (by omega)
    obtain ⟨Z, hZ⟩ : ∃ Z, zs n = Z := ⟨_, rfl⟩
    rw [hZ] at hset hz4
    have HIZ : Hid (∀ c ∈ [((m : Int), Z)], I64 c.1 ∧ c.2.size ≤ 1000000) := fun c hc => by
      rw [List.mem_singleton.1 hc]
      exact ⟨i64_mk (by dsimp only; omega) (by dsimp only; omega), by show Z.size ≤ 1000000; rw [← hZ, zs_size]; omega⟩
    have HZ2 := Lib.hid hz2
    have HSET := Lib.hid hset
    have HST := Lib.hid hSM.st
    have HSM := Lib.hid hsm'
    have HJ := Lib.hid hJ
    have HK : Hid (12000000 * k ≤ 470000000) := by unfold Hid; omega
    obtain ⟨z, hz⟩ : ∃ z, jLen s' nmJ + jLen s' nmN = z := ⟨_, rfl⟩
    have HSZ := Lib.hid hz
    have HZL : Hid (z ≤ 262144 ∨ z ≤ allOf t' 6) := by
      have h1 := hsm'.small
      have h2 : jLen s' nmN = 0 := by unfold jLen; rw [hsm'.inv.n]; rfl
      have h3 : jLen s' nmJ = (dGet s'.now nmJ).1.length := rfl
      unfold Hid
      omega
    have HTOT : Hid (dTotal s'.now = z) := by unfold Hid; rw [hsm'.st.tot, ← hz]; rfl
    have HALL : Hid (∀ n, allOf t' n ≤ 60040 * n) := allOf_le hsm'.six
    clear hset hsm' hz hz2 hz3 hJ hSM ht' hZ
    go_wp2_with fail
    have H15 := Lib.hid (HJ.out.upd0 (HZ2.out W))
    (with_reducible refine (jpSet (w1 := (zf W).alloc (.cells #[.int .i64 (m : Int), .string Z] 57)) H15.out ((Upd.refl [] (zf W)).alloc _) _ [((m : Int), Z)] (ch_one _ rfl rfl) (fun x hx => by simp [blk] at hx; omega) HIZ.out HST.out HK.out HSET.out).mono ?_)
    rintro e w3 ⟨rfl, h3⟩
    have H3 := Lib.hid h3
    clear h3 H15 HJ hz1 hz4
    go_wp2_with fail
    go_loopw [11, 12] (fun va vk wr => ∃ (j : Nat), j ≤ 6 ∧ va = .int .i64 (allOf t' j : Int) ∧ vk = .int .i64 (j : Int) ∧ Hid (JP w wr gd gj t' s')) (fun va vk _ => 6 - (intOf vk).toNat)
    case atStart => exact ⟨0, by omega, rfl, rfl, H3⟩
    case round =>
      clear H3
      obtain ⟨j, hj6, rfl, rfl, hj⟩ := hrel
      by_cases hlt : j < 6
      · have q1 : (j : Int) ≤ 5 := by omega
        obtain ⟨y, hy⟩ : ∃ y, jGet t' (j : Int) = y := ⟨_, rfl⟩
        have HY := Lib.hid hy
        have HNX : Hid (allOf t' (j + 1) = allOf t' j + y.size + 40) := by unfold Hid; rw [← hy]; rfl
        have hb1 := HALL.out (j + 1)
        have hb0 := HALL.out j
        rw [HNX.out] at hb1
        obtain ⟨A, hA⟩ : ∃ A, allOf t' j = A := ⟨_, rfl⟩
        rw [hA] at HNX hb1 hb0
        have HAA : Hid (allOf t' (j + 1) = A + y.size + 40) := HNX.out
        rw [hA]
        have hw1 : IntKind.i64.wrap ((A : Int) + (y.size : Int)) = (A : Int) + y.size := by rw [IntKind.wrap_i64]; omega
        have hw2 : IntKind.i64.wrap ((A : Int) + (y.size : Int) + 40) = (A : Int) + y.size + 40 := by rw [IntKind.wrap_i64]; omega
        clear hy hA HNX
        go_wp2_with fail
        (with_reducible refine (jpGet hj.out (j : Int) (i64_mk (by omega) (by omega)) HY.out).mono ?_)
        rintro e w4 ⟨rfl, hu4⟩
        have H4 := Lib.hid (hj.out.upd0 hu4)
        clear hu4 hj
        go_wp2_with fail
        go_roundw
        case rel => exact ⟨j + 1, by omega, by rw [HAA.out]; first | rfl | (congr 1) | go_num, by go_num, H4⟩
        case measure => simp [intOf]; omega
      · obtain rfl : j = 6 := by omega
        have q1 : ¬ ((6 : Nat) : Int) ≤ 5 := by omega
        have hb := HALL.out 6
        obtain ⟨A, hA⟩ : ∃ A, allOf t' 6 = A := ⟨_, rfl⟩
        rw [hA] at hb HZL ⊢
        clear hA
        have hz0 := HZL.out
        go_wp2_with fail
        (with_reducible refine (jpSize hj.out HSM.out.st HSZ.out).mono ?_)
        rintro e w4 ⟨rfl, hu4⟩
        have H4 := Lib.hid (hj.out.upd0 hu4)
        clear hu4 hj
        by_cases hmx : (262144 : Int) < A
        · have q2 : ¬ (A : Int) < z := by omega
          have q3 : ¬ (A : Int) < 262144 := by omega
          have x1 : ((z : Int) != (z : Int)) = false := by simp
          go_wp2_with fail
          (with_reducible refine (jpTotal H4.out HSM.out.st HTOT.out).mono ?_)
          rintro e w5 ⟨rfl, hu5⟩
          have H5 := Lib.hid (H4.out.upd0 hu5)
          clear hu5
          go_wp2_with fail
          (with_reducible refine (jpSize H5.out HSM.out.st HSZ.out).mono ?_)
          rintro e w6 ⟨rfl, hu6⟩
          have H6 := Lib.hid (H5.out.upd0 hu6)
          clear hu6
          go_wp2_with fail
          exact HQ.out _ _ _ _ _ _ _ _ _ _ _ _ _ _ _ _ _ _ _ _ _ _ _ _ _ _ _ _ _ _ _ _ _ _ _ _ _ _ _ _ _ _ _ _ _ t' s' _ ⟨H6.out, HSM.out⟩
        · have q2 : ¬ (262144 : Int) < z := by omega
          have q3 : (A : Int) ≤ 262144 := by omega
          have x1 : ((z : Int) != (z : Int)) = false := by simp
          go_wp2_with fail
          (with_reducible refine (jpTotal H4.out HSM.out.st HTOT.out).mono ?_)
          rintro e w5 ⟨rfl, hu5⟩
          have H5 := Lib.hid (H4.out.upd0 hu5)
          clear hu5
          go_wp2_with fail
          (with_reducible refine (jpSize H5.out HSM.out.st HSZ.out).mono ?_)
          rintro e w6 ⟨rfl, hu6⟩
          have H6 := Lib.hid (H5.out.upd0 hu6)
          clear hu6
          go_wp2_with fail
          exact HQ.out _ _ _ _ _ _ _ _ _ _ _ _ _ _ _ _ _ _ _ _ _ _ _ _ _ _ _ _ _ _ _ _ _ _ _ _ _ _ _ _ _ _ _ _ _ t' s' _ ⟨H6.out, HSM.out⟩
  · have q4 : ¬ (k : Int) < l1.length := by omega
    clear hcell1 hlc1 hcm1 hg1 hl e2
    go_upto_region 12 with fail
    obtain ⟨s', hset, hsm'⟩ := hSM.step (0 : Int) (zs n) ⟨by omega, by omega⟩ (by rw [zs_size]; exact hn)
    obtain ⟨t', ht'⟩ : ∃ t', jAll t [((0 : Int), zs n)] = t' := ⟨_, rfl⟩
    rw [ht'] at hset hsm'
    obtain ⟨zf, hz1, hz2, hz3, hz4⟩ := make_zero n (n : Int) rfl (by omega)
    obtain ⟨Z, hZ⟩ : ∃ Z, zs n = Z := ⟨_, rfl⟩
    rw [hZ] at hset hz4
    have HIZ : Hid (∀ c ∈ [((0 : Int), Z)], I64 c.1 ∧ c.2.size ≤ 1000000) := fun c hc => by
      rw [List.mem_singleton.1 hc]
      exact ⟨i64_mk (by dsimp only; omega) (by dsimp only; omega), by show Z.size ≤ 1000000; rw [← hZ, zs_size]; omega⟩
    have HZ2 := Lib.hid hz2
    have HSET := Lib.hid hset
    have HST := Lib.hid hSM.st
    have HSM := Lib.hid hsm'
    have HJ := Lib.hid hJ
    have HK : Hid (12000000 * k ≤ 470000000) := by unfold Hid; omega
    obtain ⟨z, hz⟩ : ∃ z, jLen s' nmJ + jLen s' nmN = z := ⟨_, rfl⟩
    have HSZ := Lib.hid hz
    have HZL : Hid (z ≤ 262144 ∨ z ≤ allOf t' 6) := by
      have h1 := hsm'.small
      have h2 : jLen s' nmN = 0 := by unfold jLen; rw [hsm'.inv.n]; rfl
      have h3 : jLen s' nmJ = (dGet s'.now nmJ).1.length := rfl
      unfold Hid
      omega
    have HTOT : Hid (dTotal s'.now = z) := by unfold Hid; rw [hsm'.st.tot, ← hz]; rfl
    have HALL : Hid (∀ n, allOf t' n ≤ 60040 * n) := allOf_le hsm'.six
    clear hset hsm' hz hz2 hz3 hJ hSM ht' hZ
    go_wp2_with fail
    have H15 := Lib.hid (HJ.out.upd0 (HZ2.out W))
    (with_reducible refine (jpSet (w1 := (zf W).alloc (.cells #[.int .i64 (0 : Int), .string Z] 57)) H15.out ((Upd.refl [] (zf W)).alloc _) _ [((0 : Int), Z)] (ch_one _ rfl rfl) (fun x hx => by simp [blk] at hx; omega) HIZ.out HST.out HK.out HSET.out).mono ?_)
    rintro e w3 ⟨rfl, h3⟩
    have H3 := Lib.hid h3
    clear h3 H15 HJ hz1 hz4
    go_wp2_with fail
    go_loopw [11, 12] (fun va vk wr => ∃ (j : Nat), j ≤ 6 ∧ va = .int .i64 (allOf t' j : Int) ∧ vk = .int .i64 (j : Int) ∧ Hid (JP w wr gd gj t' s')) (fun va vk _ => 6 - (intOf vk).toNat)
    case atStart => exact ⟨0, by omega, rfl, rfl, H3⟩
    case round =>
      clear H3
      obtain ⟨j, hj6, rfl, rfl, hj⟩ := hrel
      by_cases hlt : j < 6
      · have q1 : (j : Int) ≤ 5 := by omega
        obtain ⟨y, hy⟩ : ∃ y, jGet t' (j : Int) = y := ⟨_, rfl⟩
        have HY := Lib.hid hy
        have HNX : Hid (allOf t' (j + 1) = allOf t' j + y.size + 40) := by unfold Hid; rw [← hy]; rfl
        have hb1 := HALL.out (j + 1)
        have hb0 := HALL.out j
        rw [HNX.out] at hb1
        obtain ⟨A, hA⟩ : ∃ A, allOf t' j = A := ⟨_, rfl⟩
        rw [hA] at HNX hb1 hb0
        have HAA : Hid (allOf t' (j + 1) = A + y.size + 40) := HNX.out
        rw [hA]
        have hw1 : IntKind.i64.wrap ((A : Int) + (y.size : Int)) = (A : Int) + y.size := by rw [IntKind.wrap_i64]; omega
        have hw2 : IntKind.i64.wrap ((A : Int) + (y.size : Int) + 40) = (A : Int) + y.size + 40 := by rw [IntKind.wrap_i64]; omega
        clear hy hA HNX
        go_wp2_with fail
        (with_reducible refine (jpGet hj.out (j : Int) (i64_mk (by omega) (by omega)) HY.out).mono ?_)
        rintro e w4 ⟨rfl, hu4⟩
        have H4 := Lib.hid (hj.out.upd0 hu4)
        clear hu4 hj
        go_wp2_with fail
        go_roundw
        case rel => exact ⟨j + 1, by omega, by rw [HAA.out]; first | rfl | (congr 1) | go_num, by go_num, H4⟩
        case measure => simp [intOf]; omega
      · obtain rfl : j = 6 := by omega
        have q1 : ¬ ((6 : Nat) : Int) ≤ 5 := by omega
        have hb := HALL.out 6
        obtain ⟨A, hA⟩ : ∃ A, allOf t' 6 = A := ⟨_, rfl⟩
        rw [hA] at hb HZL ⊢
        clear hA
        have hz0 := HZL.out
        go_wp2_with fail
        (with_reducible refine (jpSize hj.out HSM.out.st HSZ.out).mono ?_)
        rintro e w4 ⟨rfl, hu4⟩
        have H4 := Lib.hid (hj.out.upd0 hu4)
        clear hu4 hj
        by_cases hmx : (262144 : Int) < A
        · have q2 : ¬ (A : Int) < z := by omega
          have q3 : ¬ (A : Int) < 262144 := by omega
          have x1 : ((z : Int) != (z : Int)) = false := by simp
          go_wp2_with fail
          (with_reducible refine (jpTotal H4.out HSM.out.st HTOT.out).mono ?_)
          rintro e w5 ⟨rfl, hu5⟩
          have H5 := Lib.hid (H4.out.upd0 hu5)
          clear hu5
          go_wp2_with fail
          (with_reducible refine (jpSize H5.out HSM.out.st HSZ.out).mono ?_)
          rintro e w6 ⟨rfl, hu6⟩
          have H6 := Lib.hid (H5.out.upd0 hu6)
          clear hu6
          go_wp2_with fail
          exact HQ.out _ _ _ _ _ _ _ _ _ _ _ _ _ _ _ _ _ _ _ _ _ _ _ _ _ _ _ _ _ _ _ _ _ _ _ _ _ _ _ _ _ _ _ _ _ t' s' _ ⟨H6.out, HSM.out⟩
        · have q2 : ¬ (262144 : Int) < z := by omega
          have q3 : (A : Int) ≤ 262144 := by omega
          have x1 : ((z : Int) != (z : Int)) = false := by simp
          go_wp2_with fail
          (with_reducible refine (jpTotal H4.out HSM.out.st HTOT.out).mono ?_)
          rintro e w5 ⟨rfl, hu5⟩
          have H5 := Lib.hid (H4.out.upd0 hu5)
          clear hu5
          go_wp2_with fail
          (with_reducible refine (jpSize H5.out HSM.out.st HSZ.out).mono ?_)
          rintro e w6 ⟨rfl, hu6⟩
          have H6 := Lib.hid (H5.out.upd0 hu6)
          clear hu6
          go_wp2_with fail
          exact HQ.out _ _ _ _ _ _ _ _ _ _ _ _ _ _ _ _ _ _ _ _ _ _ _ _ _ _ _ _ _ _ _ _ _ _ _ _ _ _ _ _ _ _ _ _ _ t' s' _ ⟨H6.out, HSM.out⟩
end Go.Proofs.Ytmhojaiajhdlcaa
namespace Go.Proofs.Ytmhojaiajhdlcaa
open Go.RowKit
set_option linter.unusedSimpArgs false
set_option linter.unusedVariables false
set_option maxRecDepth 100000 in
set_option maxHeartbeats 8000000 in
theorem journalSmall_any (w : World) (v0 : Value) (l0 : List Int) (h0 : Rd iv w v0 l0) (g0 : ∀ x ∈ l0, I64 x) (z0 : l0.length * 8 ≤ 140737488351232) (v1 : Value) (l1 : List Int) (h1 : Rd iv w v1 l1) (g1 : ∀ x ∈ l1, I64 x) (z1 : l1.length * 8 ≤ 140737488351232) :
    Calls Try.prog 6 #[v0, v1] w fun e w' => e = .returned (.bool true) ∧ Upd [] w w' := by
  obtain ⟨a0, c0, rfl, hlc0, hcm0, hcell0⟩ := h0
  have HL1 := Lib.hid h1
  obtain ⟨a1, c1, rfl, -⟩ := h1
  have hm0 : l0.length ≤ 9223372036854775807 := by unfold maxLen at hcm0; omega
  have HC0 := Lib.hid hcell0
  have HG0 := Lib.hid g0
  have HG1 := Lib.hid g1
  clear hlc0 hcm0 hcell0 g0 g1
  go_enter Try.func6, Try.ntmps6
  go_wp2_with fail
  (with_reducible refine (dNew_any w w (Upd.refl [] w)).mono ?_)
  rintro e w1 ⟨gd, G1, rfl, h1, hu1, hf1⟩
  have H1 := Lib.hid h1
  clear h1 hu1 hf1
  go_wp2_with fail
  (with_reducible refine (jpStart G1 H1.out).mono ?_)
  rintro e w2 ⟨gj, rfl, h2⟩
  have H2 := Lib.hid h2
  clear h2 H1
  go_wp2_with fail
  go_loopw [8] (fun vi wr => ∃ (k : Nat) (t : JS) (s : DS), k ≤ 25 ∧ k ≤ l0.length ∧ vi = .int .i64 k ∧ Hid (JP w wr gd gj t s) ∧ Hid (SmI k t s)) (fun vi _ => 25 - (intOf vi).toNat)
  case atStart => exact ⟨0, [], _, by omega, by omega, rfl, H2, SmI.zero⟩
  case round =>
    clear H2
    obtain ⟨k, t, s, hk, hkl, rfl, hj, hsm⟩ := hrel
    have hend : (k < l0.length ∧ k < 25) ∨ (k = l0.length ∧ Hid (k ≤ 25)) ∨ (k = 25 ∧ k < l0.length) := by unfold Hid; omega
    rcases hend with ⟨hlt, h40⟩ | hend
    · obtain ⟨lb, loff, rfl, hca⟩ := HC0.out (by intro h; simp [h] at hlt)
      have q1 : (k : Int) < l0.length := by omega
      have q2 : (k : Int) < 25 := by omega
      have q3 : (0 : Int) ≤ k := by omega
      have hold := hj.out.old
      have d0 : wr.cell? ⟨lb, loff + k, none⟩ = some (iv (nth l0 k)) := hold.cell (hca k hlt) (by simp)
      have hgx := HG0.out (nth l0 k) (by rw [nth_get _ _ hlt]; exact List.getElem_mem _)
      generalize nth l0 k = x at *
      obtain ⟨n, hn, hnl⟩ := within_nat x 60000
      have HN : Hid (within x 0 60000 = (n : Int)) := hn
      have HX : Hid (-9223372036854775808 ≤ x ∧ x ≤ 9223372036854775807) := hgx
      clear hca hgx hn hold
      go_wp2_with fail
      (with_reducible refine (within_any x 0 60000 wr HX.out (by omega) (by omega) (by omega)).mono ?_)
      rw [HN.out]
      rintro e w3 ⟨rfl, rfl⟩
      go_upto_region 9 with fail
      refine sm9 hj.out hsm.out hk hnl HL1.out HG1.out (fun _ _ _ _ _ _ _ _ _ _ _ _ _ _ _ _ _ _ _ _ _ _ _ _ _ _ _ _ _ _ _ _ _ _ _ _ _ _ _ _ _ _ _ _ _ t9 s9 w9 h => ?_) (by assumption)
      have HJ := Lib.hid h.1
      have HS := Lib.hid h.2
      clear h hj hsm
      go_wp2_with fail
      go_roundw
      case rel => exact ⟨k + 1, t9, s9, by omega, by omega, by go_num, HJ, HS⟩
      case measure => simp [intOf]; omega
    · have HO := Lib.hid hj.out.old
      clear hj hsm HC0 HG0 HG1 HL1
      rcases hend with ⟨hke, h40⟩ | ⟨hke, hkn⟩
      · have q1 : ¬ (k : Int) < l0.length := by omega
        clear h40
        go_wp2_with fail
        (with_reducible refine (journalRuns_any _).mono ?_)
        rintro e w15 ⟨rfl, hu15⟩
        have HU := Lib.hid (HO.out.seq hu15)
        clear hu15
        go_wp2_with fail
        go_ret
        exact ⟨rfl, HU.out⟩
      · have q1 : (k : Int) < l0.length := by omega
        have q2 : ¬ (k : Int) < 25 := by omega
        go_wp2_with fail
        (with_reducible refine (journalRuns_any _).mono ?_)
        rintro e w15 ⟨rfl, hu15⟩
        have HU := Lib.hid (HO.out.seq hu15)
        clear hu15
        go_wp2_with fail
        go_ret
        exact ⟨rfl, HU.out⟩
end Go.Proofs.Ytmhojaiajhdlcaa
namespace Go.Proofs.Ytmhojaiajhdlcaa.lJournalSmall
open Go.ChangeShapes Go.WideShapes Go.ChangeAt Go.RowKit Go.Deep
open Go.ChangeMaps (open_string shut_string)
set_option linter.unusedSimpArgs false
set_option linter.unusedVariables false
theorem own : ownKnob Try.prog.godebug = none := by kernel_rfl
theorem laidOut : laidOutB Try.prog = true := by kernel_rfl
theorem cells_nums : Try.checked.prog.cellsOf 3 = 1 := by kernel_rfl
theorem size_nums : Try.checked.prog.bytesOf 3 = 8 := by kernel_rfl
set_option maxRecDepth 100000 in
theorem walk (H : Type) (enc : TypeId × Value → H) : LawCalls Try.prog 6 Try.f6 H enc (fun ds => True) := by
  intro W base args ds ps hval hA hsz hk
  rw [Try.params6] at hA hval hsz
  obtain ⟨v0, vs0, d0, ds0, p0, q0, hargs, rfl, rfl, h0, r0⟩ := trodAll_cons hA
  obtain ⟨v1, vs1, d1, ds1, p1, q1, rfl, rfl, rfl, h1, r1⟩ := trodAll_cons r0
  obtain ⟨rfl, rfl, rfl⟩ := trodAll_nil r1
  obtain rfl : args = #[v0, v1] := by cases args; simp_all
  obtain ⟨l0, w0, g0, z0, u0⟩ := open_nums Try.underlying48 Try.underlying3 cells_nums size_nums (hval 0 _ v0 rfl rfl) h0
  have z0 := z0 _ _ 0 hsz rfl rfl
  obtain ⟨l1, w1, g1, z1, u1⟩ := open_nums Try.underlying48 Try.underlying3 cells_nums size_nums (hval 1 _ v1 rfl rfl) h1
  have z1 := z1 _ _ 1 hsz rfl rfl
  exact journalSmall_any W v0 l0 w0 g0 z0 v1 l1 w1 g1 z1
set_option maxRecDepth 100000 in
theorem lifted (os : Os) (started : os.Started) (H : Type) (enc : TypeId × Value → H) :
    ReturnsInHanded {} Try.checked os 6 .any (Rows.journalSmallSpec.pre6 enc Try.prog Try.f6 Rows.journalSmallRow.domain false) (Rows.journalSmallSpec.post enc Try.prog Try.f6 false true false false) :=
  law_said (C := Try.checked) own started (by kernel_rfl) Try.func6
    (ChangeSpec.witness6 (enc := enc) (C := Try.checked) false ⟨#[], #[.slice none 0 0, .slice none 0 0], []⟩ 8 (by kernel_rfl) (by kernel_rfl) (by kernel_rfl) (by kernel_rfl))
    laidOut (by rw [Try.params6]; intro t ht; simp only [List.mem_cons, List.not_mem_nil, or_false] at ht; rcases ht with rfl | rfl <;> exact ⟨by kernel_rfl, of_decide_eq_true (by kernel_rfl)⟩) rfl 4 (by kernel_rfl) Try.underlying4 (by intro ds h; match ds, h with | [d0, d1], _ => exact ⟨rfl, rfl, rfl⟩) (walk H enc)
theorem proved : Rows.JournalSmallSaid :=
  OpenClaim.holds_of_wide 6 Try.f6 rfl rfl rfl rfl rfl rfl rfl ⟨rfl, rfl, rfl, rfl, rfl⟩ rfl rfl rfl rfl rfl (by kernel_rfl) Try.func6 (by kernel_rfl)
    (of_decide_eq_true (by kernel_rfl)) (by unfold Func.isWrapper; rw [if_neg (of_decide_eq_false (by kernel_rfl))]; exact ⟨rfl, rfl⟩)
    (fun os started H enc _ => lifted os started H enc)
end Go.Proofs.Ytmhojaiajhdlcaa.lJournalSmall
