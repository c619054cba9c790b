/- JournalCuts: the law returns true, whatever it is given. -/
import Derived.Test.YtmhojaiajhdlcaaMj8
import Derived.Test.YtmhojaiajhdlcaaMj1
import Derived.Deep.RegionHeld3
import Derived.RegionTactic
import Derived.Deep.CutBlock
import Derived.Deep.DeepCutAuto
import Derived.Test.YtmhojaiajhdlcaaMj2
import Derived.Deep.Fields
import Derived.ChangeSame
import Derived.OpenShut
import Derived.Test.YtmhojaiajhdlcaaMj3
namespace Go.Proofs.Ytmhojaiajhdlcaa
open Go.RowKit
set_option linter.unusedSimpArgs false
set_option linter.unusedVariables false
theorem within_nat (cut : Int) (m : Nat) : ∃ n : Nat, within cut 0 (m : Int) = (n : Int) ∧ n ≤ m := by
  have hp : 0 < (m : Int) - 0 + 1 := by omega
  have h1 := Int.emod_nonneg cut (b := (m : Int) - 0 + 1) (by omega)
  have h2 := Int.emod_lt_of_pos cut hp
  obtain ⟨n, hn⟩ := Int.eq_ofNat_of_zero_le h1
  refine ⟨n, ?_, by omega⟩
  unfold within
  rw [hn]; omega
/-- What the slots below n have, and forty for each. -/
def allOf (t : JS) : Nat → Nat
  | 0 => 0
  | n + 1 => allOf t n + (jGet t (n : Int)).size + 40
def rowsOf (t : JS) : Nat := (t.map fun p => p.2.size + 40).sum
theorem rowsOf_app (a b : JS) : rowsOf (a ++ b) = rowsOf a + rowsOf b := by unfold rowsOf; rw [List.map_append, List.sum_append]
theorem below_next {t : JS} (hr : Rising ltI t) (n : Int) : below ltI t (n + 1) = below ltI t n + (if isIn ltI t n then 1 else 0) := by
  have hle := below_le (lt := ltI) t n
  have hin : isIn ltI t n = true → below ltI t n < t.length ∧ (nth t (below ltI t n)).1 = n := fun h => by unfold isIn at h; exact of_decide_eq_true h
  refine below_eq _ _ _ ?_ (fun j hj => ?_) (fun h => ?_)
  · cases h : isIn ltI t n with
    | true => have := (hin h).1; simp; omega
    | false => simp; exact hle
  · by_cases hj2 : j < below ltI t n
    · have h1 := below_lt (lt := ltI) t n j hj2
      have h2 : (nth t j).1 < n := of_decide_eq_true h1
      exact decide_eq_true (by omega)
    · cases h : isIn ltI t n with
      | true =>
        rw [h] at hj
        have hj3 : j = below ltI t n := by simp at hj; omega
        rw [hj3, (hin h).2]
        exact decide_eq_true (by omega)
      | false => rw [h] at hj; simp at hj; omega
  · have h1 := above intOrd hr n _ (Nat.le_refl _) h
    have h2 : n < (nth t (below ltI t n + if isIn ltI t n = true then 1 else 0)).1 := of_decide_eq_true h1
    exact decide_eq_false (by omega)
theorem rows_below {t : JS} (hr : Rising ltI t) (hk : ∀ p ∈ t, 0 ≤ p.1) : ∀ n : Nat, rowsOf (t.take (below ltI t (n : Int))) ≤ allOf t n
  | 0 => by
    have : below ltI t ((0 : Nat) : Int) = 0 := below_eq _ _ _ (Nat.zero_le _) (fun j hj => by omega) (fun h => by
      have := hk _ (nth_mem 0 h)
      exact decide_eq_false (by omega))
    rw [this]; simp [rowsOf, allOf]
  | n + 1 => by
    have ih := rows_below hr hk n
    rw [show ((n + 1 : Nat) : Int) = (n : Int) + 1 by omega, below_next hr]
    show _ ≤ allOf t n + (jGet t (n : Int)).size + 40
    cases h : isIn ltI t (n : Int) with
    | false => rw [if_neg (by simp), Nat.add_zero]; omega
    | true =>
      rw [if_pos rfl]
      have h2 := h
      unfold isIn at h2
      obtain ⟨h3, h4⟩ := of_decide_eq_true h2
      rw [take_succ_nth _ _ h3, rowsOf_app]
      have hg : jGet t (n : Int) = (nth t (below ltI t (n : Int))).2 := by unfold jGet tGet; rw [h]; rfl
      rw [hg]
      have : rowsOf [nth t (below ltI t (n : Int))] = (nth t (below ltI t (n : Int))).2.size + 40 := by simp [rowsOf]
      omega
/-- Rows of six slots, none too long. -/
structure Six (t : JS) : Prop where
  ris : Rising ltI t
  ks : ∀ p ∈ t, 0 ≤ p.1 ∧ p.1 ≤ 5 ∧ p.2.size ≤ 60000
theorem Six.nil : Six [] := ⟨Rising.nil, by simp⟩
theorem Six.rows {t : JS} (h : Six t) : rowsOf t ≤ allOf t 6 := by
  have h1 := rows_below h.ris (fun p hp => (h.ks p hp).1) 6
  have h2 : below ltI t ((6 : Nat) : Int) = t.length := below_eq _ _ _ (Nat.le_refl _) (fun j hj => by
    have := (h.ks _ (nth_mem j hj)).2.1
    exact decide_eq_true (by omega)) (fun q => absurd q (Nat.lt_irrefl _))
  rw [h2, List.take_length] at h1
  exact h1
theorem six_frame {p : Ch} (h : 0 ≤ p.1 ∧ p.1 ≤ 5 ∧ p.2.size ≤ 60000) : (frameOf (encChs [p])).length ≤ p.2.size + 40 := by
  have h1 := encNum_len 1
  have h2 := nb_le8 1 (by omega)
  have h3 := encNum_len p.1.toNat
  have h4 := nb_le8 p.1.toNat (by omega)
  have h5 := encNum_len p.2.size
  have h6 : nb p.2.size ≤ 2 := by
    rcases Nat.lt_or_ge 2 (nb p.2.size) with q | q
    · have := (nb_lt 2 p.2.size).1 q
      omega
    · exact q
  have h7 := encText_len p.2
  have h8 : (encCh p).length = (encNum p.1.toNat).length + (encText p.2).length := by unfold encCh; rw [List.length_append]
  have h9 : nb 1 = 1 := nb_one 1 (by omega) (by omega)
  have h10 : nb p.1.toNat ≤ 1 := by
    rcases Nat.eq_zero_or_pos p.1.toNat with q | q
    · rw [q, nb_zero]; omega
    · have := nb_one p.1.toNat (by omega) (by omega)
      omega
  rw [frameOf_len, encChs_one, List.length_append]
  omega
theorem jRows_le : ∀ (t : JS), (∀ p ∈ t, 0 ≤ p.1 ∧ p.1 ≤ 5 ∧ p.2.size ≤ 60000) → (jRows t).length ≤ rowsOf t
  | [], _ => by simp [jRows, rowsOf]
  | p :: t, h => by
    have h1 := six_frame (h p (by simp))
    have h2 := jRows_le t (fun q hq => h q (by simp [hq]))
    have e1 : jRows (p :: t) = frameOf (encChs [p]) ++ jRows t := by unfold jRows; rw [List.flatMap_cons]
    have e2 : rowsOf (p :: t) = p.2.size + 40 + rowsOf t := by simp [rowsOf]
    rw [e1, e2, List.length_append]; omega
theorem allOf_le {t : JS} (h : Six t) : ∀ n, allOf t n ≤ 60040 * n
  | 0 => Nat.le_refl _
  | n + 1 => by
    have ih := allOf_le h n
    have : (jGet t (n : Int)).size ≤ 60000 := by
      unfold jGet
      rcases get_cases (lt := ltI) s0 t (n : Int) with ⟨v, hv⟩ | hn
      · rw [hv]; exact (h.ks _ ((get_mem intOrd s0 h.ris _ _).1 hv)).2.2
      · rw [hn]; decide
    show allOf t n + _ + 40 ≤ _
    omega
theorem Six.hold {t : JS} (h : Six t) (k : Int) (d : ByteArray) (hk : 0 ≤ k ∧ k ≤ 5) (hd : d.size ≤ 60000) : Six (jAll t [(k, d)]) := by
  show Six (jHold1 t (k, d))
  unfold jHold1
  split
  · exact ⟨h.ris.del intOrd _, fun p hp => h.ks p ((mem_del intOrd h.ris _ _).1 hp).1⟩
  · refine ⟨h.ris.set_ intOrd _ _, fun p hp => ?_⟩
    rcases (mem_set intOrd h.ris _ _ _).1 hp with rfl | q
    · exact ⟨hk.1, hk.2, hd⟩
    · exact h.ks p q.1
/-- Behind k Sets. -/
structure SmI (k : Nat) (t : JS) (s : DS) : Prop where
  st : St (fun _ => True) (12000000 * k) s
  inv : JInv t s
  six : Six t
  small : (dGet s.now nmJ).1.length ≤ 262144 ∨ (dGet s.now nmJ).1.length ≤ allOf t 6
theorem SmI.zero : SmI 0 [] ⟨[], [], []⟩ := ⟨St.zero trivial, JInv.zero, Six.nil, .inl (Nat.zero_le _)⟩
theorem SmI.step {k : Nat} {t : JS} {s : DS} (h : SmI k t s) (n : Int) (d : ByteArray) (hn : 0 ≤ n ∧ n ≤ 5) (hd : d.size ≤ 60000) : ∃ s', jSet t s [(n, d)] = (0, jAll t [(n, d)], s') ∧ SmI (k + 1) (jAll t [(n, d)]) s' := by
  have hf := six_frame (p := (n, d)) ⟨hn.1, hn.2, hd⟩
  have hfl := frameOf_len (encChs [(n, d)])
  dsimp only at hf
  have hok : ChsOk [(n, d)] := ⟨fun c hc => by rw [List.mem_singleton.1 hc]; exact ⟨hn.1, by show n ≤ 40; omega, by show d.size ≤ 262144; omega⟩, by simp, by simp, by omega⟩
  have S := sets h.st h.inv [(n, d)] (fun _ _ _ => trivial) (fun _ => trivial)
  have h6 := h.six.hold n d hn hd
  have ha := allOf_le h6 6
  have ha0 := allOf_le h.six 6
  have hr := jRows_le _ h6.ks
  have hr2 := h6.rows
  have htot := h.st.tot
  rw [h.inv.n] at htot
  have hsm := h.small
  dsimp only [List.length_nil] at htot
  obtain ⟨e, t', s', he⟩ : ∃ e t2 s2, jSet t s [(n, d)] = (e, t2, s2) := ⟨_, _, _, rfl⟩
  rw [he] at S
  have z : e = 0 := S.fit hok (by omega)
  have y : t' = jAll t [(n, d)] := (S.yes z).1
  subst z
  subst y
  refine ⟨s', he, S.st.more (by omega), S.inv, h6, ?_⟩
  rcases S.small rfl (by omega) with q | q
  · exact .inl q
  · right
    show (dGet s'.now nmJ).1.length ≤ _
    rw [show (dGet s'.now nmJ).1 = _ from q]
    omega
end Go.Proofs.Ytmhojaiajhdlcaa
namespace Go.Proofs.Ytmhojaiajhdlcaa
set_option linter.unusedSimpArgs false
set_option linter.unusedVariables false
section
variable {P : Program} {l : List Oper} {Q : Exit → Act → World → Prop} {K : Act → World → Prop} {md : Region.Mode}
/-- Q, but K at the end. -/
def QK (Q : Exit → Act → World → Prop) (K : Act → World → Prop) : Exit → Act → World → Prop
  | .normal, a, w => K a w
  | .exit i, a, w => Q (.exit i) a w
  | .goto i, a, w => Q (.goto i) a w
  | .ret, a, w => Q .ret a w
  | .panic c, a, w => Q (.panic c) a w
  | .outgrown, a, w => Q .outgrown a w
theorem QK.calm {Q : Exit → Act → World → Prop} {c : _} {a a' : Act} {w : World} (h : Q (.panic c) a' w → Q (.panic c) a w) : QK Q K (.panic c) a' w → QK Q K (.panic c) a w := h
def isMove (o : Oper) : Bool := match o.op with
  | .move _ => true
  | _ => false
/-- The first n of s are listed. -/
def tf (n s : Nat) : Array Bool := (List.replicate n true ++ List.replicate (s - n) false).toArray
def stepOk (md : Region.Mode) (ops : Array Oper) (n : Nat) : Bool :=
  Region.ready md ops (tf n ops.size) == [n] || ((Region.ready md ops (tf n ops.size)).contains n && Region.free md ops (tf n ops.size) n && (match ops[n]? with | some o => isMove o | none => false))
def natOk (md : Region.Mode) (ops : Array Oper) (n : Nat) : Nat → Bool
  | 0 => true
  | k + 1 => stepOk md ops n && natOk md ops (n + 1) k
theorem tf_set {n s : Nat} (h : n < s) : (tf n s).setIfInBounds n true = tf (n + 1) s := by
  unfold tf
  rw [List.setIfInBounds_toArray, List.set_append_right _ _ (by simp)]
  congr 1
  obtain ⟨d, hd⟩ : ∃ d, s - n = d + 1 := ⟨s - n - 1, by omega⟩
  rw [hd, List.length_replicate, Nat.sub_self, List.replicate_succ, List.set_cons_zero, show s - (n + 1) = d by omega, List.replicate_succ', List.append_assoc]
  rfl
theorem tf_zero (s : Nat) : tf 0 s = Array.replicate s false := by
  unfold tf; simp
theorem wp_QK {o : Oper} {a : Act} {w : World} {K' : Act → World → Prop} (hh : o.wp P a w K' (QK Q K)) : o.wp P a w K' Q := by
  unfold Oper.wp at *
  generalize (execOp a.eval o).run P w = r at *
  cases r with
  | ok n w' =>
    cases n <;> simp only [Oper.upon] at hh ⊢ <;>
      first
        | exact hh
        | exact Calls.mono hh (fun e w'' he => by cases e <;> exact he)
  | halt x w' => cases x <;> simp only [Oper.upon] at hh ⊢ <;> exact hh
theorem wpOp_of_list {i : Nat} {o : Oper} {ops : Array Oper} {rest : List Oper} {a : Act} {w : World} {K' : Act → World → Prop} (ho : ops[i]? = some o) (h : wpList P ops (QK Q K) (o :: rest) a w) (hK : ∀ a w, wpList P ops (QK Q K) rest a w → K' a w) : wpOp P ops Q i K' a w := by
  unfold wpOp
  rw [ho]
  unfold wpList at h
  show if Region.wanted o (yielded ops a.tmps) = true then _ else _
  split
  · rename_i hw
    rw [if_pos hw] at h
    exact h.imp (fun q => wp_QK (Oper.wp_mono hK q)) (fun q => ⟨q.1, q.2⟩)
  · rename_i hw
    rw [if_neg hw] at h
    exact hK _ _ h
theorem any_one_list {i : Nat} {o : Oper} {listed listed' : Array Bool} {fuel : Nat} {a : Act} {w : World} (hr : Region.ready md l.toArray listed = [i]) (ho : l.toArray[i]? = some o) (hl : listed.setIfInBounds i true = listed')
    (h : wpList P l.toArray (QK Q (fun a w => wpAny P md l.toArray Q fuel listed' a w)) [o] a w) : wpAny P md l.toArray Q (fuel + 1) listed a w := by
  subst hl
  refine wpAny_all hr (by simp) (fun j hj => ?_)
  obtain rfl : j = i := by simpa using hj
  exact wpOp_of_list ho h (fun a w q => q)
theorem any_two_list {i j : Nat} {oi oj : Oper} {listed li lj : Array Bool} {fuel : Nat} {a : Act} {w : World} (hr : Region.ready md l.toArray listed = [i, j]) (hoi : l.toArray[i]? = some oi) (hoj : l.toArray[j]? = some oj) (hli : listed.setIfInBounds i true = li) (hlj : listed.setIfInBounds j true = lj)
    (h1 : wpList P l.toArray (QK Q (fun a w => wpAny P md l.toArray Q fuel li a w)) [oi] a w) (h2 : wpList P l.toArray (QK Q (fun a w => wpAny P md l.toArray Q fuel lj a w)) [oj] a w) : wpAny P md l.toArray Q (fuel + 1) listed a w := by
  subst hli hlj
  refine wpAny_all hr (by simp) (fun k hk => ?_)
  rcases List.mem_cons.1 hk with rfl | hk
  · exact wpOp_of_list hoi h1 (fun a w q => q)
  · obtain rfl : k = j := by simpa using hk
    exact wpOp_of_list hoj h2 (fun a w q => q)
theorem any_seq (hs : Region.noSelect l.toArray = true) (hQ : ∀ c a d v w, Q (.panic c) (a.put d v) w → Q (.panic c) a w) {fuel : Nat} : ∀ (k n : Nat) (a : Act) (w : World), natOk md l.toArray n k = true → n + k ≤ l.length → wpList P l.toArray (QK Q K) ((l.drop n).take k) a w →
    (∀ a w, K a w → wpAny P md l.toArray Q fuel (tf (n + k) l.length) a w) → wpAny P md l.toArray Q (fuel + k) (tf n l.length) a w
  | 0, n, a, w, _, _, h, hK => by
    have h' : QK Q K .normal a w := by simpa [wpList] using h
    exact hK a w h'
  | k + 1, n, a, w, hn, hl, h, hK => by
    have hlt : n < l.length := by omega
    have ho : l.toArray[n]? = some l[n] := by simp
    have hd : (l.drop n).take (k + 1) = l[n] :: (l.drop (n + 1)).take k := by rw [List.drop_eq_getElem_cons hlt, List.take_succ_cons]
    rw [hd] at h
    unfold natOk at hn
    rw [Bool.and_eq_true] at hn
    have ih : ∀ a w, wpList P l.toArray (QK Q K) ((l.drop (n + 1)).take k) a w → wpAny P md l.toArray Q (fuel + k) (tf (n + 1) l.length) a w := fun a w q =>
      any_seq hs hQ k (n + 1) a w hn.2 (by omega) q (by rw [show n + 1 + k = n + (k + 1) by omega]; exact hK)
    have h1 := hn.1
    unfold stepOk at h1
    rw [show l.toArray.size = l.length by simp, Bool.or_eq_true, Bool.and_eq_true, Bool.and_eq_true, beq_iff_eq, ho] at h1
    show wpAny P md l.toArray Q ((fuel + k) + 1) (tf n l.length) a w
    rcases h1 with q | ⟨⟨q1, q2⟩, q3⟩
    · refine wpAny_all q (by simp) (fun j hj => ?_)
      obtain rfl : j = n := by simpa using hj
      rw [tf_set hlt]
      exact wpOp_of_list ho h ih
    · have hy : Yields P l.toArray l[n] (if Region.wanted l[n] (yielded l.toArray a.tmps) = true then (match l[n].op with | .move x => a.eval x | _ => undef) else undef) a := by
        by_cases hw : Region.wanted l[n] (yielded l.toArray a.tmps) = true
        · refine .inl ⟨hw, fun w => ?_⟩
          rw [if_pos hw]
          generalize hgo : l[n] = o at q3 ⊢
          obtain ⟨d, op, ty, pos, af, gd⟩ := o
          simp only [isMove] at q3
          cases op <;> simp at q3
          rfl
        · exact .inr ⟨by simpa using hw, by rw [if_neg hw]⟩
      refine wpAny_take ho hs q2 q1 (fun c a w => hQ c a _ _ w) hy ?_
      rw [tf_set hlt]
      refine ih _ _ ?_
      unfold wpList at h
      by_cases hw : Region.wanted l[n] (yielded l.toArray a.tmps) = true
      · rw [if_pos hw] at h
        rw [if_pos hw]
        rcases hy with ⟨_, y2⟩ | ⟨y1, _⟩
        · rw [if_pos hw] at y2
          rcases h with h | h
          · unfold Oper.wp at h
            rw [y2 w] at h
            exact h
          · have := h.1.1
            exfalso
            generalize hgo : l[n] = o at q3 this
            obtain ⟨d, op, ty, pos, af, gd⟩ := o
            simp only [isMove] at q3
            cases op <;> simp at q3
            rename_i xx
            have h0 : (Sem.runT P (execOp a.eval { dst := d, op := Op.move xx, type := ty, pos := pos, after := af, guard := gd }) w #[]).2 = #[] := rfl
            rw [h0] at this
            simp at this
        · rw [hw] at y1; cases y1
      · rw [if_neg hw] at h
        rw [if_neg hw]
        exact h
theorem QK_self (Q : Exit → Act → World → Prop) : QK Q (fun a w => Q .normal a w) = Q := by
  funext e a w
  cases e <;> rfl
variable {ops : Array Oper} {a : Act} {w : World} {s f F k n : Nat}
/-- The beginning: the first k in the text's order. -/
theorem reg_seq {id : Nat} (he : l.toArray = ops) (hl : l.length = s) (hm : P.follows .mixedOrders = true) (hs : Region.noSelect ops = true) (hQ : ∀ c a d v w, Q (.panic c) (a.put d v) w → Q (.panic c) a w) (hn : natOk .any ops 0 k = true) (hf : f + k = s)
    (h : wpList P l.toArray (QK Q (fun a w => wpAny P .any l.toArray Q f (tf k s) a w)) (l.take k) a w.drew) : (Code.region id l.toArray true).wp P Q a w := by
  subst he
  refine wp_region_any hm ?_
  subst hl
  have e0 : Array.replicate l.toArray.size false = tf 0 l.length := by rw [tf_zero]; simp
  rw [e0, show l.toArray.size = f + k by simp [hf]]
  exact any_seq hs hQ k 0 a _ hn (by omega) (by simpa using h) (fun a w q => by rw [Nat.zero_add]; exact q)
/-- The next k in the text's order. -/
theorem mid_seq (he : l.toArray = ops) (hl : l.length = s) (hs : Region.noSelect ops = true) (hQ : ∀ c a d v w, Q (.panic c) (a.put d v) w → Q (.panic c) a w) (n k f m : Nat) (hn : natOk .any ops n k = true) (hm : m = n + k) (hF : F = f + k) (hk : m ≤ s)
    (h : wpList P l.toArray (QK Q (fun a w => wpAny P .any l.toArray Q f (tf m s) a w)) ((l.drop n).take k) a w) : wpAny P .any l.toArray Q F (tf n s) a w := by
  subst he hm hF hl
  exact any_seq hs hQ k n a _ hn hk h (fun a w q => q)
/-- The rest in the text's order. -/
theorem end_seq (he : l.toArray = ops) (hl : l.length = s) (hs : Region.noSelect ops = true) (hQ : ∀ c a d v w, Q (.panic c) (a.put d v) w → Q (.panic c) a w) (n : Nat) (hn : natOk .any ops n F = true) (hk : n + F = s) (hr : Region.ready .any ops (tf s s) = [])
    (h : wpList P l.toArray Q (l.drop n) a w) : wpAny P .any l.toArray Q F (tf n s) a w := by
  subst he hl
  have h0 := any_seq (K := fun a w => Q .normal a w) (fuel := 0) hs hQ F n a w hn (by omega) (by rw [QK_self, List.take_of_length_le (by simp; omega)]; exact h) (fun a w q => by rw [hk]; exact wpAny_done hr q 0)
  rwa [Nat.zero_add] at h0
/-- One alone may come up. -/
theorem one_seq {i : Nat} {o : Oper} {listed : Array Bool} (he : l.toArray = ops) (listed' : Array Bool) (hr : Region.ready .any ops listed = [i]) (ho : l.toArray[i]? = some o) (hl : listed.setIfInBounds i true = listed')
    (h : wpList P l.toArray (QK Q (fun a w => wpAny P .any l.toArray Q f listed' a w)) [o] a w) : wpAny P .any l.toArray Q (f + 1) listed a w := by
  subst he
  exact any_one_list hr ho hl h
/-- Two may come up. -/
theorem two_seq {i j : Nat} {oi oj : Oper} {listed : Array Bool} (he : l.toArray = ops) (li lj : Array Bool) (hr : Region.ready .any ops listed = [i, j]) (hoi : l.toArray[i]? = some oi) (hoj : l.toArray[j]? = some oj) (hli : listed.setIfInBounds i true = li) (hlj : listed.setIfInBounds j true = lj)
    (h1 : wpList P l.toArray (QK Q (fun a w => wpAny P .any l.toArray Q f li a w)) [oi] a w) (h2 : wpList P l.toArray (QK Q (fun a w => wpAny P .any l.toArray Q f lj a w)) [oj] a w) : wpAny P .any l.toArray Q (f + 1) listed a w := by
  subst he
  exact any_two_list hr hoi hoj hli hlj h1 h2
theorem wpOp_ok {i : Nat} {o : Oper} {v : Value} {K' : Act → World → Prop} (ho : ops[i]? = some o) (hw : Region.wanted o (yielded ops a.tmps) = true) (hv : (execOp a.eval o).run P w = .ok (.value v) w) (h : K' (a.put o.dst v) w) : wpOp P ops Q i K' a w := by
  unfold wpOp
  simp only [ho]
  simp only [hw, if_true, Oper.wp, hv, Oper.upon]
  exact .inl h
/-- Two that read may come up: their order is all one. -/
theorem pair_seq {i j : Nat} {oi oj : Oper} {listed : Array Bool} {v u : Value} (he : l.toArray = ops) (listed' : Array Bool) (hs : Region.noSelect ops = true) (hr : Region.ready .any ops listed = [i, j]) (hri : Region.ready .any ops (listed.setIfInBounds i true) = [j]) (hrj : Region.ready .any ops (listed.setIfInBounds j true) = [i])
    (hoi : l.toArray[i]? = some oi) (hoj : l.toArray[j]? = some oj) (hap : oi.apart l.toArray oj = true) (hl : (listed.setIfInBounds i true).setIfInBounds j true = listed') (hl2 : (listed.setIfInBounds j true).setIfInBounds i true = listed')
    (hwi : Region.wanted oi (yielded l.toArray a.tmps) = true) (hwj : Region.wanted oj (yielded l.toArray a.tmps) = true) (hvi : (execOp a.eval oi).run P w = .ok (.value v) w) (hvj : (execOp a.eval oj).run P w = .ok (.value u) w)
    (h : wpAny P .any l.toArray Q f listed' ((a.put oi.dst v).put oj.dst u) w) : wpAny P .any l.toArray Q (f + 2) listed a w := by
  subst he
  obtain ⟨p1, p2, p3⟩ := Oper.apart_spec hap
  have si := Region.noSelect_spec hs i oi
  have sj := Region.noSelect_spec hs j oj
  refine wpAny_all hr (by simp) (fun k hk => ?_)
  rcases List.mem_cons.1 hk with rfl | hk
  · refine wpOp_ok hoi hwi hvi ?_
    refine wpAny_all hri (by simp) (fun m hm => ?_)
    obtain rfl : m = j := by simpa using hm
    refine wpOp_ok hoj (by rw [wanted_put oj a oi.dst v p1]; exact hwj) (by rw [execOp_put oj (fun cs b => sj cs b hoj) a oi.dst v p1]; exact hvj) ?_
    rw [hl]; exact h
  · obtain rfl : k = j := by simpa using hk
    refine wpOp_ok hoj hwj hvj ?_
    refine wpAny_all hrj (by simp) (fun m hm => ?_)
    obtain rfl : m = i := by simpa using hm
    refine wpOp_ok hoi (by rw [wanted_put oi a oj.dst u p3]; exact hwi) (by rw [execOp_put oi (fun cs b => si cs b hoi) a oj.dst u p3]; exact hvi) ?_
    rw [hl2, ← Act.put_comm a v u p2]; exact h
theorem qk_normal (h : K a w) : QK Q K .normal a w := h
end
/-- A region of a function's code, by its number. -/
def findReg (n : Nat) : Code → Option Code
  | .region id ops b => if id = n then some (.region id ops b) else none
  | .seq a b => match findReg n a with
    | some c => some c
    | none => findReg n b
  | .block _ c => findReg n c
  | .loop c => findReg n c
  | .scope c => findReg n c
  | .cond _ a b => match findReg n a with
    | some c => some c
    | none => findReg n b
  | _ => none
def rgOps (n : Nat) (o : Option Code) : Array Oper := match o.bind (findReg n) with
  | some (.region _ ops _) => ops
  | _ => #[]
end Go.Proofs.Ytmhojaiajhdlcaa
namespace Go.Proofs.Ytmhojaiajhdlcaa
set_option linter.unusedVariables false
/-- What stands behind a region that is a statement by itself, wherever it stands. -/
def restAt (n : Nat) : Code → Option Code
  | .seq a b => match a with
    | .region id ops m => if id = n then some b else restAt n b
    | _ => match restAt n a with
      | some c => some c
      | none => restAt n b
  | .block _ c => restAt n c
  | .loop c => restAt n c
  | .scope c => restAt n c
  | .cond _ a b => match restAt n a with
    | some c => some c
    | none => restAt n b
  | _ => none
def regAtOf (n : Nat) (o : Option Code) : Code := (o.bind (findReg n)).getD .skip
def restAtOf (n : Nat) (o : Option Code) : Code := (o.bind (restAt n)).getD .skip
end Go.Proofs.Ytmhojaiajhdlcaa
namespace Go.Proofs.Ytmhojaiajhdlcaa
open Go.ChangeShapes Go.WideShapes Go.ChangeAt Go.RowKit Go.Deep
set_option linter.unusedSimpArgs false
set_option linter.unusedVariables false
section
variable {H : Type} {enc : TypeId × Value → H} {P : Program} {w : World} {b0 : Nat} {held : Bool}
theorem el_fields {e : TypeId} {fs : Array Field} {n : Nat} {cs : List Value} {y : DataW H × List MemPlace} (he : P.underlying e = some (.struct fs)) (hone : oneCellFields P fs = true) (hC : cs.length = fs.size)
    (h : DataW.trod enc P w 0 (fun _ => true) held n e cs = some y) (j : Nat) (f : Field) (hj : fs[j]? = some f) : ∃ (n' : Nat) (v : Value) (z : DataW H × List MemPlace), cs[j]? = some v ∧ DataW.trod enc P w 0 (fun _ => true) held n' f.type [v] = some z := by
  obtain ⟨ys, n', hn', hy, hlen, hyl, hf⟩ := DataW.trod_struct he h
  obtain ⟨ho, hk⟩ := hone_of hone j f hj
  have hjl : j < fs.size := (Array.getElem?_eq_some_iff.1 hj).1
  have h1 := hf j f hj
  rw [ho, hk] at h1
  have hone' : (cs.drop j).take 1 = [cs[j]'(by omega)] := by
    rw [List.drop_eq_getElem_cons (by omega)]; rfl
  rw [hone'] at h1
  have hys : ys[j]? = some (ys[j]'(by omega)) := List.getElem?_eq_getElem (by omega)
  exact ⟨n', _, _, List.getElem?_eq_getElem (by omega), h1.trans hys⟩
theorem open_rdN {α : Type} [Inhabited α] (sz : Nat) (c : α → List Value) (good : α → Prop) {t e : TypeId} {v : Value} {d : DataW H} {p : List MemPlace} (ht : P.underlying t = some (.slice e)) (hc : P.cellsOf e = sz) (hpos : 0 < sz)
    (hel : ∀ n cs y, cs.length = sz → DataW.trod enc P w 0 (fun _ => true) held n e cs = some y → ∃ x, cs = c x ∧ good x)
    (hval : Value.okWide P w .any b0 t v) (h : DataW.Trod enc P w 0 (fun _ => true) held t v d p) :
    ∃ l : List α, RdN sz c w v l ∧ (∀ x ∈ l, good x) ∧ (∀ (ts : List TypeId) (ds : List (DataW H)) (j : Nat), (DataW.weightsEach P ts ds).all (· ≤ reachBytes) = true → ts[j]? = some t → ds[j]? = some d → l.length * P.bytesOf e ≤ reachBytes) ∧ DLen d l.length := by
  obtain ⟨a0, len0, cap0, rfl⟩ := okWide_slice ht hval
  obtain ⟨fuel, hf⟩ := h
  rcases open_slice ht hf with ⟨hcs, hx⟩ | ⟨a, len, cap, m, n, D, Pl, hcs, hb, hl, hm, hmm, hx, hi⟩
  · simp [Value.cells] at hcs
    obtain ⟨rfl, rfl, rfl⟩ := hcs
    exact ⟨[], ⟨none, 0, rfl, Nat.le_refl _, Nat.zero_le _, fun q => absurd rfl q⟩, by simp, by intros; simp, .inl rfl⟩
  · simp [Value.cells] at hcs
    obtain ⟨rfl, rfl, rfl⟩ := hcs
    simp only [if_true] at hmm
    subst hmm
    obtain ⟨l, hl', hp⟩ := exists_list len0 (fun i x => w.cells? 0 (a.add (i * sz)) sz = some (c x) ∧ good x) (fun i hi' => by
      obtain ⟨cs', hc1, hc2⟩ := hi i (by omega)
      rw [hc] at hc1
      obtain ⟨_, hcl, _⟩ := World.cells?_some hc1
      obtain ⟨x, rfl, hg⟩ := hel _ _ _ hcl hc2
      exact ⟨x, hc1, hg⟩)
    refine ⟨l, ?_, ?_, ?_, ?_⟩
    · refine ⟨_, _, by rw [hl'], by omega, hm, fun hne => ?_⟩
      have hpos' : 0 < len0 := by rw [← hl']; exact List.length_pos_iff.2 hne
      obtain ⟨b, off, spot⟩ := a
      have hspot : spot = none := by
        have h0 := (hp 0 (by omega)).1
        obtain ⟨_, hcl, hat⟩ := World.cells?_some h0
        have h1 := hat 0 hpos
        rw [List.getElem?_eq_getElem (by omega)] at h1
        simpa [Addr.add] using World.cell?_spot h1
      subst hspot
      refine ⟨b, off, rfl, fun j hj i hi' => ?_⟩
      obtain ⟨_, hcl, hat⟩ := World.cells?_some (hp j (by omega)).1
      have h1 := hat i hi'
      rw [add_none, add_none] at h1
      rw [← Nat.add_assoc]; exact h1
    · intro x hx'
      obtain ⟨i, hi', rfl⟩ := List.mem_iff_getElem.1 hx'
      have := (hp i (by omega)).2
      rwa [nth_get l i hi'] at this
    · intro ts ds j hall htj hdj
      have hd := congrArg Prod.fst hx
      simp only at hd
      rw [hd] at hdj
      have := sized_slice hall htj hdj ht
      simp only [List.length_map, List.length_range] at this
      exact Nat.le_trans (Nat.mul_le_mul_right _ (by omega)) this
    · exact .inr ⟨_, _, congrArg Prod.fst hx, by simp [hl']⟩
end
end Go.Proofs.Ytmhojaiajhdlcaa
namespace Go.Proofs.Ytmhojaiajhdlcaa
open Go.ChangeShapes Go.WideShapes Go.ChangeAt Go.RowKit Go.Deep
set_option linter.unusedSimpArgs false
set_option linter.unusedVariables false
/-- An ask. -/
structure Ask24 where
  kd : Int
  slot : Int
  n : Int
  data : ByteArray
instance : Inhabited Ask24 := ⟨⟨0, 0, 0, .empty⟩⟩
abbrev ask24Cells (x : Ask24) : List Value := [.int .i64 x.kd, .int .i64 x.slot, .int .i64 x.n, .string x.data]
structure Ask24Good (x : Ask24) : Prop where
  kd : I64 x.kd
  slot : I64 x.slot
  n : I64 x.n
  sz : x.data.size ≤ maxLen
theorem cells_ask24 : Try.prog.cellsOf 69 = 4 := by kernel_rfl
set_option maxRecDepth 100000 in
theorem el_ask24 {H : Type} {enc : TypeId × Value → H} {w : World} (n : Nat) (cs : List Value) (y : DataW H × List MemPlace) (hl : cs.length = 4) (h : DataW.trod enc Try.prog w 0 (fun _ => true) true n 69 cs = some y) :
    ∃ x : Ask24, cs = ask24Cells x ∧ Ask24Good x := by
  obtain ⟨_, v0, _, h0, t0⟩ := el_fields Try.underlying69 (by kernel_rfl) hl h 0 _ rfl
  obtain ⟨_, v1, _, h1, t1⟩ := el_fields Try.underlying69 (by kernel_rfl) hl h 1 _ rfl
  obtain ⟨_, v2, _, h2, t2⟩ := el_fields Try.underlying69 (by kernel_rfl) hl h 2 _ rfl
  obtain ⟨_, v3, _, h3, t3⟩ := el_fields Try.underlying69 (by kernel_rfl) hl h 3 _ rfl
  obtain ⟨k0, rfl, g0⟩ := el_int Try.underlying3 _ _ _ t0
  obtain ⟨k1, rfl, g1⟩ := el_int Try.underlying3 _ _ _ t1
  obtain ⟨k2, rfl, g2⟩ := el_int Try.underlying3 _ _ _ t2
  obtain ⟨s, hs1, -, hsz⟩ := DataW.trod_string Try.underlying9 t3
  simp at hs1
  subst hs1
  match cs, hl with
  | [c0, c1, c2, c3], _ =>
    simp at h0 h1 h2 h3
    exact ⟨⟨k0, k1, k2, s⟩, by rw [h0, h1, h2, h3], ⟨i64_of g0, i64_of g1, i64_of g2, hsz⟩⟩
set_option maxRecDepth 100000 in
/-- Asks that are handed in. -/
theorem open_asks24 {H : Type} {enc : TypeId × Value → H} {w : World} {b0 : Nat} {v : Value} {d : DataW H} {p : List MemPlace} (hval : Value.okWide Try.prog w .any b0 61 v) (h : DataW.Trod enc Try.prog w 0 (fun _ => true) true 61 v d p) :
    ∃ l : List Ask24, RdN 4 ask24Cells w v l ∧ ∀ x ∈ l, Ask24Good x := by
  obtain ⟨l, h1, h2, -⟩ := open_rdN 4 ask24Cells Ask24Good Try.underlying61 cells_ask24 (by omega) (fun n cs y hl h => el_ask24 n cs y hl h) hval h
  exact ⟨l, h1, h2⟩
abbrev ask24Val (x : Ask24) : Value := .agg #[.int .i64 x.kd, .int .i64 x.slot, .int .i64 x.n, .string x.data]
set_option maxRecDepth 100000 in
/-- An ask that is handed in. -/
theorem open_ask24 {H : Type} {enc : TypeId × Value → H} {w : World} {b0 : Nat} {v : Value} {d : DataW H} {p : List MemPlace} (hval : Value.okWide Try.prog w .any b0 69 v) (h : DataW.Trod enc Try.prog w 0 (fun _ => true) true 69 v d p) :
    ∃ x : Ask24, v = ask24Val x ∧ Ask24Good x := by
  obtain ⟨cs, rfl, hsz⟩ := okWide_struct Try.underlying69 hval
  obtain ⟨fuel, hf⟩ := h
  rw [cells_ask24] at hsz
  have hcl : (Value.agg cs).cells.toList.length = 4 := by simpa [Value.cells] using hsz
  obtain ⟨x, hx, hg⟩ := el_ask24 fuel _ _ (by simpa [Value.cells] using hsz) hf
  refine ⟨x, ?_, hg⟩
  have h1 : cs.toList = ask24Cells x := by simpa [Value.cells] using hx
  have h2 : cs = (ask24Cells x).toArray := by rw [← h1]
  rw [h2]
abbrev flv (x : Bool) : Value := .bool x
theorem cells_flags : Try.checked.prog.cellsOf 4 = 1 := by kernel_rfl
set_option maxRecDepth 100000 in
/-- Flags that are handed in. -/
theorem open_flags {H : Type} {enc : TypeId × Value → H} {w : World} {b0 : Nat} {v : Value} {d : DataW H} {p : List MemPlace} (hval : Value.okWide Try.prog w .any b0 62 v) (h : DataW.Trod enc Try.prog w 0 (fun _ => true) true 62 v d p) :
    ∃ l : List Bool, Rd flv w v l := by
  obtain ⟨l, h1, -⟩ := open_rd flv (fun _ => True) Try.underlying62 cells_flags (fun n v y hh => by
    obtain ⟨x, hx, -⟩ := DataW.trod_bool Try.underlying4 hh
    exact ⟨x, by simpa using hx, trivial⟩) hval h
  exact ⟨l, h1⟩
end Go.Proofs.Ytmhojaiajhdlcaa
namespace Go.Proofs.Ytmhojaiajhdlcaa
open Go.RowKit
set_option linter.unusedSimpArgs false
set_option linter.unusedVariables false
abbrev sTwo : ByteArray := ⟨#[116, 119, 111]⟩
/-- A text, cut to 300 bytes. -/
def cut3 (d : ByteArray) : ByteArray := if 300 < d.size then d.extract 0 300 else d
theorem cut3_size (d : ByteArray) : (cut3 d).size ≤ 300 := by
  unfold cut3
  split
  · rw [ByteArray.size_extract]; omega
  · omega
/-- The changes of an ask. -/
def setL (x : Ask24) : List Ch :=
  if x.kd = 2 then [(x.slot, cut3 x.data), (x.n, sTwo)] else if x.kd = 5 then [(x.slot, zs (within x.n 0 90000).toNat)] else [(x.slot, cut3 x.data)]
theorem setL_len (x : Ask24) : 1 ≤ (setL x).length ∧ (setL x).length ≤ 2 := by
  unfold setL; split
  · simp
  · split <;> simp
theorem within_nat9 (y : Int) : ∃ m : Nat, within y 0 90000 = (m : Int) ∧ m ≤ 90000 := by
  have h := within_nat y 90000
  obtain ⟨m, h1, h2⟩ := h
  exact ⟨m, h1, h2⟩
theorem setL_ok (x : Ask24) (hs : I64 x.slot) (hn : I64 x.n) : ∀ c ∈ setL x, I64 c.1 ∧ c.2.size ≤ 1000000 := by
  have h3 := cut3_size x.data
  obtain ⟨m, h1, h2⟩ := within_nat9 x.n
  unfold setL
  split
  · intro c hc
    rcases List.mem_cons.1 hc with rfl | hc
    · exact ⟨hs, by dsimp only; omega⟩
    · rw [List.mem_singleton.1 hc]; exact ⟨hn, by show sTwo.size ≤ 1000000; decide⟩
  · split
    · intro c hc
      rw [List.mem_singleton.1 hc, h1]
      exact ⟨hs, by dsimp only; rw [zs_size]; omega⟩
    · intro c hc
      rw [List.mem_singleton.1 hc]
      exact ⟨hs, by dsimp only; omega⟩
section
variable {w W : World} {g : Nat} {e : TypeId}
theorem chBlk_one (c : Ch) (hb : Blk w g e (chCells c)) : RdN 2 chCells w (.slice (some ⟨g, 0, none⟩) 1 1) [c] := by
  refine ⟨_, 1, rfl, by simp, by simp [maxLen], fun _ => ⟨g, 0, rfl, fun j hj i hi => ?_⟩⟩
  have hj0 : j = 0 := by simpa using hj
  subst hj0
  rw [Nat.zero_mul, Nat.zero_add, Nat.zero_add, hb.cell, nth_cons_zero]
theorem chBlk_own (c : Ch) (hb : Blk w g e (chCells c)) {base : Nat} (hg : base ≤ g) : OwnN 2 chCells base e w (.slice (some ⟨g, 0, none⟩) 1 1) [c] :=
  ⟨by simp, .inr ⟨g, 1, (chCells c).toArray, rfl, hg, hb, by simp, by simp [maxLen], by simp, by simp⟩⟩
end
theorem undRch : Try.prog.underlying 65 = some (.slice 113) := Try.underlying65
theorem infoRch : (Try.prog.info? 113).map (fun i => (i.zero, i.size, i.bytes)) = some (some (.agg #[.int .i64 0, .string .empty]), 2, 24) := by kernel_rfl
theorem three (W : World) (xs ys zs : List Value) (e f g : TypeId) {X : World} (hX : ((W.alloc (.cells xs.toArray e)).alloc (.cells ys.toArray f)).alloc (.cells zs.toArray g) = X) : Blk X W.heap.size e xs ∧ Blk X (W.heap.size + 1) f ys ∧ Blk X (W.heap.size + 1 + 1) g zs ∧ Upd [] W X ∧ X.heap.size = W.heap.size + 1 + 1 + 1 := by
  have s1 : (W.alloc (.cells xs.toArray e)).heap.size = W.heap.size + 1 := by simp
  have s2 : ((W.alloc (.cells xs.toArray e)).alloc (.cells ys.toArray f)).heap.size = W.heap.size + 1 + 1 := by simp
  have s3 : (((W.alloc (.cells xs.toArray e)).alloc (.cells ys.toArray f)).alloc (.cells zs.toArray g)).heap.size = W.heap.size + 1 + 1 + 1 := by simp
  have b1 := Blk.new W e xs
  have b2 := Blk.new (W.alloc (.cells xs.toArray e)) f ys
  have b3 := Blk.new ((W.alloc (.cells xs.toArray e)).alloc (.cells ys.toArray f)) g zs
  rw [s1] at b2
  rw [s2] at b3
  subst hX
  exact ⟨b1.upd (((Upd.refl [] _).alloc _).alloc _) (by simp), b2.upd ((Upd.refl [] _).alloc _) (by simp), b3, ((((Upd.refl [] W).alloc _).alloc _).alloc _), s3⟩
theorem conv_zero (n : Nat) (g : Nat) (u : World) (h : Bytes u (.slice (some ⟨g, 0, none⟩) n n) (List.replicate n 0)) : (convert 40 9 (.slice (some ⟨g, 0, none⟩) n n)).run Try.prog u = .ok (.string (zs n)) u :=
  convb_str (P := Try.prog) Try.underlying40 Try.underlying5 Try.underlying9 _ _ (List.replicate n 0) h
set_option maxRecDepth 100000 in
set_option maxHeartbeats 8000000 in
theorem sets_any (x : Ask24) (hx : Ask24Good x) (W : World) {l : List Ch} (hl : setL x = l) :
    Calls Try.prog 31 #[ask24Val x] W fun e w => ∃ a k a' k', e = .returned (.tuple #[.slice a l.length k, .slice a' l.length k']) ∧ Hid (RdN 2 chCells w (.slice a l.length k) l) ∧ Hid (RdN 2 chCells w (.slice a' l.length k') l) ∧ Hid (∀ b ∈ blk (.slice a l.length k), W.heap.size ≤ b) ∧ Hid (∀ b ∈ blk (.slice a' l.length k'), W.heap.size ≤ b) ∧ Upd [] W w := by
  subst hl
  obtain ⟨kd, slot, n, data⟩ := x
  have hkd : I64 kd := hx.kd
  have hsl : I64 slot := hx.slot
  have hn : I64 n := hx.n
  have hsz : data.size ≤ maxLen := hx.sz
  have hm : (data.size : Int) ≤ 9223372036854775807 := by unfold maxLen at hsz; omega
  unfold I64 at hkd hn
  clear hx hsl hsz
  by_cases hb : 300 < data.size
  · have q1 : (300 : Int) < (data.size : Int) := by omega
    have hd : cut3 data = data.extract 0 300 := by unfold cut3; rw [if_pos hb]
    clear hb
    by_cases h2 : kd = 2
    · subst h2
      have hL : setL ⟨2, slot, n, data⟩ = [(slot, data.extract 0 300), (n, sTwo)] := by unfold setL; rw [if_pos rfl, hd]
      clear hkd
      rw [hL]
      obtain ⟨X, hX⟩ : ∃ X, ((W.alloc (.cells #[.int .i64 2, .int .i64 slot, .int .i64 n, .string data] 69)).alloc (.cells #[.int .i64 slot, .string (data.extract 0 300)] 57)).alloc (.cells #[.int .i64 slot, .string (data.extract 0 300)] 113) = X := ⟨_, rfl⟩
      have HX := Lib.hid hX
      clear hX
      go_enter Try.func31, Try.ntmps31
      go_upto_region 7 with fail
      rw [HX.out]
      obtain ⟨B0, B1, B2, U, hsz⟩ := three W _ _ _ _ _ _ HX.out
      have cn := B0.cell 2
      have u3 : Upd [] X (X.alloc (.cells #[.int .i64 n, .string sTwo] 57)) := (Upd.refl [] X).alloc _
      have HRUN1 := Lib.hid (fun ty => run_appN (P := Try.prog) (ty := ty) chCells_len (by decide) chCells_one undCh infoCh rfl (.slice (some ⟨W.heap.size + 1, 0, none⟩) 1 1) (.slice (some ⟨X.heap.size, 0, none⟩) 1 1) [(slot, data.extract 0 300)] [(n, sTwo)] (chBlk_own (slot, data.extract 0 300) (B1.upd u3 (by simp)) (base := W.heap.size) (by omega)) (ch_one (n, sTwo) rfl rfl) (by simp) (by simp [maxLen]) (by simp; omega))
      have HSZ := Lib.hid hsz
      have HB0 := Lib.hid (B0.upd u3 (by simp))
      have HB2 := Lib.hid (B2.upd u3 (by simp))
      have HU := Lib.hid (U.seq u3)
      clear HX hsz B0 B1 B2 U u3 hd
      dsimp only [List.getElem?_cons_succ, List.getElem?_cons_zero] at cn
      go_wp2_with (at_builtin; go_must (first
        | (refine wpList_app_of rfl (.tmp 28) (.tmp 32) rfl (.slice (some ⟨W.heap.size + 1, 0, none⟩) 1 1) (.slice (some ⟨X.heap.size, 0, none⟩) 1 1) rfl rfl (HRUN1.out _) ?_; rintro v7 w7 ⟨ho7, hu7, hk7⟩; have HO7 := Lib.hid ho7; have HK7 := Lib.hid hk7; obtain ⟨a7, k7, rfl, -⟩ := ho7.rd chCells_len; have hb0 := HB0.out.upd hu7 (by simp [blk] <;> omega); have hb2 := HB2.out.upd hu7 (by simp [blk] <;> omega); have HU7 := Lib.hid (HU.out.trans (T := []) hu7 (by simp) (fun x hx => .inr (by simp [blk] at hx; omega))); have cn := hb0.cell 2; have ck := hb0.cell 0; dsimp only [List.getElem?_cons_succ, List.getElem?_cons_zero] at cn ck; have u4 : Upd [] w7 (w7.alloc (.cells #[.int .i64 n, .string sTwo] 113)) := (Upd.refl [] w7).alloc _; have hg := HU7.out.size; have HRUN2 := Lib.hid (fun ty => run_appN (P := Try.prog) (ty := ty) chCells_len (by decide) chCells_one undRch infoRch rfl (.slice (some ⟨W.heap.size + 1 + 1, 0, none⟩) 1 1) (.slice (some ⟨w7.heap.size, 0, none⟩) 1 1) [(slot, data.extract 0 300)] [(n, sTwo)] (chBlk_own (slot, data.extract 0 300) (hb2.upd u4 (by simp)) (base := W.heap.size) (by omega)) (chBlk_one (n, sTwo) (Blk.new w7 _ _)) (by simp) (by simp [maxLen]) (by simp; omega)); have HC0 := Lib.hid (hb0.upd u4 (by simp)); have HV7 := Lib.hid (HO7.out.upd u4 (by simp)); have HU8 := Lib.hid (HU7.out.seq u4); clear ho7 hu7 hk7 hb0 hb2 HU7 u4 hg HO7 HRUN1 HB0 HB2 HU; dsimp only)
        | (refine wpList_app_of rfl (.tmp 34) (.tmp 38) rfl (.slice (some ⟨W.heap.size + 1 + 1, 0, none⟩) 1 1) (.slice (some ⟨w7.heap.size, 0, none⟩) 1 1) rfl rfl (HRUN2.out _) ?_; rintro v8 w8 ⟨ho8, hu8, hk8⟩; have HR8 := Lib.hid (ho8.rd chCells_len); have HK8 := Lib.hid hk8; obtain ⟨a8, k8, rfl, -⟩ := HR8.out; have hc0 := HC0.out.upd hu8 (by simp [blk] <;> omega); have ck := hc0.cell 0; dsimp only [List.getElem?_cons_succ, List.getElem?_cons_zero] at ck; have HU8' := Lib.hid hu8; clear ho8 hu8 hk8 hc0; dsimp only)))
      have hs3 := HSZ.out
      have RD7 : Hid (RdN 2 chCells w8 (.slice a7 2 k7) [(slot, data.extract 0 300), (n, sTwo)]) := (HV7.out.upd HU8'.out (fun x hx hy => by
        rcases HK7.out x hx with h | h
        · simp [blk] at h hy; omega
        · simp [blk] at h hy; omega)).rd chCells_len
      have hge := HU8.out.size
      have GE7 : Hid (∀ b ∈ blk (.slice a7 2 k7), W.heap.size ≤ b) := fun b hb => by
        rcases HK7.out b hb with h | h
        · simp [blk] at h; omega
        · simp at h; omega
      have GE8 : Hid (∀ b ∈ blk (.slice a8 2 k8), W.heap.size ≤ b) := fun b hb => by
        rcases HK8.out b hb with h | h
        · simp [blk] at h; omega
        · exact Nat.le_trans hge h
      have HUU := Lib.hid (HU8.out.trans (T := []) HU8'.out (by simp) (fun x hx => .inr (by simp [blk] at hx; omega)))
      refine bodyPost_ret (v := .tuple #[.slice a7 2 k7, .slice a8 2 k8]) (by simp [results, Try.results31, go_sem]; try rfl) rfl ?_
      exact ⟨_, _, _, _, rfl, RD7, HR8, GE7, GE8, HUU.out⟩
    · by_cases h5 : kd = 5
      · subst h5
        obtain ⟨m, hwm, hm9⟩ := within_nat9 n
        have hL : setL ⟨5, slot, n, data⟩ = [(slot, zs m)] := by unfold setL; rw [if_neg h2, if_pos rfl, hwm]; rfl
        rw [hL]
        clear hkd h2 hd
        obtain ⟨X, hX⟩ : ∃ X, ((W.alloc (.cells #[.int .i64 5, .int .i64 slot, .int .i64 n, .string data] 69)).alloc (.cells #[.int .i64 slot, .string (data.extract 0 300)] 57)).alloc (.cells #[.int .i64 slot, .string (data.extract 0 300)] 113) = X := ⟨_, rfl⟩
        have HX := Lib.hid hX
        clear hX
        go_enter Try.func31, Try.ntmps31
        go_upto_region 10 with fail
        rw [HX.out]
        obtain ⟨B0, B1, B2, U, hsz⟩ := three W _ _ _ _ _ _ HX.out
        have cn := B0.cell 2
        dsimp only [List.getElem?_cons_succ, List.getElem?_cons_zero] at cn
        go_wp2_with fail
        (with_reducible refine (within_any n 0 90000 X hn (by omega) (by omega) (by omega)).mono ?_)
        rw [hwm]
        rintro e w9 ⟨rfl, rfl⟩
        obtain ⟨zf, hz1, hz2, hz3, -⟩ := make_zero m (m : Int) rfl (by omega)
        have hz2 := hz2 X
        have hz3 := hz3 X
        have hv1 := conv_zero m X.heap.size (zf X) hz3
        have b1 := B1.upd hz2 (by simp)
        have b2 := B2.upd hz2 (by simp)
        have c1 := b1.cell 1
        have f1 := b1.frozen 1
        have U1 : Upd [W.heap.size + 1] (zf X) ((zf X).setCell ⟨W.heap.size + 1, 1, none⟩ (.string (zs m))) := (Upd.refl _ (zf X)).setCell _ _ (.inl (by simp))
        have hv2 := conv_zero m X.heap.size _ (hz3.upd U1 (by simp [blk]; omega))
        have bb2 := b2.upd U1 (by simp)
        have c2 := bb2.cell 1
        have f2 := bb2.frozen 1
        have U2 : Upd [W.heap.size + 1 + 1] ((zf X).setCell ⟨W.heap.size + 1, 1, none⟩ (.string (zs m))) (((zf X).setCell ⟨W.heap.size + 1, 1, none⟩ (.string (zs m))).setCell ⟨W.heap.size + 1 + 1, 1, none⟩ (.string (zs m))) := (Upd.refl _ _).setCell _ _ (.inl (by simp))
        have HR1 := Lib.hid (chBlk_one (slot, zs m) ((b1.set_ 1 (.string (zs m))).upd U2 (by simp)))
        have HR2 := Lib.hid (chBlk_one (slot, zs m) (bb2.set_ 1 (.string (zs m))))
        have HUU := Lib.hid (((U.seq hz2).trans (T := []) U1 (by simp) (fun x hx => .inr (by simp at hx; omega))).trans (T := []) U2 (by simp) (fun x hx => .inr (by simp at hx; omega)))
        dsimp only [List.getElem?_cons_succ, List.getElem?_cons_zero] at c1 c2
        rw [hsz] at hv1 hv2
        clear U1 U2 U b1 b2 bb2 hz2 hz3 B0 B1 B2 HX hwm
        go_wp2_with fail
        refine bodyPost_ret (v := .tuple #[.slice (some ⟨W.heap.size + 1, 0, none⟩) 1 1, .slice (some ⟨W.heap.size + 1 + 1, 0, none⟩) 1 1]) (by simp [results, Try.results31, go_sem]; try rfl) rfl ?_
        exact ⟨_, _, _, _, rfl, HR1, HR2, fun b hb => by simp [blk] at hb; omega, fun b hb => by simp [blk] at hb; omega, HUU.out⟩
      · have hL : setL ⟨kd, slot, n, data⟩ = [(slot, data.extract 0 300)] := by unfold setL; rw [if_neg h2, if_neg h5, hd]
        rw [hL]
        clear hd
        obtain ⟨X, hX⟩ : ∃ X, ((W.alloc (.cells #[.int .i64 kd, .int .i64 slot, .int .i64 n, .string data] 69)).alloc (.cells #[.int .i64 slot, .string (data.extract 0 300)] 57)).alloc (.cells #[.int .i64 slot, .string (data.extract 0 300)] 113) = X := ⟨_, rfl⟩
        have HX := Lib.hid hX
        clear hX
        go_enter Try.func31, Try.ntmps31
        go_upto_region 13 with fail
        rw [HX.out]
        obtain ⟨B0, B1, B2, U, hsz⟩ := three W _ _ _ _ _ _ HX.out
        have HB1 := Lib.hid B1
        have HB2 := Lib.hid B2
        have HU := Lib.hid U
        clear B0 B1 B2 U HX
        go_wp2_with fail
        refine bodyPost_ret (v := .tuple #[.slice (some ⟨W.heap.size + 1, 0, none⟩) 1 1, .slice (some ⟨W.heap.size + 1 + 1, 0, none⟩) 1 1]) (by simp [results, Try.results31, go_sem]; try rfl) rfl ?_
        exact ⟨_, _, _, _, rfl, chBlk_one (slot, data.extract 0 300) HB1.out, chBlk_one (slot, data.extract 0 300) HB2.out, fun b hb => by simp [blk] at hb; omega, fun b hb => by simp [blk] at hb; omega, HU.out⟩
  · have q1 : ¬ (300 : Int) < (data.size : Int) := by omega
    have hd : cut3 data = data := by unfold cut3; rw [if_neg hb]
    clear hb
    by_cases h2 : kd = 2
    · subst h2
      have hL : setL ⟨2, slot, n, data⟩ = [(slot, data), (n, sTwo)] := by unfold setL; rw [if_pos rfl, hd]
      clear hkd
      rw [hL]
      obtain ⟨X, hX⟩ : ∃ X, ((W.alloc (.cells #[.int .i64 2, .int .i64 slot, .int .i64 n, .string data] 69)).alloc (.cells #[.int .i64 slot, .string (data)] 57)).alloc (.cells #[.int .i64 slot, .string (data)] 113) = X := ⟨_, rfl⟩
      have HX := Lib.hid hX
      clear hX
      go_enter Try.func31, Try.ntmps31
      go_upto_region 7 with fail
      rw [HX.out]
      obtain ⟨B0, B1, B2, U, hsz⟩ := three W _ _ _ _ _ _ HX.out
      have cn := B0.cell 2
      have u3 : Upd [] X (X.alloc (.cells #[.int .i64 n, .string sTwo] 57)) := (Upd.refl [] X).alloc _
      have HRUN1 := Lib.hid (fun ty => run_appN (P := Try.prog) (ty := ty) chCells_len (by decide) chCells_one undCh infoCh rfl (.slice (some ⟨W.heap.size + 1, 0, none⟩) 1 1) (.slice (some ⟨X.heap.size, 0, none⟩) 1 1) [(slot, data)] [(n, sTwo)] (chBlk_own (slot, data) (B1.upd u3 (by simp)) (base := W.heap.size) (by omega)) (ch_one (n, sTwo) rfl rfl) (by simp) (by simp [maxLen]) (by simp; omega))
      have HSZ := Lib.hid hsz
      have HB0 := Lib.hid (B0.upd u3 (by simp))
      have HB2 := Lib.hid (B2.upd u3 (by simp))
      have HU := Lib.hid (U.seq u3)
      clear HX hsz B0 B1 B2 U u3 hd
      dsimp only [List.getElem?_cons_succ, List.getElem?_cons_zero] at cn
      go_wp2_with (at_builtin; go_must (first
        | (refine wpList_app_of rfl (.tmp 28) (.tmp 32) rfl (.slice (some ⟨W.heap.size + 1, 0, none⟩) 1 1) (.slice (some ⟨X.heap.size, 0, none⟩) 1 1) rfl rfl (HRUN1.out _) ?_; rintro v7 w7 ⟨ho7, hu7, hk7⟩; have HO7 := Lib.hid ho7; have HK7 := Lib.hid hk7; obtain ⟨a7, k7, rfl, -⟩ := ho7.rd chCells_len; have hb0 := HB0.out.upd hu7 (by simp [blk] <;> omega); have hb2 := HB2.out.upd hu7 (by simp [blk] <;> omega); have HU7 := Lib.hid (HU.out.trans (T := []) hu7 (by simp) (fun x hx => .inr (by simp [blk] at hx; omega))); have cn := hb0.cell 2; have ck := hb0.cell 0; dsimp only [List.getElem?_cons_succ, List.getElem?_cons_zero] at cn ck; have u4 : Upd [] w7 (w7.alloc (.cells #[.int .i64 n, .string sTwo] 113)) := (Upd.refl [] w7).alloc _; have hg := HU7.out.size; have HRUN2 := Lib.hid (fun ty => run_appN (P := Try.prog) (ty := ty) chCells_len (by decide) chCells_one undRch infoRch rfl (.slice (some ⟨W.heap.size + 1 + 1, 0, none⟩) 1 1) (.slice (some ⟨w7.heap.size, 0, none⟩) 1 1) [(slot, data)] [(n, sTwo)] (chBlk_own (slot, data) (hb2.upd u4 (by simp)) (base := W.heap.size) (by omega)) (chBlk_one (n, sTwo) (Blk.new w7 _ _)) (by simp) (by simp [maxLen]) (by simp; omega)); have HC0 := Lib.hid (hb0.upd u4 (by simp)); have HV7 := Lib.hid (HO7.out.upd u4 (by simp)); have HU8 := Lib.hid (HU7.out.seq u4); clear ho7 hu7 hk7 hb0 hb2 HU7 u4 hg HO7 HRUN1 HB0 HB2 HU; dsimp only)
        | (refine wpList_app_of rfl (.tmp 34) (.tmp 38) rfl (.slice (some ⟨W.heap.size + 1 + 1, 0, none⟩) 1 1) (.slice (some ⟨w7.heap.size, 0, none⟩) 1 1) rfl rfl (HRUN2.out _) ?_; rintro v8 w8 ⟨ho8, hu8, hk8⟩; have HR8 := Lib.hid (ho8.rd chCells_len); have HK8 := Lib.hid hk8; obtain ⟨a8, k8, rfl, -⟩ := HR8.out; have hc0 := HC0.out.upd hu8 (by simp [blk] <;> omega); have ck := hc0.cell 0; dsimp only [List.getElem?_cons_succ, List.getElem?_cons_zero] at ck; have HU8' := Lib.hid hu8; clear ho8 hu8 hk8 hc0; dsimp only)))
      have hs3 := HSZ.out
      have RD7 : Hid (RdN 2 chCells w8 (.slice a7 2 k7) [(slot, data), (n, sTwo)]) := (HV7.out.upd HU8'.out (fun x hx hy => by
        rcases HK7.out x hx with h | h
        · simp [blk] at h hy; omega
        · simp [blk] at h hy; omega)).rd chCells_len
      have hge := HU8.out.size
      have GE7 : Hid (∀ b ∈ blk (.slice a7 2 k7), W.heap.size ≤ b) := fun b hb => by
        rcases HK7.out b hb with h | h
        · simp [blk] at h; omega
        · simp at h; omega
      have GE8 : Hid (∀ b ∈ blk (.slice a8 2 k8), W.heap.size ≤ b) := fun b hb => by
        rcases HK8.out b hb with h | h
        · simp [blk] at h; omega
        · exact Nat.le_trans hge h
      have HUU := Lib.hid (HU8.out.trans (T := []) HU8'.out (by simp) (fun x hx => .inr (by simp [blk] at hx; omega)))
      refine bodyPost_ret (v := .tuple #[.slice a7 2 k7, .slice a8 2 k8]) (by simp [results, Try.results31, go_sem]; try rfl) rfl ?_
      exact ⟨_, _, _, _, rfl, RD7, HR8, GE7, GE8, HUU.out⟩
    · by_cases h5 : kd = 5
      · subst h5
        obtain ⟨m, hwm, hm9⟩ := within_nat9 n
        have hL : setL ⟨5, slot, n, data⟩ = [(slot, zs m)] := by unfold setL; rw [if_neg h2, if_pos rfl, hwm]; rfl
        rw [hL]
        clear hkd h2 hd
        obtain ⟨X, hX⟩ : ∃ X, ((W.alloc (.cells #[.int .i64 5, .int .i64 slot, .int .i64 n, .string data] 69)).alloc (.cells #[.int .i64 slot, .string (data)] 57)).alloc (.cells #[.int .i64 slot, .string (data)] 113) = X := ⟨_, rfl⟩
        have HX := Lib.hid hX
        clear hX
        go_enter Try.func31, Try.ntmps31
        go_upto_region 10 with fail
        rw [HX.out]
        obtain ⟨B0, B1, B2, U, hsz⟩ := three W _ _ _ _ _ _ HX.out
        have cn := B0.cell 2
        dsimp only [List.getElem?_cons_succ, List.getElem?_cons_zero] at cn
        go_wp2_with fail
        (with_reducible refine (within_any n 0 90000 X hn (by omega) (by omega) (by omega)).mono ?_)
        rw [hwm]
        rintro e w9 ⟨rfl, rfl⟩
        obtain ⟨zf, hz1, hz2, hz3, -⟩ := make_zero m (m : Int) rfl (by omega)
        have hz2 := hz2 X
        have hz3 := hz3 X
        have hv1 := conv_zero m X.heap.size (zf X) hz3
        have b1 := B1.upd hz2 (by simp)
        have b2 := B2.upd hz2 (by simp)
        have c1 := b1.cell 1
        have f1 := b1.frozen 1
        have U1 : Upd [W.heap.size + 1] (zf X) ((zf X).setCell ⟨W.heap.size + 1, 1, none⟩ (.string (zs m))) := (Upd.refl _ (zf X)).setCell _ _ (.inl (by simp))
        have hv2 := conv_zero m X.heap.size _ (hz3.upd U1 (by simp [blk]; omega))
        have bb2 := b2.upd U1 (by simp)
        have c2 := bb2.cell 1
        have f2 := bb2.frozen 1
        have U2 : Upd [W.heap.size + 1 + 1] ((zf X).setCell ⟨W.heap.size + 1, 1, none⟩ (.string (zs m))) (((zf X).setCell ⟨W.heap.size + 1, 1, none⟩ (.string (zs m))).setCell ⟨W.heap.size + 1 + 1, 1, none⟩ (.string (zs m))) := (Upd.refl _ _).setCell _ _ (.inl (by simp))
        have HR1 := Lib.hid (chBlk_one (slot, zs m) ((b1.set_ 1 (.string (zs m))).upd U2 (by simp)))
        have HR2 := Lib.hid (chBlk_one (slot, zs m) (bb2.set_ 1 (.string (zs m))))
        have HUU := Lib.hid (((U.seq hz2).trans (T := []) U1 (by simp) (fun x hx => .inr (by simp at hx; omega))).trans (T := []) U2 (by simp) (fun x hx => .inr (by simp at hx; omega)))
        dsimp only [List.getElem?_cons_succ, List.getElem?_cons_zero] at c1 c2
        rw [hsz] at hv1 hv2
        clear U1 U2 U b1 b2 bb2 hz2 hz3 B0 B1 B2 HX hwm
        go_wp2_with fail
        refine bodyPost_ret (v := .tuple #[.slice (some ⟨W.heap.size + 1, 0, none⟩) 1 1, .slice (some ⟨W.heap.size + 1 + 1, 0, none⟩) 1 1]) (by simp [results, Try.results31, go_sem]; try rfl) rfl ?_
        exact ⟨_, _, _, _, rfl, HR1, HR2, fun b hb => by simp [blk] at hb; omega, fun b hb => by simp [blk] at hb; omega, HUU.out⟩
      · have hL : setL ⟨kd, slot, n, data⟩ = [(slot, data)] := by unfold setL; rw [if_neg h2, if_neg h5, hd]
        rw [hL]
        clear hd
        obtain ⟨X, hX⟩ : ∃ X, ((W.alloc (.cells #[.int .i64 kd, .int .i64 slot, .int .i64 n, .string data] 69)).alloc (.cells #[.int .i64 slot, .string (data)] 57)).alloc (.cells #[.int .i64 slot, .string (data)] 113) = X := ⟨_, rfl⟩
        have HX := Lib.hid hX
        clear hX
        go_enter Try.func31, Try.ntmps31
        go_upto_region 13 with fail
        rw [HX.out]
        obtain ⟨B0, B1, B2, U, hsz⟩ := three W _ _ _ _ _ _ HX.out
        have HB1 := Lib.hid B1
        have HB2 := Lib.hid B2
        have HU := Lib.hid U
        clear B0 B1 B2 U HX
        go_wp2_with fail
        refine bodyPost_ret (v := .tuple #[.slice (some ⟨W.heap.size + 1, 0, none⟩) 1 1, .slice (some ⟨W.heap.size + 1 + 1, 0, none⟩) 1 1]) (by simp [results, Try.results31, go_sem]; try rfl) rfl ?_
        exact ⟨_, _, _, _, rfl, chBlk_one (slot, data) HB1.out, chBlk_one (slot, data) HB2.out, fun b hb => by simp [blk] at hb; omega, fun b hb => by simp [blk] at hb; omega, HU.out⟩
end Go.Proofs.Ytmhojaiajhdlcaa
namespace Go.Proofs.Ytmhojaiajhdlcaa
open Go.RowKit
set_option linter.unusedSimpArgs false
set_option linter.unusedVariables false
set_option linter.unusedSectionVars false
/-- A journal in memory, beside the blocks X. -/
structure JX (w0 w : World) (gd gj : Nat) (X : List Nat) (t : JS) (s : DS) : Prop where
  ex : ∃ F G, JD w0 w gd gj F G t s ∧ ∀ x ∈ X, x < w.heap.size ∧ w0.heap.size ≤ x ∧ x ∉ F ∧ x ∉ G
/-- The blocks X are as they were. -/
def Kp (X : List Nat) (w w' : World) : Prop := ∀ x ∈ X, ∀ o, w.heap[x]? = some o → w'.heap[x]? = some o
theorem Kp.blk {X : List Nat} {w w' : World} (h : Kp X w w') {g : Nat} {e : TypeId} {xs : List Value} (hb : Blk w g e xs) (hg : g ∈ X) : Blk w' g e xs := h g hg _ hb
theorem Kp.of {X S : List Nat} {w w' : World} (hu : Upd S w w') (hs : ∀ x ∈ X, x ∉ S) : Kp X w w' := fun x hx o ho => hu.heap ho (hs x hx)
section
variable {w0 w w1 w' : World} {gd gj : Nat} {X : List Nat} {t t' : JS} {s s' : DS} {Q : List UInt8 → Prop} {k : Nat}
theorem JX.jp (h : JX w0 w gd gj X t s) : JP w0 w gd gj t s := by
  obtain ⟨F, G, h1, -⟩ := h.ex
  exact ⟨F, G, h1⟩
theorem JX.old (h : JX w0 w gd gj X t s) : Upd [] w0 w := h.jp.old
theorem JX.upd (h : JX w0 w gd gj X t s) {S : List Nat} (hu : Upd S w w') (hS : ∀ x ∈ S, x ∈ X) : JX w0 w' gd gj X t s := by
  obtain ⟨F, G, h1, h2⟩ := h.ex
  exact ⟨F, G, h1.upd hu (fun x hx hs => (h2 x (hS x hs)).2.2.1 hx) (fun x hx hs => (h2 x (hS x hs)).2.2.2 hx) (fun x hx => (h2 x (hS x hx)).2.1), fun x hx => ⟨Nat.lt_of_lt_of_le (h2 x hx).1 hu.size, (h2 x hx).2⟩⟩
theorem JX.upd0 (h : JX w0 w gd gj X t s) (hu : Upd [] w w') : JX w0 w' gd gj X t s := h.upd hu (by simp)
/-- One block more. -/
theorem JX.add (h : JX w0 w gd gj X t s) (o : Obj) : JX w0 (w.alloc o) gd gj (w.heap.size :: X) t s := by
  obtain ⟨F, G, h1, h2⟩ := h.ex
  have hu : Upd [] w (w.alloc o) := (Upd.refl [] w).alloc o
  have hsz : (w.alloc o).heap.size = w.heap.size + 1 := by simp
  refine ⟨F, G, h1.upd0 hu, fun x hx => ?_⟩
  rcases List.mem_cons.1 hx with rfl | hx
  · exact ⟨by omega, h1.old.size, fun q => by have := (h1.geF _ q).2; omega, fun q => by have := (h1.dd.ge _ q).2; omega⟩
  · exact ⟨by have := (h2 x hx).1; omega, (h2 x hx).2⟩
theorem JX.of {F G S : List Nat} {gk : Nat} (h1 : JD w0 w gd gj F G t s) (h2 : ∀ x ∈ X, x < w.heap.size ∧ w0.heap.size ≤ x ∧ x ∉ F ∧ x ∉ G) (hS : ∀ x ∈ S, x ∈ F ∨ x ∈ G) (ho : JOut w0 w gd gk S t' s' w') : JX w0 w' gd gk X t' s' ∧ Kp X w w' := by
  obtain ⟨F', G', k1, k2, k3, k4⟩ := ho
  have hno : ∀ x ∈ X, x ∉ S := fun x hx q => by
    rcases hS x q with q | q
    · exact (h2 x hx).2.2.1 q
    · exact (h2 x hx).2.2.2 q
  refine ⟨⟨F', G', k1, fun x hx => ⟨Nat.lt_of_lt_of_le (h2 x hx).1 k2.size, (h2 x hx).2.1, fun q => ?_, fun q => ?_⟩⟩, Kp.of k2 hno⟩
  · rcases k3 x q with q | q
    · exact hno x hx q
    · have := (h2 x hx).1; omega
  · rcases k4 x q with q | q
    · exact hno x hx q
    · have := (h2 x hx).1; omega
theorem jxSet (h : JX w0 w gd gj X t s) (hu : Upd [] w w1) (u : Value) (l : List Ch) (hl : RdN 2 chCells w1 u l) (hge : ∀ x ∈ blk u, w.heap.size ≤ x) (hI : ∀ c ∈ l, I64 c.1 ∧ c.2.size ≤ 1000000) (hs : St Q k s) (hk : k ≤ 470000000) {e : Int} (he : jSet t s l = (e, t', s')) :
    Calls Try.prog 25 #[.pointer (some ⟨gj, 0, none⟩), u] w1 fun x w' => x = .returned (.int .i64 e) ∧ JX w0 w' gd gj X t' s' ∧ Kp X w1 w' ∧ (∃ S, Upd S w1 w' ∧ ∀ x ∈ blk u, x ∉ S) := by
  obtain ⟨F, G, h1, h2⟩ := h.ex
  have hap : ∀ x ∈ blk u, x ∉ F ++ G := fun x hx hf => by
    have := hge x hx
    rcases List.mem_append.1 hf with q | q
    · have := (h1.geF x q).2; omega
    · have := (h1.dd.ge x q).2; omega
  have hc := jset_any u l (h1.upd0 hu) hl hap hI (by have := hs.now; omega) (by have := hs.lg; omega)
  rw [he] at hc
  refine hc.mono ?_
  rintro x w' ⟨rfl, ho⟩
  have hx := JX.of (X := X) (h1.upd0 hu) (fun x hx => ⟨Nat.lt_of_lt_of_le (h2 x hx).1 hu.size, (h2 x hx).2⟩) (fun x hx => List.mem_append.1 hx) ho
  obtain ⟨F', G', k1, k2, -⟩ := ho
  exact ⟨rfl, hx.1, hx.2, _, k2, hap⟩
theorem jxOpen (h : JX w0 w gd gj X t s) (hs : St Q k s) (hk : k ≤ 470000000) (he : jOpen s = (t', s')) :
    Calls Try.prog 24 #[.pointer (some ⟨gd, 0, none⟩)] w fun e w' => ∃ gk, e = .returned (.tuple #[.pointer (some ⟨gk, 0, none⟩), .int .i64 0]) ∧ JX w0 w' gd gk X t' s' ∧ Kp X w w' := by
  obtain ⟨F, G, h1, h2⟩ := h.ex
  have hc := jopen_any h1.dd (by have := hs.now; omega) (by have := hs.lg; omega)
  rw [he] at hc
  refine hc.mono ?_
  rintro e w' ⟨gk, rfl, ho⟩
  exact ⟨gk, rfl, JX.of h1 h2 (fun x hx => .inr hx) ho⟩
theorem jxMark (h : JX w0 w gd gj X t s) (hs : St Q k s) :
    Calls Try.prog 20 #[.pointer (some ⟨gd, 0, none⟩)] w fun e w' => e = .returned (.tuple #[]) ∧ JX w0 w' gd gj X t (dMark s) ∧ Kp X w w' := by
  obtain ⟨F, G, h1, h2⟩ := h.ex
  refine (dMark_any h1.dd (by have := hs.now; omega)).mono ?_
  rintro e w' ⟨rfl, ho⟩
  exact ⟨rfl, JX.of h1 h2 (fun x hx => List.mem_append.1 hx) (h1.disk ho)⟩
theorem jxBack (h : JX w0 w gd gj X t s) (n : Int) (hn : I64 n) (hs : St Q k s) :
    Calls Try.prog 21 #[.pointer (some ⟨gd, 0, none⟩), .int .i64 n] w fun e w' => e = .returned (.tuple #[]) ∧ JX w0 w' gd gj X t (dBack s n) ∧ Kp X w w' := by
  obtain ⟨F, G, h1, h2⟩ := h.ex
  refine (dBack_any n hn h1.dd (by have := hs.mlen; omega)).mono ?_
  rintro e w' ⟨rfl, ho⟩
  exact ⟨rfl, JX.of h1 h2 (fun x hx => List.mem_append.1 hx) (h1.disk ho)⟩
end
theorem JP.jx {w0 w : World} {gd gj : Nat} {t : JS} {s : DS} (h : JP w0 w gd gj t s) : JX w0 w gd gj [] t s := by
  obtain ⟨F, G, h1⟩ := h.ex
  exact ⟨F, G, h1, by simp⟩
/-- The changes stored into an array of texts. -/
def putAll (hv : List ByteArray) (l : List Ch) : List ByteArray := l.foldl (fun a c => a.set c.1.toNat c.2) hv
theorem putAll_take (hv : List ByteArray) (l : List Ch) (j : Nat) (hj : j < l.length) : putAll hv (l.take (j + 1)) = (putAll hv (l.take j)).set (nth l j).1.toNat (nth l j).2 := by
  rw [nth_get _ _ hj, List.take_add_one, List.getElem?_eq_getElem hj]
  unfold putAll
  rw [List.foldl_append]; rfl
theorem putAll_len (l : List Ch) : ∀ hv : List ByteArray, (putAll hv l).length = hv.length := by
  induction l with
  | nil => intro hv; rfl
  | cons c l ih => intro hv; show (putAll (hv.set c.1.toNat c.2) l).length = _; rw [ih, List.length_set]
/-- The array holds what the slots have. -/
structure Has (t : JS) (hv : List ByteArray) : Prop where
  len : hv.length = 41
  at_ : ∀ i, i < 41 → nth hv i = jGet t (i : Int)
theorem Has.put : ∀ (l : List Ch) {t : JS} {hv : List ByteArray}, JT t → (∀ c ∈ l, ChOk c) → Has t hv → Has (jAll t l) (putAll hv l)
  | [], t, hv, _, _, h => h
  | c :: l, t, hv, ht, hc, h => by
    have h1 := hc c (by simp)
    refine Has.put l (ht.hold1 c h1) (fun x hx => hc x (by simp [hx])) ⟨by rw [List.length_set]; exact h.len, fun i hi => ?_⟩
    have hlo := h1.lo
    have hhi := h1.hi
    rw [jGet_hold1 ht.ris, nth_set _ _ _ _ (by rw [h.len]; omega)]
    by_cases he : (i : Int) = c.1
    · rw [if_pos he, if_pos (by omega)]
    · rw [if_neg he, if_neg (by omega)]
      exact h.at_ i hi
theorem Has.zero : Has [] (List.replicate 41 s0) := ⟨by simp, fun i hi => by rw [nth_replicate _ _ _ hi]; rfl⟩
structure HoI (k : Nat) (t : JS) (s : DS) (hv : List ByteArray) : Prop where
  st : St (fun _ => True) (12000000 * k) s
  inv : JInv t s
  has : Has t hv
theorem HoI.zero : HoI 0 [] ⟨[], [], []⟩ (List.replicate 41 s0) := ⟨St.zero trivial, JInv.zero, Has.zero⟩
theorem HoI.step {k : Nat} {t : JS} {s : DS} {hv : List ByteArray} (h : HoI k t s hv) (ht : JT t) (l : List Ch) : ∃ e t' s', jSet t s l = (e, t', s') ∧ ((e ≠ 0 ∧ HoI (k + 1) t' s' hv) ∨ (e = 0 ∧ (∀ c ∈ l, 0 ≤ c.1 ∧ c.1 ≤ 40) ∧ HoI (k + 1) t' s' (putAll hv l))) := by
  have S := sets h.st h.inv l (fun _ _ _ => trivial) (fun _ => trivial)
  obtain ⟨e, t', s', he⟩ : ∃ e t2 s2, jSet t s l = (e, t2, s2) := ⟨_, _, _, rfl⟩
  rw [he] at S
  refine ⟨e, t', s', he, ?_⟩
  by_cases z : e = 0
  · obtain ⟨y, hok⟩ := S.yes z
    have y : t' = jAll t l := y
    subst y
    exact .inr ⟨z, fun c hc => ⟨(hok.ok c hc).lo, (hok.ok c hc).hi⟩, S.st.more (by omega), S.inv, h.has.put l ht hok.ok⟩
  · obtain ⟨y1, y2⟩ := S.no z
    have y1 : t' = t := y1
    have y2 : s' = s := y2
    subst y1; subst y2
    exact .inl ⟨z, S.st.more (by omega), S.inv, h.has⟩
end Go.Proofs.Ytmhojaiajhdlcaa
namespace Go.Proofs.Ytmhojaiajhdlcaa
open Go.RowKit
set_option linter.unusedSimpArgs false
set_option linter.unusedVariables false
/-- What an array holds into which the first j slots were read. -/
def fillT (t : JS) : Nat → List ByteArray
  | 0 => List.replicate 41 s0
  | j + 1 => (fillT t j).set j (jGet t (j : Int))
theorem fillT_len (t : JS) : ∀ j, (fillT t j).length = 41
  | 0 => by simp [fillT]
  | j + 1 => by show ((fillT t j).set j _).length = 41; rw [List.length_set]; exact fillT_len t j
theorem fillT_nth (t : JS) : ∀ (j i : Nat), j ≤ 41 → i < j → nth (fillT t j) i = jGet t (i : Int)
  | 0, i, _, h => by omega
  | j + 1, i, hj, h => by
    show nth ((fillT t j).set j (jGet t (j : Int))) i = _
    rw [nth_set _ _ _ _ (by rw [fillT_len]; omega)]
    by_cases he : j = i
    · rw [if_pos he, he]
    · rw [if_neg he]; exact fillT_nth t j i (by omega) (by omega)
/-- Behind sets, ahead of the last one. -/
structure CuI (k : Nat) (t : JS) (s : DS) : Prop where
  st : St (fun _ => True) (12000000 * k) s
  inv : JInv t s
theorem CuI.zero : CuI 0 [] ⟨[], [], []⟩ := ⟨St.zero trivial, JInv.zero⟩
theorem CuI.step {k : Nat} {t : JS} {s : DS} (h : CuI k t s) (l : List Ch) : ∃ e t' s', jSet t s l = (e, t', s') ∧ CuI (k + 1) t' s' := by
  have S := sets h.st h.inv l (fun _ _ _ => trivial) (fun _ => trivial)
  obtain ⟨e, t', s', he⟩ : ∃ e t2 s2, jSet t s l = (e, t2, s2) := ⟨_, _, _, rfl⟩
  rw [he] at S
  exact ⟨e, t', s', he, S.st.more (by omega), S.inv⟩
/-- The file tells what was, or what is to be. -/
def WN (t t' : JS) (c : List UInt8) : Prop := (jScan c).1 = t ∨ (jScan c).1 = t'
theorem St.markQ {Q R : List UInt8 → Prop} {k : Nat} {s : DS} (h : St R k s) (hq : Q (dGet s.now nmJ).1) : St Q 0 (dMark s) := ⟨h.ok.mark, h.fsn, fun x hx => by simp [dMark] at hx, Nat.le_refl _, fun j => by
  show Q (dGet (wAll s.now (([] : List Wr).take j)) nmJ).1
  simpa [wAll] using hq⟩
/-- The last Set, and what was before it. -/
theorem CuI.last {k : Nat} {t : JS} {s : DS} (h : CuI k t s) (l : List Ch) : ∃ e t' s', jSet t (dMark s) l = (e, t', s') ∧ St (WN t t') 12000000 s' := by
  have hsc : jScan (dGet s.now nmJ).1 = (t, (dGet s.now nmJ).1.length) := h.inv.j.sc
  have hin : JInv t (dMark s) := ⟨h.inv.j, h.inv.n⟩
  have h0 : St (WN t (jAll t l)) 0 (dMark s) := h.st.markQ (.inl (by rw [hsc]))
  have S := sets h0 hin l (fun hl m hm => by
    show WN t (jAll t l) ((dGet s.now nmJ).1 ++ _)
    by_cases hlt : m < (frameOf (encChs l)).length
    · exact .inl (by rw [jScan_part hsc hl m hlt])
    · have : m = (frameOf (encChs l)).length := by omega
      rw [this, List.take_length]
      exact .inr (by rw [jScan_frame hsc hl])) (fun hl => .inr (by rw [((h.inv.j).frame hl).rows.sc]))
  obtain ⟨e, t', s', he⟩ : ∃ e t2 s2, jSet t (dMark s) l = (e, t2, s2) := ⟨_, _, _, rfl⟩
  rw [he] at S
  refine ⟨e, t', s', he, ?_⟩
  by_cases z : e = 0
  · have y : t' = jAll t l := (S.yes z).1
    subst y
    exact S.st.more (by omega)
  · obtain ⟨y1, y2⟩ := S.no z
    have y1 : t' = t := y1
    have y2 : s' = dMark s := y2
    subst y1; subst y2
    exact (h.st.markQ (.inl (by rw [hsc]))).more (by omega)
/-- An Open. -/
theorem cu_open {t t' : JS} {k : Nat} {s : DS} (h : St (WN t t') k s) : ∃ u s', jOpen s = (u, s') ∧ (u = t ∨ u = t') ∧ St (WN t t') (k + 2) s' := by
  have hq : WN t t' (dGet s.now nmJ).1 := h.q
  have h2 := jOpen_any' h (by unfold WN; rw [jScan_cut]; exact hq)
  obtain ⟨u, s', he⟩ : ∃ u s2, jOpen s = (u, s2) := ⟨_, _, rfl⟩
  rw [he] at h2
  refine ⟨u, s', he, ?_, h2.2.1⟩
  have h3 : u = (jScan (dGet s.now nmJ).1).1 := h2.1
  rw [h3]
  exact hq
theorem within_le {y : Int} (m : Nat) (hm : m < 4611686018427387904) : ∃ n : Nat, within y 0 (m : Int) = (n : Int) ∧ n ≤ m := within_nat y m
end Go.Proofs.Ytmhojaiajhdlcaa
namespace Go.Proofs.Ytmhojaiajhdlcaa
open Go.RowKit
set_option linter.unusedSimpArgs false
set_option linter.unusedVariables false
noncomputable def regC30 : Code := regAtOf 30 Try.f8.body
noncomputable def restC30 : Code := restAtOf 30 Try.f8.body
set_option maxRecDepth 100000 in
set_option maxHeartbeats 8000000 in
theorem cu30 {w W : World} {gd gj g1 g2 k : Nat} {X : List Nat} {tj t t' : JS} {s : DS} {x0 x1 x2 x3 x4 x5 x6 x7 x8 x10 x11 x12 x13 x14 x15 x16 x19 x20 x21 x22 x23 x24 x25 x26 x27 x28 x29 x30 x31 x32 x33 x34 x35 x36 x37 x38 x39 x40 x41 x42 x43 x44 x45 x46 x47 x48 x49 x50 x51 x52 x53 x54 x55 x56 x57 x58 x59 x60 x61 x62 x63 x64 x65 x66 x67 x68 x69 x70 x71 x72 x73 x74 x75 x76 x77 x78 x79 x80 x81 x82 x83 x84 x85 x86 x87 x88 x89 x90 x91 x92 x93 x94 x95 x96 x97 x98 x99 x100 x101 x102 x103 x104 x105 x106 x107 x108 x109 x110 x111 x112 x113 x114 x115 x116 x117 x118 x119 x120 x121 x122 x123 x124 x125 x126 x127 x128 x129 x130 x131 x132 x133 x134 x135 x136 x137 x138 x139 x140 x141 x142 x143 x144 x145 x146 x147 x148 x149 x150 x151 x152 x153 x154 x155 x156 x157 x158 x159 x160 x161 x162 x163 x164 x165 x166 x167 : Value} {Q : Exit → Act → World → Prop} (hJ : JX w W gd gj X tj s) (hg1 : g1 ∈ X) (hg2 : g2 ∈ X) (hs : St (WN t t') k s) (hk : k ≤ 470000000) (hb1 : Blk W g1 63 ((fillT t 41).map (.string ·))) (hb2 : Blk W g2 63 ((fillT t' 41).map (.string ·)))
    (hQ : ∀ (y24 y25 y26 y27 y28 y126 y127 y128 y129 y130 y131 y132 y133 y134 y135 y136 y137 y138 y139 y140 y141 y142 y143 y144 y145 y146 y147 y148 y149 y150 y151 y152 y153 y154 y155 y156 y157 y158 y159 y160 y161 y162 y163 y164 y165 y166 y167 : Value)  (w' : World), Upd [] w w' → Q .ret ⟨#[x0, x1, x2, x3, x4, x5, x6, x7, .bool true, .pointer (some ⟨gd, 0, none⟩), x10, x11, x12, x13, x14, x15, x16, .pointer (some ⟨g1, 0, none⟩), .pointer (some ⟨g2, 0, none⟩), x19, x20, x21, x22, x23, y24, y25, y26, y27, y28, x29, x30, x31, x32, x33, x34, x35, x36, x37, x38, x39, x40, x41, x42, x43, x44, x45, x46, x47, x48, x49, x50, x51, x52, x53, x54, x55, x56, x57, x58, x59, x60, x61, x62, x63, x64, x65, x66, x67, x68, x69, x70, x71, x72, x73, x74, x75, x76, x77, x78, x79, x80, x81, x82, x83, x84, x85, x86, x87, x88, x89, x90, x91, x92, x93, x94, x95, x96, x97, x98, x99, x100, x101, x102, x103, x104, x105, x106, x107, x108, x109, x110, x111, x112, x113, x114, x115, x116, x117, x118, x119, x120, x121, x122, x123, x124, x125, y126, y127, y128, y129, y130, y131, y132, y133, y134, y135, y136, y137, y138, y139, y140, y141, y142, y143, y144, y145, y146, y147, y148, y149, y150, y151, y152, y153, y154, y155, y156, y157, y158, y159, y160, y161, y162, y163, y164, y165, y166, y167], []⟩ w') {K : Act → World → Prop} (hK : ∀ a w, Code.wp Try.prog restC30 Q a w → K a w) : Code.wp Try.prog regC30 (Exit.then K Q) ⟨#[x0, x1, x2, x3, x4, x5, x6, x7, x8, .pointer (some ⟨gd, 0, none⟩), x10, x11, x12, x13, x14, x15, x16, .pointer (some ⟨g1, 0, none⟩), .pointer (some ⟨g2, 0, none⟩), x19, x20, x21, x22, x23, x24, x25, x26, x27, x28, x29, x30, x31, x32, x33, x34, x35, x36, x37, x38, x39, x40, x41, x42, x43, x44, x45, x46, x47, x48, x49, x50, x51, x52, x53, x54, x55, x56, x57, x58, x59, x60, x61, x62, x63, x64, x65, x66, x67, x68, x69, x70, x71, x72, x73, x74, x75, x76, x77, x78, x79, x80, x81, x82, x83, x84, x85, x86, x87, x88, x89, x90, x91, x92, x93, x94, x95, x96, x97, x98, x99, x100, x101, x102, x103, x104, x105, x106, x107, x108, x109, x110, x111, x112, x113, x114, x115, x116, x117, x118, x119, x120, x121, x122, x123, x124, x125, x126, x127, x128, x129, x130, x131, x132, x133, x134, x135, x136, x137, x138, x139, x140, x141, x142, x143, x144, x145, x146, x147, x148, x149, x150, x151, x152, x153, x154, x155, x156, x157, x158, x159, x160, x161, x162, x163, x164, x165, x166, x167], []⟩ W := by
  conv => arg 2; whnf
  change ∀ a w, Code.wp _ (Code.seq _ _) Q a w → K a w at hK
  have HQ := Lib.hid hQ
  clear hQ
  obtain ⟨u, s2, ho, hu0, -⟩ := cu_open hs
  have HJ := Lib.hid hJ
  have HB1 := Lib.hid hb1
  have HB2 := Lib.hid hb2
  have HS := Lib.hid hs
  have HK := Lib.hid hk
  have HO := Lib.hid ho
  have HU := Lib.hid hu0
  clear hJ hb1 hb2 hs hk ho hu0
  go_wp2_with fail
  (with_reducible refine (jxOpen HJ.out HS.out HK.out HO.out).mono ?_)
  rintro e w3 ⟨gk, rfl, h3, hk3⟩
  have H3 := Lib.hid h3
  have HB31 := Lib.hid (hk3.blk HB1.out hg1)
  have HB32 := Lib.hid (hk3.blk HB2.out hg2)
  clear h3 hk3 HJ HB1 HB2 hg1 hg2
  go_wp2_with fail
  go_loopw [26, 27, 28] (fun vo vy vs wr => ∃ (j : Nat) (ob yb : Bool), j ≤ 41 ∧ vo = .bool ob ∧ vy = .bool yb ∧ vs = .int .i64 (j : Int) ∧ Hid (Upd [] w3 wr) ∧ Hid ((u = t → ob = true) ∧ (u = t' → yb = true))) (fun _ _ vs _ => 41 - (intOf vs).toNat)
  case atStart => exact ⟨0, true, true, by omega, rfl, rfl, rfl, Upd.refl [] w3, fun _ => rfl, fun _ => rfl⟩
  case round =>
    obtain ⟨j, ob, yb, hj41, rfl, rfl, rfl, hu, hf⟩ := hrel
    have HF := Lib.hid hf.out
    clear hf
    by_cases hlt : j < 41
    · have q1 : (j : Int) ≤ 40 := by omega
      have q2 : (0 : Int) ≤ j := by omega
      have q3 : (j : Int) < 41 := by omega
      have hI : I64 (j : Int) := i64_mk (by omega) (by omega)
      have HII := Lib.hid hI
      obtain ⟨y, hy⟩ : ∃ y, jGet u (j : Int) = y := ⟨_, rfl⟩
      obtain ⟨z1, hz1⟩ : ∃ z, jGet t (j : Int) = z := ⟨_, rfl⟩
      obtain ⟨z2, hz2⟩ : ∃ z, jGet t' (j : Int) = z := ⟨_, rfl⟩
      have HY := Lib.hid hy
      have HZ1 : Hid ((fillT t 41)[j]? = some z1) := by
        unfold Hid
        rw [List.getElem?_eq_getElem (by rw [fillT_len]; exact hlt), ← nth_get _ _ (by rw [fillT_len]; exact hlt), fillT_nth t 41 j (by omega) hlt, hz1]
      have HZ2 : Hid ((fillT t' 41)[j]? = some z2) := by
        unfold Hid
        rw [List.getElem?_eq_getElem (by rw [fillT_len]; exact hlt), ← nth_get _ _ (by rw [fillT_len]; exact hlt), fillT_nth t' 41 j (by omega) hlt, hz2]
      obtain ⟨b1, x1⟩ : ∃ b, (y.toList == z1.toList) = b := ⟨_, rfl⟩
      obtain ⟨b2, x2⟩ : ∃ b, (y.toList == z2.toList) = b := ⟨_, rfl⟩
      have HA : Hid (u = t → b1 = true) := fun q => by rw [← x1, ← hy, ← hz1, q]; simp
      have HC : Hid (u = t' → b2 = true) := fun q => by rw [← x2, ← hy, ← hz2, q]; simp
      have d1 : ∀ x : Wx wr, x.val.cell? ⟨g1, j, none⟩ = some (.string z1) := Wx.cell ((HB31.out.upd hu.out (by simp)).cell j |>.trans (by rw [List.getElem?_map, HZ1.out]; rfl))
      clear hy hz1 hz2 hI
      cases ob with
      | true =>
        cases yb with
        | true =>
          go_wp2_with fail
          refine wp_region_wx (by kernel_rfl) (by kernel_rfl) ?_
          repeat (go_big_quiet_step (first | (go_at_call 28; exact Wx.upd (jpGet ((H3.out.jp.upd0 hu.out).upd0 (Wx.prop _)) (j : Int) HII.out HY.out)) | fail))
          refine wpQuiet_nil ?_
          rintro _ ⟨x, rfl⟩

          have HU4 : Hid (Upd [] w3 x.val) := hu.out.seq x.prop
          have d2 : ∀ y : Wx x.val, y.val.cell? ⟨g2, j, none⟩ = some (.string z2) := Wx.cell ((HB32.out.upd HU4.out (by simp)).cell j |>.trans (by rw [List.getElem?_map, HZ2.out]; rfl))
          clear d1
          go_wp2_with fail
          refine wp_region_wx (by kernel_rfl) (by kernel_rfl) ?_
          repeat (go_big_quiet_step (first | (go_at_call 28; exact Wx.upd (jpGet ((H3.out.jp.upd0 HU4.out).upd0 (Wx.prop _)) (j : Int) HII.out HY.out)) | fail))
          refine wpQuiet_nil ?_
          rintro _ ⟨x5, rfl⟩

          have HU5 : Hid (Upd [] w3 x5.val) := HU4.out.seq x5.prop
          go_wp2_with fail
          go_roundw
          case rel => exact ⟨j + 1, b1, b2, by omega, by first | rfl | (congr 1), by first | rfl | (congr 1), by go_num, HU5, ⟨fun q => HA.out q, fun q => HC.out q⟩⟩
          case measure => simp [intOf]; omega
        | false =>
          go_wp2_with fail
          refine wp_region_wx (by kernel_rfl) (by kernel_rfl) ?_
          repeat (go_big_quiet_step (first | (go_at_call 28; exact Wx.upd (jpGet ((H3.out.jp.upd0 hu.out).upd0 (Wx.prop _)) (j : Int) HII.out HY.out)) | fail))
          refine wpQuiet_nil ?_
          rintro _ ⟨x, rfl⟩

          have HU4 : Hid (Upd [] w3 x.val) := hu.out.seq x.prop
          have d2 : ∀ y : Wx x.val, y.val.cell? ⟨g2, j, none⟩ = some (.string z2) := Wx.cell ((HB32.out.upd HU4.out (by simp)).cell j |>.trans (by rw [List.getElem?_map, HZ2.out]; rfl))
          clear d1
          go_wp2_with fail
          refine wp_region_wx (by kernel_rfl) (by kernel_rfl) ?_
          repeat (go_big_quiet_step (first | (go_at_call 28; exact Wx.upd (jpGet ((H3.out.jp.upd0 HU4.out).upd0 (Wx.prop _)) (j : Int) HII.out HY.out)) | fail))
          refine wpQuiet_nil ?_
          rintro _ ⟨x5, rfl⟩

          have HU5 : Hid (Upd [] w3 x5.val) := HU4.out.seq x5.prop
          go_wp2_with fail
          go_roundw
          case rel => exact ⟨j + 1, b1, false, by omega, by first | rfl | (congr 1), by first | rfl | (congr 1), by go_num, HU5, ⟨fun q => HA.out q, fun q => by have := HF.out; simp [q] at this⟩⟩
          case measure => simp [intOf]; omega
      | false =>
        cases yb with
        | true =>
          go_wp2_with fail
          refine wp_region_wx (by kernel_rfl) (by kernel_rfl) ?_
          repeat (go_big_quiet_step (first | (go_at_call 28; exact Wx.upd (jpGet ((H3.out.jp.upd0 hu.out).upd0 (Wx.prop _)) (j : Int) HII.out HY.out)) | fail))
          refine wpQuiet_nil ?_
          rintro _ ⟨x, rfl⟩

          have HU4 : Hid (Upd [] w3 x.val) := hu.out.seq x.prop
          have d2 : ∀ y : Wx x.val, y.val.cell? ⟨g2, j, none⟩ = some (.string z2) := Wx.cell ((HB32.out.upd HU4.out (by simp)).cell j |>.trans (by rw [List.getElem?_map, HZ2.out]; rfl))
          clear d1
          go_wp2_with fail
          refine wp_region_wx (by kernel_rfl) (by kernel_rfl) ?_
          repeat (go_big_quiet_step (first | (go_at_call 28; exact Wx.upd (jpGet ((H3.out.jp.upd0 HU4.out).upd0 (Wx.prop _)) (j : Int) HII.out HY.out)) | fail))
          refine wpQuiet_nil ?_
          rintro _ ⟨x5, rfl⟩

          have HU5 : Hid (Upd [] w3 x5.val) := HU4.out.seq x5.prop
          go_wp2_with fail
          go_roundw
          case rel => exact ⟨j + 1, false, b2, by omega, by first | rfl | (congr 1), by first | rfl | (congr 1), by go_num, HU5, ⟨fun q => by have := HF.out; simp [q] at this, fun q => HC.out q⟩⟩
          case measure => simp [intOf]; omega
        | false =>
          go_wp2_with fail
          refine wp_region_wx (by kernel_rfl) (by kernel_rfl) ?_
          repeat (go_big_quiet_step (first | (go_at_call 28; exact Wx.upd (jpGet ((H3.out.jp.upd0 hu.out).upd0 (Wx.prop _)) (j : Int) HII.out HY.out)) | fail))
          refine wpQuiet_nil ?_
          rintro _ ⟨x, rfl⟩

          have HU4 : Hid (Upd [] w3 x.val) := hu.out.seq x.prop
          have d2 : ∀ y : Wx x.val, y.val.cell? ⟨g2, j, none⟩ = some (.string z2) := Wx.cell ((HB32.out.upd HU4.out (by simp)).cell j |>.trans (by rw [List.getElem?_map, HZ2.out]; rfl))
          clear d1
          go_wp2_with fail
          refine wp_region_wx (by kernel_rfl) (by kernel_rfl) ?_
          repeat (go_big_quiet_step (first | (go_at_call 28; exact Wx.upd (jpGet ((H3.out.jp.upd0 HU4.out).upd0 (Wx.prop _)) (j : Int) HII.out HY.out)) | fail))
          refine wpQuiet_nil ?_
          rintro _ ⟨x5, rfl⟩

          have HU5 : Hid (Upd [] w3 x5.val) := HU4.out.seq x5.prop
          go_wp2_with fail
          go_roundw
          case rel => exact ⟨j + 1, false, false, by omega, by first | rfl | (congr 1), by first | rfl | (congr 1), by go_num, HU5, ⟨fun q => by have := HF.out; simp [q] at this, fun q => by have := HF.out; simp [q] at this⟩⟩
          case measure => simp [intOf]; omega
    · obtain rfl : j = 41 := by omega
      have q1 : ¬ ((41 : Nat) : Int) ≤ 40 := by omega
      have hoy : ob = true ∨ yb = true := by
        rcases HU.out with q | q
        · exact .inl (HF.out.1 q)
        · exact .inr (HF.out.2 q)
      cases ob with
      | true =>
        go_wp2_with fail
        (with_reducible refine (journalRuns_any _).mono ?_)
        rintro e w15 ⟨rfl, hu15⟩
        have HUF := Lib.hid ((H3.out.old.seq hu.out).seq hu15)
        clear hu15
        go_wp2_with fail
        exact HQ.out _ _ _ _ _ _ _ _ _ _ _ _ _ _ _ _ _ _ _ _ _ _ _ _ _ _ _ _ _ _ _ _ _ _ _ _ _ _ _ _ _ _ _ _ _ _ _ _ HUF.out
      | false =>
        obtain rfl : yb = true := by simpa using hoy
        go_wp2_with fail
        (with_reducible refine (journalRuns_any _).mono ?_)
        rintro e w15 ⟨rfl, hu15⟩
        have HUF := Lib.hid ((H3.out.old.seq hu.out).seq hu15)
        clear hu15
        go_wp2_with fail
        exact HQ.out _ _ _ _ _ _ _ _ _ _ _ _ _ _ _ _ _ _ _ _ _ _ _ _ _ _ _ _ _ _ _ _ _ _ _ _ _ _ _ _ _ _ _ _ _ _ _ _ HUF.out
end Go.Proofs.Ytmhojaiajhdlcaa
namespace Go.Proofs.Ytmhojaiajhdlcaa
open Go.RowKit
set_option linter.unusedSimpArgs false
set_option linter.unusedVariables false
section
variable {w0 w w1 w' : World} {gd gj : Nat} {X : List Nat} {t t' : JS} {s s' : DS} {Q : List UInt8 → Prop} {k : Nat}
theorem Kp.trans {a b c : World} (h : Kp X a b) (k : Kp X b c) : Kp X a c := fun x hx o ho => k x hx o (h x hx o ho)
theorem Kp.upd0 (hu : Upd [] w w') : Kp X w w' := Kp.of hu (by simp)
/-- Blocks that are new. -/
theorem JX.fresh (h : JX w0 w gd gj X t s) (hu : Upd [] w w1) {Y : List Nat} (hY : ∀ y ∈ Y, w.heap.size ≤ y ∧ y < w1.heap.size) : JX w0 w1 gd gj (Y ++ X) t s := by
  obtain ⟨F, G, h1, h2⟩ := h.ex
  refine ⟨F, G, h1.upd0 hu, fun x hx => ?_⟩
  rcases List.mem_append.1 hx with hx | hx
  · have h3 := hY x hx
    exact ⟨h3.2, Nat.le_trans h1.old.size h3.1, fun q => by have := (h1.geF x q).2; omega, fun q => by have := (h1.dd.ge x q).2; omega⟩
  · exact ⟨Nat.lt_of_lt_of_le (h2 x hx).1 hu.size, (h2 x hx).2⟩
theorem chs_lt {w : World} {b o n k : Nat} {l : List Ch} (h : RdN 2 chCells w (.slice (some ⟨b, o, none⟩) n k) l) (hl : l ≠ []) : b < w.heap.size := by
  obtain ⟨a, c, he, -, -, hc⟩ := h
  injection he with e1 e2 e3
  subst e1
  obtain ⟨b', o', hb, hcell⟩ := hc hl
  injection hb with hb
  injection hb with hb1 hb2
  subst hb1
  have := hcell 0 (by cases l with | nil => exact absurd rfl hl | cons a m => simp) 0 (by omega)
  apply Classical.byContradiction
  intro hge
  have hno : w.heap[b]? = none := Array.getElem?_eq_none (by omega)
  simp [World.cell?, hno] at this
/-- Set of changes that lie in a kept block. -/
theorem jxSet2 (h : JX w0 w gd gj X t s) (u : Value) (l : List Ch) (hl : RdN 2 chCells w u l) (hux : ∀ x ∈ blk u, x ∈ X) (hI : ∀ c ∈ l, I64 c.1 ∧ c.2.size ≤ 1000000) (hs : St Q k s) (hk : k ≤ 470000000) {e : Int} (he : jSet t s l = (e, t', s')) :
    Calls Try.prog 25 #[.pointer (some ⟨gj, 0, none⟩), u] w fun x w' => x = .returned (.int .i64 e) ∧ JX w0 w' gd gj X t' s' ∧ Kp X w w' := by
  obtain ⟨F, G, h1, h2⟩ := h.ex
  have hap : ∀ x ∈ blk u, x ∉ F ++ G := fun x hx hf => by
    rcases List.mem_append.1 hf with q | q
    · exact (h2 x (hux x hx)).2.2.1 q
    · exact (h2 x (hux x hx)).2.2.2 q
  have hc := jset_any u l h1 hl hap hI (by have := hs.now; omega) (by have := hs.lg; omega)
  rw [he] at hc
  refine hc.mono ?_
  rintro x w' ⟨rfl, ho⟩
  exact ⟨rfl, JX.of h1 h2 (fun x hx => List.mem_append.1 hx) ho⟩
end
noncomputable def regC10 : Code := regAtOf 10 Try.f8.body
noncomputable def restC10 : Code := restAtOf 10 Try.f8.body
set_option maxRecDepth 100000 in
set_option maxHeartbeats 8000000 in
theorem cu10 {w W : World} {gd gj gb k c3 : Nat} {a3 : Option Addr} {cut : Int} {l3 : List Int} {x : Ask24} {t : JS} {s : DS} {x0 x1 x4 x6 x7 x8 x11 x12 x13 x14 x15 x16 x17 x18 x19 x20 x21 x22 x23 x24 x25 x26 x27 x28 x29 x30 x31 x32 x33 x34 x35 x36 x37 x38 x39 x40 x41 x42 x43 x44 x45 x46 x47 x48 x49 x50 x51 x52 x53 x54 x55 x56 x57 x58 x59 x60 x61 x62 x63 x64 x65 x66 x67 x68 x69 x70 x71 x72 x73 x74 x75 x76 x77 x78 x79 x80 x81 x82 x83 x84 x85 x86 x87 x88 x89 x90 x91 x92 x93 x94 x95 x96 x97 x98 x99 x100 x101 x102 x103 x104 x105 x106 x107 x108 x109 x110 x111 x112 x113 x114 x115 x116 x117 x118 x119 x120 x121 x122 x123 x124 x125 x126 x127 x128 x129 x130 x131 x132 x133 x134 x135 x136 x137 x138 x139 x140 x141 x142 x143 x144 x145 x146 x147 x148 x149 x150 x151 x152 x153 x154 x155 x156 x157 x158 x159 x160 x161 x162 x163 x164 x165 x166 x167 : Value} {Q : Exit → Act → World → Prop} (hJ : JX w W gd gj [] t s) (hC : CuI k t s) (hbx : Blk w gb 69 (ask24Cells x)) (hx : Ask24Good x) (hcut : I64 cut) (h3 : Rd iv w (.slice a3 l3.length c3) l3) (hg3 : ∀ y ∈ l3, I64 y)
    (hQ : ∀ (y15 y16 y17 y18 y19 y20 y21 y22 y23 y24 y25 y26 y27 y28 y62 y63 y64 y65 y66 y67 y68 y69 y70 y71 y72 y73 y74 y75 y76 y77 y78 y79 y80 y81 y82 y83 y84 y85 y86 y87 y88 y89 y90 y91 y92 y93 y94 y95 y96 y97 y98 y99 y100 y101 y102 y103 y104 y105 y106 y107 y108 y109 y110 y111 y112 y113 y114 y115 y116 y117 y118 y119 y120 y121 y122 y123 y124 y125 y126 y127 y128 y129 y130 y131 y132 y133 y134 y135 y136 y137 y138 y139 y140 y141 y142 y143 y144 y145 y146 y147 y148 y149 y150 y151 y152 y153 y154 y155 y156 y157 y158 y159 y160 y161 y162 y163 y164 y165 y166 y167 : Value)  (w' : World), Upd [] w w' → Q .ret ⟨#[x0, x1, .int .i64 cut, .slice a3 l3.length c3, x4, .pointer (some ⟨gb, 0, none⟩), x6, x7, .bool true, .pointer (some ⟨gd, 0, none⟩), .pointer (some ⟨gj, 0, none⟩), x11, x12, x13, x14, y15, y16, y17, y18, y19, y20, y21, y22, y23, y24, y25, y26, y27, y28, x29, x30, x31, x32, x33, x34, x35, x36, x37, x38, x39, x40, x41, x42, x43, x44, x45, x46, x47, x48, x49, x50, x51, x52, x53, x54, x55, x56, x57, x58, x59, x60, x61, y62, y63, y64, y65, y66, y67, y68, y69, y70, y71, y72, y73, y74, y75, y76, y77, y78, y79, y80, y81, y82, y83, y84, y85, y86, y87, y88, y89, y90, y91, y92, y93, y94, y95, y96, y97, y98, y99, y100, y101, y102, y103, y104, y105, y106, y107, y108, y109, y110, y111, y112, y113, y114, y115, y116, y117, y118, y119, y120, y121, y122, y123, y124, y125, y126, y127, y128, y129, y130, y131, y132, y133, y134, y135, y136, y137, y138, y139, y140, y141, y142, y143, y144, y145, y146, y147, y148, y149, y150, y151, y152, y153, y154, y155, y156, y157, y158, y159, y160, y161, y162, y163, y164, y165, y166, y167], []⟩ w') {K : Act → World → Prop} (hK : ∀ a w, Code.wp Try.prog restC10 Q a w → K a w) : Code.wp Try.prog regC10 (Exit.then K Q) ⟨#[x0, x1, .int .i64 cut, .slice a3 l3.length c3, x4, .pointer (some ⟨gb, 0, none⟩), x6, x7, x8, .pointer (some ⟨gd, 0, none⟩), .pointer (some ⟨gj, 0, none⟩), x11, x12, x13, x14, x15, x16, x17, x18, x19, x20, x21, x22, x23, x24, x25, x26, x27, x28, x29, x30, x31, x32, x33, x34, x35, x36, x37, x38, x39, x40, x41, x42, x43, x44, x45, x46, x47, x48, x49, x50, x51, x52, x53, x54, x55, x56, x57, x58, x59, x60, x61, x62, x63, x64, x65, x66, x67, x68, x69, x70, x71, x72, x73, x74, x75, x76, x77, x78, x79, x80, x81, x82, x83, x84, x85, x86, x87, x88, x89, x90, x91, x92, x93, x94, x95, x96, x97, x98, x99, x100, x101, x102, x103, x104, x105, x106, x107, x108, x109, x110, x111, x112, x113, x114, x115, x116, x117, x118, x119, x120, x121, x122, x123, x124, x125, x126, x127, x128, x129, x130, x131, x132, x133, x134, x135, x136, x137, x138, x139, x140, x141, x142, x143, x144, x145, x146, x147, x148, x149, x150, x151, x152, x153, x154, x155, x156, x157, x158, x159, x160, x161, x162, x163, x164, x165, x166, x167], []⟩ W := by
  conv => arg 2; whnf
  change ∀ a w, Code.wp _ (Code.seq _ _) Q a w → K a w at hK
  have HQ := Lib.hid hQ
  clear hQ
  obtain ⟨l, hl⟩ : ∃ l, setL x = l := ⟨_, rfl⟩
  have hlen := setL_len x
  have hok := setL_ok x hx.slot hx.n
  rw [hl] at hlen hok
  obtain ⟨e, t1, s1, he, hs1⟩ := hC.last l
  obtain ⟨sM, hsM⟩ : ∃ sM, dMark s = sM := ⟨_, rfl⟩
  have hstM : St (fun _ => True) 0 sM := by rw [← hsM]; exact hC.st.mark
  rw [hsM] at he
  have HJ := Lib.hid hJ
  have HST := Lib.hid hC.st
  have HL := Lib.hid hl
  have HOK := Lib.hid hok
  have HE := Lib.hid he
  have HX := Lib.hid hx
  have HSM := Lib.hid hstM
  have HKM : Hid (0 ≤ 470000000) := by unfold Hid; omega
  have HS1 := Lib.hid hs1
  have HBX := Lib.hid hbx
  have HCUT : Hid (-9223372036854775808 ≤ cut ∧ cut ≤ 9223372036854775807) := hcut
  have HG3 := Lib.hid hg3
  obtain ⟨aa, cc, hee, hle3, hcm3, hcell3⟩ := h3
  injection hee with f1 f2 f3
  subst f1
  have hm3 : l3.length ≤ 9223372036854775807 := by unfold maxLen at hcm3; omega
  clear hle3
  have HC3 := Lib.hid hcell3
  have HSMe := Lib.hid hsM
  clear hJ hC hl hok he hx hstM hs1 hbx hcut hg3 hcm3 hcell3 f2 f3 hsM
  go_wp2_with fail
  (with_reducible refine (jxMark HJ.out HST.out).mono ?_)
  rw [HSMe.out]
  rintro e2 w2 ⟨rfl, h2, -⟩
  have hb2 := HBX.out.upd h2.old (by simp)
  have d0 := hb2.cell 0
  have d1 := hb2.cell 1
  have d2 := hb2.cell 2
  have d3 := hb2.cell 3
  dsimp only [List.getElem?_cons_succ, List.getElem?_cons_zero] at d0 d1 d2 d3
  have H2 := Lib.hid h2
  clear hb2 h2 HJ HST HSMe
  go_wp2_with fail
  (with_reducible refine (sets_any x HX.out w2 HL.out).mono ?_)
  rintro e3 w3 ⟨a8, k3, a4, k4, rfl, hr3, hr4, hg3, hg4, hu3⟩
  clear hr4 hg4 d0 d1 d2 d3
  obtain ⟨aa, kk, he3, -, -, hc3⟩ := id hr3.out
  injection he3 with f1 f2 f3
  subst f1; subst f3
  have hne : l ≠ [] := by intro h; rw [h] at hlen; simp at hlen
  obtain ⟨b3, o3, rfl, -⟩ := hc3 hne
  have hb3 : w2.heap.size ≤ b3 := hg3.out b3 (by simp [blk])
  have hb3' : b3 < w3.heap.size := chs_lt hr3.out hne
  have H3 : Hid (JX w w3 gd gj [b3] t sM) := H2.out.fresh hu3 (Y := [b3]) (by intro y hy; simp at hy; subst hy; exact ⟨hb3, hb3'⟩)
  have HR3 := hr3
  clear hc3 f2 hg3 hu3 hb3 H2 hr3 hne
  go_upto_region 13 with fail
  have uA : Upd [] w3 (w3.alloc (.cells ((List.replicate 41 s0).map (.string ·)).toArray 63)) := (Upd.refl [] w3).alloc _
  have uB : Upd [] (w3.alloc (.cells ((List.replicate 41 s0).map (.string ·)).toArray 63)) ((w3.alloc (.cells ((List.replicate 41 s0).map (.string ·)).toArray 63)).alloc (.cells ((List.replicate 41 s0).map (.string ·)).toArray 63)) := (Upd.refl [] _).alloc _
  have hzA : (w3.alloc (.cells ((List.replicate 41 s0).map (.string ·)).toArray 63)).heap.size = w3.heap.size + 1 := by simp
  have b1 := (Blk.new w3 63 ((List.replicate 41 s0).map (.string ·))).upd uB (by simp)
  have b2 := Blk.new (w3.alloc (.cells ((List.replicate 41 s0).map (.string ·)).toArray 63)) 63 ((List.replicate 41 s0).map (.string ·))
  have j2 := (H3.out.add (.cells ((List.replicate 41 s0).map (.string ·)).toArray 63)).add (.cells ((List.replicate 41 s0).map (.string ·)).toArray 63)
  have r4 := RdN.upd0 chCells_len HR3.out (uA.seq uB)
  rw [hzA] at b2 j2
  obtain ⟨g1, hg1⟩ : ∃ g, w3.heap.size = g := ⟨_, rfl⟩
  obtain ⟨g2, hg2⟩ : ∃ g, g1 + 1 = g := ⟨_, rfl⟩
  obtain ⟨w4, hw4⟩ : ∃ w4, (w3.alloc (.cells ((List.replicate 41 s0).map (.string ·)).toArray 63)).alloc (.cells ((List.replicate 41 s0).map (.string ·)).toArray 63) = w4 := ⟨_, rfl⟩
  rw [hw4] at b1 b2 j2 r4
  rw [hg1] at b1 b2 j2 hb3'
  rw [hg2] at b2 j2
  have H4 := Lib.hid j2
  have HB41 : Hid (Blk w4 g1 63 ((fillT t 0).map (.string ·))) := b1
  have HB42 : Hid (Blk w4 g2 63 ((List.replicate 41 s0).map (.string ·))) := b2
  have HR4 := Lib.hid r4
  have hg12 : g1 ≠ g2 := by omega
  have hg13 : b3 ≠ g1 := by omega
  have hg23 : b3 ≠ g2 := by omega
  clear uA uB hzA b1 b2 j2 r4 H3 HR3
  rw [hg1]
  try rw [hg2]
  change Code.wp _ _ _ _ ((w3.alloc (.cells ((List.replicate 41 s0).map (.string ·)).toArray 63)).alloc (.cells ((List.replicate 41 s0).map (.string ·)).toArray 63))
  rw [hw4]
  clear hw4 hg1 hg2
  go_wp2_with fail
  go_loopw [19] (fun vs wr => ∃ (j : Nat), j ≤ 41 ∧ vs = .int .i64 (j : Int) ∧ Hid (JX w wr gd gj [g2, g1, b3] t sM) ∧ Hid (Blk wr g1 63 ((fillT t j).map (.string ·))) ∧ Hid (Blk wr g2 63 ((List.replicate 41 s0).map (.string ·))) ∧ Hid (RdN 2 chCells wr (.slice (some ⟨b3, o3, none⟩) l.length k3) l)) (fun vs _ => 41 - (intOf vs).toNat)
  case atStart => exact ⟨0, by omega, rfl, H4, HB41, HB42, HR4⟩
  case round =>
    obtain ⟨j, hj41, rfl, hj, hb, ho, hrj⟩ := hrel
    by_cases hlt : j < 41
    · have q1 : (j : Int) ≤ 40 := by omega
      have q2 : (0 : Int) ≤ j := by omega
      have q3 : (j : Int) < 41 := by omega
      obtain ⟨y, hy⟩ : ∃ y, jGet t (j : Int) = y := ⟨_, rfl⟩
      have HY := Lib.hid hy
      have HFT : Hid (fillT t (j + 1) = (fillT t j).set j y) := by unfold Hid; rw [← hy]; rfl
      clear hy
      go_wp2_with fail
      (with_reducible refine (jpGet hj.out.jp (j : Int) (i64_mk (by omega) (by omega)) HY.out).mono ?_)
      rintro e w4 ⟨rfl, hu4⟩
      have hb4 := hb.out.upd hu4 (by simp)
      have d0 := hb4.cell j
      rw [List.getElem?_map, List.getElem?_eq_getElem (by rw [fillT_len]; exact hlt)] at d0
      dsimp only [Option.map_some] at d0
      have df := hb4.frozen j
      have u1 : Upd [g1] w4 (w4.setCell ⟨g1, j, none⟩ (.string y)) := (Upd.refl [g1] w4).setCell _ _ (.inl (by simp))
      have HJN := Lib.hid ((hj.out.upd0 hu4).upd u1 (by simp))
      have HBN : Hid (Blk (w4.setCell ⟨g1, j, none⟩ (.string y)) g1 63 ((fillT t (j + 1)).map (.string ·))) := by
        have := hb4.set_ j (.string y)
        unfold Hid
        rw [HFT.out, List.map_set]
        exact this
      have HON := Lib.hid ((ho.out.upd hu4 (by simp)).upd u1 (by simp; omega))
      have HRN := Lib.hid (RdN.upd chCells_len (RdN.upd0 chCells_len hrj.out hu4) u1 (by intro z hz; simp [blk] at hz ⊢; omega))
      generalize (fillT t j)[j]'(by rw [fillT_len]; exact hlt) = old at d0
      clear u1 hb4 HFT hj hb ho hu4 hrj
      go_wp2_with fail
      go_roundw
      case rel => exact ⟨j + 1, by omega, by go_num, HJN, HBN, HON, HRN⟩
      case measure => simp [intOf]; omega
    · obtain rfl : j = 41 := by omega
      have q1 : ¬ ((41 : Nat) : Int) ≤ 40 := by omega
      clear hlt hj41
      go_wp2_with fail
      (with_reducible refine (jxSet2 hj.out _ l hrj.out (by simp [blk]) HOK.out HSM.out HKM.out HE.out).mono ?_)
      rintro e5 w5 ⟨rfl, h5, hk5⟩
      have H5 := Lib.hid h5
      have HB51 := Lib.hid (hk5.blk hb.out (by simp))
      have HB52 : Hid (Blk w5 g2 63 ((fillT t1 0).map (.string ·))) := hk5.blk ho.out (by simp)
      clear h5 hk5 hj hb ho hrj
      go_wp2_with fail
      go_loopw [20] (fun vs wr => ∃ (j : Nat), j ≤ 41 ∧ vs = .int .i64 (j : Int) ∧ Hid (JX w wr gd gj [g2, g1, b3] t1 s1) ∧ Hid (Blk wr g2 63 ((fillT t1 j).map (.string ·))) ∧ Hid (Blk wr g1 63 ((fillT t 41).map (.string ·)))) (fun vs _ => 41 - (intOf vs).toNat)
      case atStart => exact ⟨0, by omega, rfl, H5, HB52, HB51⟩
      case round =>
        obtain ⟨j, hj41, rfl, hj, hb, ho⟩ := hrel
        by_cases hlt : j < 41
        · have q1 : (j : Int) ≤ 40 := by omega
          have q2 : (0 : Int) ≤ j := by omega
          have q3 : (j : Int) < 41 := by omega
          obtain ⟨y, hy⟩ : ∃ y, jGet t1 (j : Int) = y := ⟨_, rfl⟩
          have HY := Lib.hid hy
          have HFT : Hid (fillT t1 (j + 1) = (fillT t1 j).set j y) := by unfold Hid; rw [← hy]; rfl
          clear hy
          go_wp2_with fail
          (with_reducible refine (jpGet hj.out.jp (j : Int) (i64_mk (by omega) (by omega)) HY.out).mono ?_)
          rintro e w4 ⟨rfl, hu4⟩
          have hb4 := hb.out.upd hu4 (by simp)
          have d0 := hb4.cell j
          rw [List.getElem?_map, List.getElem?_eq_getElem (by rw [fillT_len]; exact hlt)] at d0
          dsimp only [Option.map_some] at d0
          have df := hb4.frozen j
          have u1 : Upd [g2] w4 (w4.setCell ⟨g2, j, none⟩ (.string y)) := (Upd.refl [g2] w4).setCell _ _ (.inl (by simp))
          have HJN := Lib.hid ((hj.out.upd0 hu4).upd u1 (by simp))
          have HBN : Hid (Blk (w4.setCell ⟨g2, j, none⟩ (.string y)) g2 63 ((fillT t1 (j + 1)).map (.string ·))) := by
            have := hb4.set_ j (.string y)
            unfold Hid
            rw [HFT.out, List.map_set]
            exact this
          have HON := Lib.hid ((ho.out.upd hu4 (by simp)).upd u1 (by simp; omega))
          generalize (fillT t1 j)[j]'(by rw [fillT_len]; exact hlt) = old at d0
          clear u1 hb4 HFT hj hb ho hu4
          go_wp2_with fail
          go_roundw
          case rel => exact ⟨j + 1, by omega, by go_num, HJN, HBN, HON⟩
          case measure => simp [intOf]; omega
        · obtain rfl : j = 41 := by omega
          have q1 : ¬ ((41 : Nat) : Int) ≤ 40 := by omega
          clear hlt hj41
          have H6 := Lib.hid hj.out
          have HB61 := Lib.hid ho.out
          have HB62 := Lib.hid hb.out
          clear hj hb ho
          obtain ⟨n0, hn0⟩ : ∃ n, s1.log.length = n := ⟨_, rfl⟩
          have hlg : n0 ≤ 12000000 := by have := HS1.out.lg; omega
          obtain ⟨m, hm, hmn⟩ := within_nat cut n0
          have HN0 := Lib.hid hn0
          have HM := Lib.hid hm
          have HMI : I64 (m : Int) := i64_mk (by omega) (by omega)
          have HMI := Lib.hid HMI
          have HS7 : Hid (St (WN t t1) 0 (dBack s1 (m : Int))) := HS1.out.back _
          clear hn0 hm
          go_wp2_with fail
          (with_reducible refine (jpCount H6.out.jp HN0.out).mono ?_)
          rintro e w7 ⟨rfl, rfl⟩
          go_wp2_with fail
          (with_reducible refine (within_any cut 0 (n0 : Int) _ HCUT.out (by omega) (by omega) (by omega)).mono ?_)
          rw [HM.out]
          rintro e w7 ⟨rfl, rfl⟩
          go_wp2_with fail
          (with_reducible refine (jxBack H6.out (m : Int) HMI.out HS1.out).mono ?_)
          rintro e w7 ⟨rfl, h7, hk7⟩
          have H7 := Lib.hid h7
          have HB71 := Lib.hid (hk7.blk HB61.out (by simp))
          have HB72 := Lib.hid (hk7.blk HB62.out (by simp))
          clear h7 hk7 H6 HB61 HB62 HN0 HM HMI hmn hlg HS1
          go_wp2_with fail
          go_loopw [21] (fun vi wr => ∃ (i gk : Nat) (tj : JS) (s : DS), i ≤ 5 ∧ i ≤ l3.length ∧ vi = .int .i64 (i : Int) ∧ Hid (JX w wr gd gk [g2, g1, b3] tj s) ∧ Hid (St (WN t t1) 0 s) ∧ Hid (Blk wr g1 63 ((fillT t 41).map (.string ·))) ∧ Hid (Blk wr g2 63 ((fillT t1 41).map (.string ·)))) (fun vi _ => 5 - (intOf vi).toNat)
          case atStart => exact ⟨0, gj, _, _, by omega, by omega, rfl, H7, HS7, HB71, HB72⟩
          case round =>
            clear H7 HS7 HB71 HB72
            obtain ⟨i, gk, tj, s, hi5, hil, rfl, hj, hs, hb, ho⟩ := hrel
            have hend : (i < l3.length ∧ i < 5) ∨ (i = l3.length ∧ Hid (i ≤ 5)) ∨ (i = 5 ∧ i < l3.length) := by unfold Hid; omega
            rcases hend with ⟨hlt, h5⟩ | hend
            · obtain ⟨lb, loff, rfl, hca⟩ := HC3.out (by intro h; simp [h] at hlt)
              have q1 : (i : Int) < l3.length := by omega
              have q2 : (i : Int) < 5 := by omega
              have q0 : (0 : Int) ≤ i := by omega
              have hgx := HG3.out (nth l3 i) (by rw [nth_get _ _ hlt]; exact List.getElem_mem _)
              have hcc := hca i hlt
              generalize nth l3 i = y at *
              have HCC := Lib.hid hcc
              have HIY : Hid (-9223372036854775808 ≤ y ∧ y ≤ 9223372036854775807) := hgx
              obtain ⟨u, s2, hou, -, hs2⟩ := cu_open hs.out
              have HO := Lib.hid hou
              have HS2 := Lib.hid hs2
              clear hca hgx hcc hou hs2
              go_wp2_with fail
              (with_reducible refine (jxOpen hj.out hs.out (by omega) HO.out).mono ?_)
              rintro e w8 ⟨gk8, rfl, h8, hk8⟩
              have c8 := h8.old.cell HCC.out (by simp)
              have H8 := Lib.hid h8
              have HB81 := Lib.hid (hk8.blk hb.out (by simp))
              have HB82 := Lib.hid (hk8.blk ho.out (by simp))
              obtain ⟨n0, hn0⟩ : ∃ n, s2.log.length = n := ⟨_, rfl⟩
              have hlg : n0 ≤ 2 := by have := HS2.out.lg; omega
              obtain ⟨m, hm, hmn⟩ := within_nat y n0
              have HCNT : Hid (∀ W, Upd [] w8 W → Calls Try.prog 23 #[.pointer (some ⟨gd, 0, none⟩)] W fun e w' => e = .returned (.int .i64 (n0 : Int)) ∧ W = w') := fun W hW => jpCount (H8.out.jp.upd0 hW) hn0
              have HWI : Hid (∀ W, Calls Try.prog 22 #[.int .i64 y, .int .i64 0, .int .i64 (n0 : Int)] W fun e w' => e = .returned (.int .i64 (m : Int)) ∧ W = w') := fun W => by
                have h := within_any y 0 (n0 : Int) W HIY.out (by omega) (by omega) (by omega)
                rw [hm] at h
                exact h
              have HBK : Hid (∀ W, Upd [] w8 W → Calls Try.prog 21 #[.pointer (some ⟨gd, 0, none⟩), .int .i64 (m : Int)] W fun e w' => e = .returned (.tuple #[]) ∧ JX w w' gd gk8 [g2, g1, b3] u (dBack s2 (m : Int)) ∧ Kp [g2, g1, b3] w8 w') := fun W hW => by
                refine (jxBack (H8.out.upd0 hW) (m : Int) (i64_mk (by omega) (by omega)) HS2.out).mono ?_
                rintro e w' ⟨rfl, k1, k2⟩
                exact ⟨rfl, k1, (Kp.upd0 hW).trans k2⟩
              have HS9 : Hid (St (WN t t1) 0 (dBack s2 (m : Int))) := HS2.out.back _
              clear h8 hk8 hm hn0 hmn hj hs hb ho HO
              go_wp2_with fail
              go_region_held3 (fun w' => w'.cell? ⟨lb, loff + i, none⟩ = some (.int .i64 y)) (first | go_keep | exact c8 | exact h9.old.cell HCC.out (by simp)) (first
                | (go_at_call 23; (with_reducible refine (HCNT.out _ ?_).mono ?_); (repeat (first | exact Upd.refl _ _ | apply Upd.drew | apply Upd.drewN)); (rintro _ _ ⟨rfl, rfl⟩; dsimp only))
                | (go_at_call 22; (with_reducible refine (HWI.out _).mono ?_); (rintro _ _ ⟨rfl, rfl⟩; dsimp only))
                | (go_at_call 21; (with_reducible refine (HBK.out _ ?_).mono ?_); (repeat (first | exact Upd.refl _ _ | apply Upd.drew | apply Upd.drewN)); (rintro _ w9 ⟨rfl, h9, hk9⟩; dsimp only)))
              all_goals
                have H9 := Lib.hid h9
                have HB91 := Lib.hid (hk9.blk HB81.out (by simp))
                have HB92 := Lib.hid (hk9.blk HB82.out (by simp))
                clear h9 hk9
                go_wp2_with fail
                go_roundw
                case rel => exact ⟨i + 1, gk8, u, _, by omega, by omega, by go_num, H9, HS9, HB91, HB92⟩
                case measure => simp [intOf]; omega
            · rcases hend with ⟨hke, h40⟩ | ⟨hke, hkn⟩
              · have q1 : ¬ (i : Int) < l3.length := by omega
                clear h40
                go_upto_region 30 with fail
                refine cu30 hj.out (by simp) (by simp) hs.out (by omega) hb.out ho.out (fun _ _ _ _ _ _ _ _ _ _ _ _ _ _ _ _ _ _ _ _ _ _ _ _ _ _ _ _ _ _ _ _ _ _ _ _ _ _ _ _ _ _ _ _ _ _ _ w9 hu9 => ?_) (by assumption)
                exact HQ.out _ _ _ _ _ _ _ _ _ _ _ _ _ _ _ _ _ _ _ _ _ _ _ _ _ _ _ _ _ _ _ _ _ _ _ _ _ _ _ _ _ _ _ _ _ _ _ _ _ _ _ _ _ _ _ _ _ _ _ _ _ _ _ _ _ _ _ _ _ _ _ _ _ _ _ _ _ _ _ _ _ _ _ _ _ _ _ _ _ _ _ _ _ _ _ _ _ _ _ _ _ _ _ _ _ _ _ _ _ _ _ _ _ _ _ _ _ _ _ _ _ hu9
              · have q1 : (i : Int) < l3.length := by omega
                have q2 : ¬ (i : Int) < 5 := by omega
                go_upto_region 30 with fail
                refine cu30 hj.out (by simp) (by simp) hs.out (by omega) hb.out ho.out (fun _ _ _ _ _ _ _ _ _ _ _ _ _ _ _ _ _ _ _ _ _ _ _ _ _ _ _ _ _ _ _ _ _ _ _ _ _ _ _ _ _ _ _ _ _ _ _ w9 hu9 => ?_) (by assumption)
                exact HQ.out _ _ _ _ _ _ _ _ _ _ _ _ _ _ _ _ _ _ _ _ _ _ _ _ _ _ _ _ _ _ _ _ _ _ _ _ _ _ _ _ _ _ _ _ _ _ _ _ _ _ _ _ _ _ _ _ _ _ _ _ _ _ _ _ _ _ _ _ _ _ _ _ _ _ _ _ _ _ _ _ _ _ _ _ _ _ _ _ _ _ _ _ _ _ _ _ _ _ _ _ _ _ _ _ _ _ _ _ _ _ _ _ _ _ _ _ _ _ _ _ _ hu9
end Go.Proofs.Ytmhojaiajhdlcaa
namespace Go.Proofs.Ytmhojaiajhdlcaa
open Go.RowKit
set_option linter.unusedSimpArgs false
set_option linter.unusedVariables false
set_option maxRecDepth 100000 in
set_option maxHeartbeats 8000000 in
theorem journalCuts_any (w : World) (v0 : Value) (l0 : List Ask24) (h0 : RdN 4 ask24Cells w v0 l0) (g0 : ∀ x ∈ l0, Ask24Good x) (x1 : Ask24) (gx : Ask24Good x1) (cut : Int) (hcut : I64 cut) (v3 : Value) (l3 : List Int) (h3 : Rd iv w v3 l3) (g3 : ∀ x ∈ l3, I64 x) (z3 : l3.length * 8 ≤ 140737488351232) :
    Calls Try.prog 8 #[v0, ask24Val x1, .int .i64 cut, v3] w fun e w' => e = .returned (.bool true) ∧ Upd [] w w' := by
  obtain ⟨a0, c0, rfl, hlc0, hcm0, hcell0⟩ := h0
  have hm0 : l0.length ≤ 9223372036854775807 := by unfold maxLen at hcm0; omega
  have HC0 := Lib.hid hcell0
  have HG0 := Lib.hid g0
  have HR3 := Lib.hid h3
  obtain ⟨a3, c3, rfl, -⟩ := h3
  have HG3 := Lib.hid g3
  have HCUT := Lib.hid hcut
  have HGX := Lib.hid gx
  clear hlc0 hcm0 hcell0 g0 g3 hcut gx z3
  go_enter Try.func8, Try.ntmps8
  go_upto_region 1 with fail
  obtain ⟨wB, hwB⟩ : ∃ wB, w.alloc (.cells (ask24Cells x1).toArray 69) = wB := ⟨_, rfl⟩
  have hbb := Blk.new w 69 (ask24Cells x1)
  have huB : Upd [] w (w.alloc (.cells (ask24Cells x1).toArray 69)) := (Upd.refl [] w).alloc _
  rw [hwB] at hbb huB
  have HBB := Lib.hid hbb
  have HUB := Lib.hid huB
  clear hbb huB
  change Code.wp _ _ _ _ (w.alloc (.cells (ask24Cells x1).toArray 69))
  rw [hwB]
  clear hwB
  obtain ⟨gb, hgb⟩ : ∃ gb, w.heap.size = gb := ⟨_, rfl⟩
  rw [hgb] at HBB ⊢
  go_wp2_with fail
  (with_reducible refine (dNew_any wB wB (Upd.refl [] wB)).mono ?_)
  rintro e w1 ⟨gd, G1, rfl, h1, hu1, hf1⟩
  have H1 := Lib.hid h1
  clear h1 hu1 hf1
  go_wp2_with fail
  (with_reducible refine (jpStart G1 H1.out).mono ?_)
  rintro e w2 ⟨gj, rfl, h2⟩
  have H2 := Lib.hid h2.jx
  clear h2 H1
  go_wp2_with fail
  go_loopw [12] (fun vi wr => ∃ (k : Nat) (t : JS) (s : DS), k ≤ 12 ∧ k ≤ l0.length ∧ vi = .int .i64 (k : Int) ∧ Hid (JX wB wr gd gj [] t s) ∧ Hid (CuI k t s)) (fun vi _ => 12 - (intOf vi).toNat)
  case atStart => exact ⟨0, [], _, by omega, by omega, rfl, H2, CuI.zero⟩
  case round =>
    clear H2
    obtain ⟨k, t, s, hk, hkl, rfl, hj, hc⟩ := hrel
    have hend : (k < l0.length ∧ k < 12) ∨ (k = l0.length ∧ Hid (k ≤ 12)) ∨ (k = 12 ∧ k < l0.length) := by unfold Hid; omega
    rcases hend with ⟨hlt, h40⟩ | hend
    · obtain ⟨lb, loff, rfl, hca⟩ := HC0.out (by intro h; simp [h] at hlt)
      have q1 : (k : Int) < l0.length := by omega
      have q2 : (k : Int) < 12 := by omega
      have q0 : (0 : Int) ≤ k := by omega
      have hgx := HG0.out (nth l0 k) (by rw [nth_get _ _ hlt]; exact List.getElem_mem _)
      have hcc := hca k hlt
      generalize nth l0 k = x at *
      have HX := Lib.hid hgx
      have d0 : wr.cell? ⟨lb, loff + k * 4, none⟩ = some (.int .i64 x.kd) := hj.out.old.cell (HUB.out.cell (hcc 0 (by omega)) (by simp)) (by simp)
      have d1 : wr.cell? ⟨lb, loff + k * 4 + 1, none⟩ = some (.int .i64 x.slot) := hj.out.old.cell (HUB.out.cell (hcc 1 (by omega)) (by simp)) (by simp)
      have d2 : wr.cell? ⟨lb, loff + k * 4 + 2, none⟩ = some (.int .i64 x.n) := hj.out.old.cell (HUB.out.cell (hcc 2 (by omega)) (by simp)) (by simp)
      have d3 : wr.cell? ⟨lb, loff + k * 4 + 3, none⟩ = some (.string x.data) := hj.out.old.cell (HUB.out.cell (hcc 3 (by omega)) (by simp)) (by simp)
      obtain ⟨l, hl⟩ : ∃ l, setL x = l := ⟨_, rfl⟩
      have hok := setL_ok x hgx.slot hgx.n
      rw [hl] at hok
      obtain ⟨e, t1, s1, he, hc1⟩ := hc.out.step l
      have HL := Lib.hid hl
      have HOK := Lib.hid hok
      have HE := Lib.hid he
      have HC1 := Lib.hid hc1
      have HST := Lib.hid hc.out.st
      have HKK : Hid (12000000 * k ≤ 470000000) := by unfold Hid; omega
      clear hca hgx hcc hl hok he hc1 hc
      go_wp2_with fail
      (with_reducible refine (sets_any x HX.out wr HL.out).mono ?_)
      rintro e3 w3 ⟨a8, k3, a4, k4, rfl, hr3, hr4, hg3, hg4, hu3⟩
      have HU3 := Lib.hid hu3
      clear hr4 hg4 d0 d1 d2 d3 hu3
      go_wp2_with fail
      (with_reducible refine (jxSet hj.out HU3.out _ l hr3.out hg3.out HOK.out HST.out HKK.out HE.out).mono ?_)
      rintro e5 w5 ⟨rfl, h5, -, -⟩
      have H5 := Lib.hid h5
      clear h5 hj hr3 hg3 HU3
      go_wp2_with fail
      go_roundw
      case rel => exact ⟨k + 1, t1, s1, by omega, by omega, by go_num, H5, HC1⟩
      case measure => simp [intOf]; omega
    · rcases hend with ⟨hke, h40⟩ | ⟨hke, hkn⟩
      · have q1 : ¬ (k : Int) < l0.length := by omega
        clear h40
        go_upto_region 10 with fail
        refine cu10 hj.out hc.out HBB.out HGX.out HCUT.out (HR3.out.upd0 HUB.out) HG3.out (fun _ _ _ _ _ _ _ _ _ _ _ _ _ _ _ _ _ _ _ _ _ _ _ _ _ _ _ _ _ _ _ _ _ _ _ _ _ _ _ _ _ _ _ _ _ _ _ _ _ _ _ _ _ _ _ _ _ _ _ _ _ _ _ _ _ _ _ _ _ _ _ _ _ _ _ _ _ _ _ _ _ _ _ _ _ _ _ _ _ _ _ _ _ _ _ _ _ _ _ _ _ _ _ _ _ _ _ _ _ _ _ _ _ _ _ _ _ _ _ _ w9 hu9 => ?_) (by assumption)
        have HUF : Hid (Upd [] w w9) := HUB.out.seq hu9
        (try simp only [Exit.inBlock, Exit.then])
        go_ret
        exact ⟨rfl, HUF.out⟩
      · have q1 : (k : Int) < l0.length := by omega
        have q2 : ¬ (k : Int) < 12 := by omega
        go_upto_region 10 with fail
        refine cu10 hj.out hc.out HBB.out HGX.out HCUT.out (HR3.out.upd0 HUB.out) HG3.out (fun _ _ _ _ _ _ _ _ _ _ _ _ _ _ _ _ _ _ _ _ _ _ _ _ _ _ _ _ _ _ _ _ _ _ _ _ _ _ _ _ _ _ _ _ _ _ _ _ _ _ _ _ _ _ _ _ _ _ _ _ _ _ _ _ _ _ _ _ _ _ _ _ _ _ _ _ _ _ _ _ _ _ _ _ _ _ _ _ _ _ _ _ _ _ _ _ _ _ _ _ _ _ _ _ _ _ _ _ _ _ _ _ _ _ _ _ _ _ _ _ w9 hu9 => ?_) (by assumption)
        have HUF : Hid (Upd [] w w9) := HUB.out.seq hu9
        (try simp only [Exit.inBlock, Exit.then])
        go_ret
        exact ⟨rfl, HUF.out⟩
end Go.Proofs.Ytmhojaiajhdlcaa
namespace Go.Proofs.Ytmhojaiajhdlcaa.lJournalCuts
open Go.ChangeShapes Go.WideShapes Go.ChangeAt Go.RowKit Go.Deep
open Go.ChangeMaps (open_string shut_string)
set_option linter.unusedSimpArgs false
set_option linter.unusedVariables false
theorem own : ownKnob Try.prog.godebug = none := by kernel_rfl
theorem laidOut : laidOutB Try.prog = true := by kernel_rfl
theorem cells_nums : Try.checked.prog.cellsOf 3 = 1 := by kernel_rfl
theorem size_nums : Try.checked.prog.bytesOf 3 = 8 := by kernel_rfl
set_option maxRecDepth 100000 in
theorem walk (H : Type) (enc : TypeId × Value → H) : LawCalls Try.prog 8 Try.f8 H enc (fun ds => True) := by
  intro W base args ds ps hval hA hsz hk
  rw [Try.params8] at hA hval hsz
  obtain ⟨v0, vs0, d0, ds0, p0, q0, hargs, rfl, rfl, h0, r0⟩ := trodAll_cons hA
  obtain ⟨v1, vs1, d1, ds1, p1, q1, rfl, rfl, rfl, h1, r1⟩ := trodAll_cons r0
  obtain ⟨v2, vs2, d2, ds2, p2, q2, rfl, rfl, rfl, h2, r2⟩ := trodAll_cons r1
  obtain ⟨v3, vs3, d3, ds3, p3, q3, rfl, rfl, rfl, h3, r3⟩ := trodAll_cons r2
  obtain ⟨rfl, rfl, rfl⟩ := trodAll_nil r3
  obtain rfl : args = #[v0, v1, v2, v3] := by cases args; simp_all
  obtain ⟨l0, w0, g0⟩ := open_asks24 (hval 0 _ v0 rfl rfl) h0
  obtain ⟨x1, rfl, g1⟩ := open_ask24 (hval 1 _ v1 rfl rfl) h1
  obtain ⟨a2, rfl, w2⟩ := open_num Try.underlying3 (hval 2 _ v2 rfl rfl) h2
  obtain ⟨l3, w3, g3, z3, u3⟩ := open_nums Try.underlying48 Try.underlying3 cells_nums size_nums (hval 3 _ v3 rfl rfl) h3
  have z3 := z3 _ _ 3 hsz rfl rfl
  exact journalCuts_any W v0 l0 w0 g0 x1 g1 a2 w2 v3 l3 w3 g3 z3
set_option maxRecDepth 100000 in
theorem lifted (os : Os) (started : os.Started) (H : Type) (enc : TypeId × Value → H) :
    ReturnsInHanded {} Try.checked os 8 .any (Rows.journalCutsSpec.pre6 enc Try.prog Try.f8 Rows.journalCutsRow.domain false) (Rows.journalCutsSpec.post enc Try.prog Try.f8 false true false false) :=
  law_said (C := Try.checked) own started (by kernel_rfl) Try.func8
    (ChangeSpec.witness6 (enc := enc) (C := Try.checked) false ⟨#[], #[.slice none 0 0, .agg #[.int .i64 0, .int .i64 0, .int .i64 0, .string .empty], .int .i64 0, .slice none 0 0], []⟩ 8 (by kernel_rfl) (by kernel_rfl) (by kernel_rfl) (by kernel_rfl))
    laidOut (by rw [Try.params8]; intro t ht; simp only [List.mem_cons, List.not_mem_nil, or_false] at ht; rcases ht with rfl | rfl | rfl | rfl <;> exact ⟨by kernel_rfl, of_decide_eq_true (by kernel_rfl)⟩) rfl 4 (by kernel_rfl) Try.underlying4 (by intro ds h; match ds, h with | [d0, d1, d2, d3], _ => exact ⟨rfl, rfl, rfl⟩) (walk H enc)
theorem proved : Rows.JournalCutsSaid :=
  OpenClaim.holds_of_wide 8 Try.f8 rfl rfl rfl rfl rfl rfl rfl ⟨rfl, rfl, rfl, rfl, rfl⟩ rfl rfl rfl rfl rfl (by kernel_rfl) Try.func8 (by kernel_rfl)
    (of_decide_eq_true (by kernel_rfl)) (by unfold Func.isWrapper; rw [if_neg (of_decide_eq_false (by kernel_rfl))]; exact ⟨rfl, rfl⟩)
    (fun os started H enc _ => lifted os started H enc)
end Go.Proofs.Ytmhojaiajhdlcaa.lJournalCuts
