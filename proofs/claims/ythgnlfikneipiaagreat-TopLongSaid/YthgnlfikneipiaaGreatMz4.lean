/- Texts of the proof, joined. -/
import Derived.Test.YthgnlfikneipiaaGreatMz3
set_option linter.unusedSimpArgs false
set_option linter.unusedVariables false
set_option linter.unusedSectionVars false
namespace Go.Eng
variable [Val]
open Go.RowKit
abbrev Ren := List Nat
def sameN (a b : Option Nat) : Bool := match a, b with
  | some a, some b => Nat.beq a b
  | _, _ => false
def sameA (ρ : Ren) : AV → AV → Bool
  | .int k n, .int k' n' => (k == k') && decide (n = n')
  | .sym k e, .sym k' e' => (k == k') && decide (e = e')
  | .bool b, .bool c => b == c
  | .str s, .str t => decide (s.data.toList = t.data.toList)
  | .ptr i o, .ptr j o' => Nat.beq o o' && sameN (nth ρ i) (some j)
  | .nilp, .nilp => true
  | .slk i o n c, .slk j o' n' c' => Nat.beq o o' && Nat.beq n n' && Nat.beq c c' && sameN (nth ρ i) (some j)
  | .slc i o n, .slc j o' n' => Nat.beq o o' && Nat.beq n n' && sameN (nth ρ i) (some j)
  | .nils, .nils => true
  | .mp i, .mp j => sameN (nth ρ i) (some j)
  | .fn f, .fn g => Nat.beq f g
  | .clo f i o, .clo g j o' => Nat.beq f g && Nat.beq o o' && sameN (nth ρ i) (some j)
  | .opq i, .opq j => sameN (nth ρ i) (some j)
  | .opl i e, .opl j e' => decide (e = e') && sameN (nth ρ i) (some j)
  | .ext .nilIface, .ext .nilIface => true
  | .ext .nilFunc, .ext .nilFunc => true
  | .ext (.map none), .ext (.map none) => true
  | .ext (.chan none), .ext (.chan none) => true
  | _, _ => false
def sameAs (ρ : Ren) : List AV → List AV → Bool
  | [], [] => true
  | a :: l, b :: m => sameA ρ a b && sameAs ρ l m
  | _, _ => false
def sameB (ρ : Ren) : Blk → Blk → Bool
  | .row e l, .row e' m => Nat.beq e e' && sameAs ρ l m
  | .gro e s l, .gro e' s' m => Nat.beq e e' && Nat.beq s s' && sameAs ρ l m
  | .fro e l, .fro e' m => Nat.beq e e' && sameAs ρ l m
  | _, _ => false
def sameH (ρ : Ren) (H : Hp) : Hp → Bool
  | [] => true
  | (k, b) :: l => (match nth ρ k with
    | some i => match getA H i with
      | some b' => sameB ρ b b'
      | none => false
    | none => false) && sameH ρ H l
def nodupN : List Nat → Bool
  | [] => true
  | i :: l => !(memN l i) && nodupN l
def gcOk (ρ : Ren) (n : Nat) (H : Hp) (nx : Nat) (B : Hp) : Bool := sameH ρ H B && nodupN ρ && Nat.beq ρ.length n && ρ.all fun i => Nat.blt i nx
def GM.ren (ρ : Ren) (G : GM) : GM := fun k => (nth ρ k).bind G
section
variable {ρ : Ren} {G : GM}
theorem sameN_ok {i j : Nat} (h : sameN (nth ρ i) (some j) = true) : GM.ren ρ G i = G j := by
  unfold sameN at h
  split at h
  · rename_i a b e1 e2
    cases e2
    have := Nat.eq_of_beq_eq_true h
    subst this
    show (nth ρ i).bind G = _
    rw [e1]; rfl
  · cases h
theorem sameA_ok {a b : AV} (h : sameA ρ a b = true) : dn (GM.ren ρ G) a = dn G b := by
  unfold sameA at h
  split at h
  · simp only [Bool.and_eq_true, beq_iff_eq, decide_eq_true_eq] at h; obtain ⟨rfl, rfl⟩ := h; rfl
  · simp only [Bool.and_eq_true, beq_iff_eq, decide_eq_true_eq] at h; obtain ⟨rfl, rfl⟩ := h; rfl
  · simp only [beq_iff_eq] at h; subst h; rfl
  · rename_i s t
    have : s = t := by
      obtain ⟨s⟩ := s; obtain ⟨t⟩ := t
      congr 1
      exact Array.toList_inj.1 (of_decide_eq_true h)
    subst this; rfl
  · rw [Bool.and_eq_true] at h
    have := Nat.eq_of_beq_eq_true h.1
    subst this
    simp only [dn, sameN_ok (G := G) h.2]
  · rfl
  · simp only [Bool.and_eq_true] at h
    obtain ⟨⟨⟨h1, h2⟩, h3⟩, h4⟩ := h
    have := Nat.eq_of_beq_eq_true h1; subst this
    have := Nat.eq_of_beq_eq_true h2; subst this
    have := Nat.eq_of_beq_eq_true h3; subst this
    simp only [dn, sameN_ok (G := G) h4]
  · simp only [Bool.and_eq_true] at h
    obtain ⟨⟨h1, h2⟩, h4⟩ := h
    have := Nat.eq_of_beq_eq_true h1; subst this
    have := Nat.eq_of_beq_eq_true h2; subst this
    simp only [dn, sameN_ok (G := G) h4]
  · rfl
  · simp only [dn, sameN_ok (G := G) h]
  · have := Nat.eq_of_beq_eq_true h; subst this; rfl
  · simp only [Bool.and_eq_true] at h
    obtain ⟨⟨h1, h2⟩, h4⟩ := h
    have := Nat.eq_of_beq_eq_true h1; subst this
    have := Nat.eq_of_beq_eq_true h2; subst this
    simp only [dn, sameN_ok (G := G) h4]
  · simp only [dn, sameN_ok (G := G) h]
  · simp only [Bool.and_eq_true, decide_eq_true_eq] at h
    obtain ⟨rfl, h4⟩ := h
    simp only [dn, sameN_ok (G := G) h4]
  · rfl
  · rfl
  · rfl
  · rfl
  · cases h
theorem sameAs_ok : ∀ {l m : List AV}, sameAs ρ l m = true → dns (GM.ren ρ G) l = dns G m
  | [], [], _ => rfl
  | a :: l, b :: m, h => by
    simp only [sameAs, Bool.and_eq_true] at h
    simp only [dns, sameA_ok (G := G) h.1, sameAs_ok h.2]
theorem sameB_ok {w : World} {x : GI} {b b' : Blk} (h : sameB ρ b b' = true) : (b.live ∧ b'.live) ∧ (BS w G x b' → BS w (GM.ren ρ G) x b) := by
  unfold sameB at h
  split at h
  · rw [Bool.and_eq_true] at h
    have := Nat.eq_of_beq_eq_true h.1; subst this
    refine ⟨⟨trivial, trivial⟩, ?_⟩
    rintro ⟨us, h1, h2⟩
    exact ⟨us, by rw [sameAs_ok h.2]; exact h1, h2⟩
  · simp only [Bool.and_eq_true] at h
    have := Nat.eq_of_beq_eq_true h.1.1; subst this
    have := Nat.eq_of_beq_eq_true h.1.2; subst this
    refine ⟨⟨trivial, trivial⟩, ?_⟩
    rintro ⟨h0, h1, us, ys, h2, h3⟩
    exact ⟨h0, h1, us, ys, by rw [sameAs_ok h.2]; exact h2, h3⟩
  · rw [Bool.and_eq_true] at h
    have := Nat.eq_of_beq_eq_true h.1; subst this
    refine ⟨⟨trivial, trivial⟩, ?_⟩
    rintro ⟨h0, us, ys, fr, h2, h3⟩
    exact ⟨h0, us, ys, fr, by rw [sameAs_ok h.2]; exact h2, h3⟩
  · cases h
theorem sameH_ok {H : Hp} : ∀ {B : Hp}, sameH ρ H B = true → ∀ k b, getA B k = some b → ∃ i b', nth ρ k = some i ∧ getA H i = some b' ∧ sameB ρ b b' = true
  | [], _, k, b, hk => by cases hk
  | (j, c) :: l, h, k, b, hk => by
    simp only [sameH, Bool.and_eq_true] at h
    rw [getA_cons] at hk
    by_cases e : k = j
    · rw [if_pos e] at hk; cases hk
      subst e
      obtain ⟨h1, _⟩ := h
      split at h1
      · rename_i i hi
        split at h1
        · rename_i b' hb'
          exact ⟨i, b', hi, hb', h1⟩
        · cases h1
      · cases h1
    · rw [if_neg e] at hk
      exact sameH_ok h.2 k b hk
theorem nth_mem {l : List Nat} : ∀ {k i : Nat}, nth l k = some i → i ∈ l := by
  induction l with
  | nil => intro k i h; cases k <;> cases h
  | cons x l ih =>
    intro k i h
    cases k with
    | zero => cases h; exact List.mem_cons_self ..
    | succ k => exact List.mem_cons_of_mem _ (ih h)
theorem memN_mem {l : List Nat} {i : Nat} (h : memN l i = false) : i ∉ l := by
  induction l with
  | nil => simp
  | cons x l ih =>
    simp only [memN, Bool.or_eq_false_iff] at h
    intro q
    rcases List.mem_cons.1 q with rfl | q
    · simp at h
    · exact ih h.2 q
theorem nodupN_ok : ∀ {l : List Nat}, nodupN l = true → ∀ j k i, nth l j = some i → nth l k = some i → j = k
  | [], _, j, k, i, h1, _ => by cases j <;> cases h1
  | x :: l, h, j, k, i, h1, h2 => by
    simp only [nodupN, Bool.and_eq_true, Bool.not_eq_true'] at h
    have hx := memN_mem h.1
    cases j with
    | zero =>
      cases k with
      | zero => rfl
      | succ k => cases h1; exact absurd (nth_mem (l := l) (k := k) h2) hx
    | succ j =>
      cases k with
      | zero => cases h2; exact absurd (nth_mem (l := l) (k := j) h1) hx
      | succ k => rw [nodupN_ok h.2 j k i h1 h2]
theorem nth_none {l : List Nat} : ∀ {k : Nat}, l.length ≤ k → nth l k = none := by
  induction l with
  | nil => intro k _; cases k <;> rfl
  | cons x l ih =>
    intro k h
    cases k with
    | zero => simp at h
    | succ k => exact ih (by simpa using h)
theorem Sat.gc {w : World} {O : Nat → Prop} {H B : Hp} {nx n : Nat} (h : Sat w G O H nx) (hg : gcOk ρ n H nx B = true) : Sat w (GM.ren ρ G) O B n := by
  simp only [gcOk, Bool.and_eq_true] at hg
  obtain ⟨⟨⟨h1, h2⟩, h3⟩, h4⟩ := hg
  refine ⟨⟨fun k b hk hl => ?_, fun j k b c x y hj hb hk hc hx hy he => ?_⟩, fun i hi => ?_, h.olt, fun k az hk => by
      obtain ⟨i, b', g1, g2, g3⟩ := sameH_ok h1 0 _ hk
      (cases b' <;> cases g3), h.ob, h.bw⟩
  · obtain ⟨i, b', g1, g2, g3⟩ := sameH_ok h1 k b hk
    obtain ⟨⟨_, q2⟩, q3⟩ := sameB_ok (w := w) (x := ⟨0, 0, 0, 0, undef⟩) (G := G) g3
    obtain ⟨x, k1, k2, k3, k4⟩ := h.bs i b' g2 q2
    exact ⟨x, by show (nth ρ k).bind G = _; rw [g1]; exact k1, k2, k3, (sameB_ok g3).2 k4⟩
  · obtain ⟨i, b', g1, g2, g3⟩ := sameH_ok h1 j b hj
    obtain ⟨i', c', g4, g5, g6⟩ := sameH_ok h1 k c hk
    have q1 := (sameB_ok (w := w) (x := x) (G := G) g3).1.2
    have q2 := (sameB_ok (w := w) (x := x) (G := G) g6).1.2
    have hx' : G i = some x := by have : (nth ρ j).bind G = some x := hx; rw [g1] at this; exact this
    have hy' : G i' = some y := by have : (nth ρ k).bind G = some y := hy; rw [g4] at this; exact this
    have := h.inj i i' b' c' x y g2 q1 g5 q2 hx' hy' he
    subst this
    exact nodupN_ok h2 j k i g1 g4
  · show (nth ρ i).bind G = none
    rw [nth_none (by rw [Nat.eq_of_beq_eq_true h3]; exact hi)]
    rfl
end
end Go.Eng
namespace Go.Eng
variable [Val]
open Go.RowKit
def eq2 : AV → AV → Bool
  | .agg l, .agg m => eqAs l m
  | a, b => eqA a b
def eq2s : List AV → List AV → Bool
  | [], [] => true
  | a :: l, b :: m => eq2 a b && eq2s l m
  | _, _ => false
def eqV : AV → AV → Bool
  | .tup l, .tup m => eq2s l m
  | a, b => eq2 a b
omit [Val] in
theorem eq2_ok {a b : AV} (h : eq2 a b = true) : a = b := by
  unfold eq2 at h
  split at h
  · rw [eqAs_ok h]
  · exact eqA_ok h
omit [Val] in
theorem eq2s_ok : ∀ {l m : List AV}, eq2s l m = true → l = m
  | [], [], _ => rfl
  | [], _ :: _, h => by cases h
  | _ :: _, [], h => by cases h
  | a :: l, b :: m, h => by
    simp only [eq2s, Bool.and_eq_true] at h
    rw [eq2_ok h.1, eq2s_ok h.2]
omit [Val] in
theorem eqV_ok {a b : AV} (h : eqV a b = true) : a = b := by
  unfold eqV at h
  split at h
  · rw [eq2s_ok h]
  · exact eq2_ok h
structure HE where
  f : Nat
  k : Nat
  ok : List AV → List AV → Hp → Bool
  out : List AV → List AV → Nat → AV × List AV
  n : Nat
  nb : List AV → List AV → Nat → Option Blk
  k' : Nat
def nbH : Option Blk → Nat → Hp
  | some b, i => [(i, b)]
  | none, _ => []
def nbN : Option Blk → Nat
  | some _ => 1
  | none => 0
def hkOf : List HE → FuncId → List AV → St → Option (AV × St)
  | [], _, _, _ => none
  | h :: l, f, args, S => match getA S.H 0 with
    | some (.gho k az) => bif Nat.beq f h.f && Nat.beq k h.k && h.ok az args S.H then some ((h.out az args S.nx).1, { S with H := (0, .gho h.k' (h.out az args S.nx).2) :: (nbH (h.nb az args S.nx) (S.nx + h.n) ++ S.H), nx := S.nx + h.n + nbN (h.nb az args S.nx) }) else hkOf l f args S
    | _ => none
def binds (G : GM) (nx : Nat) (xs : List GI) : GM := fun i => if i < nx then G i else nth xs (i - nx)
def NbOk (w w' : World) (G : GM) (F' : Nat → Prop) (xs : List GI) (n : Nat) : Option Blk → Prop
  | none => xs.length = n
  | some b => xs.length = n + 1 ∧ b.live ∧ ∃ x, nth xs n = some x ∧ w.heap.size ≤ x.g ∧ x.g < w'.heap.size ∧ ¬ F' x.g ∧ BS w' G x b
def HEok (P : Program) (h : HE) : Prop := ∀ {az args : List AV} {H : Hp} {nx : Nat} {w : World} {G : GM} {O F : Nat → Prop} {us gs : List Value},
  h.ok az args H = true → dns G az = some gs → dvl G args us → Sat w G O H nx → Val.gx h.k w gs F → (∀ x, F x → O x) → (∀ i b x, getA H i = some b → b.live → G i = some x → ¬ F x.g) →
  Calls P h.f us.toArray w fun e w' => ∃ u F' xs gs', NbOk w w' (binds G nx xs) F' xs h.n (h.nb az args nx) ∧ e = .returned u ∧ dv (binds G nx xs) (h.out az args nx).1 = some u ∧ dns (binds G nx xs) (h.out az args nx).2 = some gs' ∧ Val.gx h.k' w' gs' F' ∧ UpdP F w w' ∧ (∀ x, F' x → F x ∨ w.heap.size ≤ x) ∧ ∀ x, F' x → x < w'.heap.size
theorem binds_le {w : World} {G : GM} {O : Nat → Prop} {H : Hp} {nx : Nat} (h : Sat w G O H nx) (xs : List GI) : GLe G (binds G nx xs) := fun i x hi => by
  unfold binds
  rw [if_pos (h.lt hi)]; exact hi
omit [Val] in
theorem nth_len {α} : ∀ {l : List α} {i : Nat} {x : α}, nth l i = some x → i < l.length
  | [], i, x, h => by cases h
  | _ :: _, 0, x, h => by simp
  | _ :: l, i + 1, x, h => by simp; exact nth_len (l := l) h
theorem NbOk.len {w w' : World} {G : GM} {F' : Nat → Prop} {xs : List GI} {n : Nat} {b : Option Blk} (h : NbOk w w' G F' xs n b) : xs.length = n + nbN b := by
  cases b with
  | none => exact h
  | some b => exact h.1
theorem he_ok {P : Program} {h : HE} (hh : HEok P h) {args az : List AV} {S : St} (hk : getA S.H 0 = some (.gho h.k az)) (ho : h.ok az args S.H = true) :
    CallGood P h.f args S { S with H := (0, .gho h.k' (h.out az args S.nx).2) :: (nbH (h.nb az args S.nx) (S.nx + h.n) ++ S.H), nx := S.nx + h.n + nbN (h.nb az args S.nx) } (h.out az args S.nx).1 := by
  refine ⟨rfl, ⟨⟨(0, .gho h.k' (h.out az args S.nx).2) :: nbH (h.nb az args S.nx) (S.nx + h.n), by simp⟩, by dsimp only; omega, fun _ q => q⟩, fun _ w G O us hu hS => ?_⟩
  obtain ⟨gs, F, k1, k2, k3, k4⟩ := hS.gh _ _ hk
  refine (hh ho k1 hu hS k2 (fun x hx => (k3 x hx).1) k4).mono ?_
  rintro e w' ⟨u, F', xs, gs', q1, rfl, q2, q3, q4, q5, q6, q7⟩
  have hg := binds_le hS xs
  have hlen := q1.len
  have hget : ∀ n x, nth xs n = some x → binds G S.nx xs (S.nx + n) = some x := fun n x hx => by
    unfold binds
    rw [if_neg (by omega), Nat.add_sub_cancel_left]; exact hx
  have hcs : ∀ i c, getA ((0, Blk.gho h.k' (h.out az args S.nx).2) :: (nbH (h.nb az args S.nx) (S.nx + h.n) ++ S.H)) i = some c → c.live → getA S.H i = some c ∨ (i = S.nx + h.n ∧ ∃ x, nth xs h.n = some x ∧ w.heap.size ≤ x.g ∧ x.g < w'.heap.size ∧ ¬ F' x.g ∧ BS w' (binds G S.nx xs) x c) := fun i c hi hl => by
    rw [getA_cons] at hi
    split at hi
    · cases hi; exact hl.elim
    · cases hb : h.nb az args S.nx with
      | none => rw [hb] at hi; exact .inl hi
      | some b =>
        rw [hb] at hi q1
        obtain ⟨r1, r2, x, r3, r4, r5, r6, r7⟩ := q1
        replace hi : getA ((S.nx + h.n, b) :: S.H) i = some c := hi
        rw [getA_cons] at hi
        split at hi
        · rename_i e
          cases hi
          exact .inr ⟨e, x, r3, r4, r5, r6, r7⟩
        · exact .inl hi
  refine ⟨u, binds G S.nx xs, fun y => (O y ∨ F' y) ∨ ∃ x, nth xs h.n = some x ∧ y = x.g ∧ nbN (h.nb az args S.nx) = 1, rfl, q2, ⟨⟨fun i b hi hl => ?_, fun i j b c x y hi hb hj hc hx hy he => ?_⟩, fun i hi => ?_, fun x hx => ?_, fun k az' hk' => ?_, fun x hx => ?_, Nat.le_trans hS.bw q5.size⟩, hg, ⟨q5.os, q5.tape, q5.output, q5.size, fun k hk hn => q5.block k hk fun q => hn (k3 k q).1⟩, fun x hx => ?_⟩
  · rcases hcs i b hi hl with q | ⟨rfl, x, r3, r4, r5, r6, r7⟩
    · obtain ⟨x, g1, g2, g3, g4⟩ := hS.bs i b q hl
      exact ⟨x, hg i x g1, .inl (.inl g2), Nat.lt_of_lt_of_le g3 q5.size, g4.mono hg (q5.block _ g3 (k4 i b x q hl g1))⟩
    · refine ⟨x, hget _ x r3, .inr ⟨x, r3, rfl, ?_⟩, r5, r7⟩
      cases hb : h.nb az args S.nx with
      | none =>
        rw [hb] at q1
        have := nth_len r3
        have q1 : xs.length = h.n := q1
        omega
      | some b => rfl
  · rcases hcs i b hi hb with q | ⟨rfl, x1, r3, r4, r5, r6, r7⟩
    · obtain ⟨x', g1, _, g3, _⟩ := hS.bs i b q hb
      have e1 := hg i x' g1; rw [hx] at e1; cases e1
      rcases hcs j c hj hc with p | ⟨rfl, x2, s3, s4, s5, s6, s7⟩
      · obtain ⟨y', g2, _⟩ := hS.bs j c p hc
        have e2 := hg j y' g2; rw [hy] at e2; cases e2
        exact hS.inj i j b c x y q hb p hc g1 g2 he
      · have e2 := hget _ _ s3; rw [hy] at e2; cases e2
        omega
    · have e1 := hget _ _ r3; rw [hx] at e1; cases e1
      rcases hcs j c hj hc with p | ⟨rfl, x2, s3, s4, s5, s6, s7⟩
      · obtain ⟨y', g2, _, g3, _⟩ := hS.bs j c p hc
        have e2 := hg j y' g2; rw [hy] at e2; cases e2
        omega
      · rfl
  · unfold binds
    dsimp only at hi
    rw [if_neg (by omega), nth_eq]
    exact List.getElem?_eq_none (by omega)
  · rcases hx with (q | q) | ⟨x', r1, rfl, r2⟩
    · exact Nat.lt_of_lt_of_le (hS.olt x q) q5.size
    · exact q7 x q
    · cases hb : h.nb az args S.nx with
      | none => rw [hb] at r2; cases r2
      | some b =>
        rw [hb] at q1
        obtain ⟨_, _, x2, r3, r4, r5, r6, r7⟩ := q1
        rw [r1] at r3; cases r3
        exact r5
  · rw [getA_cons, if_pos rfl] at hk'
    cases hk'
    refine ⟨gs', F', q3, q4, fun x hx => ⟨.inl (.inr hx), fun q => q⟩, fun i b x hi hl hx hF => ?_⟩
    rcases hcs i b hi hl with q | ⟨rfl, x1, r3, r4, r5, r6, r7⟩
    · obtain ⟨x', g1, g2, g3, _⟩ := hS.bs i b q hl
      have e1 := hg i x' g1; rw [hx] at e1; cases e1
      rcases q6 _ hF with p | p
      · exact k4 i b x q hl g1 p
      · omega
    · have e1 := hget _ _ r3; rw [hx] at e1; cases e1
      exact r6 hF
  · have key : O x ∨ w.heap.size ≤ x := by
      rcases hx with (q | q) | ⟨x', r1, rfl, r2⟩
      · exact .inl q
      · exact (q6 x q).imp (fun r => (k3 x r).1) id
      · cases hb : h.nb az args S.nx with
        | none => rw [hb] at r2; cases r2
        | some b =>
          rw [hb] at q1
          obtain ⟨_, _, x2, r3, r4, r5, r6, r7⟩ := q1
          rw [r1] at r3; cases r3
          exact .inr r4
    exact key.elim (hS.ob x) (Nat.le_trans hS.bw)
  · rcases hx with (q | q) | ⟨x', r1, rfl, r2⟩
    · exact .inl q
    · exact (q6 x q).imp (fun r => (k3 x r).1) id
    · cases hb : h.nb az args S.nx with
      | none => rw [hb] at r2; cases r2
      | some b =>
        rw [hb] at q1
        obtain ⟨_, _, x2, r3, r4, r5, r6, r7⟩ := q1
        rw [r1] at r3; cases r3
        exact .inr r4
theorem hkOf_ok {P : Program} : ∀ {l : List HE}, (∀ h ∈ l, HEok P h) → ∀ f args S v S', hkOf l f args S = some (v, S') → CallGood P f args S S' v
  | [], _, f, args, S, v, S', e => by cases e
  | h :: l, hl, f, args, S, v, S', e => by
    simp only [hkOf] at e
    split at e
    · rename_i k az hk
      cases hc : Nat.beq f h.f && Nat.beq k h.k && h.ok az args S.H <;> rw [hc] at e
      · exact hkOf_ok (fun x hx => hl x (List.mem_cons_of_mem _ hx)) f args S v S' e
      · cases e
        simp only [Bool.and_eq_true] at hc
        obtain ⟨⟨h1, h2⟩, h3⟩ := hc
        have h1 := Nat.eq_of_beq_eq_true h1; have h2 := Nat.eq_of_beq_eq_true h2
        subst h1; subst h2
        exact he_ok (hl h (List.mem_cons_self ..)) hk h3
    · cases e
end Go.Eng
namespace Go.Eng
open Go.RowKit
structure Asr (b:Nat) where
 P:World→(Nat→Prop)→Prop
 up:∀ {w w':World} {F S:Nat→Prop},P w F→UpdP S w w'→(∀ x,F x→¬ S x)→(∀ x,S x→b≤x)→P w' F
 lt:∀ {w:World} {F:Nat→Prop},P w F→∀ x,F x→b≤x∧x < w.heap.size
section
variable {b : Nat}
def emp:Asr b:=⟨fun _ F=>∀ x,¬ F x,fun h _ _ _=>h,fun h x q=>absurd q (h x)⟩
def fact (p:Prop):Asr b:=⟨fun _ F=>p∧∀ x,¬ F x,fun h _ _ _=>h,fun h x q=>absurd q (h.2 x)⟩
structure AllF (l:List (Asr b)) (w:World) (fs:Nat→Nat→Prop):Prop where
 at_:∀ i A,nth l i=some A→A.P w (fs i)
 ap:∀ i j x,fs i x→fs j x→i=j
 no:∀ i,nth l i=none→∀ x,¬ fs i x
def All (l:List (Asr b)) (w:World) (F:Nat→Prop):Prop:=∃ fs,AllF l w fs∧∀ x,F x↔∃ i,fs i x
theorem AllF.lt {l:List (Asr b)} {w:World} {fs:Nat→Nat→Prop} (h:AllF l w fs) (i x:Nat) (hx:fs i x):b≤x∧x < w.heap.size:=by
 cases hq:nth l i with
 | none=>exact absurd hx (h.no i hq x)
 | some A=>exact A.lt (h.at_ i A hq) x hx
theorem AllF.up {l:List (Asr b)} {w w':World} {fs:Nat→Nat→Prop} {S:Nat→Prop} (h:AllF l w fs) (hu:UpdP S w w') (hs:∀ i x,fs i x→¬ S x) (hb:∀ x,S x→b≤x):AllF l w' fs :=
 ⟨fun i A hi=>A.up (h.at_ i A hi) hu (hs i) hb,h.ap,h.no⟩
theorem All.up {l:List (Asr b)} {w w':World} {F S:Nat→Prop} (h:All l w F) (hu:UpdP S w w') (hs:∀ x,F x→¬ S x) (hb:∀ x,S x→b≤x):All l w' F:=by
 obtain ⟨fs,h1,h2⟩:=h
 exact ⟨fs,h1.up hu (fun i x hx=>hs x ((h2 x).2 ⟨i,hx⟩)) hb,h2⟩
theorem All.lt {l:List (Asr b)} {w:World} {F:Nat→Prop} (h:All l w F) (x:Nat) (hx:F x):b≤x∧x < w.heap.size:=by
 obtain ⟨fs,h1,h2⟩:=h
 obtain ⟨i,hi⟩:=(h2 x).1 hx
 exact h1.lt i x hi
def Ret (l':List (Asr b)) (w:World) (F:Nat→Prop) (w':World):Prop:=∃ F',All l' w' F'∧UpdP F w w'∧∀ x,F' x→F x∨w.heap.size≤x
def put:List (Asr b)→Nat→Asr b→List (Asr b)
 | [],_,A=>[A]
 | _::l,0,A=>A::l
 | B::l,n+1,A=>B::put l n A
theorem nth_put:∀ (l:List (Asr b)) (i:Nat) (A:Asr b),i≤l.length→∀ j,nth (put l i A) j=if j=i then some A else nth l j
 | [],i,A,h,j=>by
  have:i=0:=by simpa using h
  subst this
  cases j<;>rfl
 | B::l,0,A,h,j=>by cases j<;>rfl
 | B::l,i+1,A,h,0=>by simp [put,nth]
 | B::l,i+1,A,h,j+1=>by
  simp only [put,nth]
  rw [nth_put l i A (by simpa using h) j]
  simp
theorem AllF.step0 {l:List (Asr b)} {w w':World} {fs:Nat→Nat→Prop} {F:Nat→Prop} (h:AllF l w fs) (hF:∀ x,F x↔∃ i,fs i x) (hu:UpdP (fun _=>False) w w'):Ret l w F w' :=
 ⟨F,⟨fs,h.up hu (fun _ _ _ q=>q) (fun _ q=>q.elim),hF⟩,⟨hu.os,hu.tape,hu.output,hu.size,fun k hk _=>hu.block k hk fun q=>q⟩,fun x hx => .inl hx⟩
theorem AllF.step1 {l:List (Asr b)} {w w':World} {fs:Nat→Nat→Prop} {F:Nat→Prop} (h:AllF l w fs) (hF:∀ x,F x↔∃ i,fs i x) (i:Nat) (hi:i≤l.length) {A:Asr b} {f:Nat→Prop} (hA:A.P w' f) (hu:UpdP (fs i) w w') (hf:∀ x,f x→fs i x∨w.heap.size≤x):Ret (put l i A) w F w':=by
 have hlt:∀ j x,fs j x→x < w.heap.size:=fun j x hx=>(h.lt j x hx).2
 refine ⟨fun x=>∃ j,(if j=i then f else fs j) x,⟨fun j=>if j=i then f else fs j,⟨fun j B hj=>?_,fun j k x hj hk=>?_,fun j hj x hx=>?_⟩,fun x=>Iff.rfl⟩,⟨hu.os,hu.tape,hu.output,hu.size,fun k hk hn=>hu.block k hk fun q=>hn ((hF k).2 ⟨i,q⟩)⟩,fun x hx=>?_⟩
 ·rw [nth_put l i A hi] at hj
  try dsimp only
  by_cases e:j=i
  ·rw [if_pos e] at hj ⊢;cases hj;exact hA
  ·rw [if_neg e] at hj ⊢
   exact B.up (h.at_ j B hj) hu (fun x hx q=>e (h.ap j i x hx q)) fun x q=>(h.lt i x q).1
 ·try dsimp only at hj hk
  by_cases e:j=i<;>by_cases g:k=i
  ·omega
  ·rw [if_pos e] at hj;rw [if_neg g] at hk
   rcases hf x hj with q|q
   ·exact absurd (h.ap k i x hk q) g
   ·have:=hlt k x hk;omega
  ·rw [if_neg e] at hj;rw [if_pos g] at hk
   rcases hf x hk with q|q
   ·exact absurd (h.ap j i x hj q) e
   ·have:=hlt j x hj;omega
  ·rw [if_neg e] at hj;rw [if_neg g] at hk
   exact h.ap j k x hj hk
 ·rw [nth_put l i A hi] at hj
  try dsimp only at hx
  by_cases e:j=i
  ·rw [if_pos e] at hj;cases hj
  ·rw [if_neg e] at hj hx
   exact h.no j hj x hx
 ·obtain ⟨j,hx⟩:=hx
  by_cases e:j=i
  ·rw [if_pos e] at hx
   exact (hf x hx).imp (fun q=>(hF x).2 ⟨i,q⟩) id
  ·rw [if_neg e] at hx
   exact .inl ((hF x).2 ⟨j,hx⟩)
theorem AllF.step2 {l:List (Asr b)} {w w':World} {fs:Nat→Nat→Prop} {F:Nat→Prop} (h:AllF l w fs) (hF:∀ x,F x↔∃ i,fs i x) (i j:Nat) (hne:i≠j) (hi:i≤l.length) {A B:Asr b} (hj:j≤(put l i A).length) {f g:Nat→Prop} (hA:A.P w' f) (hB:B.P w' g)
  (hu:UpdP (fun x=>fs i x∨fs j x) w w') (hf:∀ x,f x→(fs i x∨fs j x)∨w.heap.size≤x) (hg:∀ x,g x→(fs i x∨fs j x)∨w.heap.size≤x) (hfg:∀ x,f x→¬ g x):Ret (put (put l i A) j B) w F w':=by
 have hlt:∀ j x,fs j x→x < w.heap.size:=fun j x hx=>(h.lt j x hx).2
 have hS:∀ k x,k≠i→k≠j→fs k x→¬ (fs i x∨fs j x):=fun k x e1 e2 hx q=>by
  rcases q with q|q
  ·exact e1 (h.ap k i x hx q)
  ·exact e2 (h.ap k j x hx q)
 have hnew:∀ k x (u:Nat→Prop),(∀ x,u x→(fs i x∨fs j x)∨w.heap.size≤x)→k≠i→k≠j→fs k x→¬ u x:=fun k x u hu' e1 e2 hx q=>by
  rcases hu' x q with q|q
  ·exact hS k x e1 e2 hx q
  ·have:=hlt k x hx;omega
 have hnth:∀ k,nth (put (put l i A) j B) k=if k=j then some B else if k=i then some A else nth l k:=fun k=>by
  rw [nth_put _ j B hj,nth_put l i A hi]
 refine ⟨fun x=>∃ k,(if k=j then g else if k=i then f else fs k) x,⟨fun k=>if k=j then g else if k=i then f else fs k,⟨fun k C hk=>?_,fun k m x hk hm=>?_,fun k hk x hx=>?_⟩,fun x=>Iff.rfl⟩,⟨hu.os,hu.tape,hu.output,hu.size,fun k hk hn=>hu.block k hk fun q=>hn ((hF k).2 (q.elim (fun q=>⟨i,q⟩) fun q=>⟨j,q⟩))⟩,fun x hx=>?_⟩
 ·rw [hnth] at hk
  try dsimp only
  by_cases e:k=j
  ·rw [if_pos e] at hk ⊢;cases hk;exact hB
  ·rw [if_neg e] at hk ⊢
   by_cases e2:k=i
   ·rw [if_pos e2] at hk ⊢;cases hk;exact hA
   ·rw [if_neg e2] at hk ⊢
    exact C.up (h.at_ k C hk) hu (fun x hx=>hS k x e2 e hx) fun x q=>q.elim (fun q=>(h.lt i x q).1) fun q=>(h.lt j x q).1
 ·try dsimp only at hk hm
  by_cases e:k=j
  ·rw [if_pos e] at hk
   by_cases e':m=j
   ·omega
   ·rw [if_neg e'] at hm
    by_cases e2:m=i
    ·rw [if_pos e2] at hm;exact absurd hk (hfg x hm)
    ·rw [if_neg e2] at hm;exact absurd hk (hnew m x g hg e2 e' hm)
  ·rw [if_neg e] at hk
   by_cases e2:k=i
   ·rw [if_pos e2] at hk
    by_cases e':m=j
    ·rw [if_pos e'] at hm;exact absurd hm (hfg x hk)
    ·rw [if_neg e'] at hm
     by_cases e3:m=i
     ·omega
     ·rw [if_neg e3] at hm;exact absurd hk (hnew m x f hf e3 e' hm)
   ·rw [if_neg e2] at hk
    by_cases e':m=j
    ·rw [if_pos e'] at hm;exact absurd hm (hnew k x g hg e2 e hk)
    ·rw [if_neg e'] at hm
     by_cases e3:m=i
     ·rw [if_pos e3] at hm;exact absurd hm (hnew k x f hf e2 e hk)
     ·rw [if_neg e3] at hm;exact h.ap k m x hk hm
 ·rw [hnth] at hk
  try dsimp only at hx
  by_cases e:k=j
  ·rw [if_pos e] at hk;cases hk
  ·rw [if_neg e] at hk hx
   by_cases e2:k=i
   ·rw [if_pos e2] at hk;cases hk
   ·rw [if_neg e2] at hk hx
    exact h.no k hk x hx
 ·obtain ⟨k,hx⟩:=hx
  by_cases e:k=j
  ·rw [if_pos e] at hx
   exact (hg x hx).imp (fun q=>(hF x).2 (q.elim (fun q=>⟨i,q⟩) fun q=>⟨j,q⟩)) id
  ·rw [if_neg e] at hx
   by_cases e2:k=i
   ·rw [if_pos e2] at hx
    exact (hf x hx).imp (fun q=>(hF x).2 (q.elim (fun q=>⟨i,q⟩) fun q=>⟨j,q⟩)) id
   ·rw [if_neg e2] at hx
    exact .inl ((hF x).2 ⟨k,hx⟩)
def find3:List (Nat×Asr b×(Nat→Prop))→Nat→Option (Asr b×(Nat→Prop))
 | [],_=>none
 | (i,p)::l,j=>if j=i then some p else find3 l j
theorem find3_mem:∀ {c:List (Nat×Asr b×(Nat→Prop))} {j:Nat} {p:Asr b×(Nat→Prop)},find3 c j=some p→(j,p)∈c
 | [],j,p,h=>by cases h
 | (i,q)::l,j,p,h=>by
  simp only [find3] at h
  split at h
  ·rename_i e;cases h;rw [e];exact List.mem_cons_self ..
  ·exact List.mem_cons_of_mem _ (find3_mem h)
theorem AllF.stepN {l:List (Asr b)} {w w':World} {fs:Nat→Nat→Prop} {F:Nat→Prop} (h:AllF l w fs) (hF:∀ x,F x↔∃ i,fs i x) (c:List (Nat×Asr b×(Nat→Prop))) {l':List (Asr b)} (S:Nat→Prop)
  (hl':∀ j,nth l' j=match find3 c j with
   | some p=>some p.1
   | none=>nth l j)
  (hA:∀ p∈c,p.2.1.P w' p.2.2) (hu:UpdP S w w') (hS:∀ x,S x→∃ p∈c,fs p.1 x) (hn:∀ p∈c,∀ x,p.2.2 x→S x∨w.heap.size≤x) (hd:∀ p∈c,∀ q∈c,∀ x,p.2.2 x→q.2.2 x→p.1=q.1):Ret l' w F w':=by
 have hSF:∀ x,S x→∃ i,fs i x:=fun x hx=>by obtain ⟨p,_,hp⟩:=hS x hx;exact ⟨_,hp⟩
 have hSb:∀ x,S x→b≤x:=fun x hx=>by obtain ⟨i,hi⟩:=hSF x hx;exact (h.lt i x hi).1
 have hno:∀ i,find3 c i=none→∀ x,fs i x→¬ S x:=fun i hi x hx hs=>by
  obtain ⟨p,hp,hq⟩:=hS x hs
  have:=h.ap i p.1 x hx hq
  subst this
  clear hl' hA hS hn hd hq hx
  induction c with
  | nil=>cases hp
  | cons a c ih =>
   obtain ⟨j,a⟩:=a
   simp only [find3] at hi
   split at hi
   ·cases hi
   ·rename_i e
    rcases List.mem_cons.1 hp with rfl|hp
    ·exact e rfl
    ·exact ih hp hi
 let g:Nat→Nat→Prop:=fun i=>match find3 c i with
  | some p=>p.2
  | none=>fs i
 have hgs:∀ {i p},find3 c i=some p→g i=p.2:=fun {i p} hi=>by show (match find3 c i with|some p=>p.2|none=>fs i)=_;rw [hi]
 have hgn:∀ {i},find3 c i=none→g i=fs i:=fun {i} hi=>by show (match find3 c i with|some p=>p.2|none=>fs i)=_;rw [hi]
 refine ⟨fun x=>∃ i,g i x,⟨g,⟨fun i A hi=>?_,fun i j x hi hj=>?_,fun i hi x hx=>?_⟩,fun x=>Iff.rfl⟩,⟨hu.os,hu.tape,hu.output,hu.size,fun k hk hn=>hu.block k hk fun q=>hn ((hF k).2 (hSF k q))⟩,fun x hx=>?_⟩
 ·rw [hl'] at hi
  cases hq:find3 c i with
  | none=>rw [hq] at hi;rw [hgn hq];exact A.up (h.at_ i A hi) hu (hno i hq) hSb
  | some p =>
   rw [hq] at hi;cases hi
   rw [hgs hq]
   exact hA _ (find3_mem hq)
 ·cases hq:find3 c i with
  | none =>
   rw [hgn hq] at hi
   cases hr:find3 c j with
   | none=>rw [hgn hr] at hj;exact h.ap i j x hi hj
   | some p =>
    rw [hgs hr] at hj
    rcases hn _ (find3_mem hr) x hj with q|q
    ·exact absurd q (hno i hq x hi)
    ·have:=(h.lt i x hi).2;omega
  | some p =>
   rw [hgs hq] at hi
   cases hr:find3 c j with
   | none =>
    rw [hgn hr] at hj
    rcases hn _ (find3_mem hq) x hi with q|q
    ·exact absurd q (hno j hr x hj)
    ·have:=(h.lt j x hj).2;omega
   | some p' =>
    rw [hgs hr] at hj
    exact hd _ (find3_mem hq) _ (find3_mem hr) x hi hj
 ·rw [hl'] at hi
  cases hq:find3 c i with
  | none=>rw [hq] at hi;rw [hgn hq] at hx;exact h.no i hi x hx
  | some p=>rw [hq] at hi;cases hi
 ·obtain ⟨i,hi⟩:=hx
  cases hq:find3 c i with
  | none=>rw [hgn hq] at hi;exact .inl ((hF x).2 ⟨i,hi⟩)
  | some p =>
   rw [hgs hq] at hi
   exact (hn _ (find3_mem hq) x hi).imp (fun q=>(hF x).2 (hSF x q)) id
abbrev mkVal (b:Nat) (ν:Nat→Int) (st:Nat→List Value→List (Asr b)):Val where
 ν:=ν
 gx k w us F:=All (st k us) w F
 b:=b
 gm h hu hs hb:=h.up hu hs hb
end
end Go.Eng
namespace Go.Eng
open Go.RowKit
structure RowS where
  i : Nat
  e : TypeId
  sz : Nat
  cs : List AV
def rowIs (H : Hp) (r : RowS) : Bool := match getA H r.i, r.sz with
  | some (.row e cs), 0 => Nat.beq e r.e && eqAs r.cs cs
  | some (.gro e sz cs), s + 1 => Nat.beq e r.e && Nat.beq sz (s + 1) && eqAs r.cs cs
  | _, _ => false
def ghoIs (H : Hp) (k : Nat) (az : List AV) : Bool := match getA H 0 with
  | some (.gho k' az') => Nat.beq k k' && eqAs az az'
  | _ => false
section
variable {b : Nat} {ν : Nat → Int} {st : Nat → List Value → List (Asr b)}
theorem nth_app {α} : ∀ (l m : List α) (i : Nat), nth (l ++ m) i = if i < l.length then nth l i else nth m (i - l.length)
  | [], m, i => by simp
  | a :: l, m, 0 => by simp [nth]
  | a :: l, m, i + 1 => by
    simp only [List.cons_append, nth, nth_app l m i, List.length_cons]
    split <;> split <;> first | rfl | omega | (congr 1; omega)
end
end Go.Eng
namespace Go.Eng
open Go.RowKit
abbrev plainV (b : Nat) (ν : Nat → Int) : Val where
  ν := ν
  gx _ _ _ _ := False
  b := b
  gm h _ _ _ := h
def noGho (H : Hp) : Bool := match getA H 0 with
  | some (.gho _ _) => false
  | _ => true
theorem noGho_ok {H : Hp} (h : noGho H = true) (k : Nat) (az : List AV) : getA H 0 ≠ some (.gho k az) := fun e => by
  unfold noGho at h; rw [e] at h; cases h
def engA (b : Nat) (ν : Nat → Int) (H : Hp) (n : Nat) (rt : List AV) (vals : List Value) : Asr b where
  P w F := ∃ G, @Sat0 (plainV b ν) w G F H ∧ (∀ i, n ≤ i → G i = none) ∧ @dns (plainV b ν) G rt = some vals ∧ ∀ x, F x → b ≤ x ∧ x < w.heap.size
  up := by
    letI : Val := plainV b ν
    rintro w w' F S ⟨G, h1, h2, h3, h4⟩ hu hs hb
    refine ⟨G, ⟨fun i c hi hl => ?_, h1.inj⟩, h2, h3, fun x hx => ⟨(h4 x hx).1, Nat.lt_of_lt_of_le (h4 x hx).2 hu.size⟩⟩
    obtain ⟨x, k1, k2, k3, k4⟩ := h1.bs i c hi hl
    exact ⟨x, k1, k2, Nat.lt_of_lt_of_le k3 hu.size, k4.mono (GLe.refl G) (hu.block _ k3 (hs _ k2))⟩
  lt := by
    rintro w F ⟨G, h1, h2, h3, h4⟩ x hx
    exact h4 x hx
theorem engA_sat {b : Nat} {ν : Nat → Int} {H : Hp} {n : Nat} {rt : List AV} {vals : List Value} {w : World} {F : Nat → Prop} (h : (engA b ν H n rt vals).P w F) (hg : noGho H = true) (hb : b ≤ w.heap.size) :
    ∃ G, @Sat (plainV b ν) w G F H n ∧ @dns (plainV b ν) G rt = some vals := by
  obtain ⟨G, h1, h2, h3, h4⟩ := h
  exact ⟨G, @Sat.mk (plainV b ν) _ _ _ _ _ h1 h2 (fun x hx => (h4 x hx).2) (fun k az hk => absurd hk (noGho_ok hg k az)) (fun x hx => (h4 x hx).1) hb, h3⟩
/-! Two things in one heap. -/
def shA (o : Nat) : AV → AV
  | .ptr i a => .ptr (o + i) a
  | .slk i a n c => .slk (o + i) a n c
  | .slc i a n => .slc (o + i) a n
  | .mp i => .mp (o + i)
  | .clo f i a => .clo f (o + i) a
  | .opq i => .opq (o + i)
  | .opl i e => .opl (o + i) e
  | a => a
def shAs (o : Nat) : List AV → List AV
  | [] => []
  | a :: l => shA o a :: shAs o l
def shM (o : Nat) : List (Int × AV) → List (Int × AV)
  | [] => []
  | (k, a) :: l => (k, shA o a) :: shM o l
def shB (o : Nat) : Blk → Blk
  | .dead => .dead
  | .row e cs => .row e (shAs o cs)
  | .gro e s cs => .gro e s (shAs o cs)
  | .fro e cs => .fro e (shAs o cs)
  | .mp es c => .mp (shM o es) c
  | .gho k az => .gho k (shAs o az)
def shH (o : Nat) : Hp → Hp
  | [] => []
  | (k, b) :: l => (o + k, shB o b) :: shH o l
def joinG (G1 : GM) (n : Nat) (G2 : GM) : GM := fun i => if i < n then G1 i else G2 (i - n)
section
variable [Val] {G1 G2 : GM} {n : Nat}
theorem joinG_r (i : Nat) : joinG G1 n G2 (n + i) = G2 i := by
  unfold joinG
  rw [if_neg (by omega), Nat.add_sub_cancel_left]
theorem dn_sh (a : AV) : dn (joinG G1 n G2) (shA n a) = dn G2 a := by
  cases a <;> first | rfl | simp only [shA, dn, joinG_r]
theorem dns_sh : ∀ l : List AV, dns (joinG G1 n G2) (shAs n l) = dns G2 l
  | [] => rfl
  | a :: l => by simp only [shAs, dns, dn_sh, dns_sh l]
theorem mapObj_sh : ∀ l : List (Int × AV), mapObj (joinG G1 n G2) (shM n l) = mapObj G2 l
  | [] => rfl
  | (k, a) :: l => by simp only [shM, mapObj, dn_sh, mapObj_sh l]
theorem shM_len : ∀ l : List (Int × AV), (shM n l).length = l.length
  | [] => rfl
  | (k, a) :: l => by simp [shM, shM_len l]
theorem BS.sh {w : World} {x : GI} {b : Blk} (h : BS w G2 x b) : BS w (joinG G1 n G2) x (shB n b) := by
  cases b with
  | dead => trivial
  | row e cs => obtain ⟨us, h1, h2⟩ := h; exact ⟨us, by rw [dns_sh]; exact h1, h2⟩
  | gro e s cs => obtain ⟨h0, h1, us, ys, h2, h3⟩ := h; exact ⟨h0, h1, us, ys, by rw [dns_sh]; exact h2, h3⟩
  | fro e cs => obtain ⟨h0, us, ys, fr, h2, h3⟩ := h; exact ⟨h0, us, ys, fr, by rw [dns_sh]; exact h2, h3⟩
  | mp es c => obtain ⟨us, h1, h2, h3⟩ := h; exact ⟨us, by rw [mapObj_sh]; exact h1, by rw [shM_len]; exact h2, h3⟩
  | gho k az => exact h.elim
theorem shB_live {b : Blk} : (shB n b).live ↔ b.live := by cases b <;> exact Iff.rfl
theorem shH_get : ∀ {H : Hp} {i : Nat} {c : Blk}, getA (shH n H) i = some c → ∃ j d, i = n + j ∧ getA H j = some d ∧ c = shB n d
  | [], i, c, h => by cases h
  | (k, b) :: l, i, c, h => by
    rw [shH, getA_cons] at h
    split at h
    · rename_i e; cases h; exact ⟨k, b, e, by rw [getA_cons, if_pos rfl], rfl⟩
    · rename_i e
      obtain ⟨j, d, rfl, h2, h3⟩ := shH_get h
      exact ⟨j, d, rfl, by rw [getA_cons, if_neg (by omega)]; exact h2, h3⟩
theorem getA_app {α} : ∀ {l m : List (Nat × α)} {i : Nat} {x : α}, getA (l ++ m) i = some x → getA l i = some x ∨ (getA l i = none ∧ getA m i = some x)
  | [], m, i, x, h => .inr ⟨rfl, h⟩
  | (k, y) :: l, m, i, x, h => by
    rw [List.cons_append, getA_cons] at h
    rw [getA_cons]
    split at h
    · rename_i e; rw [if_pos e]; exact .inl h
    · rename_i e; rw [if_neg e]; exact getA_app h
theorem Sat.join {w : World} {F1 F2 : Nat → Prop} {H1 H2 : Hp} {n2 : Nat} (h1 : Sat w G1 F1 H1 n) (h2 : Sat w G2 F2 H2 n2) (hd : ∀ x, F1 x → ¬ F2 x) (hg : noGho (H1 ++ shH n H2) = true) : Sat w (joinG G1 n G2) (fun x => F1 x ∨ F2 x) (H1 ++ shH n H2) (n + n2) := by
  have hle : GLe G1 (joinG G1 n G2) := fun i x hi => by
    unfold joinG
    rw [if_pos (h1.lt hi)]; exact hi
  have hget : ∀ i c, getA (H1 ++ shH n H2) i = some c → c.live → (∃ x, joinG G1 n G2 i = some x ∧ G1 i = some x ∧ getA H1 i = some c) ∨ ∃ j d x, i = n + j ∧ getA H2 j = some d ∧ d.live ∧ c = shB n d ∧ joinG G1 n G2 i = some x ∧ G2 j = some x := fun i c hi hl => by
    rcases getA_app hi with q | ⟨_, q⟩
    · obtain ⟨x, k1, _⟩ := h1.bs i c q hl
      exact .inl ⟨x, hle i x k1, k1, q⟩
    · obtain ⟨j, d, rfl, k2, rfl⟩ := shH_get q
      have hl' := shB_live.1 hl
      obtain ⟨x, k3, _⟩ := h2.bs j d k2 hl'
      exact .inr ⟨j, d, x, rfl, k2, hl', rfl, by rw [joinG_r]; exact k3, k3⟩
  refine ⟨⟨fun i c hi hl => ?_, fun i j c d x y hi hc hj hd' hx hy he => ?_⟩, fun i hi => ?_, fun x hx => hx.elim (h1.olt x) (h2.olt x), fun k az hk => absurd hk (noGho_ok hg k az), fun x hx => hx.elim (h1.ob x) (h2.ob x), h1.bw⟩
  · rcases hget i c hi hl with ⟨x, q1, q2, q3⟩ | ⟨j, d, x, rfl, q1, q2, rfl, q4, q5⟩
    · obtain ⟨x', k1, k2, k3, k4⟩ := h1.bs i c q3 hl
      rw [q2] at k1; cases k1
      exact ⟨x, q1, .inl k2, k3, k4.mono hle rfl⟩
    · obtain ⟨x', k1, k2, k3, k4⟩ := h2.bs j d q1 q2
      rw [q5] at k1; cases k1
      exact ⟨x, q4, .inr k2, k3, k4.sh⟩
  · rcases hget i c hi hc with ⟨x', q1, q2, q3⟩ | ⟨i', c', x', rfl, q1, q2, rfl, q4, q5⟩
    · rw [hx] at q1; cases q1
      obtain ⟨_, e1, k2, _⟩ := h1.bs i c q3 hc
      rw [q2] at e1; cases e1
      rcases hget j d hj hd' with ⟨y', p1, p2, p3⟩ | ⟨j', d', y', rfl, p1, p2, rfl, p4, p5⟩
      · rw [hy] at p1; cases p1
        exact h1.inj i j c d x y q3 hc p3 hd' q2 p2 he
      · rw [hy] at p4; cases p4
        obtain ⟨_, e2, g2, _⟩ := h2.bs j' d' p1 p2
        rw [p5] at e2; cases e2
        rw [he] at k2
        exact absurd g2 (hd _ k2)
    · rw [hx] at q4; cases q4
      obtain ⟨_, e1, k2, _⟩ := h2.bs i' c' q1 q2
      rw [q5] at e1; cases e1
      rcases hget j d hj hd' with ⟨y', p1, p2, p3⟩ | ⟨j', d', y', rfl, p1, p2, rfl, p4, p5⟩
      · rw [hy] at p1; cases p1
        obtain ⟨_, e2, g2, _⟩ := h1.bs j d p3 hd'
        rw [p2] at e2; cases e2
        rw [← he] at g2
        exact absurd k2 (hd _ g2)
      · rw [hy] at p4; cases p4
        rw [h2.inj i' j' c' d' x y q1 q2 p1 p2 q5 p5 he]
  · unfold joinG
    rw [if_neg (by omega)]
    exact h2.fresh _ (by omega)
end
structure Part where
  ρ : Ren
  B : Hp
  n : Nat
  rt : List AV
  rg : List AV
def gkeys (ρ : Ren) : Hp → List Nat
  | [] => []
  | (k, _) :: l => (nth ρ k).getD 0 :: gkeys ρ l
def partsKeys : List Part → List Nat
  | [] => []
  | p :: l => gkeys p.ρ p.B ++ partsKeys l
def Part.ok (p : Part) (H : Hp) (nx : Nat) : Bool := gcOk p.ρ p.n H nx p.B && sameAs p.ρ p.rt p.rg
theorem gkeys_mem {ρ : Ren} : ∀ {B : Hp} {k i : Nat} {b : Blk}, getA B k = some b → nth ρ k = some i → i ∈ gkeys ρ B
  | [], k, i, b, h, _ => by cases h
  | (j, c) :: l, k, i, b, h, hi => by
    simp only [getA] at h
    cases hq : Nat.beq k j <;> rw [hq] at h
    · exact List.mem_cons_of_mem _ (gkeys_mem h hi)
    · have := Nat.eq_of_beq_eq_true hq
      subst this
      rw [gkeys, hi]; exact List.mem_cons_self ..
theorem nodupN_app : ∀ {l m : List Nat}, nodupN (l ++ m) = true → nodupN m = true ∧ ∀ x ∈ l, x ∉ m
  | [], m, h => ⟨h, fun x q => by cases q⟩
  | a :: l, m, h => by
    simp only [List.cons_append, nodupN, Bool.and_eq_true, Bool.not_eq_true'] at h
    have hm : ∀ {l : List Nat} {i : Nat}, memN l i = false → i ∉ l := by
      intro l i hq
      induction l with
      | nil => simp
      | cons x l ih =>
        simp only [memN, Bool.or_eq_false_iff] at hq
        intro q
        rcases List.mem_cons.1 q with rfl | q
        · simp at hq
        · exact ih hq.2 q
    have h1 := hm h.1
    obtain ⟨h2, h3⟩ := nodupN_app h.2
    refine ⟨h2, fun x hx => ?_⟩
    rcases List.mem_cons.1 hx with rfl | hx
    · exact fun q => h1 (List.mem_append_right _ q)
    · exact h3 x hx
section
variable {b : Nat} {ν : Nat → Int}
def partF (G : GM) (p : Part) (y : Nat) : Prop := ∃ k c x, getA p.B k = some c ∧ c.live ∧ GM.ren p.ρ G k = some x ∧ y = x.g
theorem part_engA {w : World} {G : GM} {O : Nat → Prop} {H : Hp} {nx : Nat} (h : @Sat (plainV b ν) w G O H nx) {p : Part} (hp : p.ok H nx = true) {vals : List Value} (hv : @dns (plainV b ν) G p.rg = some vals) :
    (engA b ν p.B p.n p.rt vals).P w (partF G p) ∧ ∀ y, partF G p y → O y := by
  letI : Val := plainV b ν
  unfold Part.ok at hp
  rw [Bool.and_eq_true] at hp
  have hs := h.gc hp.1
  have hO : ∀ y, partF G p y → O y := fun y ⟨k, c, x, h1, h2, h3, h4⟩ => by
    obtain ⟨x', k1, k2, _⟩ := hs.bs k c h1 h2
    rw [h3] at k1; cases k1
    rw [h4]; exact k2
  refine ⟨⟨GM.ren p.ρ G, ⟨fun i c hi hl => ?_, hs.inj⟩, hs.fresh, by rw [sameAs_ok hp.2]; exact hv, fun y hy => ⟨h.ob y (hO y hy), h.olt y (hO y hy)⟩⟩, hO⟩
  obtain ⟨x, k1, k2, k3, k4⟩ := hs.bs i c hi hl
  exact ⟨x, k1, ⟨i, c, x, hi, hl, k1, rfl⟩, k3, k4⟩
theorem partF_key {w : World} {G : GM} {O : Nat → Prop} {H : Hp} {nx : Nat} (h : @Sat (plainV b ν) w G O H nx) {p : Part} (hp : p.ok H nx = true) {y : Nat} (hy : partF G p y) : ∃ i c x, i ∈ gkeys p.ρ p.B ∧ getA H i = some c ∧ c.live ∧ G i = some x ∧ x.g = y := by
  letI : Val := plainV b ν
  unfold Part.ok at hp
  simp only [Bool.and_eq_true] at hp
  obtain ⟨k, c, x, h1, h2, h3, h4⟩ := hy
  have hsH := hp.1
  simp only [gcOk, Bool.and_eq_true] at hsH
  obtain ⟨i, b', g1, g2, g3⟩ := sameH_ok hsH.1.1.1 k c h1
  have hl := (sameB_ok (w := w) (x := x) (G := G) g3).1.2
  have hx : G i = some x := by have : (nth p.ρ k).bind G = some x := h3; rw [g1] at this; exact this
  exact ⟨i, b', x, gkeys_mem h1 g1, g2, hl, hx, h4.symm⟩
theorem parts_apart {w : World} {G : GM} {O : Nat → Prop} {H : Hp} {nx : Nat} (h : @Sat (plainV b ν) w G O H nx) {p q : Part} (hp : p.ok H nx = true) (hq : q.ok H nx = true) (hd : ∀ x ∈ gkeys p.ρ p.B, x ∉ gkeys q.ρ q.B) (y : Nat) (h1 : partF G p y) : ¬ partF G q y := fun h2 => by
  letI : Val := plainV b ν
  obtain ⟨i, c, x, k1, k2, k3, k4, k5⟩ := partF_key h hp h1
  obtain ⟨j, d, z, g1, g2, g3, g4, g5⟩ := partF_key h hq h2
  have := h.inj i j c d x z k2 k3 g2 g3 k4 g4 (by rw [k5, g5])
  subst this
  exact hd i k1 g1
def callP (E : Env) (fuel : Nat) (f : FuncId) (args : List AV) (H : Hp) (nx : Nat) (v : AV) (ps : List Part) : Bool :=
  match call E fuel f args ⟨[], H, nx, [], []⟩ with
  | some (v', S) => eqV v v' && ps.all (fun p => p.ok S.H S.nx) && nodupN (partsKeys ps) && S.obs.isEmpty
  | none => false
theorem callP_ok {P : Program} {E : Env} (hE : @EOK (plainV b ν) P E) {fuel : Nat} {f : FuncId} {args : List AV} {H : Hp} {nx : Nat} {v : AV} {ps : List Part} (h : callP E fuel f args H nx v ps = true)
    {w : World} {G : GM} {O : Nat → Prop} {us : List Value} (hu : @dvl (plainV b ν) G args us) (hS : @Sat (plainV b ν) w G O H nx) :
    Calls P f us.toArray w fun e w' => ∃ u G' O' H' nx', e = .returned u ∧ @dv (plainV b ν) G' v = some u ∧ GLe G G' ∧ @Sat (plainV b ν) w' G' O' H' nx' ∧ (∀ p ∈ ps, p.ok H' nx' = true) ∧ nodupN (partsKeys ps) = true ∧ UpdP O w w' ∧ ∀ x, O' x → O x ∨ w.heap.size ≤ x := by
  letI : Val := plainV b ν
  unfold callP at h
  split at h
  · rename_i v' S hc
    simp only [Bool.and_eq_true] at h
    obtain ⟨⟨⟨h1, h2⟩, h3⟩, h4⟩ := h
    have ho : S.obs = [] := by simpa using h4
    refine ((call_ok hE hc).2.2 (by rw [ho]; intro p hp; cases hp) hu hS).mono ?_
    rintro e w' ⟨u, G', O', rfl, k1, k2, k3⟩
    exact ⟨u, G', O', S.H, S.nx, rfl, by rw [eqV_ok h1]; exact k1, k3.g, k2, fun p hp => List.all_eq_true.1 h2 p hp, h3, k3.u, k3.o⟩
  · cases h
end
end Go.Eng
namespace Go.Eng
open Go.RowKit
abbrev Sb:=List Lin
def sbT (σ:Sb):List (Nat×Int)→Lin
 | []=>⟨0,[]⟩
 | (i,a)::l=>match nth σ i with
  | some e=>⟨a*e.c+(sbT σ l).c,addT a e.ts (sbT σ l).ts⟩
  | none=>⟨(sbT σ l).c,insT i a (sbT σ l).ts⟩
def sbL (σ:Sb) (e:Lin):Lin:=⟨e.c+(sbT σ e.ts).c,(sbT σ e.ts).ts⟩
def sbA (σ:Sb):AV→AV
 | .sym k e=>mkNum k (sbL σ e)
 | a=>a
def sbAs (σ:Sb):List AV→List AV
 | []=>[]
 | a::l=>sbA σ a::sbAs σ l
def sbB (σ:Sb):Blk→Blk
 | .row e cs => .row e (sbAs σ cs)
 | .gro e s cs => .gro e s (sbAs σ cs)
 | .fro e cs => .fro e (sbAs σ cs)
 | _ => .dead
def sbH (σ:Sb):Hp→Hp
 | []=>[]
 | (k,b)::l=>(k,sbB σ b)::sbH σ l
def plain1:AV→Bool
 | .opl _ _=>false
 | _=>true
def plainB:Blk→Bool
 | .row _ cs=>cs.all plain1
 | .gro _ _ cs=>cs.all plain1
 | .fro _ cs=>cs.all plain1
 | _=>false
def plainH:Hp→Bool
 | []=>true
 | (_,b)::l=>plainB b&&plainH l
section
variable {b : Nat} {ν ν' : Nat → Int} {σ : Sb}
def Puts (σ:Sb) (ν ν':Nat→Int):Prop:=∀ i,ν' i=match nth σ i with
 | some e=>@Lin.val (plainV 0 ν) e
 | none=>ν i
theorem val_b (e:Lin):@Lin.val (plainV b ν) e=@Lin.val (plainV 0 ν) e:=by
 have:∀ l,@valT (plainV b ν) l=@valT (plainV 0 ν) l:=by
  intro l;induction l with
  | nil=>rfl
  | cons p l ih =>
   obtain ⟨i,a⟩:=p
   show a*ν i+@valT (plainV b ν) l=a*ν i+@valT (plainV 0 ν) l
   rw [ih]
 simp only [Lin.val,this]
theorem sbT_ok (h:Puts σ ν ν'):∀ l,@Lin.val (plainV 0 ν) (sbT σ l)=@valT (plainV 0 ν') l
 | []=>rfl
 | (i,a)::l=>by
  have ih:=sbT_ok h l
  have hi:=h i
  simp only [sbT,valT]
  cases hq:nth σ i with
  | none =>
   simp only [hq] at hi
   simp only [Lin.val,@valT_ins (plainV 0 ν)] at ih ⊢
   show _=a*ν' i+_
   rw [hi,← ih]
   show (sbT σ l).c+(a*ν i+_)=_
   omega
  | some e =>
   rw [hq] at hi
   simp only [Lin.val,@valT_add (plainV 0 ν)] at ih hi ⊢
   show _=a*ν' i+_
   rw [hi,← ih,Int.mul_add]
   omega
theorem sbL_ok (h:Puts σ ν ν') (e:Lin):@Lin.val (plainV b ν) (sbL σ e)=@Lin.val (plainV b ν') e:=by
 rw [val_b (b:=b) (ν:=ν),val_b (b:=b) (ν:=ν')]
 have h1:(sbT σ e.ts).c+@valT (plainV 0 ν) (sbT σ e.ts).ts=@valT (plainV 0 ν') e.ts:=sbT_ok h e.ts
 show (e.c+(sbT σ e.ts).c)+@valT (plainV 0 ν) (sbT σ e.ts).ts=e.c+@valT (plainV 0 ν') e.ts
 omega
theorem dn_mkNum (G:GM) (k:IntKind) (e:Lin):@dn (plainV b ν) G (mkNum k e)=some (.int k (@Lin.val (plainV b ν) e)):=by
 letI:Val:=plainV b ν
 unfold mkNum
 split
 ·rename_i q;rw [Lin.val_kn (by simp [Lin.kn,q])];rfl
 ·rfl
theorem sbA_ok (h:Puts σ ν ν') {a:AV} (hp:plain1 a=true) (G:GM):@dn (plainV b ν) G (sbA σ a)=@dn (plainV b ν') G a:=by
 cases a<;>first
  | rfl
  | (simp only [sbA];rw [dn_mkNum,sbL_ok h];rfl)
  | cases hp
theorem sbAs_ok (h:Puts σ ν ν') (G:GM):∀ {l:List AV},l.all plain1=true→@dns (plainV b ν) G (sbAs σ l)=@dns (plainV b ν') G l
 | [],_=>rfl
 | a::l,hp=>by
  rw [List.all_cons,Bool.and_eq_true] at hp
  simp only [sbAs,dns,sbA_ok h hp.1 G,sbAs_ok h G hp.2]
theorem sbB_live {b:Blk} (hp:plainB b=true):(sbB σ b).live∧b.live:=by
 cases b<;>first|exact ⟨trivial,trivial⟩|cases hp
theorem sbB_ok (h:Puts σ ν ν') {c:Blk} (hp:plainB c=true) {w:World} {G:GM} {x:GI}:@BS (plainV b ν) w G x (sbB σ c)↔@BS (plainV b ν') w G x c:=by
 cases c<;>first
  | (cases hp;done)
  | (simp only [sbB,BS,sbAs_ok h G hp])
theorem sbH_get:∀ {H:Hp} {i:Nat},getA (sbH σ H) i=(getA H i).map (sbB σ)
 | [],i=>rfl
 | (k,c)::l,i=>by
  simp only [sbH,getA]
  cases Nat.beq i k
  ·exact sbH_get (H:=l)
  ·rfl
theorem plainH_get:∀ {H:Hp} {i:Nat} {c:Blk},plainH H=true→getA H i=some c→plainB c=true
 | [],i,c,_,h=>by cases h
 | (k,d)::l,i,c,hp,h=>by
  simp only [plainH,Bool.and_eq_true] at hp
  simp only [getA] at h
  cases hq:Nat.beq i k<;>rw [hq] at h
  ·exact plainH_get hp.2 h
  ·cases h;exact hp.1
theorem engA_sub (h:Puts σ ν ν') {H:Hp} {n:Nat} {rt:List AV} {vals:List Value} (hp:plainH H=true) (hr:rt.all plain1=true) {w:World} {F:Nat→Prop} (hA:(engA b ν (sbH σ H) n (sbAs σ rt) vals).P w F):(engA b ν' H n rt vals).P w F:=by
 letI:Val:=plainV b ν
 obtain ⟨G,h1,h2,h3,h4⟩:=hA
 refine ⟨G,@Sat0.mk (plainV b ν') _ _ _ _ (fun i c hi hl=>?_) (fun i j c d x y hi hc hj hd hx hy he=>?_),h2,by rw [← sbAs_ok h G hr];exact h3,h4⟩
 ·obtain ⟨x,k1,k2,k3,k4⟩:=h1.bs i (sbB σ c) (by rw [sbH_get,hi];rfl) (sbB_live (plainH_get hp hi)).1
  exact ⟨x,k1,k2,k3,(sbB_ok h (plainH_get hp hi)).1 k4⟩
 ·exact h1.inj i j (sbB σ c) (sbB σ d) x y (by rw [sbH_get,hi];rfl) (sbB_live (plainH_get hp hi)).1 (by rw [sbH_get,hj];rfl) (sbB_live (plainH_get hp hj)).1 hx hy he
end
end Go.Eng
namespace Go.Eng
open Go.RowKit
inductive Sel where
  | any
  | at (i : Nat)
  | c (a : AV)
  | num (lo hi : Int)
inductive Arg where
  | s (x : Sel)
  | g (l : List Sel)
  | sl (e : TypeId) (n : Nat) (l : List Sel)
  | pt (e : TypeId) (l : List Sel)
inductive Out where
  | s (x : Sel)
  | g (l : List Sel)
  | t (l : List Sel)
  | row (e sz n : Nat) (l : List Sel)
inductive Nw where
  | ptr | opq
  | opl (e : Lin)
structure TS where
  f : Nat
  k : Nat
  args : List Arg
  nw : List Nw
  out : Out
  az' : List Sel
  k' : Nat
def news : Nat → List Nw → List AV
  | _, [] => []
  | i, .ptr :: l => .ptr i 0 :: news (i + 1) l
  | i, .opq :: l => .opq i :: news (i + 1) l
  | i, .opl e :: l => .opl i e :: news (i + 1) l
def selA (az : List AV) : Sel → AV
  | .any => .nilp
  | .at i => (nth az i).getD .nilp
  | .c a => a
  | .num _ _ => .nilp
def selsA (az : List AV) : List Sel → List AV
  | [] => []
  | x :: l => selA az x :: selsA az l
def clo : AV → Bool
  | .int _ _ | .sym _ _ | .bool _ | .str _ | .nilp | .nils | .fn _ | .ext _ => true
  | _ => false
def mt (bd : Bd) (az : List AV) : Sel → AV → Bool
  | .any, _ => true
  | .at i, a => match nth az i with
    | some b => eqA b a
    | none => false
  | .c b, a => clo b && eqA b a
  | .num lo hi, a => match a.num with
    | some (.i64, e) => match e.bnd bd with
      | some p => decide (lo ≤ p.1) && decide (p.2 ≤ hi)
      | none => false
    | _ => false
def mts (bd : Bd) (az : List AV) : List Sel → List AV → Bool
  | [], [] => true
  | x :: l, a :: m => mt bd az x a && mts bd az l m
  | _, _ => false
def mArg (bd : Bd) (az : List AV) (H : Hp) : Arg → AV → Bool
  | .s x, a => mt bd az x a
  | .g l, .agg cs => mts bd az l cs
  | .sl e n l, .slk i off m c => Nat.beq off 0 && Nat.beq m n && Nat.beq c n && (match getA H i with
    | some (.row e' cs) => Nat.beq e e' && mts bd az l cs
    | _ => false)
  | .pt e l, .ptr i off => Nat.beq off 0 && (match getA H i with
    | some (.row e' cs) => Nat.beq e e' && mts bd az l cs
    | _ => false)
  | _, _ => false
def mArgs (bd : Bd) (az : List AV) (H : Hp) : List Arg → List AV → Bool
  | [], [] => true
  | x :: l, a :: m => mArg bd az H x a && mArgs bd az H l m
  | _, _ => false
def outA (az : List AV) (nx : Nat) : Out → AV
  | .s x => selA az x
  | .g l => .agg (selsA az l)
  | .t l => .tup (selsA az l)
  | .row _ _ n _ => .slc nx 0 n
def outB (az : List AV) : Out → Option Blk
  | .row e sz _ l => some (.gro e sz (selsA az l))
  | _ => none
def TS.he (bd : Bd) (T : TS) : HE where
  f := T.f
  k := T.k
  ok az args H := mArgs bd az H T.args args
  out az _ nx := (outA (az ++ news nx T.nw) (nx + T.nw.length) T.out, selsA (az ++ news nx T.nw) T.az')
  n := T.nw.length
  nb az _ nx := outB (az ++ news nx T.nw) T.out
  k' := T.k'
section
variable [Val]
def mv (gs : List Value) : Sel → Value → Prop
  | .any, _ => True
  | .at i, v => nth gs i = some v
  | .c a, v => dn G0 a = some v
  | .num lo hi, v => ∃ n : Int, v = .int .i64 n ∧ lo ≤ n ∧ n ≤ hi
def mvs (gs : List Value) : List Sel → List Value → Prop
  | [], [] => True
  | x :: l, v :: m => mv gs x v ∧ mvs gs l m
  | _, _ => False
def mo (gs : List Value) : Sel → Value → Prop
  | .any, v => v = .pointer none
  | .at i, v => nth gs i = some v
  | .c a, v => dn G0 a = some v
  | .num _ _, v => v = .pointer none
def mos (gs : List Value) : List Sel → List Value → Prop
  | [], [] => True
  | x :: l, v :: m => mo gs x v ∧ mos gs l m
  | _, _ => False
def KnownAt (w : World) (F : Nat → Prop) (g : Nat) (e : TypeId) (us : List Value) : Prop := w.heap[g]? = some (.cells us.toArray e (0, 0)) ∧ ¬ F g ∧ Val.b ≤ g ∧ g < w.heap.size
def vArg (gs : List Value) (w : World) (F : Nat → Prop) : Arg → Value → Prop
  | .s x, v => mv gs x v
  | .g l, v => ∃ us : List Value, v = .agg us.toArray ∧ mvs gs l us
  | .sl e n l, v => ∃ g us, v = .slice (some ⟨g, 0, none⟩) n n ∧ mvs gs l us ∧ KnownAt w F g e us
  | .pt e l, v => ∃ g us, v = .pointer (some ⟨g, 0, none⟩) ∧ mvs gs l us ∧ KnownAt w F g e us
def vArgs (gs : List Value) (w : World) (F : Nat → Prop) : List Arg → List Value → Prop
  | [], [] => True
  | x :: l, v :: m => vArg gs w F x v ∧ vArgs gs w F l m
  | _, _ => False
def nwOk : Nw → Value → Prop
  | .ptr, v => ∃ g, v = .pointer (some ⟨g, 0, none⟩)
  | .opq, v => v.oneCell' = true
  | .opl e, v => ∃ a m c, v = .slice a m c ∧ (m : Int) = e.val
def nwsOk : List Nw → List Value → Prop
  | [], [] => True
  | x :: l, v :: m => nwOk x v ∧ nwsOk l m
  | _, _ => False
def outV (gs : List Value) (w w' : World) (F' : Nat → Prop) : Out → Value → Prop
  | .s x, u => mo gs x u
  | .g l, u => ∃ us : List Value, u = .agg us.toArray ∧ mos gs l us
  | .t l, u => ∃ us : List Value, u = .tuple us.toArray ∧ mos gs l us
  | .row e sz n l, u => ∃ g us ys cap, u = .slice (some ⟨g, 0, none⟩) n cap ∧ w.heap.size ≤ g ∧ g < w'.heap.size ∧ ¬ F' g ∧ mos gs l us ∧ w'.heap[g]? = some (.cells (us ++ ys).toArray e (0, 0)) ∧ us.length + ys.length = cap * sz ∧ cap ≤ maxLen ∧ 0 < sz
def TS.Ok (P : Program) {b : Nat} (ν : Nat → Int) (st : Nat → List Value → List (Asr b)) (T : TS) : Prop := ∀ {w : World} {gs us : List Value} {fs : Nat → Nat → Prop} {F : Nat → Prop},
  @vArgs (mkVal b ν st) gs w F T.args us → AllF (st T.k gs) w fs → (∀ x, F x ↔ ∃ i, fs i x) → b ≤ w.heap.size →
  Calls P T.f us.toArray w fun e w' => ∃ u vs gs' F', e = .returned u ∧ @nwsOk (mkVal b ν st) T.nw vs ∧ @outV (mkVal b ν st) (gs ++ vs) w w' F' T.out u ∧ @mos (mkVal b ν st) (gs ++ vs) T.az' gs' ∧ All (st T.k' gs') w' F' ∧ UpdP F w w' ∧ ∀ x, F' x → F x ∨ w.heap.size ≤ x
theorem clo_dn {a : AV} (h : clo a = true) (G : GM) : dn G a = dn G0 a := by
  cases a <;> first | rfl | cases h
theorem mt_ok {bd : Bd} (hbd : BD bd) {G : GM} {az : List AV} {gs : List Value} (hg : dns G az = some gs) {x : Sel} {a : AV} (h : mt bd az x a = true) {v : Value} (hv : d2 G a = some v) : mv gs x v := by
  rcases x with _ | i | b | ⟨lo, hi⟩
  · trivial
  · simp only [mt] at h
    split at h
    · rename_i b hb
      obtain ⟨u, h1, h2⟩ := dns_nth hg hb
      rw [← eqA_ok h, d2_of_dn h2] at hv
      cases hv
      show nth gs i = _
      rw [nth_eq]; exact h1
    · cases h
  · simp only [mt, Bool.and_eq_true] at h
    have := eqA_ok h.2
    subst this
    show dn G0 b = some v
    rw [← clo_dn h.1 G, ← hv, d2_cell (fun cs q => by rw [q] at h; cases h.1)]
  · simp only [mt] at h
    split at h
    · rename_i e he
      split at h
      · rename_i p hp
        rw [Bool.and_eq_true] at h
        have h1 := of_decide_eq_true h.1
        have h2 := of_decide_eq_true h.2
        have hb := Lin.bnd_ok hbd hp
        exact ⟨e.val, dv_num he (dv_of_d2 hv), by omega, by omega⟩
      · cases h
    · cases h
theorem mts_ok {bd : Bd} (hbd : BD bd) {G : GM} {az : List AV} {gs : List Value} (hg : dns G az = some gs) : ∀ {l : List Sel} {m : List AV} {us : List Value}, mts bd az l m = true → dns G m = some us → mvs gs l us
  | [], [], us, _, h => by cases h; trivial
  | [], _ :: _, us, h, _ => by cases h
  | _ :: _, [], us, h, _ => by cases h
  | x :: l, a :: m, us, h, hu => by
    simp only [mts, Bool.and_eq_true] at h
    obtain ⟨u, r, h1, h2, rfl⟩ := dns_cons.1 hu
    exact ⟨mt_ok hbd hg h.1 (d2_of_dn h1), mts_ok hbd hg h.2 h2⟩
theorem mArg_ok {bd : Bd} (hbd : BD bd) {G : GM} {az : List AV} {gs : List Value} {H : Hp} {w : World} {O F : Nat → Prop} {nx : Nat} (hg : dns G az = some gs) (hS : Sat w G O H nx) (hF : ∀ i b x, getA H i = some b → b.live → G i = some x → ¬ F x.g) {x : Arg} {a : AV} (h : mArg bd az H x a = true) {v : Value} (hv : dv G a = some v) : vArg gs w F x v := by
  have row : ∀ {i e cs}, getA H i = some (.row e cs) → ∃ y us, G i = some y ∧ dns G cs = some us ∧ KnownAt w F y.g e us := fun {i e cs} hi => by
    obtain ⟨y, h1, h2, h3, us, h4, h5⟩ := hS.bs i _ hi trivial
    exact ⟨y, us, h1, h4, h5, hF i _ y hi trivial h1, hS.ob _ h2, h3⟩
  cases x with
  | s x =>
    have h : mt bd az x a = true := h
    rcases x with _ | i | b | ⟨lo, hi⟩
    · trivial
    · have h' := h
      simp only [mt] at h
      split at h
      · rename_i b hb
        refine mt_ok hbd hg h' ?_
        rw [← hv, dv_cell (fun cs q => by rw [q] at h; unfold eqA at h; split at h <;> first | (cases h; done) | simp_all)]
      · cases h
    · refine mt_ok hbd hg h ?_
      simp only [mt, Bool.and_eq_true] at h
      rw [← hv, dv_cell (fun cs q => by have := eqA_ok h.2; rw [this, q] at h; cases h.1)]
    · refine mt_ok hbd hg h ?_
      rw [← hv, dv_cell (fun cs q => by rw [q] at h; cases h)]
  | g l =>
    cases a <;> first | (cases h; done) | skip
    rename_i cs
    obtain ⟨us, h1, rfl⟩ := Option.map_eq_some_iff.1 (show (dns G cs).map _ = _ from hv)
    exact ⟨us, rfl, mts_ok hbd hg h h1⟩
  | sl e n l =>
    cases a <;> first | (cases h; done) | skip
    rename_i i off m c
    simp only [mArg, Bool.and_eq_true] at h
    obtain ⟨⟨⟨h1, h2⟩, h3⟩, h4⟩ := h
    have := Nat.eq_of_beq_eq_true h1; subst this
    have := Nat.eq_of_beq_eq_true h2; subst this
    have := Nat.eq_of_beq_eq_true h3; subst this
    split at h4
    · rename_i e' cs hi
      rw [Bool.and_eq_true] at h4
      have := Nat.eq_of_beq_eq_true h4.1; subst this
      obtain ⟨y, us, k1, k2, k3⟩ := row hi
      obtain ⟨z, k4, rfl⟩ := Option.map_eq_some_iff.1 (show (G i).map _ = _ from hv)
      rw [k1] at k4; cases k4
      exact ⟨y.g, us, rfl, mts_ok hbd hg h4.2 k2, k3⟩
    · cases h4
  | pt e l =>
    cases a <;> first | (cases h; done) | skip
    rename_i i off
    simp only [mArg, Bool.and_eq_true] at h
    obtain ⟨h1, h4⟩ := h
    have := Nat.eq_of_beq_eq_true h1; subst this
    split at h4
    · rename_i e' cs hi
      rw [Bool.and_eq_true] at h4
      have := Nat.eq_of_beq_eq_true h4.1; subst this
      obtain ⟨y, us, k1, k2, k3⟩ := row hi
      obtain ⟨z, k4, rfl⟩ := Option.map_eq_some_iff.1 (show (G i).map _ = _ from hv)
      rw [k1] at k4; cases k4
      exact ⟨y.g, us, rfl, mts_ok hbd hg h4.2 k2, k3⟩
    · cases h4
theorem mArgs_ok {bd : Bd} (hbd : BD bd) {G : GM} {az : List AV} {gs : List Value} {H : Hp} {w : World} {O F : Nat → Prop} {nx : Nat} (hg : dns G az = some gs) (hS : Sat w G O H nx) (hF : ∀ i b x, getA H i = some b → b.live → G i = some x → ¬ F x.g) : ∀ {l : List Arg} {m : List AV} {us : List Value}, mArgs bd az H l m = true → dvl G m us → vArgs gs w F l us
  | [], [], [], _, _ => trivial
  | [], [], _ :: _, _, h => h.elim
  | [], _ :: _, us, h, _ => by cases h
  | _ :: _, [], us, h, _ => by cases h
  | _ :: _, _ :: _, [], _, h => h.elim
  | x :: l, a :: m, u :: us, h, hu => by
    simp only [mArgs, Bool.and_eq_true] at h
    exact ⟨mArg_ok hbd hg hS hF h.1 hu.1, mArgs_ok hbd hg hS hF h.2 hu.2⟩
def giOf : Nw → Value → GI
  | .ptr, .pointer (some a) => ⟨a.block, 0, 0, 0, undef⟩
  | .ptr, v => ⟨0, 0, 0, 0, v⟩
  | .opq, v => ⟨0, 0, 0, 0, v⟩
  | .opl _, v => ⟨0, 0, 0, 0, v⟩
def giOfs : List Nw → List Value → List GI
  | x :: l, v :: m => giOf x v :: giOfs l m
  | _, _ => []
theorem giOfs_len : ∀ {l : List Nw} {vs : List Value}, nwsOk l vs → (giOfs l vs).length = l.length
  | [], [], _ => rfl
  | [], _ :: _, h => h.elim
  | _ :: _, [], h => h.elim
  | x :: l, v :: m, h => by simp [giOfs, giOfs_len h.2]
theorem nw_dn {G : GM} {i : Nat} {x : Nw} {v : Value} (h : nwOk x v) (hG : G i = some (giOf x v)) (l : List Nw) (r : List AV) (hr : news i (x :: l) = r) : ∃ a, r = a :: news (i + 1) l ∧ dn G a = some v := by
  subst hr
  cases x with
  | ptr =>
    obtain ⟨g, rfl⟩ := h
    exact ⟨_, rfl, by show (G i).map _ = _; rw [hG]; rfl⟩
  | opq => exact ⟨_, rfl, by show (G i).bind _ = _; rw [hG]; simp [giOf, GI.ov, show v.oneCell' = true from h]⟩
  | opl e =>
    obtain ⟨a, m, c, rfl, h2⟩ := h
    exact ⟨_, rfl, by show (G i).bind _ = _; rw [hG]; simp [giOf, GI.os, h2]⟩
theorem news_dns {G : GM} : ∀ {l : List Nw} {vs : List Value} {i : Nat}, nwsOk l vs → (∀ j x, nth (giOfs l vs) j = some x → G (i + j) = some x) → dns G (news i l) = some vs
  | [], [], i, _, _ => rfl
  | [], _ :: _, i, h, _ => h.elim
  | _ :: _, [], i, h, _ => h.elim
  | x :: l, v :: m, i, h, hG => by
    obtain ⟨a, h1, h2⟩ := nw_dn (G := G) (i := i) h.1 (hG 0 _ rfl) l _ rfl
    rw [h1]
    exact dns_cons.2 ⟨v, m, h2, news_dns h.2 (fun j y hj => by have := hG (j + 1) y hj; rwa [show i + 1 + j = i + (j + 1) by omega]), rfl⟩
theorem mo_dn {G : GM} {az : List AV} {gs : List Value} (hg : dns G az = some gs) {x : Sel} {v : Value} (h : mo gs x v) : dn G (selA az x) = some v := by
  rcases x with _ | i | a | ⟨lo, hi⟩
  · cases h; rfl
  · have h : nth gs i = some v := h
    rw [nth_eq] at h
    have hl := dns_len hg
    show dn G ((nth az i).getD .nilp) = _
    have hi : i < az.length := by
      have := (List.getElem?_eq_some_iff.1 h).1
      omega
    have ha : nth az i = some az[i] := by rw [nth_eq]; exact List.getElem?_eq_getElem hi
    obtain ⟨u, h1, h2⟩ := dns_nth hg ha
    rw [ha]
    rw [h1] at h; cases h
    exact h2
  · exact dn_mono (G0_le G) h
  · cases h; rfl
theorem mos_dns {G : GM} {az : List AV} {gs : List Value} (hg : dns G az = some gs) : ∀ {l : List Sel} {us : List Value}, mos gs l us → dns G (selsA az l) = some us
  | [], [], _ => rfl
  | [], _ :: _, h => h.elim
  | _ :: _, [], h => h.elim
  | x :: l, v :: m, h => dns_cons.2 ⟨v, m, mo_dn hg h.1, mos_dns hg h.2, rfl⟩
theorem d2s_of_dns {G : GM} : ∀ {l : List AV} {us : List Value}, dns G l = some us → d2s G l = some us
  | [], us, h => h
  | a :: l, us, h => by
    obtain ⟨u, r, h1, h2, rfl⟩ := dns_cons.1 h
    simp only [d2s, d2_of_dn h1, d2s_of_dns h2]
    rfl
end
section
variable {b : Nat} {ν : Nat → Int} {st : Nat → List Value → List (Asr b)}
theorem TS.Ok.he {P : Program} {T : TS} {bd : Bd} (hbd : @BD (mkVal b ν st) bd) (hT : T.Ok P ν st) : @HEok (mkVal b ν st) P (T.he bd) := by
  letI : Val := mkVal b ν st
  intro az args H nx w G O F us gs ho hg hu hS hgx hFO hF
  obtain ⟨fs, k1, k2⟩ := hgx
  refine (hT (mArgs_ok hbd hg hS hF ho hu) k1 k2 hS.bw).mono ?_
  rintro e w' ⟨u, vs, gs', F', rfl, q1, q2, q3, q4, q5, q6⟩
  have hlen := giOfs_len q1
  have main : ∀ (ys : List GI), (∀ j x, nth (giOfs T.nw vs) j = some x → nth (giOfs T.nw vs ++ ys) j = some x) := fun ys j x h => by
    rw [nth_app, if_pos (nth_len h)]; exact h
  have hle : ∀ ys, GLe G (binds G nx (giOfs T.nw vs ++ ys)) := fun ys => binds_le hS _
  have hnew : ∀ ys, dns (binds G nx (giOfs T.nw vs ++ ys)) (az ++ news nx T.nw) = some (gs ++ vs) := fun ys =>
    dns_app.2 ⟨gs, vs, dns_mono (hle ys) hg, news_dns q1 (fun j x hj => by
      unfold binds
      rw [if_neg (by omega), Nat.add_sub_cancel_left]; exact main ys j x hj), rfl⟩
  cases hout : T.out with
  | row e sz n l =>
    rw [hout] at q2
    obtain ⟨g, us1, ys1, cap, rfl, g1, g2, g3, g4, g5, g6, g7, g8⟩ := q2
    refine ⟨_, F', giOfs T.nw vs ++ [⟨g, cap, sz, 0, undef⟩], gs', ?_, rfl, ?_, ?_, q4, q5, q6, fun x hx => (q4.lt x hx).2⟩
    · show NbOk _ _ _ _ _ _ (outB _ T.out)
      rw [hout]
      refine ⟨by simp [hlen, TS.he], trivial, ⟨g, cap, sz, 0, undef⟩, ?_, g1, g2, g3, ⟨rfl, rfl⟩, g8, us1, ys1, mos_dns (hnew _) g4, g5, g6, g7⟩
      rw [nth_app, if_neg (by show ¬ T.nw.length < _; omega)]
      show nth _ (T.nw.length - _) = _
      rw [hlen, Nat.sub_self]; rfl
    · show dv _ (outA _ _ T.out) = _
      rw [hout]
      show (binds G nx _ (nx + T.nw.length)).map _ = _
      have : binds G nx (giOfs T.nw vs ++ [⟨g, cap, sz, 0, undef⟩]) (nx + T.nw.length) = some ⟨g, cap, sz, 0, undef⟩ := by
        unfold binds
        rw [if_neg (by omega), Nat.add_sub_cancel_left, nth_app, if_neg (by omega), hlen, Nat.sub_self]; rfl
      rw [this]; simp
    · exact mos_dns (hnew _) q3
  | s x =>
    rw [hout] at q2
    refine ⟨u, F', giOfs T.nw vs ++ [], gs', ?_, rfl, ?_, mos_dns (hnew _) q3, q4, q5, q6, fun x hx => (q4.lt x hx).2⟩
    · show NbOk _ _ _ _ _ _ (outB _ T.out)
      rw [hout]
      show (giOfs T.nw vs ++ []).length = T.nw.length
      simp [hlen]
    · show dv _ (outA _ _ T.out) = _
      rw [hout]
      exact dv_of_dn (mo_dn (hnew _) q2)
  | g l =>
    rw [hout] at q2
    obtain ⟨us1, rfl, q2⟩ := q2
    refine ⟨_, F', giOfs T.nw vs ++ [], gs', ?_, rfl, ?_, mos_dns (hnew _) q3, q4, q5, q6, fun x hx => (q4.lt x hx).2⟩
    · show NbOk _ _ _ _ _ _ (outB _ T.out)
      rw [hout]
      show (giOfs T.nw vs ++ []).length = T.nw.length
      simp [hlen]
    · show dv _ (outA _ _ T.out) = _
      rw [hout]
      show (dns _ (selsA _ l)).map _ = _
      rw [mos_dns (hnew _) q2]; rfl
  | t l =>
    rw [hout] at q2
    obtain ⟨us1, rfl, q2⟩ := q2
    refine ⟨_, F', giOfs T.nw vs ++ [], gs', ?_, rfl, ?_, mos_dns (hnew _) q3, q4, q5, q6, fun x hx => (q4.lt x hx).2⟩
    · show NbOk _ _ _ _ _ _ (outB _ T.out)
      rw [hout]
      show (giOfs T.nw vs ++ []).length = T.nw.length
      simp [hlen]
    · show dv _ (outA _ _ T.out) = _
      rw [hout]
      show (d2s _ (selsA _ l)).map _ = _
      rw [d2s_of_dns (mos_dns (hnew _) q2)]; rfl
end
end Go.Eng
namespace Go.Eng
open Go.RowKit
section
variable {b : Nat} {ν : Nat → Int} {st : Nat → List Value → List (Asr b)}
theorem valT_pl : ∀ l, @valT (mkVal b ν st) l = @valT (plainV b ν) l
  | [] => rfl
  | (i, a) :: l => by
    show a * ν i + @valT (mkVal b ν st) l = a * ν i + @valT (plainV b ν) l
    rw [valT_pl l]
theorem val_pl (e : Lin) : @Lin.val (mkVal b ν st) e = @Lin.val (plainV b ν) e := by
  simp only [Lin.val, valT_pl]
theorem dn_pl (G : GM) (a : AV) : @dn (mkVal b ν st) G a = @dn (plainV b ν) G a := by
  cases a
  case sym k e => show some (Value.int k _) = some (Value.int k _); rw [val_pl]
  case opl i e => show Option.bind (G i) _ = Option.bind (G i) _; rw [val_pl]
  all_goals rfl
theorem dns_pl (G : GM) : ∀ l, @dns (mkVal b ν st) G l = @dns (plainV b ν) G l
  | [] => rfl
  | a :: l => by simp only [dns, dn_pl, dns_pl G l]
theorem d2_pl (G : GM) (a : AV) : @d2 (mkVal b ν st) G a = @d2 (plainV b ν) G a := by
  cases a <;> simp only [d2, dns_pl, dn_pl]
theorem d2s_pl (G : GM) : ∀ l, @d2s (mkVal b ν st) G l = @d2s (plainV b ν) G l
  | [] => rfl
  | a :: l => by simp only [d2s, d2_pl, d2s_pl G l]
theorem dv_pl (G : GM) (a : AV) : @dv (mkVal b ν st) G a = @dv (plainV b ν) G a := by
  cases a <;> simp only [dv, d2s_pl, d2_pl]
theorem dvl_pl (G : GM) : ∀ (l : List AV) (us : List Value), @dvl (plainV b ν) G l us → @dvl (mkVal b ν st) G l us
  | [], [], _ => trivial
  | [], _ :: _, h => h.elim
  | _ :: _, [], h => h.elim
  | a :: l, u :: us, h => ⟨by rw [dv_pl]; exact h.1, dvl_pl G l us h.2⟩
theorem mapObj_pl (G : GM) : ∀ l, @mapObj (mkVal b ν st) G l = @mapObj (plainV b ν) G l
  | [] => rfl
  | (k, a) :: l => by simp only [mapObj, dn_pl, mapObj_pl G l]
theorem bs_pl {w : World} {G : GM} {x : GI} {c : Blk} : @BS (mkVal b ν st) w G x c ↔ @BS (plainV b ν) w G x c := by
  cases c <;> simp only [BS, dns_pl, mapObj_pl]
theorem All.split {l m : List (Asr b)} {w : World} {F : Nat → Prop} (h : All (l ++ m) w F) : ∃ F1 F2, All l w F1 ∧ All m w F2 ∧ (∀ x, F1 x → ¬ F2 x) ∧ ∀ x, F x ↔ F1 x ∨ F2 x := by
  letI : Val := plainV b fun _ => 0
  obtain ⟨fs, h1, h2⟩ := h
  refine ⟨fun x => ∃ i, i < l.length ∧ fs i x, fun x => ∃ i, fs (l.length + i) x, ⟨fun i => if i < l.length then fs i else fun _ => False, ⟨fun i A hi => ?_, fun i j x hi hj => ?_, fun i hi x hx => ?_⟩, fun x => ?_⟩, ⟨fun i => fs (l.length + i), ⟨fun i A hi => ?_, fun i j x hi hj => ?_, fun i hi x hx => ?_⟩, fun x => Iff.rfl⟩, fun x hx hy => ?_, fun x => ?_⟩
  · have hlt := nth_len hi
    try dsimp only
    rw [if_pos hlt]
    exact h1.at_ i A (by rw [nth_app, if_pos hlt]; exact hi)
  · try dsimp only at hi hj
    split at hi
    · split at hj
      · exact h1.ap i j x hi hj
      · exact hj.elim
    · exact hi.elim
  · try dsimp only at hx
    split at hx
    · rename_i hlt
      rw [nth_eq, List.getElem?_eq_getElem hlt] at hi; cases hi
    · exact hx
  · constructor
    · rintro ⟨i, hi, hx⟩; exact ⟨i, by show (if i < l.length then fs i else fun _ => False) x; rw [if_pos hi]; exact hx⟩
    · rintro ⟨i, hx⟩
      try dsimp only at hx
      split at hx
      · rename_i hi; exact ⟨i, hi, hx⟩
      · exact hx.elim
  · exact h1.at_ _ A (by rw [nth_app, if_neg (by omega), Nat.add_sub_cancel_left]; exact hi)
  · have := h1.ap _ _ x hi hj; omega
  · exact h1.no _ (by rw [nth_app, if_neg (by omega), Nat.add_sub_cancel_left]; exact hi) x hx
  · obtain ⟨i, hi, hx⟩ := hx
    obtain ⟨j, hy⟩ := hy
    have := h1.ap _ _ x hx hy
    omega
  · rw [h2]
    constructor
    · rintro ⟨i, hi⟩
      by_cases hlt : i < l.length
      · exact .inl ⟨i, hlt, hi⟩
      · exact .inr ⟨i - l.length, by rw [show l.length + (i - l.length) = i by omega]; exact hi⟩
    · rintro (⟨i, _, hi⟩ | ⟨i, hi⟩)
      · exact ⟨_, hi⟩
      · exact ⟨_, hi⟩
theorem All.join {l m : List (Asr b)} {w : World} {F1 F2 F : Nat → Prop} (h1 : All l w F1) (h2 : All m w F2) (hd : ∀ x, F1 x → ¬ F2 x) (hF : ∀ x, F x ↔ F1 x ∨ F2 x) : All (l ++ m) w F := by
  letI : Val := plainV b fun _ => 0
  obtain ⟨f1, a1, a2⟩ := h1
  obtain ⟨f2, b1, b2⟩ := h2
  have hl : ∀ i x, f1 i x → i < l.length := fun i x hx => by
    rcases Nat.lt_or_ge i l.length with q | q
    · exact q
    · exact absurd hx (a1.no i (by rw [nth_eq]; exact List.getElem?_eq_none q) x)
  refine ⟨fun i => if i < l.length then f1 i else f2 (i - l.length), ⟨fun i A hi => ?_, fun i j x hi hj => ?_, fun i hi x hx => ?_⟩, fun x => ?_⟩
  · rw [nth_app] at hi
    try dsimp only
    split at hi
    · rename_i q; rw [if_pos q]; exact a1.at_ i A hi
    · rename_i q; rw [if_neg q]; exact b1.at_ _ A hi
  · try dsimp only at hi hj
    split at hi <;> split at hj
    · exact a1.ap i j x hi hj
    · exact absurd ((b2 x).2 ⟨_, hj⟩) (hd x ((a2 x).2 ⟨_, hi⟩))
    · exact absurd ((b2 x).2 ⟨_, hi⟩) (hd x ((a2 x).2 ⟨_, hj⟩))
    · have := b1.ap _ _ x hi hj; omega
  · rw [nth_app] at hi
    try dsimp only at hx
    split at hi
    · rename_i q; rw [if_pos q] at hx; exact a1.no i hi x hx
    · rename_i q; rw [if_neg q] at hx; exact b1.no _ hi x hx
  · rw [hF]
    constructor
    · rintro (q | q)
      · obtain ⟨i, hi⟩ := (a2 x).1 q
        exact ⟨i, by show (if i < l.length then f1 i else f2 (i - l.length)) x; rw [if_pos (hl i x hi)]; exact hi⟩
      · obtain ⟨i, hi⟩ := (b2 x).1 q
        exact ⟨l.length + i, by show (if l.length + i < l.length then f1 (l.length + i) else f2 (l.length + i - l.length)) x; rw [if_neg (by omega), Nat.add_sub_cancel_left]; exact hi⟩
    · rintro ⟨i, hx⟩
      try dsimp only at hx
      split at hx
      · exact .inl ((a2 x).2 ⟨_, hx⟩)
      · exact .inr ((b2 x).2 ⟨_, hx⟩)
theorem All.one {A : Asr b} {w : World} {F : Nat → Prop} : All [A] w F ↔ A.P w F := by
  constructor
  · rintro ⟨fs, h1, h2⟩
    have h3 := h1.at_ 0 A rfl
    have : F = fs 0 := by
      funext x
      apply propext
      rw [h2]
      constructor
      · rintro ⟨i, hi⟩
        cases i with
        | zero => exact hi
        | succ i => exact absurd hi (h1.no (i + 1) (by cases i <;> rfl) x)
      · exact fun hx => ⟨0, hx⟩
    rw [this]; exact h3
  · intro h
    refine ⟨fun i => if i = 0 then F else fun _ => False, ⟨fun i B hi => ?_, fun i j x hi hj => ?_, fun i hi x hx => ?_⟩, fun x => ?_⟩
    · cases i with
      | zero => cases hi; exact h
      | succ i => cases i <;> cases hi
    · try dsimp only at hi hj
      split at hi <;> split at hj <;> first | omega | exact hi.elim | exact hj.elim
    · try dsimp only at hx
      split at hx
      · rename_i e; rw [e] at hi; cases hi
      · exact hx
    · constructor
      · exact fun hx => ⟨0, hx⟩
      · rintro ⟨i, hx⟩
        try dsimp only at hx
        split at hx
        · exact hx
        · exact hx.elim
theorem sat_startE {w : World} {F : Nat → Prop} {H : Hp} {n k : Nat} {az rt : List AV} {gs vals : List Value} (hn : 0 < n) (hb : b ≤ w.heap.size) (h0 : getA H 0 = none)
    (h : All (st k gs ++ [engA b ν H n rt vals]) w F) (hg : ∀ G : GM, @dns (plainV b ν) G rt = some vals → @dns (plainV b ν) G az = some gs) :
    ∃ G, @Sat (mkVal b ν st) w G F ((0, .gho k az) :: H) n ∧ @dns (plainV b ν) G rt = some vals := by
  letI : Val := plainV b ν
  obtain ⟨F1, F2, h1, h2, h3, h4⟩ := h.split
  obtain ⟨G, k1, k2, k3, k4⟩ := All.one.1 h2
  have hget : ∀ i c, getA ((0, Blk.gho k az) :: H) i = some c → c.live → getA H i = some c := fun i c hi hl => by
    rw [getA_cons] at hi
    split at hi
    · cases hi; exact hl.elim
    · exact hi
  have hF : ∀ x, F x → b ≤ x ∧ x < w.heap.size := fun x hx => by
    rcases (h4 x).1 hx with q | q
    · exact h1.lt x q
    · exact k4 x q
  refine ⟨G, @Sat.mk (mkVal b ν st) _ _ _ _ _ (@Sat0.mk (mkVal b ν st) _ _ _ _ (fun i c hi hl => ?_) (fun i j c d x y hi hc hj hd hx hy he => k1.inj i j c d x y (hget i c hi hc) hc (hget j d hj hd) hd hx hy he)) k2 (fun x hx => (hF x hx).2) (fun k' az' hk' => ?_) (fun x hx => (hF x hx).1) hb, k3⟩
  · obtain ⟨x, q1, q2, q3, q4⟩ := k1.bs i c (hget i c hi hl) hl
    exact ⟨x, q1, (h4 _).2 (.inr q2), q3, bs_pl.2 q4⟩
  · rw [getA_cons, if_pos rfl] at hk'
    cases hk'
    refine ⟨gs, F1, by rw [dns_pl]; exact hg G k3, h1, fun x hx => ⟨(h4 x).2 (.inl hx), fun q => q⟩, fun i c x hi hl hx hF => ?_⟩
    obtain ⟨y, q1, q2, q3, q4⟩ := k1.bs i c (hget i c hi hl) hl
    rw [hx] at q1; cases q1
    exact h3 _ hF q2
end
end Go.Eng
namespace Go.Eng
open Go.RowKit
section
variable {b : Nat} {ν ν' : Nat → Int} {σ : Sb}
theorem engA_sub' (h:Puts σ ν ν') {H:Hp} {n:Nat} {rt:List AV} {vals:List Value} (hp:plainH H=true) (hr:rt.all plain1=true) {w:World} {F:Nat→Prop} (hA:(engA b ν' H n rt vals).P w F):(engA b ν (sbH σ H) n (sbAs σ rt) vals).P w F:=by
 letI:Val:=plainV b ν
 obtain ⟨G,h1,h2,h3,h4⟩:=hA
 have hget:∀ i c,getA (sbH σ H) i=some c→∃ d,getA H i=some d∧c=sbB σ d:=fun i c hc=>by
  rw [sbH_get] at hc
  obtain ⟨d,e1,e2⟩:=Option.map_eq_some_iff.1 hc
  exact ⟨d,e1,e2.symm⟩
 refine ⟨G,@Sat0.mk (plainV b ν) _ _ _ _ (fun i c hi hl=>?_) (fun i j c d x y hi hc hj hd hx hy he=>?_),h2,by rw [sbAs_ok h G hr];exact h3,h4⟩
 ·obtain ⟨d,e1,rfl⟩:=hget i c hi
  obtain ⟨x,k1,k2,k3,k4⟩:=@Sat0.bs (plainV b ν') _ _ _ _ h1 i d e1 (sbB_live (σ:=σ) (plainH_get hp e1)).2
  exact ⟨x,k1,k2,k3,(sbB_ok h (plainH_get hp e1)).2 k4⟩
 ·obtain ⟨c',e1,rfl⟩:=hget i c hi
  obtain ⟨d',e2,rfl⟩:=hget j d hj
  exact @Sat0.inj (plainV b ν') _ _ _ _ h1 i j c' d' x y e1 (sbB_live (σ:=σ) (plainH_get hp e1)).2 e2 (sbB_live (σ:=σ) (plainH_get hp e2)).2 hx hy he
theorem parts_cons {p:Part} {l:List Part} (h:nodupN (partsKeys (p::l))=true):nodupN (partsKeys l)=true∧∀ q∈l,∀ x∈gkeys p.ρ p.B,x∉gkeys q.ρ q.B:=by
 obtain ⟨h1,h2⟩:=nodupN_app h
 refine ⟨h1,fun q hq x hx hy=>h2 x hx ?_⟩
 clear h h1 h2 hx
 induction l with
 | nil=>cases hq
 | cons a l ih =>
  rcases List.mem_cons.1 hq with rfl|hq
  ·exact List.mem_append_left _ hy
  ·exact List.mem_append_right _ (ih hq)
theorem callP_1 {P:Program} {E:Env} (hE:@EOK (plainV b ν) P E) {fuel:Nat} {f:FuncId} {args:List AV} {H:Hp} {n:Nat} {v:AV} {p:Part} (h:callP E fuel f args H n v [p]=true)
  {w:World} {F:Nat→Prop} {rt:List AV} {us vals:List Value} (hA:(engA b ν H n rt vals).P w F) (hg:noGho H=true) (hb:b≤w.heap.size) (hu:∀ G:GM,@dns (plainV b ν) G rt=some vals→@dvl (plainV b ν) G args us) :
  Calls P f us.toArray w fun e w'=>∃ u G G0,e = .returned u∧@dv (plainV b ν) G v=some u∧GLe G0 G∧@dns (plainV b ν) G0 rt=some vals∧(∀ vp,@dns (plainV b ν) G p.rg=some vp→∃ F',(engA b ν p.B p.n p.rt vp).P w' F'∧∀ x,F' x→F x∨w.heap.size≤x)∧UpdP F w w':=by
 letI:Val:=plainV b ν
 obtain ⟨G0,hS,hr⟩:=engA_sat hA hg hb
 refine (callP_ok hE h (hu G0 hr) hS).mono ?_
 rintro e w' ⟨u,G,O,H',nx',rfl,k1,k2,k3,k4,k5,k6,k7⟩
 refine ⟨u,G,G0,rfl,k1,k2,hr,fun vp hv=>?_,k6⟩
 obtain ⟨q1,q2⟩:=part_engA k3 (k4 p (by simp)) hv
 exact ⟨_,q1,fun x hx=>k7 x (q2 x hx)⟩
theorem callP_2 {P:Program} {E:Env} (hE:@EOK (plainV b ν) P E) {fuel:Nat} {f:FuncId} {args:List AV} {H:Hp} {n:Nat} {v:AV} {p q:Part} (h:callP E fuel f args H n v [p,q]=true)
  {w:World} {F:Nat→Prop} {rt:List AV} {us vals:List Value} (hA:(engA b ν H n rt vals).P w F) (hg:noGho H=true) (hb:b≤w.heap.size) (hu:∀ G:GM,@dns (plainV b ν) G rt=some vals→@dvl (plainV b ν) G args us) :
  Calls P f us.toArray w fun e w'=>∃ u G G0,e = .returned u∧@dv (plainV b ν) G v=some u∧GLe G0 G∧@dns (plainV b ν) G0 rt=some vals∧(∀ vp vq,@dns (plainV b ν) G p.rg=some vp→@dns (plainV b ν) G q.rg=some vq →
   ∃ F1 F2,(engA b ν p.B p.n p.rt vp).P w' F1∧(engA b ν q.B q.n q.rt vq).P w' F2∧(∀ x,F1 x→¬ F2 x)∧(∀ x,F1 x→F x∨w.heap.size≤x)∧∀ x,F2 x→F x∨w.heap.size≤x)∧UpdP F w w':=by
 letI:Val:=plainV b ν
 obtain ⟨G0,hS,hr⟩:=engA_sat hA hg hb
 refine (callP_ok hE h (hu G0 hr) hS).mono ?_
 rintro e w' ⟨u,G,O,H',nx',rfl,k1,k2,k3,k4,k5,k6,k7⟩
 refine ⟨u,G,G0,rfl,k1,k2,hr,fun vp vq hv hw=>?_,k6⟩
 obtain ⟨q1,q2⟩:=part_engA k3 (k4 p (by simp)) hv
 obtain ⟨q3,q4⟩:=part_engA k3 (k4 q (by simp)) hw
 exact ⟨_,_,q1,q3,fun x hx=>parts_apart k3 (k4 p (by simp)) (k4 q (by simp)) ((parts_cons k5).2 q (by simp)) x hx,fun x hx=>k7 x (q2 x hx),fun x hx=>k7 x (q4 x hx)⟩
theorem callP_3 {P:Program} {E:Env} (hE:@EOK (plainV b ν) P E) {fuel:Nat} {f:FuncId} {args:List AV} {H:Hp} {n:Nat} {v:AV} {p q r:Part} (h:callP E fuel f args H n v [p,q,r]=true)
  {w:World} {G0:GM} {F:Nat→Prop} {us:List Value} (hS:@Sat (plainV b ν) w G0 F H n) (hu:@dvl (plainV b ν) G0 args us) :
  Calls P f us.toArray w fun e w'=>∃ u G,e = .returned u∧@dv (plainV b ν) G v=some u∧GLe G0 G∧(∀ vp vq vr,@dns (plainV b ν) G p.rg=some vp→@dns (plainV b ν) G q.rg=some vq→@dns (plainV b ν) G r.rg=some vr →
   ∃ F1 F2 F3,(engA b ν p.B p.n p.rt vp).P w' F1∧(engA b ν q.B q.n q.rt vq).P w' F2∧(engA b ν r.B r.n r.rt vr).P w' F3∧(∀ x,F1 x→¬ F2 x)∧(∀ x,F1 x→¬ F3 x)∧(∀ x,F2 x→¬ F3 x)∧(∀ x,F1 x→F x∨w.heap.size≤x)∧(∀ x,F2 x→F x∨w.heap.size≤x)∧∀ x,F3 x→F x∨w.heap.size≤x)∧UpdP F w w':=by
 letI:Val:=plainV b ν
 refine (callP_ok hE h hu hS).mono ?_
 rintro e w' ⟨u,G,O,H',nx',rfl,k1,k2,k3,k4,k5,k6,k7⟩
 refine ⟨u,G,rfl,k1,k2,fun vp vq vr hv hw hx=>?_,k6⟩
 obtain ⟨q1,q2⟩:=part_engA k3 (k4 p (by simp)) hv
 obtain ⟨q3,q4⟩:=part_engA k3 (k4 q (by simp)) hw
 obtain ⟨q5,q6⟩:=part_engA k3 (k4 r (by simp)) hx
 obtain ⟨m1,m2⟩:=parts_cons k5
 exact ⟨_,_,_,q1,q3,q5,fun x hx=>parts_apart k3 (k4 p (by simp)) (k4 q (by simp)) (m2 q (by simp)) x hx,fun x hx=>parts_apart k3 (k4 p (by simp)) (k4 r (by simp)) (m2 r (by simp)) x hx,fun x hx=>parts_apart k3 (k4 q (by simp)) (k4 r (by simp)) ((parts_cons m1).2 r (by simp)) x hx,fun x hx=>k7 x (q2 x hx),fun x hx=>k7 x (q4 x hx),fun x hx=>k7 x (q6 x hx)⟩
end
end Go.Eng
