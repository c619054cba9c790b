/- Texts of the proof, joined: Chapter 24 as plain law: a disk that has the journal's files alone, at each raw write. Chapter 24 as plain law: what Set and Open do to a journal in order. The book's Same at numbers. Chapter 24: the journal's contracts as its laws use them. The walk of JournalRuns. -/
import Derived.Test.YtmhojaiajhdlcaaMj4
import Derived.Test.YtmhojaiajhdlcaaMj7
import Derived.Test.YtmhojaiajhdlcaaRows
import Derived.Test.YtmhojaiajhdlcaaMj1
import Derived.Test.YtmhojaiajhdlcaaMj6
namespace Go.Proofs.Ytmhojaiajhdlcaa
open Go.RowKit
set_option linter.unusedSimpArgs false
set_option linter.unusedVariables false
def N2 (nm : ByteArray) : Prop := nm = nmJ ∨ nm = nmN
theorem N2.ok {nm : ByteArray} (h : N2 nm) : nameOk nm = true := by
  rcases h with rfl | rfl
  · exact nmJ_ok
  · exact nmN_ok
def WrN (x : Wr) : Prop := N2 x.nm ∧ (x.kd = 3 → N2 x.tn)
def FsN (fs : DF) : Prop := ∀ p ∈ fs, N2 p.1
theorem FsN.set_ {fs : DF} (h : FsN fs) (k : ByteArray) (v : List UInt8) (hk : N2 k) : FsN (tSet strLt fs k v) := fun p hp => by
  rcases tSet_mem _ _ _ _ hp with rfl | q
  · exact hk
  · exact h p q
theorem FsN.del {fs : DF} (h : FsN fs) (k : ByteArray) : FsN (tDel strLt fs k) := fun p hp => h p (tDel_mem _ _ _ hp)
theorem FsN.apply {fs : DF} (h : FsN fs) {x : Wr} (hx : WrN x) : FsN (wApply x fs) := by
  unfold wApply
  split
  · exact h.set_ _ _ hx.1
  split
  · exact h.set_ _ _ hx.1
  split
  · rename_i h3
    split
    · exact (h.del _).set_ _ _ (hx.2 h3)
    · exact h
  split
  · exact h.set_ _ _ hx.1
  split
  · exact h.del _
  · exact h
theorem FsN.all : ∀ {l : List Wr} {fs : DF}, FsN fs → (∀ x ∈ l, WrN x) → FsN (wAll fs l)
  | [], fs, h, _ => h
  | x :: l, fs, h, hl => FsN.all (fs := wApply x fs) (h.apply (hl x (by simp))) (fun y hy => hl y (by simp [hy]))
theorem FsN.len {fs : DF} (h : FsN fs) (hr : Rising strLt fs) : fs.length ≤ 2 := by
  rcases Nat.lt_or_ge 2 fs.length with q | q
  · exfalso
    have m0 := h _ (nth_mem 0 (by omega))
    have m1 := h _ (nth_mem 1 (by omega))
    have m2 := h _ (nth_mem 2 (by omega))
    have r01 := hr 0 1 (by omega) (by omega)
    have r12 := hr 1 2 (by omega) q
    have r02 := hr 0 2 (by omega) q
    have irr := strOrd.irr
    rcases m0 with a | a <;> rcases m1 with b | b <;> rcases m2 with c | c <;> rw [a, b] at r01 <;> rw [b, c] at r12 <;> rw [a, c] at r02
    all_goals
      first
        | (rw [irr] at r01; exact absurd r01 (by simp))
        | (rw [irr] at r12; exact absurd r12 (by simp))
        | (rw [irr] at r02; exact absurd r02 (by simp))
  · exact q
theorem get_set2 {fs : DF} (hr : Rising strLt fs) (k k' : ByteArray) (v : List UInt8) (hne : k' ≠ k) : dGet (tSet strLt fs k v) k' = dGet fs k' := get_set_ne strOrd [] hr k k' v hne
theorem get_del2 {fs : DF} (hr : Rising strLt fs) (k k' : ByteArray) (hne : k' ≠ k) : dGet (tDel strLt fs k) k' = dGet fs k' := get_del_ne strOrd [] hr k k' hne
theorem get_del1 {fs : DF} (hr : Rising strLt fs) (k : ByteArray) : dGet (tDel strLt fs k) k = ([], false) := get_del_eq strOrd [] hr k
/-- A disk whose journal has, at each raw write, what Q says. -/
structure St (Q : List UInt8 → Prop) (k : Nat) (s : DS) : Prop where
  ok : DOk s
  mn : FsN s.mark
  ln : ∀ x ∈ s.log, WrN x
  lg : s.log.length ≤ k
  al : ∀ j, Q (dGet (wAll s.mark (s.log.take j)) nmJ).1
theorem do_now (x : Wr) (s : DS) : (dDo x s).now = wApply x s.now := rfl
theorem St.zero {Q : List UInt8 → Prop} (h : Q []) : St Q 0 ⟨[], [], []⟩ := ⟨DOk.zero, fun p hp => by simp at hp, fun x hx => by simp at hx, Nat.le_refl _, fun j => by
  show Q (dGet (wAll [] (([] : List Wr).take j)) nmJ).1
  rw [List.take_nil]; exact h⟩
section
variable {Q : List UInt8 → Prop} {k : Nat} {s : DS}
theorem St.fsn (h : St Q k s) : FsN s.now := by rw [h.ok.eq]; exact h.mn.all h.ln
theorem St.now (h : St Q k s) : s.now.length ≤ 2 := h.fsn.len h.ok.ris
theorem St.mlen (h : St Q k s) : s.mark.length ≤ 2 := h.mn.len h.ok.rim
theorem St.q (h : St Q k s) : Q (dGet s.now nmJ).1 := by
  have := h.al s.log.length
  rwa [List.take_length, ← h.ok.eq] at this
theorem St.more (h : St Q k s) {m : Nat} (hm : k ≤ m) : St Q m s := ⟨h.ok, h.mn, h.ln, Nat.le_trans h.lg hm, h.al⟩
theorem St.weak {R : List UInt8 → Prop} (h : St Q k s) (hr : ∀ c, Q c → R c) : St R k s := ⟨h.ok, h.mn, h.ln, h.lg, fun j => hr _ (h.al j)⟩
theorem St.do_ (h : St Q k s) {x : Wr} (hx : WrOk x s.now) (hn : WrN x) (hq : Q (dGet (wApply x s.now) nmJ).1) : St Q (k + 1) (dDo x s) := by
  refine ⟨h.ok.do_ hx, h.mn, fun y hy => ?_, by unfold dDo; have := h.lg; simp; omega, fun j => ?_⟩
  · rcases List.mem_append.1 hy with q | q
    · exact h.ln y q
    · simp at q; subst q; exact hn
  · show Q (dGet (wAll s.mark ((s.log ++ [x]).take j)) nmJ).1
    rcases Nat.lt_or_ge s.log.length j with q | q
    · rw [List.take_of_length_le (by rw [List.length_append, List.length_singleton]; omega), wAll_snoc, ← h.ok.eq]
      exact hq
    · rw [List.take_append_of_le_length q]
      exact h.al j
theorem St.mark (h : St Q k s) : St Q 0 (dMark s) := ⟨h.ok.mark, h.fsn, fun x hx => by simp [dMark] at hx, Nat.le_refl _, fun j => by
  show Q (dGet (wAll s.now (([] : List Wr).take j)) nmJ).1
  have := h.q
  simpa [wAll] using this⟩
theorem St.back (h : St Q k s) (n : Int) : St Q 0 (dBack s n) := by
  refine ⟨h.ok.back n, h.mn.all fun x hx => h.ln x (List.mem_of_mem_take hx), fun x hx => by simp [dBack] at hx, Nat.le_refl _, fun j => ?_⟩
  show Q (dGet (wAll (wAll s.mark (s.log.take n.toNat)) (([] : List Wr).take j)) nmJ).1
  have := h.al n.toNat
  simpa [wAll] using this
theorem St.puts {nm : ByteArray} (h : St Q k s) (p : List UInt8) (hnm : N2 nm) (hin : inD s.now nm = true) (ht : dTotal s.now + p.length ≤ 16777216) (hq : nm = nmJ → ∀ m, m ≤ p.length → Q ((dGet s.now nmJ).1 ++ p.take m)) : ∀ i, i ≤ (chunks p).length →
    St Q (k + i) (dPut nm s ((chunks p).take i)) ∧ dGet (dPut nm s ((chunks p).take i)).now nm = ((dGet s.now nm).1 ++ p.take (32 * i), true) ∧ ∀ nm', nm' ≠ nm → dGet (dPut nm s ((chunks p).take i)).now nm' = dGet s.now nm'
  | 0, _ => ⟨by simpa [dPut] using h, by simp [dPut]; exact Prod.ext rfl (by rw [dGet_in]; exact hin), fun _ _ => rfl⟩
  | i + 1, hi => by
    have hlen := chunks_len p
    obtain ⟨i1, i2, i3⟩ := St.puts h p hnm hin ht hq i (by omega)
    have hP := PutOk.all p h.ok hin (by have := h.now; omega) ht i (by omega)
    have hlt : 32 * i < p.length := by omega
    have hcl : ((p.drop (32 * i)).take 32).length = min 32 (p.length - 32 * i) := by rw [List.length_take, List.length_drop]
    have hne : (p.drop (32 * i)).take 32 ≠ [] := fun q => by rw [q] at hcl; simp at hcl; omega
    have hw := (hP.step ((p.drop (32 * i)).take 32) hne (by have := h.now; omega) (by rw [hcl]; omega)).1
    rw [dPut_take nm s p i (by omega)]
    have hr := i1.ok.ris
    have hap : wApply (wPut nm ((p.drop (32 * i)).take 32)) (dPut nm s ((chunks p).take i)).now = tSet strLt (dPut nm s ((chunks p).take i)).now nm ((dGet (dPut nm s ((chunks p).take i)).now nm).1 ++ (p.drop (32 * i)).take 32) := rfl
    have hval : (dGet (dPut nm s ((chunks p).take i)).now nm).1 ++ (p.drop (32 * i)).take 32 = (dGet s.now nm).1 ++ p.take (32 * (i + 1)) := by
      rw [i2]
      dsimp only
      rw [List.append_assoc, show 32 * (i + 1) = 32 * i + 32 by omega, List.take_add]
    have hg1 : dGet (dDo (wPut nm ((p.drop (32 * i)).take 32)) (dPut nm s ((chunks p).take i))).now nm = ((dGet s.now nm).1 ++ p.take (32 * (i + 1)), true) := by
      rw [do_now, hap, hval]; exact get_set hr _ _
    have hg2 : ∀ nm', nm' ≠ nm → dGet (dDo (wPut nm ((p.drop (32 * i)).take 32)) (dPut nm s ((chunks p).take i))).now nm' = dGet s.now nm' := fun nm' hne' => by
      rw [do_now, hap, get_set2 hr _ _ _ hne', i3 nm' hne']
    refine ⟨i1.do_ hw ⟨hnm, fun q => absurd q (show ¬ (2 : Int) = 3 by decide)⟩ ?_, hg1, hg2⟩
    by_cases hj : nm = nmJ
    · subst hj
      have h9 : dGet (wApply (wPut nmJ ((p.drop (32 * i)).take 32)) (dPut nmJ s ((chunks p).take i)).now) nmJ = _ := hg1
      rw [h9]
      dsimp only
      have := hq rfl (min (32 * (i + 1)) p.length) (Nat.min_le_right _ _)
      rwa [show p.take (min (32 * (i + 1)) p.length) = p.take (32 * (i + 1)) by
        rcases Nat.lt_or_ge p.length (32 * (i + 1)) with q | q
        · rw [Nat.min_eq_right (by omega), List.take_of_length_le (Nat.le_refl _), List.take_of_length_le (by omega)]
        · rw [Nat.min_eq_left q]] at this
    · have h9 : dGet (wApply (wPut nm ((p.drop (32 * i)).take 32)) (dPut nm s ((chunks p).take i)).now) nmJ = _ := hg2 nmJ (fun q => hj q.symm)
      rw [h9]
      exact h.q
/-- What an Append does. -/
structure Appd (Q : List UInt8 → Prop) (k : Nat) (s : DS) (nm : ByteArray) (p : List UInt8) (r : Int × DS) : Prop where
  st : St Q (k + 1 + p.length) r.2
  no : r.1 ≠ 0 → r.2 = s
  yes : r.1 = 0 → dGet r.2.now nm = ((dGet s.now nm).1 ++ p, true) ∧ ∀ nm', nm' ≠ nm → dGet r.2.now nm' = dGet s.now nm'
  fit : dTotal s.now + p.length ≤ 16777216 → r.1 = 0
theorem St.append {nm : ByteArray} (h : St Q k s) (p : List UInt8) (hnm : N2 nm) (hq : nm = nmJ → ∀ m, m ≤ p.length → Q ((dGet s.now nmJ).1 ++ p.take m)) : Appd Q k s nm p (dAppend s nm p) := by
  have hcl := chunks_len p
  unfold dAppend
  rw [hnm.ok, if_pos rfl]
  by_cases hf : 16777216 < dTotal s.now + p.length
  · rw [if_pos hf]
    exact ⟨h.more (by omega), fun _ => rfl, fun q => absurd q (show ¬ (9 : Int) = 0 by decide), fun q => by omega⟩
  · rw [if_neg hf]
    have hall : p.take (32 * (chunks p).length) = p := List.take_of_length_le (by omega)
    cases hin : inD s.now nm with
    | true =>
      rw [if_pos rfl]
      obtain ⟨h1, h2, h3⟩ := h.puts p hnm hin (by omega) hq (chunks p).length (Nat.le_refl _)
      rw [List.take_length, hall] at *
      exact ⟨h1.more (by omega), fun q => absurd rfl q, fun _ => ⟨h2, h3⟩, fun _ => rfl⟩
    | false =>
      rw [if_neg (by simp)]
      obtain ⟨m1, m2, m3, m4, m5⟩ := h.ok.make nm hin (by have := h.now; omega)
      have hold : dGet s.now nm = ([], false) := dGet_no hin
      have hr := h.ok.ris
      have hg1 : dGet (dDo (wMake nm) s).now nm = ([], true) := by show dGet (tSet strLt s.now nm []) nm = _; exact get_set hr _ _
      have hg2 : ∀ nm', nm' ≠ nm → dGet (dDo (wMake nm) s).now nm' = dGet s.now nm' := fun nm' hne => by show dGet (tSet strLt s.now nm []) nm' = _; exact get_set2 hr _ _ _ hne
      have hst : St Q (k + 1) (dDo (wMake nm) s) := by
        refine h.do_ m1 ⟨hnm, fun q => absurd q (show ¬ (1 : Int) = 3 by decide)⟩ ?_
        by_cases hj : nm = nmJ
        · subst hj
          have h9 : dGet (wApply (wMake nmJ) s.now) nmJ = ([], true) := hg1
          rw [h9]
          have := hq rfl 0 (Nat.zero_le _)
          rw [hold] at this
          simpa using this
        · have h9 : dGet (wApply (wMake nm) s.now) nmJ = _ := hg2 nmJ (fun q => hj q.symm)
          rw [h9]; exact h.q
      have hq2 : nm = nmJ → ∀ m, m ≤ p.length → Q ((dGet (dDo (wMake nm) s).now nmJ).1 ++ p.take m) := fun hj m hm => by
        have := hq hj m hm
        subst hj
        rw [hg1]
        rw [hold] at this
        exact this
      obtain ⟨h1, h2, h3⟩ := hst.puts p hnm m3 (by omega) hq2 (chunks p).length (Nat.le_refl _)
      rw [List.take_length, hall] at *
      refine ⟨h1.more (by omega), fun q => absurd rfl q, fun _ => ⟨?_, fun nm' hne => ?_⟩, fun _ => rfl⟩
      · dsimp only
        rw [h2, hg1, hold]
      · dsimp only
        rw [h3 nm' hne, hg2 nm' hne]
theorem St.remove (h : St Q k s) (hin : inD s.now nmN = true) : St Q (k + 1) (dRemove s nmN).2 ∧ dGet (dRemove s nmN).2.now nmJ = dGet s.now nmJ ∧ dGet (dRemove s nmN).2.now nmN = ([], false) := by
  have hr := h.ok.ris
  have he : (dRemove s nmN).2 = dDo (wRem nmN) s := by unfold dRemove; rw [hin]; rfl
  have hw := (h.ok.rem nmN hin (by have := h.now; omega)).1
  have hg : dGet (dDo (wRem nmN) s).now nmJ = dGet s.now nmJ := by show dGet (tDel strLt s.now nmN) nmJ = _; exact get_del2 hr _ _ nmJN
  have hg2 : dGet (dDo (wRem nmN) s).now nmN = ([], false) := by show dGet (tDel strLt s.now nmN) nmN = _; exact get_del1 hr _
  rw [he]
  refine ⟨h.do_ hw ⟨.inr rfl, fun q => absurd q (show ¬ (5 : Int) = 3 by decide)⟩ ?_, hg, hg2⟩
  have h9 : dGet (wApply (wRem nmN) s.now) nmJ = _ := hg
  rw [h9]; exact h.q
theorem St.rename (h : St Q k s) {c : List UInt8} (hc : dGet s.now nmN = (c, true)) (hq : Q c) : St Q (k + 1) (dRename s nmN nmJ).2 ∧ dGet (dRename s nmN nmJ).2.now nmJ = (c, true) ∧ dGet (dRename s nmN nmJ).2.now nmN = ([], false) := by
  have hr := h.ok.ris
  have hin : inD s.now nmN = true := by rw [← dGet_in, hc]
  have he : (dRename s nmN nmJ).2 = dDo (wRen nmN nmJ) s := by unfold dRename; rw [nmJ_ok, if_pos rfl, hin]; rfl
  have hw := (h.ok.ren nmN nmJ hin (by have := h.now; omega)).1
  have hap : wApply (wRen nmN nmJ) s.now = tSet strLt (tDel strLt s.now nmN) nmJ c := by
    show (if inD s.now nmN = true then tSet strLt (tDel strLt s.now nmN) nmJ (dGet s.now nmN).1 else s.now) = _
    rw [if_pos hin, hc]
  have hg : dGet (dDo (wRen nmN nmJ) s).now nmJ = (c, true) := by rw [do_now, hap]; exact get_set (hr.del strOrd nmN) _ _
  have hg2 : dGet (dDo (wRen nmN nmJ) s).now nmN = ([], false) := by rw [do_now, hap, get_set2 (hr.del strOrd nmN) _ _ _ (Ne.symm nmJN)]; exact get_del1 hr _
  rw [he]
  refine ⟨h.do_ hw ⟨.inr rfl, fun _ => .inl rfl⟩ ?_, hg, hg2⟩
  have h9 : dGet (wApply (wRen nmN nmJ) s.now) nmJ = (c, true) := hg
  rw [h9]; exact hq
theorem St.cut (h : St Q k s) (n : Nat) (hin : inD s.now nmJ = true) (hn : n ≤ (dGet s.now nmJ).1.length) (hq : Q ((dGet s.now nmJ).1.take n)) : St Q (k + 1) (dCut s nmJ (n : Int)).2 ∧ dGet (dCut s nmJ (n : Int)).2.now nmJ = ((dGet s.now nmJ).1.take n, true) ∧ dGet (dCut s nmJ (n : Int)).2.now nmN = dGet s.now nmN := by
  have hr := h.ok.ris
  have he : (dCut s nmJ (n : Int)).2 = dDo (wCut nmJ (n : Int)) s := by unfold dCut; rw [hin, if_pos rfl, if_neg (by omega)]
  have hw := (h.ok.cut nmJ (n : Int) hin (by omega) (by omega) (by have := h.now; omega)).1
  have hap : wApply (wCut nmJ (n : Int)) s.now = tSet strLt s.now nmJ ((dGet s.now nmJ).1.take n) := by
    show tSet strLt s.now nmJ ((dGet s.now nmJ).1.take (n : Int).toNat) = _
    rw [Int.toNat_natCast]
  have hg : dGet (dDo (wCut nmJ (n : Int)) s).now nmJ = ((dGet s.now nmJ).1.take n, true) := by rw [do_now, hap]; exact get_set hr _ _
  have hg2 : dGet (dDo (wCut nmJ (n : Int)) s).now nmN = dGet s.now nmN := by rw [do_now, hap]; exact get_set2 hr _ _ _ (Ne.symm nmJN)
  rw [he]
  refine ⟨h.do_ hw ⟨.inl rfl, fun q => absurd q (show ¬ (4 : Int) = 3 by decide)⟩ ?_, hg, hg2⟩
  have h9 : dGet (wApply (wCut nmJ (n : Int)) s.now) nmJ = _ := hg
  rw [h9]; exact hq
end
end Go.Proofs.Ytmhojaiajhdlcaa
namespace Go.Proofs.Ytmhojaiajhdlcaa
open Go.RowKit
set_option linter.unusedSimpArgs false
set_option linter.unusedVariables false
/-- Some contents of a payload fit a frame: what is laid. -/
theorem putF_one {r : Ch} (h : ChsOk [r]) : putF [] (encChs [r]) = frameOf (encChs [r]) := by rw [putF_fit _ _ h.fit]; rfl
theorem frame_le {l : List Ch} (h : ChsOk l) : (frameOf (encChs l)).length ≤ 262152 := by rw [frameOf_len]; have := h.sz; omega
theorem jLay_cons (r : Int × ByteArray) (u : JS) (s : DS) : jLay (r :: u) (0, s) = jLay u (dAppend s nmN (putF [] (encChs [r]))) := by
  show (if (0 : Int) = 0 then _ else _) = _
  rw [if_pos rfl]
theorem jLay_bad (u : JS) (e : Int) (s : DS) (he : e ≠ 0) : jLay u (e, s) = (e, s) := by
  cases u with
  | nil => rfl
  | cons r u => show (if e = 0 then _ else _) = _; rw [if_neg he]
section
variable {Q : List UInt8 → Prop} {k : Nat} {s : DS} {t : JS}
structure Laid (Q : List UInt8 → Prop) (k : Nat) (s : DS) (c : List UInt8) (u : JS) (r : Int × DS) : Prop where
  st : St Q (k + 262160 * u.length) r.2
  j : dGet r.2.now nmJ = dGet s.now nmJ
  has : inD r.2.now nmN = true
  yes : r.1 = 0 → dGet r.2.now nmN = (c ++ jRows u, true)
  fit : dTotal s.now + (jRows u).length ≤ 16777216 → r.1 = 0
theorem tot_two {fs : DF} (hn : FsN fs) (hr : Rising strLt fs) : dTotal fs = (dGet fs nmJ).1.length + (dGet fs nmN).1.length := by
  have hlen := hn.len hr
  have ltJN : strLt nmJ nmN = true := by kernel_rfl
  have ltNJ : strLt nmN nmJ = false := by kernel_rfl
  match fs, hn, hr, hlen with
  | [], _, _, _ => rfl
  | [(a, x)], hn, hr, _ =>
    have hN : ∀ x : List UInt8, dGet [(nmJ, x)] nmN = ([], false) := fun x => get_no strOrd [] (Rising.one _) nmN (fun v hv => by injection List.mem_singleton.1 hv with q _; exact nmJN q.symm)
    have hJ : ∀ x : List UInt8, dGet [(nmN, x)] nmJ = ([], false) := fun x => get_no strOrd [] (Rising.one _) nmJ (fun v hv => by injection List.mem_singleton.1 hv with q _; exact nmJN q)
    rcases hn (a, x) (by simp) with q | q
    · dsimp only at q; subst q
      rw [get_one, hN]; simp [dTotal]
    · dsimp only at q; subst q
      rw [hJ, get_one]; simp [dTotal]
  | [(a, x), (b, y)], hn, hr, _ =>
    have h01 : strLt a b = true := hr 0 1 (by omega) (by simp)
    have ha := hn (a, x) (by simp)
    have hb := hn (b, y) (by simp)
    dsimp only at ha hb
    have hab : a = nmJ ∧ b = nmN := by
      rcases ha with rfl | rfl <;> rcases hb with rfl | rfl
      · rw [strOrd.irr] at h01; exact absurd h01 (by simp)
      · exact ⟨rfl, rfl⟩
      · rw [ltNJ] at h01; exact absurd h01 (by simp)
      · rw [strOrd.irr] at h01; exact absurd h01 (by simp)
    obtain ⟨rfl, rfl⟩ := hab
    have g1 : dGet [(nmJ, x), (nmN, y)] nmJ = (x, true) := (get_mem strOrd [] hr nmJ x).2 (by simp)
    have g2 : dGet [(nmJ, x), (nmN, y)] nmN = (y, true) := (get_mem strOrd [] hr nmN y).2 (by simp)
    rw [g1, g2]; simp [dTotal]
  | _ :: _ :: _ :: _, _, _, h => simp at h
theorem St.tot (h : St Q k s) : dTotal s.now = (dGet s.now nmJ).1.length + (dGet s.now nmN).1.length := tot_two h.fsn h.ok.ris
theorem laid : ∀ (u : JS) {k : Nat} {s : DS} (c : List UInt8), St Q k s → dGet s.now nmN = (c, true) → (∀ p ∈ u, ChsOk [p]) → Laid Q k s c u (jLay u (0, s))
  | [], k, s, c, h, hc, _ => ⟨h.more (by simp), rfl, by rw [← dGet_in]; show (dGet s.now nmN).2 = true; rw [hc], fun _ => by show dGet s.now nmN = _; rw [hc]; simp [jRows], fun _ => rfl⟩
  | r :: u, k, s, c, h, hc, ho => by
    have hr := ho r (by simp)
    have hfl := frame_le hr
    have hA := h.append (nm := nmN) (frameOf (encChs [r])) (.inr rfl) (fun q => absurd q (Ne.symm nmJN))
    have hrows : jRows (r :: u) = frameOf (encChs [r]) ++ jRows u := by unfold jRows; rw [List.flatMap_cons]
    rw [jLay_cons, putF_one hr]
    obtain ⟨e, s', he⟩ : ∃ e s', dAppend s nmN (frameOf (encChs [r])) = (e, s') := ⟨_, _, rfl⟩
    rw [he] at hA ⊢
    by_cases h0 : e = 0
    · subst h0
      obtain ⟨y1, y2⟩ := hA.yes rfl
      dsimp only at y1 y2
      have h1 : dGet s'.now nmN = (c ++ frameOf (encChs [r]), true) := by rw [y1, hc]
      have hst : St Q (k + 1 + (frameOf (encChs [r])).length) s' := hA.st
      have hL := laid u (c ++ frameOf (encChs [r])) hst h1 (fun p hp => ho p (by simp [hp]))
      refine ⟨hL.st.more (by rw [List.length_cons]; omega), by rw [hL.j, y2 nmJ nmJN], hL.has, fun q => by rw [hL.yes q, hrows, List.append_assoc], fun q => hL.fit ?_⟩
      rw [hrows, List.length_append] at q
      have e1 := h.tot
      have e2 := hst.tot
      rw [h1, y2 nmJ nmJN, List.length_append] at e2
      rw [hc] at e1
      dsimp only at e1 e2
      omega
    · rw [jLay_bad _ _ _ h0]
      have hs : s' = s := hA.no h0
      subst hs
      refine ⟨hA.st.more (by rw [List.length_cons]; omega), rfl, by rw [← dGet_in]; show (dGet s'.now nmN).2 = true; rw [hc], fun q => absurd q h0, fun q => hA.fit ?_⟩
      rw [hrows, List.length_append] at q
      omega
/-- The journal laid anew. -/
structure Newly (Q : List UInt8 → Prop) (k : Nat) (s : DS) (t : JS) (s' : DS) : Prop where
  st : St Q (k + 262160 * t.length + 2) s'
  n : dGet s'.now nmN = ([], false)
  j : dGet s'.now nmJ = dGet s.now nmJ ∨ dGet s'.now nmJ = (jRows t, true)
  fit : dTotal s.now + (jRows t).length ≤ 16777216 → dGet s'.now nmJ = (jRows t, true)
theorem newly (h : St Q k s) (hn : dGet s.now nmN = ([], false)) (ho : ∀ p ∈ t, ChsOk [p]) (hq : Q (jRows t)) : Newly Q k s t (jAnew t s) := by
  have hA := h.append (nm := nmN) [] (.inr rfl) (fun q => absurd q (Ne.symm nmJN))
  obtain ⟨e, s1, he⟩ : ∃ e s', dAppend s nmN [] = (e, s') := ⟨_, _, rfl⟩
  rw [he] at hA
  have h0 : e = 0 := hA.fit (by have := h.ok.tot; simp; omega)
  subst h0
  obtain ⟨y1, y2⟩ := hA.yes rfl
  dsimp only at y1 y2
  rw [hn, List.append_nil] at y1
  have hst : St Q (k + 1) s1 := hA.st
  have hL := laid t [] hst y1 ho
  have hJ : dGet s1.now nmJ = dGet s.now nmJ := y2 nmJ nmJN
  obtain ⟨e2, s2, he2⟩ : ∃ e s', jLay t (0, s1) = (e, s') := ⟨_, _, rfl⟩
  rw [he2] at hL
  have hst2 : St Q (k + 1 + 262160 * t.length) s2 := hL.st
  have hj2 : dGet s2.now nmJ = dGet s1.now nmJ := hL.j
  have hhas : inD s2.now nmN = true := hL.has
  have hfit : dTotal s.now + (jRows t).length ≤ 16777216 → e2 = 0 := fun q => hL.fit (by
    have e1 := h.tot
    have e3 := hst.tot
    rw [y1, hJ] at e3
    rw [hn] at e1
    dsimp only at e1 e3
    omega)
  unfold jAnew
  rw [he, he2]
  by_cases hz : e2 = 0
  · subst hz
    rw [if_neg (fun q => q rfl)]
    have hg := hL.yes rfl
    dsimp only at hg
    rw [List.nil_append] at hg
    obtain ⟨r1, r2, r3⟩ := hst2.rename hg hq
    exact ⟨r1.more (by omega), r3, .inr r2, fun _ => r2⟩
  · rw [if_pos hz]
    obtain ⟨r1, r2, r3⟩ := hst2.remove hhas
    exact ⟨r1.more (by omega), r3, .inl (by rw [r2, hj2, hJ]), fun q => absurd (hfit q) hz⟩
/-- A journal in order: the file tells the slots, and no other file is there. -/
structure JInv (t : JS) (s : DS) : Prop where
  j : JOk t (dGet s.now nmJ).1
  n : dGet s.now nmN = ([], false)
theorem JInv.zero : JInv [] ⟨[], [], []⟩ := ⟨JOk.nil, rfl⟩
structure Sets (Q : List UInt8 → Prop) (k : Nat) (t : JS) (s : DS) (l : List Ch) (r : Int × JS × DS) : Prop where
  st : St Q (k + 12000000) r.2.2
  inv : JInv r.2.1 r.2.2
  no : r.1 ≠ 0 → r.2.1 = t ∧ r.2.2 = s
  yes : r.1 = 0 → r.2.1 = jAll t l ∧ ChsOk l
  fit : ChsOk l → dTotal s.now + (frameOf (encChs l)).length ≤ 16777216 → r.1 = 0
  cont : r.1 = 0 → (dGet s.now nmJ).1.length + (frameOf (encChs l)).length ≤ 262144 → (dGet r.2.2.now nmJ).1 = (dGet s.now nmJ).1 ++ frameOf (encChs l)
  small : r.1 = 0 → dTotal s.now + (frameOf (encChs l)).length + (jRows (jAll t l)).length ≤ 16777216 → (dGet r.2.2.now nmJ).1.length ≤ 262144 ∨ (dGet r.2.2.now nmJ).1 = jRows (jAll t l)
/-- What Set does, whatever it is given. -/
theorem sets (h : St Q k s) (hi : JInv t s) (l : List Ch) (hq : ChsOk l → ∀ m, m ≤ (frameOf (encChs l)).length → Q ((dGet s.now nmJ).1 ++ (frameOf (encChs l)).take m)) (hq2 : ChsOk l → Q (jRows (jAll t l))) : Sets Q k t s l (jSet t s l) := by
  have hstay : ∀ e : Int, e ≠ 0 → (ChsOk l → False) → Sets Q k t s l (e, t, s) := fun e he hno => ⟨h.more (by omega), hi, fun _ => ⟨rfl, rfl⟩, fun q => absurd q he, fun q => absurd q hno, fun q => absurd q he, fun q => absurd q he⟩
  unfold jSet
  by_cases h1 : l.length < 1 ∨ 41 < l.length
  · rw [if_pos h1]; exact hstay 1 (by decide) (fun q => by have := q.lo; have := q.hi; omega)
  rw [if_neg h1]
  by_cases h2 : chBad l = true
  · rw [if_pos h2]; exact hstay 1 (by decide) (fun q => by
      unfold chBad at h2
      obtain ⟨c, hc, hd⟩ := List.any_eq_true.1 h2
      have := of_decide_eq_true hd
      have h7 := q.ok c hc
      have := h7.lo; have := h7.hi; omega)
  rw [if_neg h2]
  by_cases h3 : 262144 < (encChs l).length
  · rw [if_pos h3]; exact hstay 2 (by decide) (fun q => by have := q.sz; omega)
  rw [if_neg h3]
  have hok : ChsOk l := by
    refine ⟨fun c hc => ?_, by omega, by omega, by omega⟩
    have hb : ¬ (c.1 < 0 ∨ 40 < c.1) := fun q => h2 (by unfold chBad; rw [List.any_eq_true]; exact ⟨c, hc, decide_eq_true q⟩)
    have h4 := one_le hc
    have h5 := encText_len c.2
    have h6 : (encChs [c]).length = (encNum 1).length + (encCh c).length := by rw [encChs_one, List.length_append]
    have h7 : (encCh c).length = (encNum c.1.toNat).length + (encText c.2).length := by unfold encCh; rw [List.length_append]
    exact ⟨by omega, by omega, by omega⟩
  have hput : putF [] (encChs l) = frameOf (encChs l) := by rw [putF_fit _ _ hok.fit]; rfl
  have hfl := frame_le hok
  rw [hput]
  have hA := h.append (nm := nmJ) (frameOf (encChs l)) (.inl rfl) (fun _ => hq hok)
  obtain ⟨e, s1, he⟩ : ∃ e s', dAppend s nmJ (frameOf (encChs l)) = (e, s') := ⟨_, _, rfl⟩
  rw [he] at hA ⊢
  dsimp only
  by_cases hz : e = 0
  · subst hz
    rw [if_neg (fun q => q rfl)]
    obtain ⟨y1, y2⟩ := hA.yes rfl
    dsimp only at y1 y2
    have hst : St Q (k + 1 + (frameOf (encChs l)).length) s1 := hA.st
    have hj1 : JOk (jAll t l) (dGet s1.now nmJ).1 := by rw [y1]; exact hi.j.frame hok
    have hn1 : dGet s1.now nmN = ([], false) := by rw [y2 nmN (Ne.symm nmJN)]; exact hi.n
    have hlen := hj1.jt.len
    have htot : dTotal s1.now = dTotal s.now + (frameOf (encChs l)).length := by
      have e1 := h.tot
      have e2 := hst.tot
      rw [y1, hn1, List.length_append] at e2
      rw [hi.n] at e1
      dsimp only at e1 e2
      omega
    have hcl : (dGet s1.now nmJ).1.length = (dGet s.now nmJ).1.length + (frameOf (encChs l)).length := by rw [y1, List.length_append]
    split
    · rename_i hbig
      have hN := newly hst hn1 hj1.one (hq2 hok)
      refine ⟨hN.st.more (by omega), ⟨?_, hN.n⟩, fun q => absurd rfl q, fun _ => ⟨rfl, hok⟩, fun _ _ => rfl, fun _ q => by omega, fun _ q => .inr ?_⟩
      · rcases hN.j with q | q
        · dsimp only; rw [q]; exact hj1
        · dsimp only; rw [q]; exact hj1.rows
      · have := hN.fit (by omega)
        dsimp only
        rw [this]
    · rename_i hbig
      exact ⟨hst.more (by omega), ⟨hj1, hn1⟩, fun q => absurd rfl q, fun _ => ⟨rfl, hok⟩, fun _ _ => rfl, fun _ _ => by dsimp only; rw [y1], fun _ _ => .inl (by dsimp only; omega)⟩
  · rw [if_pos hz]
    have hs : s1 = s := hA.no hz
    subst hs
    exact ⟨h.more (by omega), hi, fun _ => ⟨rfl, rfl⟩, fun q => absurd q hz, fun _ q => hA.fit q, fun q => absurd q hz, fun q => absurd q hz⟩
/-- A journal in order is opened as it is. -/
theorem jOpen_inv (hi : JInv t s) : jOpen s = (t, s) := by
  have hf : jFresh s = s := by
    unfold jFresh
    have : inD s.now nmN = false := by rw [← dGet_in, hi.n]
    rw [this]; rfl
  unfold jOpen
  rw [hf, hi.j.sc]
  dsimp only
  rw [if_neg (Nat.lt_irrefl _)]
/-- What an opening finds in any file, and what it leaves. -/
theorem jOpen_any' (h : St Q k s) (hq : Q ((dGet s.now nmJ).1.take (jScan (dGet s.now nmJ).1).2)) : (jOpen s).1 = (jScan (dGet s.now nmJ).1).1 ∧ St Q (k + 2) (jOpen s).2 ∧ (dGet (jOpen s).2.now nmJ).1 = (dGet s.now nmJ).1.take (jScan (dGet s.now nmJ).1).2 := by
  have hF : St Q (k + 1) (jFresh s) ∧ dGet (jFresh s).now nmJ = dGet s.now nmJ := by
    unfold jFresh
    split
    · rename_i hin
      obtain ⟨r1, r2, r3⟩ := h.remove hin
      exact ⟨r1, r2⟩
    · exact ⟨h.more (by omega), rfl⟩
  obtain ⟨f1, f2⟩ := hF
  have hle := jScan_le (dGet s.now nmJ).1
  unfold jOpen
  rw [f2]
  refine ⟨rfl, ?_⟩
  dsimp only
  split
  · rename_i hlt
    have hin : inD (jFresh s).now nmJ = true := by
      cases hb : inD (jFresh s).now nmJ with
      | true => rfl
      | false => rw [← f2, dGet_no hb] at hlt; simp at hlt
    obtain ⟨r1, r2, r3⟩ := f1.cut (jScan (dGet s.now nmJ).1).2 hin (by rw [f2]; exact hle) (by rw [f2]; exact hq)
    rw [f2] at r2
    exact ⟨r1, by rw [r2]⟩
  · rename_i hlt
    exact ⟨f1.more (by omega), by rw [f2, List.take_of_length_le (by omega)]⟩
end
end Go.Proofs.Ytmhojaiajhdlcaa
namespace Go.Proofs.Ytmhojaiajhdlcaa
open Go.RowKit
set_option linter.unusedSimpArgs false
set_option linter.unusedVariables false
set_option maxHeartbeats 400000 in
theorem sameInt_any (v u : Value) (l m : List Int) (w : World) (h : Rd iv w v l) (h2 : Rd iv w u m) :
    Calls Try.prog 26 #[v, u] w fun e w' => e = .returned (.bool (decide (l = m))) ∧ ∃ n, w' = w.drewN n := by
  obtain ⟨a, cap, rfl, hlc, hm, hc⟩ := h
  obtain ⟨a2, cap2, rfl, hlc2, hm2, hc2⟩ := h2
  have hm' : l.length ≤ 9223372036854775807 := by unfold maxLen at hm; omega
  have hm2' : m.length ≤ 9223372036854775807 := by unfold maxLen at hm2; omega
  clear hm hlc hm2 hlc2
  by_cases hlen : l.length = m.length
  · have HL := Lib.hid hlen
    have t1 : ((l.length : Int) != (m.length : Int)) = false := by rw [bne_eq_false_iff_eq]; omega
    have H1 := Lib.hid hc
    have H2 := Lib.hid hc2
    clear hlen hc hc2
    go_enter Try.func26, Try.ntmps26
    go_wp2
    go_loopw [5] (fun i wr => ∃ k n : Nat, wr = w.drewN n ∧ k ≤ l.length ∧ i = .int .i64 k ∧ Hid (∀ j, j < k → nth l j = nth m j)) (fun i _ => l.length - (intOf i).toNat)
    case atStart => exact ⟨0, 0, rfl, Nat.zero_le _, rfl, fun j hj => absurd hj (by omega)⟩
    case round =>
      obtain ⟨k, n, rfl, hk, rfl, hs⟩ := hrel
      by_cases hlt : k < l.length
      · obtain ⟨b, off, rfl, hc'⟩ := H1.out (by intro h; simp [h] at hlt)
        have hlt2 : k < m.length := by rw [← HL.out]; exact hlt
        obtain ⟨b2, off2, rfl, hc2'⟩ := H2.out (by intro h; simp [h] at hlt2)
        have hck := hc' k hlt
        have hck2 := hc2' k hlt2
        clear hc' hc2'
        have q1 : (k : Int) < (l.length : Int) := by omega
        have q2 : (k : Int) < (m.length : Int) := by omega
        go_wp2
        go_quiet (fail)
        go_wp2
        · have hne : (nth l k) ≠ (nth m k) := by first | assumption | exact bne_iff_ne.1 (by assumption)
          go_ret
          exact ⟨congrArg (fun b => Ending.returned (.bool b)) (decide_eq_false (fun e => by rw [e] at hne; exact hne rfl)).symm, _, World.drewN_drewN ..⟩
        · have heq : nth l k = nth m k := by first | assumption | exact bne_eq_false_iff_eq.1 (by assumption)
          go_roundw
          case rel => exact ⟨k + 1, _, rfl, by omega, by go_num, fun j hj => by
            by_cases e : j = k
            · rw [e]; exact heq
            · exact hs.out j (by omega)⟩
          case measure => simp [intOf]; omega
      · obtain rfl : k = l.length := by omega
        go_wp2
        go_ret
        exact ⟨congrArg (fun b => Ending.returned (.bool b)) (decide_eq_true (same_ext HL.out hs.out)).symm, _, rfl⟩
  · have t1 : ((l.length : Int) != (m.length : Int)) = true := by rw [bne_iff_ne]; omega
    have t2 : decide (l = m) = false := by simp; intro h; exact hlen (by rw [h])
    have T2 := Lib.hid t2
    clear hlen t2
    go_enter Try.func26, Try.ntmps26
    go_wp2
    go_ret
    exact ⟨congrArg (fun b => Ending.returned (.bool b)) T2.out.symm, 0, rfl⟩

end Go.Proofs.Ytmhojaiajhdlcaa
namespace Go.Proofs.Ytmhojaiajhdlcaa
open Go.RowKit
set_option linter.unusedSimpArgs false
set_option linter.unusedVariables false
set_option linter.unusedSectionVars false
/-- A journal in memory, its blocks hidden. -/
structure JP (w0 w : World) (gd gj : Nat) (t : JS) (s : DS) : Prop where
  ex : ∃ F G, JD w0 w gd gj F G t s
section
variable {w0 w w1 w' : World} {gd gj : Nat} {t t' : JS} {s s' : DS} {Q : List UInt8 → Prop} {k : Nat}
theorem JP.old (h : JP w0 w gd gj t s) : Upd [] w0 w := by
  obtain ⟨F, G, h1⟩ := h.ex
  exact h1.old
theorem JP.upd0 (h : JP w0 w gd gj t s) (hu : Upd [] w w') : JP w0 w' gd gj t s := by
  obtain ⟨F, G, h1⟩ := h.ex
  exact ⟨F, G, h1.upd0 hu⟩
theorem JP.of {S : List Nat} (h : JOut w0 w gd gj S t s w') : JP w0 w' gd gj t s := by
  obtain ⟨F, G, h1, -⟩ := h
  exact ⟨F, G, h1⟩
theorem JP.jt (h : JP w0 w gd gj t s) : JT t := by
  obtain ⟨F, G, h1⟩ := h.ex
  exact h1.jt
/-- Set of what was laid behind the journal. -/
theorem jpSet (h : JP w0 w gd gj t s) (hu : Upd [] w w1) (u : Value) (l : List Ch) (hl : RdN 2 chCells w1 u l) (hge : ∀ x ∈ blk u, w.heap.size ≤ x) (hI : ∀ c ∈ l, I64 c.1 ∧ c.2.size ≤ 1000000) (hs : St Q k s) (hk : k ≤ 470000000) {e : Int} (he : jSet t s l = (e, t', s')) :
    Calls Try.prog 25 #[.pointer (some ⟨gj, 0, none⟩), u] w1 fun x w' => x = .returned (.int .i64 e) ∧ JP w0 w' gd gj t' s' := by
  obtain ⟨F, G, h1⟩ := h.ex
  have h2 := jset_any u l (h1.upd0 hu) hl (fun x hx hf => by
    have := hge x hx
    rcases List.mem_append.1 hf with q | q
    · have := (h1.geF x q).2; omega
    · have := (h1.dd.ge x q).2; omega) hI (by have := hs.now; omega) (by have := hs.lg; omega)
  rw [he] at h2
  refine h2.mono ?_
  rintro x w' ⟨rfl, ho⟩
  exact ⟨rfl, JP.of ho⟩
theorem jpGet (h : JP w0 w gd gj t s) (n : Int) (hn : I64 n) {y : ByteArray} (hy : jGet t n = y) :
    Calls Try.prog 28 #[.pointer (some ⟨gj, 0, none⟩), .int .i64 n] w fun e w' => e = .returned (.string y) ∧ Upd [] w w' := by
  subst hy
  obtain ⟨F, G, h1⟩ := h.ex
  exact jGet_any n hn h1
theorem jpSlots (h : JP w0 w gd gj t s) {ks : List Int} (hk : t.map (·.1) = ks) :
    Calls Try.prog 27 #[.pointer (some ⟨gj, 0, none⟩)] w fun e w' => ∃ a k, e = .returned (.slice a ks.length k) ∧ Hid (Rd iv w' (.slice a ks.length k) ks) ∧ Upd [] w w' := by
  subst hk
  obtain ⟨F, G, h1⟩ := h.ex
  refine (jSlots_any h1).mono ?_
  rintro e w' ⟨v, rfl, ho, hu⟩
  have hr := ho.rd
  obtain ⟨a, k, rfl, -⟩ := id hr
  exact ⟨a, k, rfl, hr, hu⟩
theorem jpSize (h : JP w0 w gd gj t s) (hs : St Q k s) {n : Nat} (hn : jLen s nmJ + jLen s nmN = n) :
    Calls Try.prog 29 #[.pointer (some ⟨gj, 0, none⟩)] w fun e w' => e = .returned (.int .i64 (n : Int)) ∧ Upd [] w w' := by
  subst hn
  obtain ⟨F, G, h1⟩ := h.ex
  exact jSize_any h1 (by have := hs.now; omega)
theorem jpOpen (h : JP w0 w gd gj t s) (hs : St Q k s) (hk : k ≤ 470000000) (he : jOpen s = (t', s')) :
    Calls Try.prog 24 #[.pointer (some ⟨gd, 0, none⟩)] w fun e w' => ∃ gk, e = .returned (.tuple #[.pointer (some ⟨gk, 0, none⟩), .int .i64 0]) ∧ JP w0 w' gd gk t' s' := by
  obtain ⟨F, G, h1⟩ := h.ex
  have h2 := jopen_any h1.dd (by have := hs.now; omega) (by have := hs.lg; omega)
  rw [he] at h2
  refine h2.mono ?_
  rintro e w' ⟨gk, rfl, ho⟩
  exact ⟨gk, rfl, JP.of ho⟩
theorem jpStart (G : List Nat) (h : DD w0 w gd G ⟨[], [], []⟩) :
    Calls Try.prog 24 #[.pointer (some ⟨gd, 0, none⟩)] w fun e w' => ∃ gk, e = .returned (.tuple #[.pointer (some ⟨gk, 0, none⟩), .int .i64 0]) ∧ JP w0 w' gd gk [] ⟨[], [], []⟩ := by
  have h2 := jopen_any h (by simp) (by simp)
  rw [jOpen_inv JInv.zero] at h2
  refine h2.mono ?_
  rintro e w' ⟨gk, rfl, ho⟩
  exact ⟨gk, rfl, JP.of ho⟩
theorem jpTotal (h : JP w0 w gd gj t s) (hs : St Q k s) {n : Nat} (hn : dTotal s.now = n) :
    Calls Try.prog 30 #[.pointer (some ⟨gd, 0, none⟩)] w fun e w' => e = .returned (.int .i64 (n : Int)) ∧ Upd [] w w' := by
  subst hn
  obtain ⟨F, G, h1⟩ := h.ex
  exact dTotal_any h1.dd (by have := hs.now; omega)
theorem jpMark (h : JP w0 w gd gj t s) (hs : St Q k s) :
    Calls Try.prog 20 #[.pointer (some ⟨gd, 0, none⟩)] w fun e w' => e = .returned (.tuple #[]) ∧ JP w0 w' gd gj t (dMark s) := by
  obtain ⟨F, G, h1⟩ := h.ex
  refine (dMark_any h1.dd (by have := hs.now; omega)).mono ?_
  rintro e w' ⟨rfl, ho⟩
  exact ⟨rfl, JP.of (h1.disk ho)⟩
theorem jpBack (h : JP w0 w gd gj t s) (n : Int) (hn : I64 n) (hs : St Q k s) :
    Calls Try.prog 21 #[.pointer (some ⟨gd, 0, none⟩), .int .i64 n] w fun e w' => e = .returned (.tuple #[]) ∧ JP w0 w' gd gj t (dBack s n) := by
  obtain ⟨F, G, h1⟩ := h.ex
  refine (dBack_any n hn h1.dd (by have := hs.mlen; omega)).mono ?_
  rintro e w' ⟨rfl, ho⟩
  exact ⟨rfl, JP.of (h1.disk ho)⟩
theorem jpCount (h : JP w0 w gd gj t s) {n : Nat} (hn : s.log.length = n) :
    Calls Try.prog 23 #[.pointer (some ⟨gd, 0, none⟩)] w fun e w' => e = .returned (.int .i64 (n : Int)) ∧ w = w' := by
  subst hn
  obtain ⟨F, G, h1⟩ := h.ex
  exact dCount_any h1.dd
end
/-- So many zero bytes as a text. -/
def zs (n : Nat) : ByteArray := strOf (List.replicate n 0)
theorem zs_size (n : Nat) : (zs n).size = n := by unfold zs; rw [strOf_size, List.length_replicate]
/-- make([]byte, n), and the text of it, as opaque runs. -/
theorem make_zero (n : Nat) (N : Int) (hN : N = (n : Int)) (hn : n ≤ 1000000) : ∃ zf : World → World, (∀ u, (Instr.makeSlice 40 (.int .i64 N) (.int .i64 N)).run Try.prog u = .ok (.slice (some ⟨u.heap.size, 0, none⟩) n n) (zf u)) ∧ (∀ u, Upd [] u (zf u)) ∧ (∀ u, Bytes (zf u) (.slice (some ⟨u.heap.size, 0, none⟩) n n) (List.replicate n 0)) ∧ (∀ u, (convert 40 9 (.slice (some ⟨u.heap.size, 0, none⟩) n n)).run Try.prog (zf u) = .ok (.string (zs n)) (zf u)) := by
  refine ⟨fun u => u.alloc (.cells (List.replicate n (.int .u8 0)).toArray 5), fun u => run_mk (P := Try.prog) Try.underlying40 infoB8 rfl u n n N N hN hN (Nat.le_refl _) (by omega) (by omega), fun u => (Upd.refl [] u).alloc _, ?_, ?_⟩
  · intro u
    exact Rd.lit (c := bv) (List.replicate n 0) rfl (by simp) (by simp) (Nat.le_refl _) (by unfold maxLen; omega)
  · intro u
    exact convb_str (P := Try.prog) Try.underlying40 Try.underlying5 Try.underlying9 _ _ (List.replicate n 0) (Rd.lit (c := bv) (List.replicate n 0) rfl (by simp) (by simp) (Nat.le_refl _) (by unfold maxLen; omega))
theorem ch_two {w : World} {C : Array Value} {g : Nat} (c d : Ch) (hg : g = w.heap.size) (hC : C = (chCells c ++ chCells d).toArray) : RdN 2 chCells (w.alloc (.cells C 57)) (.slice (some ⟨g, 0, none⟩) 2 2) [c, d] := by
  subst hg; subst hC
  have hb := Blk.new w 57 (chCells c ++ chCells d)
  refine ⟨_, 2, rfl, by simp, by simp [maxLen], fun _ => ⟨w.heap.size, 0, rfl, fun j hj i hi => ?_⟩⟩
  have hj0 : j = 0 ∨ j = 1 := by simp at hj; omega
  rw [Nat.zero_add, hb.cell]
  rcases hj0 with rfl | rfl
  · rw [nth_cons_zero, Nat.zero_mul, Nat.zero_add, List.getElem?_append_left (by simpa using hi)]
  · rw [nth_cons_succ, nth_cons_zero, List.getElem?_append_right (by simp)]
    congr 1
    simp
end Go.Proofs.Ytmhojaiajhdlcaa
namespace Go.Proofs.Ytmhojaiajhdlcaa
open Go.RowKit
set_option linter.unusedSimpArgs false
set_option linter.unusedVariables false
abbrev sA : ByteArray := ⟨#[97]⟩
abbrev sB : ByteArray := ⟨#[98]⟩
abbrev sX : ByteArray := ⟨#[120]⟩
theorem nb_one (n : Nat) (h : n ≠ 0) (h2 : n < 256) : nb n = 1 := by rw [nb_pos n h, show n / 256 = 0 by omega, nb_zero]
theorem hold_set {c : Ch} (h : c.2.size ≠ 0) (t : JS) : jHold1 t c = tSet ltI t c.1 c.2 := jHold1_set (fun e => h (by rw [e]; rfl)) t
theorem runs_t1 : jAll [] [(3, sA), (5, sB)] = [(3, sA), (5, sB)] := by
  rw [jAll_cons, hold_set (by decide), jAll_cons, hold_set (by decide)]; rfl
theorem runs_t2 : jAll [(3, sA), (5, sB)] [(3, s0)] = [(5, sB)] := by
  rw [jAll_cons, jHold1_del rfl]; rfl
theorem runs_len1 : (encChs [(3, sA), (5, sB)]).length = 12 := by
  have h2 := nb_one 2 (by omega) (by omega)
  have h3 := nb_one 3 (by omega) (by omega)
  have h5 := nb_one 5 (by omega) (by omega)
  have h1 := nb_one 1 (by omega) (by omega)
  have ha : (encCh (3, sA)).length = 5 := by unfold encCh; rw [List.length_append, encText_len, encNum_len, encNum_len]; show 1 + nb 3 + (1 + nb 1 + 1) = 5; omega
  have hb : (encCh (5, sB)).length = 5 := by unfold encCh; rw [List.length_append, encText_len, encNum_len, encNum_len]; show 1 + nb 5 + (1 + nb 1 + 1) = 5; omega
  unfold encChs
  rw [List.length_append, encNum_len, List.flatMap_cons, List.flatMap_cons, List.flatMap_nil, List.length_append, List.length_append, ha, hb]
  show 1 + nb 2 + (5 + (5 + 0)) = 12
  omega
theorem runs_len2 : (encChs [(3, s0)]).length = 5 := by
  have h3 := nb_one 3 (by omega) (by omega)
  have h1 := nb_one 1 (by omega) (by omega)
  have ha : (encCh (3, s0)).length = 3 := by unfold encCh; rw [List.length_append, encText_len, encNum_len, encNum_len]; show 1 + nb 3 + (1 + nb 0 + 0) = 3; rw [nb_zero]; omega
  rw [encChs_one, List.length_append, encNum_len, ha]
  omega
theorem runs_ok1 : ChsOk [(3, sA), (5, sB)] := ⟨fun c hc => by
  rcases List.mem_cons.1 hc with rfl | hc
  · exact ⟨by decide, by decide, by decide⟩
  · rw [List.mem_singleton.1 hc]; exact ⟨by decide, by decide, by decide⟩, by decide, by decide, by rw [runs_len1]; omega⟩
theorem runs_ok2 : ChsOk [(3, s0)] := ⟨fun c hc => by rw [List.mem_singleton.1 hc]; exact ⟨by decide, by decide, by decide⟩, by decide, by decide, by rw [runs_len2]; omega⟩
/-- Behind two Sets: the slots, the file's length. -/
theorem runs_plain : ∃ s1 s2, jSet [] ⟨[], [], []⟩ [(3, sA), (5, sB)] = (0, [(3, sA), (5, sB)], s1) ∧ jSet [(3, sA), (5, sB)] s1 [(3, s0)] = (0, [(5, sB)], s2) ∧ St (fun _ => True) 12000000 s1 ∧ St (fun _ => True) 24000000 s2 ∧ JInv [(5, sB)] s2 ∧ jLen s2 nmJ + jLen s2 nmN = 33 := by
  have h0 : St (fun _ => True) 0 ⟨[], [], []⟩ := St.zero trivial
  have S1 := sets h0 JInv.zero [(3, sA), (5, sB)] (fun _ _ _ => trivial) (fun _ => trivial)
  have f1 := frameOf_len (encChs [(3, sA), (5, sB)])
  have f2 := frameOf_len (encChs [(3, s0)])
  rw [runs_len1] at f1
  rw [runs_len2] at f2
  obtain ⟨e1, t1, s1, he1⟩ : ∃ e t s, jSet [] ⟨[], [], []⟩ [(3, sA), (5, sB)] = (e, t, s) := ⟨_, _, _, rfl⟩
  rw [he1] at S1
  have z1 : e1 = 0 := S1.fit runs_ok1 (by rw [f1]; decide)
  have y1 : t1 = _ := (S1.yes z1).1
  rw [runs_t1] at y1
  subst z1
  subst y1
  have c1 : (dGet s1.now nmJ).1 = [] ++ frameOf (encChs [(3, sA), (5, sB)]) := S1.cont rfl (by rw [f1]; decide)
  rw [List.nil_append] at c1
  have st1 : St (fun _ => True) 12000000 s1 := S1.st.more (by omega)
  have i1 : JInv [(3, sA), (5, sB)] s1 := S1.inv
  have S2 := sets st1 i1 [(3, s0)] (fun _ _ _ => trivial) (fun _ => trivial)
  obtain ⟨e2, t2, s2, he2⟩ : ∃ e t s, jSet [(3, sA), (5, sB)] s1 [(3, s0)] = (e, t, s) := ⟨_, _, _, rfl⟩
  rw [he2] at S2
  have tt1 := st1.tot
  rw [c1, f1, i1.n] at tt1
  have z2 : e2 = 0 := S2.fit runs_ok2 (by rw [tt1, f2]; decide)
  have y2 : t2 = _ := (S2.yes z2).1
  rw [runs_t2] at y2
  subst z2
  subst y2
  have c2 : (dGet s2.now nmJ).1 = (dGet s1.now nmJ).1 ++ frameOf (encChs [(3, s0)]) := S2.cont rfl (by rw [c1, f1, f2]; decide)
  have i2 : JInv [(5, sB)] s2 := S2.inv
  refine ⟨s1, s2, he1, he2, st1, S2.st.more (by omega), i2, ?_⟩
  unfold jLen
  rw [c2, i2.n, List.length_append, c1, f1, f2]
  rfl
theorem ch_nil (w : World) : RdN 2 chCells w (.slice none 0 0) [] := ⟨none, 0, rfl, Nat.le_refl _, by decide, fun q => absurd rfl q⟩
theorem runs_none (t : JS) (s : DS) : jSet t s [] = (1, t, s) := by unfold jSet; rw [if_pos (.inl (by decide))]
theorem runs_far (t : JS) (s : DS) : jSet t s [(41, sX)] = (1, t, s) := by
  unfold jSet
  rw [if_neg (by decide), if_pos]
  unfold chBad; decide
theorem runs_long (t : JS) (s : DS) : jSet t s [(0, zs 262144)] = (2, t, s) := by
  have h1 := chs_size (l := [(0, zs 262144)]) (c := (0, zs 262144)) (by simp)
  have h2 := encNum_ge 1
  have h3 : (encChs [(0, zs 262144)]).length = (encNum 1).length + (encCh (0, zs 262144)).length := by rw [encChs_one, List.length_append]
  have h4 := encCh_size (0, zs 262144)
  dsimp only at h4
  rw [zs_size] at h4
  unfold jSet
  rw [if_neg (by simp), if_neg (by unfold chBad; simp), if_pos (by omega)]
set_option maxRecDepth 100000 in
set_option maxHeartbeats 8000000 in
theorem journalRuns_any (w : World) : Calls Try.prog 5 #[] w fun e w' => e = .returned (.bool true) ∧ Upd [] w w' := by
  obtain ⟨s1, s2, e1, e2, st1, st2, i2, hsz⟩ := runs_plain
  have E1 := Lib.hid e1
  have E2 := Lib.hid e2
  have ST0 : Hid (St (fun _ => True) 0 ⟨[], [], []⟩) := St.zero trivial
  have ST1 := Lib.hid st1
  have ST2 := Lib.hid st2
  have I2 := Lib.hid i2
  have HSZ := Lib.hid hsz
  obtain ⟨zf, hz1, hz2, hz3, hz4⟩ := make_zero 262144 262144 rfl (by omega)
  have HZ2 := Lib.hid hz2
  obtain ⟨Z, hZ⟩ : ∃ Z, zs 262144 = Z := ⟨_, rfl⟩
  rw [hZ] at hz4
  have EZ : Hid (jSet [(5, sB)] s2 [(0, Z)] = (2, [(5, sB)], s2)) := by unfold Hid; rw [← hZ]; exact runs_long _ _
  have HIZ : Hid (∀ c ∈ [((0 : Int), Z)], I64 c.1 ∧ c.2.size ≤ 1000000) := fun c hc => by
    rw [List.mem_singleton.1 hc]
    exact ⟨i64_mk (show (-9223372036854775808 : Int) ≤ 0 by decide) (show (0 : Int) ≤ 9223372036854775807 by decide), by show Z.size ≤ 1000000; rw [← hZ, zs_size]; omega⟩
  clear e1 e2 st1 st2 i2 hsz hz2 hz3 hZ
  go_enter Try.func5, Try.ntmps5
  go_wp2_with fail
  (with_reducible refine (dNew_any w w (Upd.refl [] w)).mono ?_)
  rintro e w1 ⟨gd, G1, rfl, h1, hu1, hf1⟩
  have H1 := Lib.hid h1
  clear h1 hu1 hf1
  go_wp2_with fail
  (with_reducible refine (jpStart G1 H1.out).mono ?_)
  rintro e w2 ⟨gj, rfl, h2⟩
  have H2 := Lib.hid h2
  clear h2 H1
  go_wp2_with fail
  (with_reducible refine (jpSet (w1 := w2.alloc (.cells #[.int .i64 3, .string ⟨#[97]⟩, .int .i64 5, .string ⟨#[98]⟩] 57)) H2.out ((Upd.refl [] w2).alloc _) _ [(3, sA), (5, sB)] (ch_two _ _ rfl rfl) (fun x hx => by simp [blk] at hx; omega) (fun c hc => by
    rcases List.mem_cons.1 hc with rfl | hc
    · exact ⟨i64_mk (by decide) (by decide), by decide⟩
    · rw [List.mem_singleton.1 hc]; exact ⟨i64_mk (by decide) (by decide), by decide⟩) ST0.out (by omega) E1.out).mono ?_)
  rintro e w3 ⟨rfl, h3⟩
  have H3 := Lib.hid h3
  clear h3 H2
  go_wp2_with fail
  (with_reducible refine (jpSet (w1 := w3.alloc (.cells #[.int .i64 3, .string ⟨#[]⟩] 57)) H3.out ((Upd.refl [] w3).alloc _) _ [(3, s0)] (ch_one _ rfl rfl) (fun x hx => by simp [blk] at hx; omega) (fun c hc => by rw [List.mem_singleton.1 hc]; exact ⟨i64_mk (by decide) (by decide), by decide⟩) ST1.out (by omega) E2.out).mono ?_)
  rintro e w4 ⟨rfl, h4⟩
  have H4 := Lib.hid h4
  clear h4 H3
  go_wp2_with fail
  (with_reducible refine (jpOpen H4.out ST2.out (by omega) (jOpen_inv I2.out)).mono ?_)
  rintro e w5 ⟨gk, rfl, h5⟩
  have H5 := Lib.hid h5
  clear h5 H4
  go_wp2_with fail
  (with_reducible refine (jpSlots H5.out (ks := [5]) rfl).mono ?_)
  rintro e w6 ⟨a6, k6, rfl, hr6, hu6⟩
  have H6 := Lib.hid (H5.out.upd0 hu6)
  clear hu6 H5
  go_wp2_with fail
  have hu7 : Upd [] w6 (w6.alloc (.cells #[.int .i64 5] 3)) := (Upd.refl [] w6).alloc _
  have HL7 : Hid (Rd iv (w6.alloc (.cells #[.int .i64 5] 3)) (.slice (some ⟨w6.heap.size, 0, none⟩) 1 1) [5]) := Rd.lit [5] rfl rfl rfl (Nat.le_refl _) (by decide)
  have HR7 : Hid (Rd iv (w6.alloc (.cells #[.int .i64 5] 3)) (.slice a6 1 k6) [5]) := hr6.out.upd0 hu7
  have H7 := Lib.hid (H6.out.upd0 hu7)
  clear hr6 hu7 H6
  (with_reducible refine (sameInt_any _ _ [5] [5] _ HR7.out HL7.out).mono ?_)
  rw [decide_eq_true (show ([5] : List Int) = [5] from rfl)]
  rintro e w8 ⟨rfl, n8, rfl⟩
  have H8 := Lib.hid (H7.out.upd0 ((Upd.refl [] _).drewN n8))
  clear H7 HR7 HL7
  go_wp2_with fail
  generalize (w6.alloc (.cells #[.int .i64 5] 3)).drewN n8 = w8 at *
  (with_reducible refine (jpGet H8.out 5 (i64_mk (by omega) (by omega)) (y := sB) rfl).mono ?_)
  rintro e w9 ⟨rfl, hu9⟩
  have H9 := Lib.hid (H8.out.upd0 hu9)
  clear hu9 H8
  go_wp2_with fail
  (with_reducible refine (jpGet H9.out 3 (i64_mk (by omega) (by omega)) (y := s0) rfl).mono ?_)
  rintro e w10 ⟨rfl, hu10⟩
  have H10 := Lib.hid (H9.out.upd0 hu10)
  clear hu10 H9
  go_wp2_with fail
  (with_reducible refine (jopenNil_any w10).mono ?_)
  rintro e w11 ⟨rfl, rfl⟩
  go_wp2_with fail
  (with_reducible refine (jpSize H10.out ST2.out HSZ.out).mono ?_)
  rintro e w12 ⟨rfl, hu12⟩
  have H12 := Lib.hid (H10.out.upd0 hu12)
  clear hu12 H10
  go_wp2_with fail
  (with_reducible refine (jpSet H12.out (Upd.refl [] _) _ [] (ch_nil _) (by simp [blk]) (by simp) ST2.out (by omega) (runs_none _ _)).mono ?_)
  rintro e w13 ⟨rfl, h13⟩
  have H13 := Lib.hid h13
  clear h13 H12
  go_wp2_with fail
  (with_reducible refine (jpSet (w1 := w13.alloc (.cells #[.int .i64 41, .string ⟨#[120]⟩] 57)) H13.out ((Upd.refl [] w13).alloc _) _ [(41, sX)] (ch_one _ rfl rfl) (fun x hx => by simp [blk] at hx; omega) (fun c hc => by rw [List.mem_singleton.1 hc]; exact ⟨i64_mk (by decide) (by decide), by decide⟩) ST2.out (by omega) (runs_far _ _)).mono ?_)
  rintro e w14 ⟨rfl, h14⟩
  have H14 := Lib.hid h14
  clear h14 H13
  go_wp2_with fail
  have H15 := Lib.hid (H14.out.upd0 (HZ2.out w14))
  (with_reducible refine (jpSet (w1 := (zf w14).alloc (.cells #[.int .i64 0, .string Z] 57)) H15.out ((Upd.refl [] (zf w14)).alloc _) _ [(0, Z)] (ch_one _ rfl rfl) (fun x hx => by simp [blk] at hx; omega) HIZ.out ST2.out (by omega) EZ.out).mono ?_)
  rintro e w16 ⟨rfl, h16⟩
  have HO := Lib.hid h16.old
  clear h16 H14 H15
  go_wp2_with fail
  go_ret
  exact ⟨rfl, HO.out⟩
end Go.Proofs.Ytmhojaiajhdlcaa
