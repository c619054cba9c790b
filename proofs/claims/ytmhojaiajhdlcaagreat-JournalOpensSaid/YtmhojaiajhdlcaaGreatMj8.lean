/- Texts of the proof, joined: Chapter 24 as plain law: a disk that has the journal's files alone, at each raw write. Chapter 24 as plain law: what Set and Open do to a journal in order. The book's Same at numbers. Chapter 24: the journal's contracts as its laws use them. The walk of JournalRuns. Chapter 24 as plain law: how large the files are. Drawn regions whose order is forced for the most part: their plain walk in the text's order, and forks where two operations may come up. A part of a function's code: from a region on, and what stands behind it. Arguments that are slices of structs. Arguments that are asks of chapter 24; flags. Chapter 24: an ask's changes. -/
import Derived.Test.YtmhojaiajhdlcaaGreatMj4
import Derived.Test.YtmhojaiajhdlcaaGreatMj7
import Derived.Test.YtmhojaiajhdlcaaGreatRows
import Derived.Test.YtmhojaiajhdlcaaGreatMj1
import Derived.Test.YtmhojaiajhdlcaaGreatMj6
import Derived.Deep.RegionHeld3
import Derived.RegionTactic
import Derived.Deep.CutBlock
import Derived.Deep.DeepCutAuto
import Derived.Test.YtmhojaiajhdlcaaGreatMj2
import Derived.Deep.Fields
import Derived.ChangeSame
import Derived.OpenShut
namespace Go.Proofs.YtmhojaiajhdlcaaGreat
open Go.RowKit
set_option linter.unusedSimpArgs false
set_option linter.unusedVariables false
def N2 (nm : ByteArray) : Prop := nm = nmJ ∨ nm = nmN
theorem N2.ok {nm : ByteArray} (h : N2 nm) : nameOk nm = true := by
  rcases h with rfl | rfl
  · exact nmJ_ok
  · exact nmN_ok
def WrN (x : Wr) : Prop := N2 x.nm ∧ (x.kd = 3 → N2 x.tn)
def FsN (fs : DF) : Prop := ∀ p ∈ fs, N2 p.1
theorem FsN.set_ {fs : DF} (h : FsN fs) (k : ByteArray) (v : List UInt8) (hk : N2 k) : FsN (tSet strLt fs k v) := fun p hp => by
  rcases tSet_mem _ _ _ _ hp with rfl | q
  · exact hk
  · exact h p q
theorem FsN.del {fs : DF} (h : FsN fs) (k : ByteArray) : FsN (tDel strLt fs k) := fun p hp => h p (tDel_mem _ _ _ hp)
theorem FsN.apply {fs : DF} (h : FsN fs) {x : Wr} (hx : WrN x) : FsN (wApply x fs) := by
  unfold wApply
  split
  · exact h.set_ _ _ hx.1
  split
  · exact h.set_ _ _ hx.1
  split
  · rename_i h3
    split
    · exact (h.del _).set_ _ _ (hx.2 h3)
    · exact h
  split
  · exact h.set_ _ _ hx.1
  split
  · exact h.del _
  · exact h
theorem FsN.all : ∀ {l : List Wr} {fs : DF}, FsN fs → (∀ x ∈ l, WrN x) → FsN (wAll fs l)
  | [], fs, h, _ => h
  | x :: l, fs, h, hl => FsN.all (fs := wApply x fs) (h.apply (hl x (by simp))) (fun y hy => hl y (by simp [hy]))
theorem FsN.len {fs : DF} (h : FsN fs) (hr : Rising strLt fs) : fs.length ≤ 2 := by
  rcases Nat.lt_or_ge 2 fs.length with q | q
  · exfalso
    have m0 := h _ (nth_mem 0 (by omega))
    have m1 := h _ (nth_mem 1 (by omega))
    have m2 := h _ (nth_mem 2 (by omega))
    have r01 := hr 0 1 (by omega) (by omega)
    have r12 := hr 1 2 (by omega) q
    have r02 := hr 0 2 (by omega) q
    have irr := strOrd.irr
    rcases m0 with a | a <;> rcases m1 with b | b <;> rcases m2 with c | c <;> rw [a, b] at r01 <;> rw [b, c] at r12 <;> rw [a, c] at r02
    all_goals
      first
        | (rw [irr] at r01; exact absurd r01 (by simp))
        | (rw [irr] at r12; exact absurd r12 (by simp))
        | (rw [irr] at r02; exact absurd r02 (by simp))
  · exact q
theorem get_set2 {fs : DF} (hr : Rising strLt fs) (k k' : ByteArray) (v : List UInt8) (hne : k' ≠ k) : dGet (tSet strLt fs k v) k' = dGet fs k' := get_set_ne strOrd [] hr k k' v hne
theorem get_del2 {fs : DF} (hr : Rising strLt fs) (k k' : ByteArray) (hne : k' ≠ k) : dGet (tDel strLt fs k) k' = dGet fs k' := get_del_ne strOrd [] hr k k' hne
theorem get_del1 {fs : DF} (hr : Rising strLt fs) (k : ByteArray) : dGet (tDel strLt fs k) k = ([], false) := get_del_eq strOrd [] hr k
/-- A disk whose journal has, at each raw write, what Q says. -/
structure St (Q : List UInt8 → Prop) (k : Nat) (s : DS) : Prop where
  ok : DOk s
  mn : FsN s.mark
  ln : ∀ x ∈ s.log, WrN x
  lg : s.log.length ≤ k
  al : ∀ j, Q (dGet (wAll s.mark (s.log.take j)) nmJ).1
theorem do_now (x : Wr) (s : DS) : (dDo x s).now = wApply x s.now := rfl
theorem St.zero {Q : List UInt8 → Prop} (h : Q []) : St Q 0 ⟨[], [], []⟩ := ⟨DOk.zero, fun p hp => by simp at hp, fun x hx => by simp at hx, Nat.le_refl _, fun j => by
  show Q (dGet (wAll [] (([] : List Wr).take j)) nmJ).1
  rw [List.take_nil]; exact h⟩
section
variable {Q : List UInt8 → Prop} {k : Nat} {s : DS}
theorem St.fsn (h : St Q k s) : FsN s.now := by rw [h.ok.eq]; exact h.mn.all h.ln
theorem St.now (h : St Q k s) : s.now.length ≤ 2 := h.fsn.len h.ok.ris
theorem St.mlen (h : St Q k s) : s.mark.length ≤ 2 := h.mn.len h.ok.rim
theorem St.q (h : St Q k s) : Q (dGet s.now nmJ).1 := by
  have := h.al s.log.length
  rwa [List.take_length, ← h.ok.eq] at this
theorem St.more (h : St Q k s) {m : Nat} (hm : k ≤ m) : St Q m s := ⟨h.ok, h.mn, h.ln, Nat.le_trans h.lg hm, h.al⟩
theorem St.weak {R : List UInt8 → Prop} (h : St Q k s) (hr : ∀ c, Q c → R c) : St R k s := ⟨h.ok, h.mn, h.ln, h.lg, fun j => hr _ (h.al j)⟩
theorem St.do_ (h : St Q k s) {x : Wr} (hx : WrOk x s.now) (hn : WrN x) (hq : Q (dGet (wApply x s.now) nmJ).1) : St Q (k + 1) (dDo x s) := by
  refine ⟨h.ok.do_ hx, h.mn, fun y hy => ?_, by unfold dDo; have := h.lg; simp; omega, fun j => ?_⟩
  · rcases List.mem_append.1 hy with q | q
    · exact h.ln y q
    · simp at q; subst q; exact hn
  · show Q (dGet (wAll s.mark ((s.log ++ [x]).take j)) nmJ).1
    rcases Nat.lt_or_ge s.log.length j with q | q
    · rw [List.take_of_length_le (by rw [List.length_append, List.length_singleton]; omega), wAll_snoc, ← h.ok.eq]
      exact hq
    · rw [List.take_append_of_le_length q]
      exact h.al j
theorem St.mark (h : St Q k s) : St Q 0 (dMark s) := ⟨h.ok.mark, h.fsn, fun x hx => by simp [dMark] at hx, Nat.le_refl _, fun j => by
  show Q (dGet (wAll s.now (([] : List Wr).take j)) nmJ).1
  have := h.q
  simpa [wAll] using this⟩
theorem St.back (h : St Q k s) (n : Int) : St Q 0 (dBack s n) := by
  refine ⟨h.ok.back n, h.mn.all fun x hx => h.ln x (List.mem_of_mem_take hx), fun x hx => by simp [dBack] at hx, Nat.le_refl _, fun j => ?_⟩
  show Q (dGet (wAll (wAll s.mark (s.log.take n.toNat)) (([] : List Wr).take j)) nmJ).1
  have := h.al n.toNat
  simpa [wAll] using this
theorem St.puts {nm : ByteArray} (h : St Q k s) (p : List UInt8) (hnm : N2 nm) (hin : inD s.now nm = true) (ht : dTotal s.now + p.length ≤ 16777216) (hq : nm = nmJ → ∀ m, m ≤ p.length → Q ((dGet s.now nmJ).1 ++ p.take m)) : ∀ i, i ≤ (chunks p).length →
    St Q (k + i) (dPut nm s ((chunks p).take i)) ∧ dGet (dPut nm s ((chunks p).take i)).now nm = ((dGet s.now nm).1 ++ p.take (32 * i), true) ∧ ∀ nm', nm' ≠ nm → dGet (dPut nm s ((chunks p).take i)).now nm' = dGet s.now nm'
  | 0, _ => ⟨by simpa [dPut] using h, by simp [dPut]; exact Prod.ext rfl (by rw [dGet_in]; exact hin), fun _ _ => rfl⟩
  | i + 1, hi => by
    have hlen := chunks_len p
    obtain ⟨i1, i2, i3⟩ := St.puts h p hnm hin ht hq i (by omega)
    have hP := PutOk.all p h.ok hin (by have := h.now; omega) ht i (by omega)
    have hlt : 32 * i < p.length := by omega
    have hcl : ((p.drop (32 * i)).take 32).length = min 32 (p.length - 32 * i) := by rw [List.length_take, List.length_drop]
    have hne : (p.drop (32 * i)).take 32 ≠ [] := fun q => by rw [q] at hcl; simp at hcl; omega
    have hw := (hP.step ((p.drop (32 * i)).take 32) hne (by have := h.now; omega) (by rw [hcl]; omega)).1
    rw [dPut_take nm s p i (by omega)]
    have hr := i1.ok.ris
    have hap : wApply (wPut nm ((p.drop (32 * i)).take 32)) (dPut nm s ((chunks p).take i)).now = tSet strLt (dPut nm s ((chunks p).take i)).now nm ((dGet (dPut nm s ((chunks p).take i)).now nm).1 ++ (p.drop (32 * i)).take 32) := rfl
    have hval : (dGet (dPut nm s ((chunks p).take i)).now nm).1 ++ (p.drop (32 * i)).take 32 = (dGet s.now nm).1 ++ p.take (32 * (i + 1)) := by
      rw [i2]
      dsimp only
      rw [List.append_assoc, show 32 * (i + 1) = 32 * i + 32 by omega, List.take_add]
    have hg1 : dGet (dDo (wPut nm ((p.drop (32 * i)).take 32)) (dPut nm s ((chunks p).take i))).now nm = ((dGet s.now nm).1 ++ p.take (32 * (i + 1)), true) := by
      rw [do_now, hap, hval]; exact get_set hr _ _
    have hg2 : ∀ nm', nm' ≠ nm → dGet (dDo (wPut nm ((p.drop (32 * i)).take 32)) (dPut nm s ((chunks p).take i))).now nm' = dGet s.now nm' := fun nm' hne' => by
      rw [do_now, hap, get_set2 hr _ _ _ hne', i3 nm' hne']
    refine ⟨i1.do_ hw ⟨hnm, fun q => absurd q (show ¬ (2 : Int) = 3 by decide)⟩ ?_, hg1, hg2⟩
    by_cases hj : nm = nmJ
    · subst hj
      have h9 : dGet (wApply (wPut nmJ ((p.drop (32 * i)).take 32)) (dPut nmJ s ((chunks p).take i)).now) nmJ = _ := hg1
      rw [h9]
      dsimp only
      have := hq rfl (min (32 * (i + 1)) p.length) (Nat.min_le_right _ _)
      rwa [show p.take (min (32 * (i + 1)) p.length) = p.take (32 * (i + 1)) by
        rcases Nat.lt_or_ge p.length (32 * (i + 1)) with q | q
        · rw [Nat.min_eq_right (by omega), List.take_of_length_le (Nat.le_refl _), List.take_of_length_le (by omega)]
        · rw [Nat.min_eq_left q]] at this
    · have h9 : dGet (wApply (wPut nm ((p.drop (32 * i)).take 32)) (dPut nm s ((chunks p).take i)).now) nmJ = _ := hg2 nmJ (fun q => hj q.symm)
      rw [h9]
      exact h.q
/-- What an Append does. -/
structure Appd (Q : List UInt8 → Prop) (k : Nat) (s : DS) (nm : ByteArray) (p : List UInt8) (r : Int × DS) : Prop where
  st : St Q (k + 1 + p.length) r.2
  no : r.1 ≠ 0 → r.2 = s
  yes : r.1 = 0 → dGet r.2.now nm = ((dGet s.now nm).1 ++ p, true) ∧ ∀ nm', nm' ≠ nm → dGet r.2.now nm' = dGet s.now nm'
  fit : dTotal s.now + p.length ≤ 16777216 → r.1 = 0
theorem St.append {nm : ByteArray} (h : St Q k s) (p : List UInt8) (hnm : N2 nm) (hq : nm = nmJ → ∀ m, m ≤ p.length → Q ((dGet s.now nmJ).1 ++ p.take m)) : Appd Q k s nm p (dAppend s nm p) := by
  have hcl := chunks_len p
  unfold dAppend
  rw [hnm.ok, if_pos rfl]
  by_cases hf : 16777216 < dTotal s.now + p.length
  · rw [if_pos hf]
    exact ⟨h.more (by omega), fun _ => rfl, fun q => absurd q (show ¬ (9 : Int) = 0 by decide), fun q => by omega⟩
  · rw [if_neg hf]
    have hall : p.take (32 * (chunks p).length) = p := List.take_of_length_le (by omega)
    cases hin : inD s.now nm with
    | true =>
      rw [if_pos rfl]
      obtain ⟨h1, h2, h3⟩ := h.puts p hnm hin (by omega) hq (chunks p).length (Nat.le_refl _)
      rw [List.take_length, hall] at *
      exact ⟨h1.more (by omega), fun q => absurd rfl q, fun _ => ⟨h2, h3⟩, fun _ => rfl⟩
    | false =>
      rw [if_neg (by simp)]
      obtain ⟨m1, m2, m3, m4, m5⟩ := h.ok.make nm hin (by have := h.now; omega)
      have hold : dGet s.now nm = ([], false) := dGet_no hin
      have hr := h.ok.ris
      have hg1 : dGet (dDo (wMake nm) s).now nm = ([], true) := by show dGet (tSet strLt s.now nm []) nm = _; exact get_set hr _ _
      have hg2 : ∀ nm', nm' ≠ nm → dGet (dDo (wMake nm) s).now nm' = dGet s.now nm' := fun nm' hne => by show dGet (tSet strLt s.now nm []) nm' = _; exact get_set2 hr _ _ _ hne
      have hst : St Q (k + 1) (dDo (wMake nm) s) := by
        refine h.do_ m1 ⟨hnm, fun q => absurd q (show ¬ (1 : Int) = 3 by decide)⟩ ?_
        by_cases hj : nm = nmJ
        · subst hj
          have h9 : dGet (wApply (wMake nmJ) s.now) nmJ = ([], true) := hg1
          rw [h9]
          have := hq rfl 0 (Nat.zero_le _)
          rw [hold] at this
          simpa using this
        · have h9 : dGet (wApply (wMake nm) s.now) nmJ = _ := hg2 nmJ (fun q => hj q.symm)
          rw [h9]; exact h.q
      have hq2 : nm = nmJ → ∀ m, m ≤ p.length → Q ((dGet (dDo (wMake nm) s).now nmJ).1 ++ p.take m) := fun hj m hm => by
        have := hq hj m hm
        subst hj
        rw [hg1]
        rw [hold] at this
        exact this
      obtain ⟨h1, h2, h3⟩ := hst.puts p hnm m3 (by omega) hq2 (chunks p).length (Nat.le_refl _)
      rw [List.take_length, hall] at *
      refine ⟨h1.more (by omega), fun q => absurd rfl q, fun _ => ⟨?_, fun nm' hne => ?_⟩, fun _ => rfl⟩
      · dsimp only
        rw [h2, hg1, hold]
      · dsimp only
        rw [h3 nm' hne, hg2 nm' hne]
theorem St.remove (h : St Q k s) (hin : inD s.now nmN = true) : St Q (k + 1) (dRemove s nmN).2 ∧ dGet (dRemove s nmN).2.now nmJ = dGet s.now nmJ ∧ dGet (dRemove s nmN).2.now nmN = ([], false) := by
  have hr := h.ok.ris
  have he : (dRemove s nmN).2 = dDo (wRem nmN) s := by unfold dRemove; rw [hin]; rfl
  have hw := (h.ok.rem nmN hin (by have := h.now; omega)).1
  have hg : dGet (dDo (wRem nmN) s).now nmJ = dGet s.now nmJ := by show dGet (tDel strLt s.now nmN) nmJ = _; exact get_del2 hr _ _ nmJN
  have hg2 : dGet (dDo (wRem nmN) s).now nmN = ([], false) := by show dGet (tDel strLt s.now nmN) nmN = _; exact get_del1 hr _
  rw [he]
  refine ⟨h.do_ hw ⟨.inr rfl, fun q => absurd q (show ¬ (5 : Int) = 3 by decide)⟩ ?_, hg, hg2⟩
  have h9 : dGet (wApply (wRem nmN) s.now) nmJ = _ := hg
  rw [h9]; exact h.q
theorem St.rename (h : St Q k s) {c : List UInt8} (hc : dGet s.now nmN = (c, true)) (hq : Q c) : St Q (k + 1) (dRename s nmN nmJ).2 ∧ dGet (dRename s nmN nmJ).2.now nmJ = (c, true) ∧ dGet (dRename s nmN nmJ).2.now nmN = ([], false) := by
  have hr := h.ok.ris
  have hin : inD s.now nmN = true := by rw [← dGet_in, hc]
  have he : (dRename s nmN nmJ).2 = dDo (wRen nmN nmJ) s := by unfold dRename; rw [nmJ_ok, if_pos rfl, hin]; rfl
  have hw := (h.ok.ren nmN nmJ hin (by have := h.now; omega)).1
  have hap : wApply (wRen nmN nmJ) s.now = tSet strLt (tDel strLt s.now nmN) nmJ c := by
    show (if inD s.now nmN = true then tSet strLt (tDel strLt s.now nmN) nmJ (dGet s.now nmN).1 else s.now) = _
    rw [if_pos hin, hc]
  have hg : dGet (dDo (wRen nmN nmJ) s).now nmJ = (c, true) := by rw [do_now, hap]; exact get_set (hr.del strOrd nmN) _ _
  have hg2 : dGet (dDo (wRen nmN nmJ) s).now nmN = ([], false) := by rw [do_now, hap, get_set2 (hr.del strOrd nmN) _ _ _ (Ne.symm nmJN)]; exact get_del1 hr _
  rw [he]
  refine ⟨h.do_ hw ⟨.inr rfl, fun _ => .inl rfl⟩ ?_, hg, hg2⟩
  have h9 : dGet (wApply (wRen nmN nmJ) s.now) nmJ = (c, true) := hg
  rw [h9]; exact hq
theorem St.cut (h : St Q k s) (n : Nat) (hin : inD s.now nmJ = true) (hn : n ≤ (dGet s.now nmJ).1.length) (hq : Q ((dGet s.now nmJ).1.take n)) : St Q (k + 1) (dCut s nmJ (n : Int)).2 ∧ dGet (dCut s nmJ (n : Int)).2.now nmJ = ((dGet s.now nmJ).1.take n, true) ∧ dGet (dCut s nmJ (n : Int)).2.now nmN = dGet s.now nmN := by
  have hr := h.ok.ris
  have he : (dCut s nmJ (n : Int)).2 = dDo (wCut nmJ (n : Int)) s := by unfold dCut; rw [hin, if_pos rfl, if_neg (by omega)]
  have hw := (h.ok.cut nmJ (n : Int) hin (by omega) (by omega) (by have := h.now; omega)).1
  have hap : wApply (wCut nmJ (n : Int)) s.now = tSet strLt s.now nmJ ((dGet s.now nmJ).1.take n) := by
    show tSet strLt s.now nmJ ((dGet s.now nmJ).1.take (n : Int).toNat) = _
    rw [Int.toNat_natCast]
  have hg : dGet (dDo (wCut nmJ (n : Int)) s).now nmJ = ((dGet s.now nmJ).1.take n, true) := by rw [do_now, hap]; exact get_set hr _ _
  have hg2 : dGet (dDo (wCut nmJ (n : Int)) s).now nmN = dGet s.now nmN := by rw [do_now, hap]; exact get_set2 hr _ _ _ (Ne.symm nmJN)
  rw [he]
  refine ⟨h.do_ hw ⟨.inl rfl, fun q => absurd q (show ¬ (4 : Int) = 3 by decide)⟩ ?_, hg, hg2⟩
  have h9 : dGet (wApply (wCut nmJ (n : Int)) s.now) nmJ = _ := hg
  rw [h9]; exact hq
end
end Go.Proofs.YtmhojaiajhdlcaaGreat
namespace Go.Proofs.YtmhojaiajhdlcaaGreat
open Go.RowKit
set_option linter.unusedSimpArgs false
set_option linter.unusedVariables false
/-- Some contents of a payload fit a frame: what is laid. -/
theorem putF_one {r : Ch} (h : ChsOk [r]) : putF [] (encChs [r]) = frameOf (encChs [r]) := by rw [putF_fit _ _ h.fit]; rfl
theorem frame_le {l : List Ch} (h : ChsOk l) : (frameOf (encChs l)).length ≤ 262152 := by rw [frameOf_len]; have := h.sz; omega
theorem jLay_cons (r : Int × ByteArray) (u : JS) (s : DS) : jLay (r :: u) (0, s) = jLay u (dAppend s nmN (putF [] (encChs [r]))) := by
  show (if (0 : Int) = 0 then _ else _) = _
  rw [if_pos rfl]
theorem jLay_bad (u : JS) (e : Int) (s : DS) (he : e ≠ 0) : jLay u (e, s) = (e, s) := by
  cases u with
  | nil => rfl
  | cons r u => show (if e = 0 then _ else _) = _; rw [if_neg he]
section
variable {Q : List UInt8 → Prop} {k : Nat} {s : DS} {t : JS}
structure Laid (Q : List UInt8 → Prop) (k : Nat) (s : DS) (c : List UInt8) (u : JS) (r : Int × DS) : Prop where
  st : St Q (k + 262160 * u.length) r.2
  j : dGet r.2.now nmJ = dGet s.now nmJ
  has : inD r.2.now nmN = true
  yes : r.1 = 0 → dGet r.2.now nmN = (c ++ jRows u, true)
  fit : dTotal s.now + (jRows u).length ≤ 16777216 → r.1 = 0
theorem tot_two {fs : DF} (hn : FsN fs) (hr : Rising strLt fs) : dTotal fs = (dGet fs nmJ).1.length + (dGet fs nmN).1.length := by
  have hlen := hn.len hr
  have ltJN : strLt nmJ nmN = true := by kernel_rfl
  have ltNJ : strLt nmN nmJ = false := by kernel_rfl
  match fs, hn, hr, hlen with
  | [], _, _, _ => rfl
  | [(a, x)], hn, hr, _ =>
    have hN : ∀ x : List UInt8, dGet [(nmJ, x)] nmN = ([], false) := fun x => get_no strOrd [] (Rising.one _) nmN (fun v hv => by injection List.mem_singleton.1 hv with q _; exact nmJN q.symm)
    have hJ : ∀ x : List UInt8, dGet [(nmN, x)] nmJ = ([], false) := fun x => get_no strOrd [] (Rising.one _) nmJ (fun v hv => by injection List.mem_singleton.1 hv with q _; exact nmJN q)
    rcases hn (a, x) (by simp) with q | q
    · dsimp only at q; subst q
      rw [get_one, hN]; simp [dTotal]
    · dsimp only at q; subst q
      rw [hJ, get_one]; simp [dTotal]
  | [(a, x), (b, y)], hn, hr, _ =>
    have h01 : strLt a b = true := hr 0 1 (by omega) (by simp)
    have ha := hn (a, x) (by simp)
    have hb := hn (b, y) (by simp)
    dsimp only at ha hb
    have hab : a = nmJ ∧ b = nmN := by
      rcases ha with rfl | rfl <;> rcases hb with rfl | rfl
      · rw [strOrd.irr] at h01; exact absurd h01 (by simp)
      · exact ⟨rfl, rfl⟩
      · rw [ltNJ] at h01; exact absurd h01 (by simp)
      · rw [strOrd.irr] at h01; exact absurd h01 (by simp)
    obtain ⟨rfl, rfl⟩ := hab
    have g1 : dGet [(nmJ, x), (nmN, y)] nmJ = (x, true) := (get_mem strOrd [] hr nmJ x).2 (by simp)
    have g2 : dGet [(nmJ, x), (nmN, y)] nmN = (y, true) := (get_mem strOrd [] hr nmN y).2 (by simp)
    rw [g1, g2]; simp [dTotal]
  | _ :: _ :: _ :: _, _, _, h => simp at h
theorem St.tot (h : St Q k s) : dTotal s.now = (dGet s.now nmJ).1.length + (dGet s.now nmN).1.length := tot_two h.fsn h.ok.ris
theorem laid : ∀ (u : JS) {k : Nat} {s : DS} (c : List UInt8), St Q k s → dGet s.now nmN = (c, true) → (∀ p ∈ u, ChsOk [p]) → Laid Q k s c u (jLay u (0, s))
  | [], k, s, c, h, hc, _ => ⟨h.more (by simp), rfl, by rw [← dGet_in]; show (dGet s.now nmN).2 = true; rw [hc], fun _ => by show dGet s.now nmN = _; rw [hc]; simp [jRows], fun _ => rfl⟩
  | r :: u, k, s, c, h, hc, ho => by
    have hr := ho r (by simp)
    have hfl := frame_le hr
    have hA := h.append (nm := nmN) (frameOf (encChs [r])) (.inr rfl) (fun q => absurd q (Ne.symm nmJN))
    have hrows : jRows (r :: u) = frameOf (encChs [r]) ++ jRows u := by unfold jRows; rw [List.flatMap_cons]
    rw [jLay_cons, putF_one hr]
    obtain ⟨e, s', he⟩ : ∃ e s', dAppend s nmN (frameOf (encChs [r])) = (e, s') := ⟨_, _, rfl⟩
    rw [he] at hA ⊢
    by_cases h0 : e = 0
    · subst h0
      obtain ⟨y1, y2⟩ := hA.yes rfl
      dsimp only at y1 y2
      have h1 : dGet s'.now nmN = (c ++ frameOf (encChs [r]), true) := by rw [y1, hc]
      have hst : St Q (k + 1 + (frameOf (encChs [r])).length) s' := hA.st
      have hL := laid u (c ++ frameOf (encChs [r])) hst h1 (fun p hp => ho p (by simp [hp]))
      refine ⟨hL.st.more (by rw [List.length_cons]; omega), by rw [hL.j, y2 nmJ nmJN], hL.has, fun q => by rw [hL.yes q, hrows, List.append_assoc], fun q => hL.fit ?_⟩
      rw [hrows, List.length_append] at q
      have e1 := h.tot
      have e2 := hst.tot
      rw [h1, y2 nmJ nmJN, List.length_append] at e2
      rw [hc] at e1
      dsimp only at e1 e2
      omega
    · rw [jLay_bad _ _ _ h0]
      have hs : s' = s := hA.no h0
      subst hs
      refine ⟨hA.st.more (by rw [List.length_cons]; omega), rfl, by rw [← dGet_in]; show (dGet s'.now nmN).2 = true; rw [hc], fun q => absurd q h0, fun q => hA.fit ?_⟩
      rw [hrows, List.length_append] at q
      omega
/-- The journal laid anew. -/
structure Newly (Q : List UInt8 → Prop) (k : Nat) (s : DS) (t : JS) (s' : DS) : Prop where
  st : St Q (k + 262160 * t.length + 2) s'
  n : dGet s'.now nmN = ([], false)
  j : dGet s'.now nmJ = dGet s.now nmJ ∨ dGet s'.now nmJ = (jRows t, true)
  fit : dTotal s.now + (jRows t).length ≤ 16777216 → dGet s'.now nmJ = (jRows t, true)
theorem newly (h : St Q k s) (hn : dGet s.now nmN = ([], false)) (ho : ∀ p ∈ t, ChsOk [p]) (hq : Q (jRows t)) : Newly Q k s t (jAnew t s) := by
  have hA := h.append (nm := nmN) [] (.inr rfl) (fun q => absurd q (Ne.symm nmJN))
  obtain ⟨e, s1, he⟩ : ∃ e s', dAppend s nmN [] = (e, s') := ⟨_, _, rfl⟩
  rw [he] at hA
  have h0 : e = 0 := hA.fit (by have := h.ok.tot; simp; omega)
  subst h0
  obtain ⟨y1, y2⟩ := hA.yes rfl
  dsimp only at y1 y2
  rw [hn, List.append_nil] at y1
  have hst : St Q (k + 1) s1 := hA.st
  have hL := laid t [] hst y1 ho
  have hJ : dGet s1.now nmJ = dGet s.now nmJ := y2 nmJ nmJN
  obtain ⟨e2, s2, he2⟩ : ∃ e s', jLay t (0, s1) = (e, s') := ⟨_, _, rfl⟩
  rw [he2] at hL
  have hst2 : St Q (k + 1 + 262160 * t.length) s2 := hL.st
  have hj2 : dGet s2.now nmJ = dGet s1.now nmJ := hL.j
  have hhas : inD s2.now nmN = true := hL.has
  have hfit : dTotal s.now + (jRows t).length ≤ 16777216 → e2 = 0 := fun q => hL.fit (by
    have e1 := h.tot
    have e3 := hst.tot
    rw [y1, hJ] at e3
    rw [hn] at e1
    dsimp only at e1 e3
    omega)
  unfold jAnew
  rw [he, he2]
  by_cases hz : e2 = 0
  · subst hz
    rw [if_neg (fun q => q rfl)]
    have hg := hL.yes rfl
    dsimp only at hg
    rw [List.nil_append] at hg
    obtain ⟨r1, r2, r3⟩ := hst2.rename hg hq
    exact ⟨r1.more (by omega), r3, .inr r2, fun _ => r2⟩
  · rw [if_pos hz]
    obtain ⟨r1, r2, r3⟩ := hst2.remove hhas
    exact ⟨r1.more (by omega), r3, .inl (by rw [r2, hj2, hJ]), fun q => absurd (hfit q) hz⟩
/-- A journal in order: the file tells the slots, and no other file is there. -/
structure JInv (t : JS) (s : DS) : Prop where
  j : JOk t (dGet s.now nmJ).1
  n : dGet s.now nmN = ([], false)
theorem JInv.zero : JInv [] ⟨[], [], []⟩ := ⟨JOk.nil, rfl⟩
structure Sets (Q : List UInt8 → Prop) (k : Nat) (t : JS) (s : DS) (l : List Ch) (r : Int × JS × DS) : Prop where
  st : St Q (k + 12000000) r.2.2
  inv : JInv r.2.1 r.2.2
  no : r.1 ≠ 0 → r.2.1 = t ∧ r.2.2 = s
  yes : r.1 = 0 → r.2.1 = jAll t l ∧ ChsOk l
  fit : ChsOk l → dTotal s.now + (frameOf (encChs l)).length ≤ 16777216 → r.1 = 0
  cont : r.1 = 0 → (dGet s.now nmJ).1.length + (frameOf (encChs l)).length ≤ 262144 → (dGet r.2.2.now nmJ).1 = (dGet s.now nmJ).1 ++ frameOf (encChs l)
  small : r.1 = 0 → dTotal s.now + (frameOf (encChs l)).length + (jRows (jAll t l)).length ≤ 16777216 → (dGet r.2.2.now nmJ).1.length ≤ 262144 ∨ (dGet r.2.2.now nmJ).1 = jRows (jAll t l)
/-- What Set does, whatever it is given. -/
theorem sets (h : St Q k s) (hi : JInv t s) (l : List Ch) (hq : ChsOk l → ∀ m, m ≤ (frameOf (encChs l)).length → Q ((dGet s.now nmJ).1 ++ (frameOf (encChs l)).take m)) (hq2 : ChsOk l → Q (jRows (jAll t l))) : Sets Q k t s l (jSet t s l) := by
  have hstay : ∀ e : Int, e ≠ 0 → (ChsOk l → False) → Sets Q k t s l (e, t, s) := fun e he hno => ⟨h.more (by omega), hi, fun _ => ⟨rfl, rfl⟩, fun q => absurd q he, fun q => absurd q hno, fun q => absurd q he, fun q => absurd q he⟩
  unfold jSet
  by_cases h1 : l.length < 1 ∨ 41 < l.length
  · rw [if_pos h1]; exact hstay 1 (by decide) (fun q => by have := q.lo; have := q.hi; omega)
  rw [if_neg h1]
  by_cases h2 : chBad l = true
  · rw [if_pos h2]; exact hstay 1 (by decide) (fun q => by
      unfold chBad at h2
      obtain ⟨c, hc, hd⟩ := List.any_eq_true.1 h2
      have := of_decide_eq_true hd
      have h7 := q.ok c hc
      have := h7.lo; have := h7.hi; omega)
  rw [if_neg h2]
  by_cases h3 : 262144 < (encChs l).length
  · rw [if_pos h3]; exact hstay 2 (by decide) (fun q => by have := q.sz; omega)
  rw [if_neg h3]
  have hok : ChsOk l := by
    refine ⟨fun c hc => ?_, by omega, by omega, by omega⟩
    have hb : ¬ (c.1 < 0 ∨ 40 < c.1) := fun q => h2 (by unfold chBad; rw [List.any_eq_true]; exact ⟨c, hc, decide_eq_true q⟩)
    have h4 := one_le hc
    have h5 := encText_len c.2
    have h6 : (encChs [c]).length = (encNum 1).length + (encCh c).length := by rw [encChs_one, List.length_append]
    have h7 : (encCh c).length = (encNum c.1.toNat).length + (encText c.2).length := by unfold encCh; rw [List.length_append]
    exact ⟨by omega, by omega, by omega⟩
  have hput : putF [] (encChs l) = frameOf (encChs l) := by rw [putF_fit _ _ hok.fit]; rfl
  have hfl := frame_le hok
  rw [hput]
  have hA := h.append (nm := nmJ) (frameOf (encChs l)) (.inl rfl) (fun _ => hq hok)
  obtain ⟨e, s1, he⟩ : ∃ e s', dAppend s nmJ (frameOf (encChs l)) = (e, s') := ⟨_, _, rfl⟩
  rw [he] at hA ⊢
  dsimp only
  by_cases hz : e = 0
  · subst hz
    rw [if_neg (fun q => q rfl)]
    obtain ⟨y1, y2⟩ := hA.yes rfl
    dsimp only at y1 y2
    have hst : St Q (k + 1 + (frameOf (encChs l)).length) s1 := hA.st
    have hj1 : JOk (jAll t l) (dGet s1.now nmJ).1 := by rw [y1]; exact hi.j.frame hok
    have hn1 : dGet s1.now nmN = ([], false) := by rw [y2 nmN (Ne.symm nmJN)]; exact hi.n
    have hlen := hj1.jt.len
    have htot : dTotal s1.now = dTotal s.now + (frameOf (encChs l)).length := by
      have e1 := h.tot
      have e2 := hst.tot
      rw [y1, hn1, List.length_append] at e2
      rw [hi.n] at e1
      dsimp only at e1 e2
      omega
    have hcl : (dGet s1.now nmJ).1.length = (dGet s.now nmJ).1.length + (frameOf (encChs l)).length := by rw [y1, List.length_append]
    split
    · rename_i hbig
      have hN := newly hst hn1 hj1.one (hq2 hok)
      refine ⟨hN.st.more (by omega), ⟨?_, hN.n⟩, fun q => absurd rfl q, fun _ => ⟨rfl, hok⟩, fun _ _ => rfl, fun _ q => by omega, fun _ q => .inr ?_⟩
      · rcases hN.j with q | q
        · dsimp only; rw [q]; exact hj1
        · dsimp only; rw [q]; exact hj1.rows
      · have := hN.fit (by omega)
        dsimp only
        rw [this]
    · rename_i hbig
      exact ⟨hst.more (by omega), ⟨hj1, hn1⟩, fun q => absurd rfl q, fun _ => ⟨rfl, hok⟩, fun _ _ => rfl, fun _ _ => by dsimp only; rw [y1], fun _ _ => .inl (by dsimp only; omega)⟩
  · rw [if_pos hz]
    have hs : s1 = s := hA.no hz
    subst hs
    exact ⟨h.more (by omega), hi, fun _ => ⟨rfl, rfl⟩, fun q => absurd q hz, fun _ q => hA.fit q, fun q => absurd q hz, fun q => absurd q hz⟩
/-- A journal in order is opened as it is. -/
theorem jOpen_inv (hi : JInv t s) : jOpen s = (t, s) := by
  have hf : jFresh s = s := by
    unfold jFresh
    have : inD s.now nmN = false := by rw [← dGet_in, hi.n]
    rw [this]; rfl
  unfold jOpen
  rw [hf, hi.j.sc]
  dsimp only
  rw [if_neg (Nat.lt_irrefl _)]
/-- What an opening finds in any file, and what it leaves. -/
theorem jOpen_any' (h : St Q k s) (hq : Q ((dGet s.now nmJ).1.take (jScan (dGet s.now nmJ).1).2)) : (jOpen s).1 = (jScan (dGet s.now nmJ).1).1 ∧ St Q (k + 2) (jOpen s).2 ∧ (dGet (jOpen s).2.now nmJ).1 = (dGet s.now nmJ).1.take (jScan (dGet s.now nmJ).1).2 := by
  have hF : St Q (k + 1) (jFresh s) ∧ dGet (jFresh s).now nmJ = dGet s.now nmJ := by
    unfold jFresh
    split
    · rename_i hin
      obtain ⟨r1, r2, r3⟩ := h.remove hin
      exact ⟨r1, r2⟩
    · exact ⟨h.more (by omega), rfl⟩
  obtain ⟨f1, f2⟩ := hF
  have hle := jScan_le (dGet s.now nmJ).1
  unfold jOpen
  rw [f2]
  refine ⟨rfl, ?_⟩
  dsimp only
  split
  · rename_i hlt
    have hin : inD (jFresh s).now nmJ = true := by
      cases hb : inD (jFresh s).now nmJ with
      | true => rfl
      | false => rw [← f2, dGet_no hb] at hlt; simp at hlt
    obtain ⟨r1, r2, r3⟩ := f1.cut (jScan (dGet s.now nmJ).1).2 hin (by rw [f2]; exact hle) (by rw [f2]; exact hq)
    rw [f2] at r2
    exact ⟨r1, by rw [r2]⟩
  · rename_i hlt
    exact ⟨f1.more (by omega), by rw [f2, List.take_of_length_le (by omega)]⟩
end
end Go.Proofs.YtmhojaiajhdlcaaGreat
namespace Go.Proofs.YtmhojaiajhdlcaaGreat
open Go.RowKit
set_option linter.unusedSimpArgs false
set_option linter.unusedVariables false
set_option maxHeartbeats 400000 in
theorem sameInt_any (v u : Value) (l m : List Int) (w : World) (h : Rd iv w v l) (h2 : Rd iv w u m) :
    Calls Tryz.prog 43 #[v, u] w fun e w' => e = .returned (.bool (decide (l = m))) ∧ ∃ n, w' = w.drewN n := by
  obtain ⟨a, cap, rfl, hlc, hm, hc⟩ := h
  obtain ⟨a2, cap2, rfl, hlc2, hm2, hc2⟩ := h2
  have hm' : l.length ≤ 9223372036854775807 := by unfold maxLen at hm; omega
  have hm2' : m.length ≤ 9223372036854775807 := by unfold maxLen at hm2; omega
  clear hm hlc hm2 hlc2
  by_cases hlen : l.length = m.length
  · have HL := Lib.hid hlen
    have t1 : ((l.length : Int) != (m.length : Int)) = false := by rw [bne_eq_false_iff_eq]; omega
    have H1 := Lib.hid hc
    have H2 := Lib.hid hc2
    clear hlen hc hc2
    go_enter Tryz.func43, Tryz.ntmps43
    go_wp2
    go_loopw [5] (fun i wr => ∃ k n : Nat, wr = w.drewN n ∧ k ≤ l.length ∧ i = .int .i64 k ∧ Hid (∀ j, j < k → nth l j = nth m j)) (fun i _ => l.length - (intOf i).toNat)
    case atStart => exact ⟨0, 0, rfl, Nat.zero_le _, rfl, fun j hj => absurd hj (by omega)⟩
    case round =>
      obtain ⟨k, n, rfl, hk, rfl, hs⟩ := hrel
      by_cases hlt : k < l.length
      · obtain ⟨b, off, rfl, hc'⟩ := H1.out (by intro h; simp [h] at hlt)
        have hlt2 : k < m.length := by rw [← HL.out]; exact hlt
        obtain ⟨b2, off2, rfl, hc2'⟩ := H2.out (by intro h; simp [h] at hlt2)
        have hck := hc' k hlt
        have hck2 := hc2' k hlt2
        clear hc' hc2'
        have q1 : (k : Int) < (l.length : Int) := by omega
        have q2 : (k : Int) < (m.length : Int) := by omega
        go_wp2
        go_quiet (fail)
        go_wp2
        · have hne : (nth l k) ≠ (nth m k) := by first | assumption | exact bne_iff_ne.1 (by assumption)
          go_ret
          exact ⟨congrArg (fun b => Ending.returned (.bool b)) (decide_eq_false (fun e => by rw [e] at hne; exact hne rfl)).symm, _, World.drewN_drewN ..⟩
        · have heq : nth l k = nth m k := by first | assumption | exact bne_eq_false_iff_eq.1 (by assumption)
          go_roundw
          case rel => exact ⟨k + 1, _, rfl, by omega, by go_num, fun j hj => by
            by_cases e : j = k
            · rw [e]; exact heq
            · exact hs.out j (by omega)⟩
          case measure => simp [intOf]; omega
      · obtain rfl : k = l.length := by omega
        go_wp2
        go_ret
        exact ⟨congrArg (fun b => Ending.returned (.bool b)) (decide_eq_true (same_ext HL.out hs.out)).symm, _, rfl⟩
  · have t1 : ((l.length : Int) != (m.length : Int)) = true := by rw [bne_iff_ne]; omega
    have t2 : decide (l = m) = false := by simp; intro h; exact hlen (by rw [h])
    have T2 := Lib.hid t2
    clear hlen t2
    go_enter Tryz.func43, Tryz.ntmps43
    go_wp2
    go_ret
    exact ⟨congrArg (fun b => Ending.returned (.bool b)) T2.out.symm, 0, rfl⟩

end Go.Proofs.YtmhojaiajhdlcaaGreat
namespace Go.Proofs.YtmhojaiajhdlcaaGreat
open Go.RowKit
set_option linter.unusedSimpArgs false
set_option linter.unusedVariables false
set_option linter.unusedSectionVars false
/-- A journal in memory, its blocks hidden. -/
structure JP (w0 w : World) (gd gj : Nat) (t : JS) (s : DS) : Prop where
  ex : ∃ F G, JD w0 w gd gj F G t s
section
variable {w0 w w1 w' : World} {gd gj : Nat} {t t' : JS} {s s' : DS} {Q : List UInt8 → Prop} {k : Nat}
theorem JP.old (h : JP w0 w gd gj t s) : Upd [] w0 w := by
  obtain ⟨F, G, h1⟩ := h.ex
  exact h1.old
theorem JP.upd0 (h : JP w0 w gd gj t s) (hu : Upd [] w w') : JP w0 w' gd gj t s := by
  obtain ⟨F, G, h1⟩ := h.ex
  exact ⟨F, G, h1.upd0 hu⟩
theorem JP.of {S : List Nat} (h : JOut w0 w gd gj S t s w') : JP w0 w' gd gj t s := by
  obtain ⟨F, G, h1, -⟩ := h
  exact ⟨F, G, h1⟩
theorem JP.jt (h : JP w0 w gd gj t s) : JT t := by
  obtain ⟨F, G, h1⟩ := h.ex
  exact h1.jt
/-- Set of what was laid behind the journal. -/
theorem jpSet (h : JP w0 w gd gj t s) (hu : Upd [] w w1) (u : Value) (l : List Ch) (hl : RdN 2 chCells w1 u l) (hge : ∀ x ∈ blk u, w.heap.size ≤ x) (hI : ∀ c ∈ l, I64 c.1 ∧ c.2.size ≤ 1000000) (hs : St Q k s) (hk : k ≤ 470000000) {e : Int} (he : jSet t s l = (e, t', s')) :
    Calls Tryz.prog 45 #[.pointer (some ⟨gj, 0, none⟩), u] w1 fun x w' => x = .returned (.int .i64 e) ∧ JP w0 w' gd gj t' s' := by
  obtain ⟨F, G, h1⟩ := h.ex
  have h2 := jset_any u l (h1.upd0 hu) hl (fun x hx hf => by
    have := hge x hx
    rcases List.mem_append.1 hf with q | q
    · have := (h1.geF x q).2; omega
    · have := (h1.dd.ge x q).2; omega) hI (by have := hs.now; omega) (by have := hs.lg; omega)
  rw [he] at h2
  refine h2.mono ?_
  rintro x w' ⟨rfl, ho⟩
  exact ⟨rfl, JP.of ho⟩
theorem jpGet (h : JP w0 w gd gj t s) (n : Int) (hn : I64 n) {y : ByteArray} (hy : jGet t n = y) :
    Calls Tryz.prog 81 #[.pointer (some ⟨gj, 0, none⟩), .int .i64 n] w fun e w' => e = .returned (.string y) ∧ Upd [] w w' := by
  subst hy
  obtain ⟨F, G, h1⟩ := h.ex
  exact jGet_any n hn h1
theorem jpSlots (h : JP w0 w gd gj t s) {ks : List Int} (hk : t.map (·.1) = ks) :
    Calls Tryz.prog 44 #[.pointer (some ⟨gj, 0, none⟩)] w fun e w' => ∃ a k, e = .returned (.slice a ks.length k) ∧ Hid (Rd iv w' (.slice a ks.length k) ks) ∧ Upd [] w w' := by
  subst hk
  obtain ⟨F, G, h1⟩ := h.ex
  refine (jSlots_any h1).mono ?_
  rintro e w' ⟨v, rfl, ho, hu⟩
  have hr := ho.rd
  obtain ⟨a, k, rfl, -⟩ := id hr
  exact ⟨a, k, rfl, hr, hu⟩
theorem jpSize (h : JP w0 w gd gj t s) (hs : St Q k s) {n : Nat} (hn : jLen s nmJ + jLen s nmN = n) :
    Calls Tryz.prog 82 #[.pointer (some ⟨gj, 0, none⟩)] w fun e w' => e = .returned (.int .i64 (n : Int)) ∧ Upd [] w w' := by
  subst hn
  obtain ⟨F, G, h1⟩ := h.ex
  exact jSize_any h1 (by have := hs.now; omega)
theorem jpOpen (h : JP w0 w gd gj t s) (hs : St Q k s) (hk : k ≤ 470000000) (he : jOpen s = (t', s')) :
    Calls Tryz.prog 40 #[.pointer (some ⟨gd, 0, none⟩)] w fun e w' => ∃ gk, e = .returned (.tuple #[.pointer (some ⟨gk, 0, none⟩), .int .i64 0]) ∧ JP w0 w' gd gk t' s' := by
  obtain ⟨F, G, h1⟩ := h.ex
  have h2 := jopen_any h1.dd (by have := hs.now; omega) (by have := hs.lg; omega)
  rw [he] at h2
  refine h2.mono ?_
  rintro e w' ⟨gk, rfl, ho⟩
  exact ⟨gk, rfl, JP.of ho⟩
theorem jpStart (G : List Nat) (h : DD w0 w gd G ⟨[], [], []⟩) :
    Calls Tryz.prog 40 #[.pointer (some ⟨gd, 0, none⟩)] w fun e w' => ∃ gk, e = .returned (.tuple #[.pointer (some ⟨gk, 0, none⟩), .int .i64 0]) ∧ JP w0 w' gd gk [] ⟨[], [], []⟩ := by
  have h2 := jopen_any h (by simp) (by simp)
  rw [jOpen_inv JInv.zero] at h2
  refine h2.mono ?_
  rintro e w' ⟨gk, rfl, ho⟩
  exact ⟨gk, rfl, JP.of ho⟩
theorem jpTotal (h : JP w0 w gd gj t s) (hs : St Q k s) {n : Nat} (hn : dTotal s.now = n) :
    Calls Tryz.prog 65 #[.pointer (some ⟨gd, 0, none⟩)] w fun e w' => e = .returned (.int .i64 (n : Int)) ∧ Upd [] w w' := by
  subst hn
  obtain ⟨F, G, h1⟩ := h.ex
  exact dTotal_any h1.dd (by have := hs.now; omega)
theorem jpMark (h : JP w0 w gd gj t s) (hs : St Q k s) :
    Calls Tryz.prog 21 #[.pointer (some ⟨gd, 0, none⟩)] w fun e w' => e = .returned (.tuple #[]) ∧ JP w0 w' gd gj t (dMark s) := by
  obtain ⟨F, G, h1⟩ := h.ex
  refine (dMark_any h1.dd (by have := hs.now; omega)).mono ?_
  rintro e w' ⟨rfl, ho⟩
  exact ⟨rfl, JP.of (h1.disk ho)⟩
theorem jpBack (h : JP w0 w gd gj t s) (n : Int) (hn : I64 n) (hs : St Q k s) :
    Calls Tryz.prog 35 #[.pointer (some ⟨gd, 0, none⟩), .int .i64 n] w fun e w' => e = .returned (.tuple #[]) ∧ JP w0 w' gd gj t (dBack s n) := by
  obtain ⟨F, G, h1⟩ := h.ex
  refine (dBack_any n hn h1.dd (by have := hs.mlen; omega)).mono ?_
  rintro e w' ⟨rfl, ho⟩
  exact ⟨rfl, JP.of (h1.disk ho)⟩
theorem jpCount (h : JP w0 w gd gj t s) {n : Nat} (hn : s.log.length = n) :
    Calls Tryz.prog 27 #[.pointer (some ⟨gd, 0, none⟩)] w fun e w' => e = .returned (.int .i64 (n : Int)) ∧ w = w' := by
  subst hn
  obtain ⟨F, G, h1⟩ := h.ex
  exact dCount_any h1.dd
end
/-- So many zero bytes as a text. -/
def zs (n : Nat) : ByteArray := strOf (List.replicate n 0)
theorem zs_size (n : Nat) : (zs n).size = n := by unfold zs; rw [strOf_size, List.length_replicate]
/-- make([]byte, n), and the text of it, as opaque runs. -/
theorem make_zero (n : Nat) (N : Int) (hN : N = (n : Int)) (hn : n ≤ 1000000) : ∃ zf : World → World, (∀ u, (Instr.makeSlice 28 (.int .i64 N) (.int .i64 N)).run Tryz.prog u = .ok (.slice (some ⟨u.heap.size, 0, none⟩) n n) (zf u)) ∧ (∀ u, Upd [] u (zf u)) ∧ (∀ u, Bytes (zf u) (.slice (some ⟨u.heap.size, 0, none⟩) n n) (List.replicate n 0)) ∧ (∀ u, (convert 28 9 (.slice (some ⟨u.heap.size, 0, none⟩) n n)).run Tryz.prog (zf u) = .ok (.string (zs n)) (zf u)) := by
  refine ⟨fun u => u.alloc (.cells (List.replicate n (.int .u8 0)).toArray 5), fun u => run_mk (P := Tryz.prog) Tryz.underlying28 infoB8 rfl u n n N N hN hN (Nat.le_refl _) (by omega) (by omega), fun u => (Upd.refl [] u).alloc _, ?_, ?_⟩
  · intro u
    exact Rd.lit (c := bv) (List.replicate n 0) rfl (by simp) (by simp) (Nat.le_refl _) (by unfold maxLen; omega)
  · intro u
    exact convb_str (P := Tryz.prog) Tryz.underlying28 Tryz.underlying5 Tryz.underlying9 _ _ (List.replicate n 0) (Rd.lit (c := bv) (List.replicate n 0) rfl (by simp) (by simp) (Nat.le_refl _) (by unfold maxLen; omega))
theorem ch_two {w : World} {C : Array Value} {g : Nat} (c d : Ch) (hg : g = w.heap.size) (hC : C = (chCells c ++ chCells d).toArray) : RdN 2 chCells (w.alloc (.cells C 136)) (.slice (some ⟨g, 0, none⟩) 2 2) [c, d] := by
  subst hg; subst hC
  have hb := Blk.new w 136 (chCells c ++ chCells d)
  refine ⟨_, 2, rfl, by simp, by simp [maxLen], fun _ => ⟨w.heap.size, 0, rfl, fun j hj i hi => ?_⟩⟩
  have hj0 : j = 0 ∨ j = 1 := by simp at hj; omega
  rw [Nat.zero_add, hb.cell]
  rcases hj0 with rfl | rfl
  · rw [nth_cons_zero, Nat.zero_mul, Nat.zero_add, List.getElem?_append_left (by simpa using hi)]
  · rw [nth_cons_succ, nth_cons_zero, List.getElem?_append_right (by simp)]
    congr 1
    simp
end Go.Proofs.YtmhojaiajhdlcaaGreat
namespace Go.Proofs.YtmhojaiajhdlcaaGreat
open Go.RowKit
set_option linter.unusedSimpArgs false
set_option linter.unusedVariables false
abbrev sA : ByteArray := ⟨#[97]⟩
abbrev sB : ByteArray := ⟨#[98]⟩
abbrev sX : ByteArray := ⟨#[120]⟩
theorem nb_one (n : Nat) (h : n ≠ 0) (h2 : n < 256) : nb n = 1 := by rw [nb_pos n h, show n / 256 = 0 by omega, nb_zero]
theorem hold_set {c : Ch} (h : c.2.size ≠ 0) (t : JS) : jHold1 t c = tSet ltI t c.1 c.2 := jHold1_set (fun e => h (by rw [e]; rfl)) t
theorem runs_t1 : jAll [] [(3, sA), (5, sB)] = [(3, sA), (5, sB)] := by
  rw [jAll_cons, hold_set (by decide), jAll_cons, hold_set (by decide)]; rfl
theorem runs_t2 : jAll [(3, sA), (5, sB)] [(3, s0)] = [(5, sB)] := by
  rw [jAll_cons, jHold1_del rfl]; rfl
theorem runs_len1 : (encChs [(3, sA), (5, sB)]).length = 12 := by
  have h2 := nb_one 2 (by omega) (by omega)
  have h3 := nb_one 3 (by omega) (by omega)
  have h5 := nb_one 5 (by omega) (by omega)
  have h1 := nb_one 1 (by omega) (by omega)
  have ha : (encCh (3, sA)).length = 5 := by unfold encCh; rw [List.length_append, encText_len, encNum_len, encNum_len]; show 1 + nb 3 + (1 + nb 1 + 1) = 5; omega
  have hb : (encCh (5, sB)).length = 5 := by unfold encCh; rw [List.length_append, encText_len, encNum_len, encNum_len]; show 1 + nb 5 + (1 + nb 1 + 1) = 5; omega
  unfold encChs
  rw [List.length_append, encNum_len, List.flatMap_cons, List.flatMap_cons, List.flatMap_nil, List.length_append, List.length_append, ha, hb]
  show 1 + nb 2 + (5 + (5 + 0)) = 12
  omega
theorem runs_len2 : (encChs [(3, s0)]).length = 5 := by
  have h3 := nb_one 3 (by omega) (by omega)
  have h1 := nb_one 1 (by omega) (by omega)
  have ha : (encCh (3, s0)).length = 3 := by unfold encCh; rw [List.length_append, encText_len, encNum_len, encNum_len]; show 1 + nb 3 + (1 + nb 0 + 0) = 3; rw [nb_zero]; omega
  rw [encChs_one, List.length_append, encNum_len, ha]
  omega
theorem runs_ok1 : ChsOk [(3, sA), (5, sB)] := ⟨fun c hc => by
  rcases List.mem_cons.1 hc with rfl | hc
  · exact ⟨by decide, by decide, by decide⟩
  · rw [List.mem_singleton.1 hc]; exact ⟨by decide, by decide, by decide⟩, by decide, by decide, by rw [runs_len1]; omega⟩
theorem runs_ok2 : ChsOk [(3, s0)] := ⟨fun c hc => by rw [List.mem_singleton.1 hc]; exact ⟨by decide, by decide, by decide⟩, by decide, by decide, by rw [runs_len2]; omega⟩
/-- Behind two Sets: the slots, the file's length. -/
theorem runs_plain : ∃ s1 s2, jSet [] ⟨[], [], []⟩ [(3, sA), (5, sB)] = (0, [(3, sA), (5, sB)], s1) ∧ jSet [(3, sA), (5, sB)] s1 [(3, s0)] = (0, [(5, sB)], s2) ∧ St (fun _ => True) 12000000 s1 ∧ St (fun _ => True) 24000000 s2 ∧ JInv [(5, sB)] s2 ∧ jLen s2 nmJ + jLen s2 nmN = 33 := by
  have h0 : St (fun _ => True) 0 ⟨[], [], []⟩ := St.zero trivial
  have S1 := sets h0 JInv.zero [(3, sA), (5, sB)] (fun _ _ _ => trivial) (fun _ => trivial)
  have f1 := frameOf_len (encChs [(3, sA), (5, sB)])
  have f2 := frameOf_len (encChs [(3, s0)])
  rw [runs_len1] at f1
  rw [runs_len2] at f2
  obtain ⟨e1, t1, s1, he1⟩ : ∃ e t s, jSet [] ⟨[], [], []⟩ [(3, sA), (5, sB)] = (e, t, s) := ⟨_, _, _, rfl⟩
  rw [he1] at S1
  have z1 : e1 = 0 := S1.fit runs_ok1 (by rw [f1]; decide)
  have y1 : t1 = _ := (S1.yes z1).1
  rw [runs_t1] at y1
  subst z1
  subst y1
  have c1 : (dGet s1.now nmJ).1 = [] ++ frameOf (encChs [(3, sA), (5, sB)]) := S1.cont rfl (by rw [f1]; decide)
  rw [List.nil_append] at c1
  have st1 : St (fun _ => True) 12000000 s1 := S1.st.more (by omega)
  have i1 : JInv [(3, sA), (5, sB)] s1 := S1.inv
  have S2 := sets st1 i1 [(3, s0)] (fun _ _ _ => trivial) (fun _ => trivial)
  obtain ⟨e2, t2, s2, he2⟩ : ∃ e t s, jSet [(3, sA), (5, sB)] s1 [(3, s0)] = (e, t, s) := ⟨_, _, _, rfl⟩
  rw [he2] at S2
  have tt1 := st1.tot
  rw [c1, f1, i1.n] at tt1
  have z2 : e2 = 0 := S2.fit runs_ok2 (by rw [tt1, f2]; decide)
  have y2 : t2 = _ := (S2.yes z2).1
  rw [runs_t2] at y2
  subst z2
  subst y2
  have c2 : (dGet s2.now nmJ).1 = (dGet s1.now nmJ).1 ++ frameOf (encChs [(3, s0)]) := S2.cont rfl (by rw [c1, f1, f2]; decide)
  have i2 : JInv [(5, sB)] s2 := S2.inv
  refine ⟨s1, s2, he1, he2, st1, S2.st.more (by omega), i2, ?_⟩
  unfold jLen
  rw [c2, i2.n, List.length_append, c1, f1, f2]
  rfl
theorem ch_nil (w : World) : RdN 2 chCells w (.slice none 0 0) [] := ⟨none, 0, rfl, Nat.le_refl _, by decide, fun q => absurd rfl q⟩
theorem runs_none (t : JS) (s : DS) : jSet t s [] = (1, t, s) := by unfold jSet; rw [if_pos (.inl (by decide))]
theorem runs_far (t : JS) (s : DS) : jSet t s [(41, sX)] = (1, t, s) := by
  unfold jSet
  rw [if_neg (by decide), if_pos]
  unfold chBad; decide
theorem runs_long (t : JS) (s : DS) : jSet t s [(0, zs 262144)] = (2, t, s) := by
  have h1 := chs_size (l := [(0, zs 262144)]) (c := (0, zs 262144)) (by simp)
  have h2 := encNum_ge 1
  have h3 : (encChs [(0, zs 262144)]).length = (encNum 1).length + (encCh (0, zs 262144)).length := by rw [encChs_one, List.length_append]
  have h4 := encCh_size (0, zs 262144)
  dsimp only at h4
  rw [zs_size] at h4
  unfold jSet
  rw [if_neg (by simp), if_neg (by unfold chBad; simp), if_pos (by omega)]
set_option maxRecDepth 100000 in
set_option maxHeartbeats 8000000 in
theorem journalRuns_any (w : World) : Calls Tryz.prog 37 #[] w fun e w' => e = .returned (.bool true) ∧ Upd [] w w' := by
  obtain ⟨s1, s2, e1, e2, st1, st2, i2, hsz⟩ := runs_plain
  have E1 := Lib.hid e1
  have E2 := Lib.hid e2
  have ST0 : Hid (St (fun _ => True) 0 ⟨[], [], []⟩) := St.zero trivial
  have ST1 := Lib.hid st1
  have ST2 := Lib.hid st2
  have I2 := Lib.hid i2
  have HSZ := Lib.hid hsz
  obtain ⟨zf, hz1, hz2, hz3, hz4⟩ := make_zero 262144 262144 rfl (by omega)
  have HZ2 := Lib.hid hz2
  obtain ⟨Z, hZ⟩ : ∃ Z, zs 262144 = Z := ⟨_, rfl⟩
  rw [hZ] at hz4
  have EZ : Hid (jSet [(5, sB)] s2 [(0, Z)] = (2, [(5, sB)], s2)) := by unfold Hid; rw [← hZ]; exact runs_long _ _
  have HIZ : Hid (∀ c ∈ [((0 : Int), Z)], I64 c.1 ∧ c.2.size ≤ 1000000) := fun c hc => by
    rw [List.mem_singleton.1 hc]
    exact ⟨i64_mk (show (-9223372036854775808 : Int) ≤ 0 by decide) (show (0 : Int) ≤ 9223372036854775807 by decide), by show Z.size ≤ 1000000; rw [← hZ, zs_size]; omega⟩
  clear e1 e2 st1 st2 i2 hsz hz2 hz3 hZ
  go_enter Tryz.func37, Tryz.ntmps37
  go_wp2_with fail
  (with_reducible refine (dNew_any w w (Upd.refl [] w)).mono ?_)
  rintro e w1 ⟨gd, G1, rfl, h1, hu1, hf1⟩
  have H1 := Lib.hid h1
  clear h1 hu1 hf1
  go_wp2_with fail
  (with_reducible refine (jpStart G1 H1.out).mono ?_)
  rintro e w2 ⟨gj, rfl, h2⟩
  have H2 := Lib.hid h2
  clear h2 H1
  go_wp2_with fail
  (with_reducible refine (jpSet (w1 := w2.alloc (.cells #[.int .i64 3, .string ⟨#[97]⟩, .int .i64 5, .string ⟨#[98]⟩] 136)) H2.out ((Upd.refl [] w2).alloc _) _ [(3, sA), (5, sB)] (ch_two _ _ rfl rfl) (fun x hx => by simp [blk] at hx; omega) (fun c hc => by
    rcases List.mem_cons.1 hc with rfl | hc
    · exact ⟨i64_mk (by decide) (by decide), by decide⟩
    · rw [List.mem_singleton.1 hc]; exact ⟨i64_mk (by decide) (by decide), by decide⟩) ST0.out (by omega) E1.out).mono ?_)
  rintro e w3 ⟨rfl, h3⟩
  have H3 := Lib.hid h3
  clear h3 H2
  go_wp2_with fail
  (with_reducible refine (jpSet (w1 := w3.alloc (.cells #[.int .i64 3, .string ⟨#[]⟩] 136)) H3.out ((Upd.refl [] w3).alloc _) _ [(3, s0)] (ch_one _ rfl rfl) (fun x hx => by simp [blk] at hx; omega) (fun c hc => by rw [List.mem_singleton.1 hc]; exact ⟨i64_mk (by decide) (by decide), by decide⟩) ST1.out (by omega) E2.out).mono ?_)
  rintro e w4 ⟨rfl, h4⟩
  have H4 := Lib.hid h4
  clear h4 H3
  go_wp2_with fail
  (with_reducible refine (jpOpen H4.out ST2.out (by omega) (jOpen_inv I2.out)).mono ?_)
  rintro e w5 ⟨gk, rfl, h5⟩
  have H5 := Lib.hid h5
  clear h5 H4
  go_wp2_with fail
  (with_reducible refine (jpSlots H5.out (ks := [5]) rfl).mono ?_)
  rintro e w6 ⟨a6, k6, rfl, hr6, hu6⟩
  have H6 := Lib.hid (H5.out.upd0 hu6)
  clear hu6 H5
  go_wp2_with fail
  have hu7 : Upd [] w6 (w6.alloc (.cells #[.int .i64 5] 3)) := (Upd.refl [] w6).alloc _
  have HL7 : Hid (Rd iv (w6.alloc (.cells #[.int .i64 5] 3)) (.slice (some ⟨w6.heap.size, 0, none⟩) 1 1) [5]) := Rd.lit [5] rfl rfl rfl (Nat.le_refl _) (by decide)
  have HR7 : Hid (Rd iv (w6.alloc (.cells #[.int .i64 5] 3)) (.slice a6 1 k6) [5]) := hr6.out.upd0 hu7
  have H7 := Lib.hid (H6.out.upd0 hu7)
  clear hr6 hu7 H6
  (with_reducible refine (sameInt_any _ _ [5] [5] _ HR7.out HL7.out).mono ?_)
  rw [decide_eq_true (show ([5] : List Int) = [5] from rfl)]
  rintro e w8 ⟨rfl, n8, rfl⟩
  have H8 := Lib.hid (H7.out.upd0 ((Upd.refl [] _).drewN n8))
  clear H7 HR7 HL7
  go_wp2_with fail
  generalize (w6.alloc (.cells #[.int .i64 5] 3)).drewN n8 = w8 at *
  (with_reducible refine (jpGet H8.out 5 (i64_mk (by omega) (by omega)) (y := sB) rfl).mono ?_)
  rintro e w9 ⟨rfl, hu9⟩
  have H9 := Lib.hid (H8.out.upd0 hu9)
  clear hu9 H8
  go_wp2_with fail
  (with_reducible refine (jpGet H9.out 3 (i64_mk (by omega) (by omega)) (y := s0) rfl).mono ?_)
  rintro e w10 ⟨rfl, hu10⟩
  have H10 := Lib.hid (H9.out.upd0 hu10)
  clear hu10 H9
  go_wp2_with fail
  (with_reducible refine (jopenNil_any w10).mono ?_)
  rintro e w11 ⟨rfl, rfl⟩
  go_wp2_with fail
  (with_reducible refine (jpSize H10.out ST2.out HSZ.out).mono ?_)
  rintro e w12 ⟨rfl, hu12⟩
  have H12 := Lib.hid (H10.out.upd0 hu12)
  clear hu12 H10
  go_wp2_with fail
  (with_reducible refine (jpSet H12.out (Upd.refl [] _) _ [] (ch_nil _) (by simp [blk]) (by simp) ST2.out (by omega) (runs_none _ _)).mono ?_)
  rintro e w13 ⟨rfl, h13⟩
  have H13 := Lib.hid h13
  clear h13 H12
  go_wp2_with fail
  (with_reducible refine (jpSet (w1 := w13.alloc (.cells #[.int .i64 41, .string ⟨#[120]⟩] 136)) H13.out ((Upd.refl [] w13).alloc _) _ [(41, sX)] (ch_one _ rfl rfl) (fun x hx => by simp [blk] at hx; omega) (fun c hc => by rw [List.mem_singleton.1 hc]; exact ⟨i64_mk (by decide) (by decide), by decide⟩) ST2.out (by omega) (runs_far _ _)).mono ?_)
  rintro e w14 ⟨rfl, h14⟩
  have H14 := Lib.hid h14
  clear h14 H13
  go_wp2_with fail
  have H15 := Lib.hid (H14.out.upd0 (HZ2.out w14))
  (with_reducible refine (jpSet (w1 := (zf w14).alloc (.cells #[.int .i64 0, .string Z] 136)) H15.out ((Upd.refl [] (zf w14)).alloc _) _ [(0, Z)] (ch_one _ rfl rfl) (fun x hx => by simp [blk] at hx; omega) HIZ.out ST2.out (by omega) EZ.out).mono ?_)
  rintro e w16 ⟨rfl, h16⟩
  have HO := Lib.hid h16.old
  clear h16 H14 H15
  go_wp2_with fail
  go_ret
  exact ⟨rfl, HO.out⟩
end Go.Proofs.YtmhojaiajhdlcaaGreat
namespace Go.Proofs.YtmhojaiajhdlcaaGreat
open Go.RowKit
set_option linter.unusedSimpArgs false
set_option linter.unusedVariables false
theorem within_nat (cut : Int) (m : Nat) : ∃ n : Nat, within cut 0 (m : Int) = (n : Int) ∧ n ≤ m := by
  have hp : 0 < (m : Int) - 0 + 1 := by omega
  have h1 := Int.emod_nonneg cut (b := (m : Int) - 0 + 1) (by omega)
  have h2 := Int.emod_lt_of_pos cut hp
  obtain ⟨n, hn⟩ := Int.eq_ofNat_of_zero_le h1
  refine ⟨n, ?_, by omega⟩
  unfold within
  rw [hn]; omega
/-- What the slots below n have, and forty for each. -/
def allOf (t : JS) : Nat → Nat
  | 0 => 0
  | n + 1 => allOf t n + (jGet t (n : Int)).size + 40
def rowsOf (t : JS) : Nat := (t.map fun p => p.2.size + 40).sum
theorem rowsOf_app (a b : JS) : rowsOf (a ++ b) = rowsOf a + rowsOf b := by unfold rowsOf; rw [List.map_append, List.sum_append]
theorem below_next {t : JS} (hr : Rising ltI t) (n : Int) : below ltI t (n + 1) = below ltI t n + (if isIn ltI t n then 1 else 0) := by
  have hle := below_le (lt := ltI) t n
  have hin : isIn ltI t n = true → below ltI t n < t.length ∧ (nth t (below ltI t n)).1 = n := fun h => by unfold isIn at h; exact of_decide_eq_true h
  refine below_eq _ _ _ ?_ (fun j hj => ?_) (fun h => ?_)
  · cases h : isIn ltI t n with
    | true => have := (hin h).1; simp; omega
    | false => simp; exact hle
  · by_cases hj2 : j < below ltI t n
    · have h1 := below_lt (lt := ltI) t n j hj2
      have h2 : (nth t j).1 < n := of_decide_eq_true h1
      exact decide_eq_true (by omega)
    · cases h : isIn ltI t n with
      | true =>
        rw [h] at hj
        have hj3 : j = below ltI t n := by simp at hj; omega
        rw [hj3, (hin h).2]
        exact decide_eq_true (by omega)
      | false => rw [h] at hj; simp at hj; omega
  · have h1 := above intOrd hr n _ (Nat.le_refl _) h
    have h2 : n < (nth t (below ltI t n + if isIn ltI t n = true then 1 else 0)).1 := of_decide_eq_true h1
    exact decide_eq_false (by omega)
theorem rows_below {t : JS} (hr : Rising ltI t) (hk : ∀ p ∈ t, 0 ≤ p.1) : ∀ n : Nat, rowsOf (t.take (below ltI t (n : Int))) ≤ allOf t n
  | 0 => by
    have : below ltI t ((0 : Nat) : Int) = 0 := below_eq _ _ _ (Nat.zero_le _) (fun j hj => by omega) (fun h => by
      have := hk _ (nth_mem 0 h)
      exact decide_eq_false (by omega))
    rw [this]; simp [rowsOf, allOf]
  | n + 1 => by
    have ih := rows_below hr hk n
    rw [show ((n + 1 : Nat) : Int) = (n : Int) + 1 by omega, below_next hr]
    show _ ≤ allOf t n + (jGet t (n : Int)).size + 40
    cases h : isIn ltI t (n : Int) with
    | false => rw [if_neg (by simp), Nat.add_zero]; omega
    | true =>
      rw [if_pos rfl]
      have h2 := h
      unfold isIn at h2
      obtain ⟨h3, h4⟩ := of_decide_eq_true h2
      rw [take_succ_nth _ _ h3, rowsOf_app]
      have hg : jGet t (n : Int) = (nth t (below ltI t (n : Int))).2 := by unfold jGet tGet; rw [h]; rfl
      rw [hg]
      have : rowsOf [nth t (below ltI t (n : Int))] = (nth t (below ltI t (n : Int))).2.size + 40 := by simp [rowsOf]
      omega
/-- Rows of six slots, none too long. -/
structure Six (t : JS) : Prop where
  ris : Rising ltI t
  ks : ∀ p ∈ t, 0 ≤ p.1 ∧ p.1 ≤ 5 ∧ p.2.size ≤ 60000
theorem Six.nil : Six [] := ⟨Rising.nil, by simp⟩
theorem Six.rows {t : JS} (h : Six t) : rowsOf t ≤ allOf t 6 := by
  have h1 := rows_below h.ris (fun p hp => (h.ks p hp).1) 6
  have h2 : below ltI t ((6 : Nat) : Int) = t.length := below_eq _ _ _ (Nat.le_refl _) (fun j hj => by
    have := (h.ks _ (nth_mem j hj)).2.1
    exact decide_eq_true (by omega)) (fun q => absurd q (Nat.lt_irrefl _))
  rw [h2, List.take_length] at h1
  exact h1
theorem six_frame {p : Ch} (h : 0 ≤ p.1 ∧ p.1 ≤ 5 ∧ p.2.size ≤ 60000) : (frameOf (encChs [p])).length ≤ p.2.size + 40 := by
  have h1 := encNum_len 1
  have h2 := nb_le8 1 (by omega)
  have h3 := encNum_len p.1.toNat
  have h4 := nb_le8 p.1.toNat (by omega)
  have h5 := encNum_len p.2.size
  have h6 : nb p.2.size ≤ 2 := by
    rcases Nat.lt_or_ge 2 (nb p.2.size) with q | q
    · have := (nb_lt 2 p.2.size).1 q
      omega
    · exact q
  have h7 := encText_len p.2
  have h8 : (encCh p).length = (encNum p.1.toNat).length + (encText p.2).length := by unfold encCh; rw [List.length_append]
  have h9 : nb 1 = 1 := nb_one 1 (by omega) (by omega)
  have h10 : nb p.1.toNat ≤ 1 := by
    rcases Nat.eq_zero_or_pos p.1.toNat with q | q
    · rw [q, nb_zero]; omega
    · have := nb_one p.1.toNat (by omega) (by omega)
      omega
  rw [frameOf_len, encChs_one, List.length_append]
  omega
theorem jRows_le : ∀ (t : JS), (∀ p ∈ t, 0 ≤ p.1 ∧ p.1 ≤ 5 ∧ p.2.size ≤ 60000) → (jRows t).length ≤ rowsOf t
  | [], _ => by simp [jRows, rowsOf]
  | p :: t, h => by
    have h1 := six_frame (h p (by simp))
    have h2 := jRows_le t (fun q hq => h q (by simp [hq]))
    have e1 : jRows (p :: t) = frameOf (encChs [p]) ++ jRows t := by unfold jRows; rw [List.flatMap_cons]
    have e2 : rowsOf (p :: t) = p.2.size + 40 + rowsOf t := by simp [rowsOf]
    rw [e1, e2, List.length_append]; omega
theorem allOf_le {t : JS} (h : Six t) : ∀ n, allOf t n ≤ 60040 * n
  | 0 => Nat.le_refl _
  | n + 1 => by
    have ih := allOf_le h n
    have : (jGet t (n : Int)).size ≤ 60000 := by
      unfold jGet
      rcases get_cases (lt := ltI) s0 t (n : Int) with ⟨v, hv⟩ | hn
      · rw [hv]; exact (h.ks _ ((get_mem intOrd s0 h.ris _ _).1 hv)).2.2
      · rw [hn]; decide
    show allOf t n + _ + 40 ≤ _
    omega
theorem Six.hold {t : JS} (h : Six t) (k : Int) (d : ByteArray) (hk : 0 ≤ k ∧ k ≤ 5) (hd : d.size ≤ 60000) : Six (jAll t [(k, d)]) := by
  show Six (jHold1 t (k, d))
  unfold jHold1
  split
  · exact ⟨h.ris.del intOrd _, fun p hp => h.ks p ((mem_del intOrd h.ris _ _).1 hp).1⟩
  · refine ⟨h.ris.set_ intOrd _ _, fun p hp => ?_⟩
    rcases (mem_set intOrd h.ris _ _ _).1 hp with rfl | q
    · exact ⟨hk.1, hk.2, hd⟩
    · exact h.ks p q.1
/-- Behind k Sets. -/
structure SmI (k : Nat) (t : JS) (s : DS) : Prop where
  st : St (fun _ => True) (12000000 * k) s
  inv : JInv t s
  six : Six t
  small : (dGet s.now nmJ).1.length ≤ 262144 ∨ (dGet s.now nmJ).1.length ≤ allOf t 6
theorem SmI.zero : SmI 0 [] ⟨[], [], []⟩ := ⟨St.zero trivial, JInv.zero, Six.nil, .inl (Nat.zero_le _)⟩
theorem SmI.step {k : Nat} {t : JS} {s : DS} (h : SmI k t s) (n : Int) (d : ByteArray) (hn : 0 ≤ n ∧ n ≤ 5) (hd : d.size ≤ 60000) : ∃ s', jSet t s [(n, d)] = (0, jAll t [(n, d)], s') ∧ SmI (k + 1) (jAll t [(n, d)]) s' := by
  have hf := six_frame (p := (n, d)) ⟨hn.1, hn.2, hd⟩
  have hfl := frameOf_len (encChs [(n, d)])
  dsimp only at hf
  have hok : ChsOk [(n, d)] := ⟨fun c hc => by rw [List.mem_singleton.1 hc]; exact ⟨hn.1, by show n ≤ 40; omega, by show d.size ≤ 262144; omega⟩, by simp, by simp, by omega⟩
  have S := sets h.st h.inv [(n, d)] (fun _ _ _ => trivial) (fun _ => trivial)
  have h6 := h.six.hold n d hn hd
  have ha := allOf_le h6 6
  have ha0 := allOf_le h.six 6
  have hr := jRows_le _ h6.ks
  have hr2 := h6.rows
  have htot := h.st.tot
  rw [h.inv.n] at htot
  have hsm := h.small
  dsimp only [List.length_nil] at htot
  obtain ⟨e, t', s', he⟩ : ∃ e t2 s2, jSet t s [(n, d)] = (e, t2, s2) := ⟨_, _, _, rfl⟩
  rw [he] at S
  have z : e = 0 := S.fit hok (by omega)
  have y : t' = jAll t [(n, d)] := (S.yes z).1
  subst z
  subst y
  refine ⟨s', he, S.st.more (by omega), S.inv, h6, ?_⟩
  rcases S.small rfl (by omega) with q | q
  · exact .inl q
  · right
    show (dGet s'.now nmJ).1.length ≤ _
    rw [show (dGet s'.now nmJ).1 = _ from q]
    omega
end Go.Proofs.YtmhojaiajhdlcaaGreat
namespace Go.Proofs.YtmhojaiajhdlcaaGreat
set_option linter.unusedSimpArgs false
set_option linter.unusedVariables false
section
variable {P : Program} {l : List Oper} {Q : Exit → Act → World → Prop} {K : Act → World → Prop} {md : Region.Mode}
/-- Q, but K at the end. -/
def QK (Q : Exit → Act → World → Prop) (K : Act → World → Prop) : Exit → Act → World → Prop
  | .normal, a, w => K a w
  | .exit i, a, w => Q (.exit i) a w
  | .goto i, a, w => Q (.goto i) a w
  | .ret, a, w => Q .ret a w
  | .panic c, a, w => Q (.panic c) a w
  | .outgrown, a, w => Q .outgrown a w
theorem QK.calm {Q : Exit → Act → World → Prop} {c : _} {a a' : Act} {w : World} (h : Q (.panic c) a' w → Q (.panic c) a w) : QK Q K (.panic c) a' w → QK Q K (.panic c) a w := h
def isMove (o : Oper) : Bool := match o.op with
  | .move _ => true
  | _ => false
/-- The first n of s are listed. -/
def tf (n s : Nat) : Array Bool := (List.replicate n true ++ List.replicate (s - n) false).toArray
def stepOk (md : Region.Mode) (ops : Array Oper) (n : Nat) : Bool :=
  Region.ready md ops (tf n ops.size) == [n] || ((Region.ready md ops (tf n ops.size)).contains n && Region.free md ops (tf n ops.size) n && (match ops[n]? with | some o => isMove o | none => false))
def natOk (md : Region.Mode) (ops : Array Oper) (n : Nat) : Nat → Bool
  | 0 => true
  | k + 1 => stepOk md ops n && natOk md ops (n + 1) k
theorem tf_set {n s : Nat} (h : n < s) : (tf n s).setIfInBounds n true = tf (n + 1) s := by
  unfold tf
  rw [List.setIfInBounds_toArray, List.set_append_right _ _ (by simp)]
  congr 1
  obtain ⟨d, hd⟩ : ∃ d, s - n = d + 1 := ⟨s - n - 1, by omega⟩
  rw [hd, List.length_replicate, Nat.sub_self, List.replicate_succ, List.set_cons_zero, show s - (n + 1) = d by omega, List.replicate_succ', List.append_assoc]
  rfl
theorem tf_zero (s : Nat) : tf 0 s = Array.replicate s false := by
  unfold tf; simp
theorem wp_QK {o : Oper} {a : Act} {w : World} {K' : Act → World → Prop} (hh : o.wp P a w K' (QK Q K)) : o.wp P a w K' Q := by
  unfold Oper.wp at *
  generalize (execOp a.eval o).run P w = r at *
  cases r with
  | ok n w' =>
    cases n <;> simp only [Oper.upon] at hh ⊢ <;>
      first
        | exact hh
        | exact Calls.mono hh (fun e w'' he => by cases e <;> exact he)
  | halt x w' => cases x <;> simp only [Oper.upon] at hh ⊢ <;> exact hh
theorem wpOp_of_list {i : Nat} {o : Oper} {ops : Array Oper} {rest : List Oper} {a : Act} {w : World} {K' : Act → World → Prop} (ho : ops[i]? = some o) (h : wpList P ops (QK Q K) (o :: rest) a w) (hK : ∀ a w, wpList P ops (QK Q K) rest a w → K' a w) : wpOp P ops Q i K' a w := by
  unfold wpOp
  rw [ho]
  unfold wpList at h
  show if Region.wanted o (yielded ops a.tmps) = true then _ else _
  split
  · rename_i hw
    rw [if_pos hw] at h
    exact h.imp (fun q => wp_QK (Oper.wp_mono hK q)) (fun q => ⟨q.1, q.2⟩)
  · rename_i hw
    rw [if_neg hw] at h
    exact hK _ _ h
theorem any_one_list {i : Nat} {o : Oper} {listed listed' : Array Bool} {fuel : Nat} {a : Act} {w : World} (hr : Region.ready md l.toArray listed = [i]) (ho : l.toArray[i]? = some o) (hl : listed.setIfInBounds i true = listed')
    (h : wpList P l.toArray (QK Q (fun a w => wpAny P md l.toArray Q fuel listed' a w)) [o] a w) : wpAny P md l.toArray Q (fuel + 1) listed a w := by
  subst hl
  refine wpAny_all hr (by simp) (fun j hj => ?_)
  obtain rfl : j = i := by simpa using hj
  exact wpOp_of_list ho h (fun a w q => q)
theorem any_two_list {i j : Nat} {oi oj : Oper} {listed li lj : Array Bool} {fuel : Nat} {a : Act} {w : World} (hr : Region.ready md l.toArray listed = [i, j]) (hoi : l.toArray[i]? = some oi) (hoj : l.toArray[j]? = some oj) (hli : listed.setIfInBounds i true = li) (hlj : listed.setIfInBounds j true = lj)
    (h1 : wpList P l.toArray (QK Q (fun a w => wpAny P md l.toArray Q fuel li a w)) [oi] a w) (h2 : wpList P l.toArray (QK Q (fun a w => wpAny P md l.toArray Q fuel lj a w)) [oj] a w) : wpAny P md l.toArray Q (fuel + 1) listed a w := by
  subst hli hlj
  refine wpAny_all hr (by simp) (fun k hk => ?_)
  rcases List.mem_cons.1 hk with rfl | hk
  · exact wpOp_of_list hoi h1 (fun a w q => q)
  · obtain rfl : k = j := by simpa using hk
    exact wpOp_of_list hoj h2 (fun a w q => q)
theorem any_seq (hs : Region.noSelect l.toArray = true) (hQ : ∀ c a d v w, Q (.panic c) (a.put d v) w → Q (.panic c) a w) {fuel : Nat} : ∀ (k n : Nat) (a : Act) (w : World), natOk md l.toArray n k = true → n + k ≤ l.length → wpList P l.toArray (QK Q K) ((l.drop n).take k) a w →
    (∀ a w, K a w → wpAny P md l.toArray Q fuel (tf (n + k) l.length) a w) → wpAny P md l.toArray Q (fuel + k) (tf n l.length) a w
  | 0, n, a, w, _, _, h, hK => by
    have h' : QK Q K .normal a w := by simpa [wpList] using h
    exact hK a w h'
  | k + 1, n, a, w, hn, hl, h, hK => by
    have hlt : n < l.length := by omega
    have ho : l.toArray[n]? = some l[n] := by simp
    have hd : (l.drop n).take (k + 1) = l[n] :: (l.drop (n + 1)).take k := by rw [List.drop_eq_getElem_cons hlt, List.take_succ_cons]
    rw [hd] at h
    unfold natOk at hn
    rw [Bool.and_eq_true] at hn
    have ih : ∀ a w, wpList P l.toArray (QK Q K) ((l.drop (n + 1)).take k) a w → wpAny P md l.toArray Q (fuel + k) (tf (n + 1) l.length) a w := fun a w q =>
      any_seq hs hQ k (n + 1) a w hn.2 (by omega) q (by rw [show n + 1 + k = n + (k + 1) by omega]; exact hK)
    have h1 := hn.1
    unfold stepOk at h1
    rw [show l.toArray.size = l.length by simp, Bool.or_eq_true, Bool.and_eq_true, Bool.and_eq_true, beq_iff_eq, ho] at h1
    show wpAny P md l.toArray Q ((fuel + k) + 1) (tf n l.length) a w
    rcases h1 with q | ⟨⟨q1, q2⟩, q3⟩
    · refine wpAny_all q (by simp) (fun j hj => ?_)
      obtain rfl : j = n := by simpa using hj
      rw [tf_set hlt]
      exact wpOp_of_list ho h ih
    · have hy : Yields P l.toArray l[n] (if Region.wanted l[n] (yielded l.toArray a.tmps) = true then (match l[n].op with | .move x => a.eval x | _ => undef) else undef) a := by
        by_cases hw : Region.wanted l[n] (yielded l.toArray a.tmps) = true
        · refine .inl ⟨hw, fun w => ?_⟩
          rw [if_pos hw]
          generalize hgo : l[n] = o at q3 ⊢
          obtain ⟨d, op, ty, pos, af, gd⟩ := o
          simp only [isMove] at q3
          cases op <;> simp at q3
          rfl
        · exact .inr ⟨by simpa using hw, by rw [if_neg hw]⟩
      refine wpAny_take ho hs q2 q1 (fun c a w => hQ c a _ _ w) hy ?_
      rw [tf_set hlt]
      refine ih _ _ ?_
      unfold wpList at h
      by_cases hw : Region.wanted l[n] (yielded l.toArray a.tmps) = true
      · rw [if_pos hw] at h
        rw [if_pos hw]
        rcases hy with ⟨_, y2⟩ | ⟨y1, _⟩
        · rw [if_pos hw] at y2
          rcases h with h | h
          · unfold Oper.wp at h
            rw [y2 w] at h
            exact h
          · have := h.1.1
            exfalso
            generalize hgo : l[n] = o at q3 this
            obtain ⟨d, op, ty, pos, af, gd⟩ := o
            simp only [isMove] at q3
            cases op <;> simp at q3
            rename_i xx
            have h0 : (Sem.runT P (execOp a.eval { dst := d, op := Op.move xx, type := ty, pos := pos, after := af, guard := gd }) w #[]).2 = #[] := rfl
            rw [h0] at this
            simp at this
        · rw [hw] at y1; cases y1
      · rw [if_neg hw] at h
        rw [if_neg hw]
        exact h
theorem QK_self (Q : Exit → Act → World → Prop) : QK Q (fun a w => Q .normal a w) = Q := by
  funext e a w
  cases e <;> rfl
variable {ops : Array Oper} {a : Act} {w : World} {s f F k n : Nat}
/-- The beginning: the first k in the text's order. -/
theorem reg_seq {id : Nat} (he : l.toArray = ops) (hl : l.length = s) (hm : P.follows .mixedOrders = true) (hs : Region.noSelect ops = true) (hQ : ∀ c a d v w, Q (.panic c) (a.put d v) w → Q (.panic c) a w) (hn : natOk .any ops 0 k = true) (hf : f + k = s)
    (h : wpList P l.toArray (QK Q (fun a w => wpAny P .any l.toArray Q f (tf k s) a w)) (l.take k) a w.drew) : (Code.region id l.toArray true).wp P Q a w := by
  subst he
  refine wp_region_any hm ?_
  subst hl
  have e0 : Array.replicate l.toArray.size false = tf 0 l.length := by rw [tf_zero]; simp
  rw [e0, show l.toArray.size = f + k by simp [hf]]
  exact any_seq hs hQ k 0 a _ hn (by omega) (by simpa using h) (fun a w q => by rw [Nat.zero_add]; exact q)
/-- The next k in the text's order. -/
theorem mid_seq (he : l.toArray = ops) (hl : l.length = s) (hs : Region.noSelect ops = true) (hQ : ∀ c a d v w, Q (.panic c) (a.put d v) w → Q (.panic c) a w) (n k f m : Nat) (hn : natOk .any ops n k = true) (hm : m = n + k) (hF : F = f + k) (hk : m ≤ s)
    (h : wpList P l.toArray (QK Q (fun a w => wpAny P .any l.toArray Q f (tf m s) a w)) ((l.drop n).take k) a w) : wpAny P .any l.toArray Q F (tf n s) a w := by
  subst he hm hF hl
  exact any_seq hs hQ k n a _ hn hk h (fun a w q => q)
/-- The rest in the text's order. -/
theorem end_seq (he : l.toArray = ops) (hl : l.length = s) (hs : Region.noSelect ops = true) (hQ : ∀ c a d v w, Q (.panic c) (a.put d v) w → Q (.panic c) a w) (n : Nat) (hn : natOk .any ops n F = true) (hk : n + F = s) (hr : Region.ready .any ops (tf s s) = [])
    (h : wpList P l.toArray Q (l.drop n) a w) : wpAny P .any l.toArray Q F (tf n s) a w := by
  subst he hl
  have h0 := any_seq (K := fun a w => Q .normal a w) (fuel := 0) hs hQ F n a w hn (by omega) (by rw [QK_self, List.take_of_length_le (by simp; omega)]; exact h) (fun a w q => by rw [hk]; exact wpAny_done hr q 0)
  rwa [Nat.zero_add] at h0
/-- One alone may come up. -/
theorem one_seq {i : Nat} {o : Oper} {listed : Array Bool} (he : l.toArray = ops) (listed' : Array Bool) (hr : Region.ready .any ops listed = [i]) (ho : l.toArray[i]? = some o) (hl : listed.setIfInBounds i true = listed')
    (h : wpList P l.toArray (QK Q (fun a w => wpAny P .any l.toArray Q f listed' a w)) [o] a w) : wpAny P .any l.toArray Q (f + 1) listed a w := by
  subst he
  exact any_one_list hr ho hl h
/-- Two may come up. -/
theorem two_seq {i j : Nat} {oi oj : Oper} {listed : Array Bool} (he : l.toArray = ops) (li lj : Array Bool) (hr : Region.ready .any ops listed = [i, j]) (hoi : l.toArray[i]? = some oi) (hoj : l.toArray[j]? = some oj) (hli : listed.setIfInBounds i true = li) (hlj : listed.setIfInBounds j true = lj)
    (h1 : wpList P l.toArray (QK Q (fun a w => wpAny P .any l.toArray Q f li a w)) [oi] a w) (h2 : wpList P l.toArray (QK Q (fun a w => wpAny P .any l.toArray Q f lj a w)) [oj] a w) : wpAny P .any l.toArray Q (f + 1) listed a w := by
  subst he
  exact any_two_list hr hoi hoj hli hlj h1 h2
theorem wpOp_ok {i : Nat} {o : Oper} {v : Value} {K' : Act → World → Prop} (ho : ops[i]? = some o) (hw : Region.wanted o (yielded ops a.tmps) = true) (hv : (execOp a.eval o).run P w = .ok (.value v) w) (h : K' (a.put o.dst v) w) : wpOp P ops Q i K' a w := by
  unfold wpOp
  simp only [ho]
  simp only [hw, if_true, Oper.wp, hv, Oper.upon]
  exact .inl h
/-- Two that read may come up: their order is all one. -/
theorem pair_seq {i j : Nat} {oi oj : Oper} {listed : Array Bool} {v u : Value} (he : l.toArray = ops) (listed' : Array Bool) (hs : Region.noSelect ops = true) (hr : Region.ready .any ops listed = [i, j]) (hri : Region.ready .any ops (listed.setIfInBounds i true) = [j]) (hrj : Region.ready .any ops (listed.setIfInBounds j true) = [i])
    (hoi : l.toArray[i]? = some oi) (hoj : l.toArray[j]? = some oj) (hap : oi.apart l.toArray oj = true) (hl : (listed.setIfInBounds i true).setIfInBounds j true = listed') (hl2 : (listed.setIfInBounds j true).setIfInBounds i true = listed')
    (hwi : Region.wanted oi (yielded l.toArray a.tmps) = true) (hwj : Region.wanted oj (yielded l.toArray a.tmps) = true) (hvi : (execOp a.eval oi).run P w = .ok (.value v) w) (hvj : (execOp a.eval oj).run P w = .ok (.value u) w)
    (h : wpAny P .any l.toArray Q f listed' ((a.put oi.dst v).put oj.dst u) w) : wpAny P .any l.toArray Q (f + 2) listed a w := by
  subst he
  obtain ⟨p1, p2, p3⟩ := Oper.apart_spec hap
  have si := Region.noSelect_spec hs i oi
  have sj := Region.noSelect_spec hs j oj
  refine wpAny_all hr (by simp) (fun k hk => ?_)
  rcases List.mem_cons.1 hk with rfl | hk
  · refine wpOp_ok hoi hwi hvi ?_
    refine wpAny_all hri (by simp) (fun m hm => ?_)
    obtain rfl : m = j := by simpa using hm
    refine wpOp_ok hoj (by rw [wanted_put oj a oi.dst v p1]; exact hwj) (by rw [execOp_put oj (fun cs b => sj cs b hoj) a oi.dst v p1]; exact hvj) ?_
    rw [hl]; exact h
  · obtain rfl : k = j := by simpa using hk
    refine wpOp_ok hoj hwj hvj ?_
    refine wpAny_all hrj (by simp) (fun m hm => ?_)
    obtain rfl : m = i := by simpa using hm
    refine wpOp_ok hoi (by rw [wanted_put oi a oj.dst u p3]; exact hwi) (by rw [execOp_put oi (fun cs b => si cs b hoi) a oj.dst u p3]; exact hvi) ?_
    rw [hl2, ← Act.put_comm a v u p2]; exact h
theorem qk_normal (h : K a w) : QK Q K .normal a w := h
end
/-- A region of a function's code, by its number. -/
def findReg (n : Nat) : Code → Option Code
  | .region id ops b => if id = n then some (.region id ops b) else none
  | .seq a b => match findReg n a with
    | some c => some c
    | none => findReg n b
  | .block _ c => findReg n c
  | .loop c => findReg n c
  | .scope c => findReg n c
  | .cond _ a b => match findReg n a with
    | some c => some c
    | none => findReg n b
  | _ => none
def rgOps (n : Nat) (o : Option Code) : Array Oper := match o.bind (findReg n) with
  | some (.region _ ops _) => ops
  | _ => #[]
end Go.Proofs.YtmhojaiajhdlcaaGreat
namespace Go.Proofs.YtmhojaiajhdlcaaGreat
set_option linter.unusedVariables false
/-- What stands behind a region that is a statement by itself, wherever it stands. -/
def restAt (n : Nat) : Code → Option Code
  | .seq a b => match a with
    | .region id ops m => if id = n then some b else restAt n b
    | _ => match restAt n a with
      | some c => some c
      | none => restAt n b
  | .block _ c => restAt n c
  | .loop c => restAt n c
  | .scope c => restAt n c
  | .cond _ a b => match restAt n a with
    | some c => some c
    | none => restAt n b
  | _ => none
def regAtOf (n : Nat) (o : Option Code) : Code := (o.bind (findReg n)).getD .skip
def restAtOf (n : Nat) (o : Option Code) : Code := (o.bind (restAt n)).getD .skip
end Go.Proofs.YtmhojaiajhdlcaaGreat
namespace Go.Proofs.YtmhojaiajhdlcaaGreat
open Go.ChangeShapes Go.WideShapes Go.ChangeAt Go.RowKit Go.Deep
set_option linter.unusedSimpArgs false
set_option linter.unusedVariables false
section
variable {H : Type} {enc : TypeId × Value → H} {P : Program} {w : World} {b0 : Nat} {held : Bool}
theorem el_fields {e : TypeId} {fs : Array Field} {n : Nat} {cs : List Value} {y : DataW H × List MemPlace} (he : P.underlying e = some (.struct fs)) (hone : oneCellFields P fs = true) (hC : cs.length = fs.size)
    (h : DataW.trod enc P w 0 (fun _ => true) held n e cs = some y) (j : Nat) (f : Field) (hj : fs[j]? = some f) : ∃ (n' : Nat) (v : Value) (z : DataW H × List MemPlace), cs[j]? = some v ∧ DataW.trod enc P w 0 (fun _ => true) held n' f.type [v] = some z := by
  obtain ⟨ys, n', hn', hy, hlen, hyl, hf⟩ := DataW.trod_struct he h
  obtain ⟨ho, hk⟩ := hone_of hone j f hj
  have hjl : j < fs.size := (Array.getElem?_eq_some_iff.1 hj).1
  have h1 := hf j f hj
  rw [ho, hk] at h1
  have hone' : (cs.drop j).take 1 = [cs[j]'(by omega)] := by
    rw [List.drop_eq_getElem_cons (by omega)]; rfl
  rw [hone'] at h1
  have hys : ys[j]? = some (ys[j]'(by omega)) := List.getElem?_eq_getElem (by omega)
  exact ⟨n', _, _, List.getElem?_eq_getElem (by omega), h1.trans hys⟩
theorem open_rdN {α : Type} [Inhabited α] (sz : Nat) (c : α → List Value) (good : α → Prop) {t e : TypeId} {v : Value} {d : DataW H} {p : List MemPlace} (ht : P.underlying t = some (.slice e)) (hc : P.cellsOf e = sz) (hpos : 0 < sz)
    (hel : ∀ n cs y, cs.length = sz → DataW.trod enc P w 0 (fun _ => true) held n e cs = some y → ∃ x, cs = c x ∧ good x)
    (hval : Value.okWide P w .any b0 t v) (h : DataW.Trod enc P w 0 (fun _ => true) held t v d p) :
    ∃ l : List α, RdN sz c w v l ∧ (∀ x ∈ l, good x) ∧ (∀ (ts : List TypeId) (ds : List (DataW H)) (j : Nat), (DataW.weightsEach P ts ds).all (· ≤ reachBytes) = true → ts[j]? = some t → ds[j]? = some d → l.length * P.bytesOf e ≤ reachBytes) ∧ DLen d l.length := by
  obtain ⟨a0, len0, cap0, rfl⟩ := okWide_slice ht hval
  obtain ⟨fuel, hf⟩ := h
  rcases open_slice ht hf with ⟨hcs, hx⟩ | ⟨a, len, cap, m, n, D, Pl, hcs, hb, hl, hm, hmm, hx, hi⟩
  · simp [Value.cells] at hcs
    obtain ⟨rfl, rfl, rfl⟩ := hcs
    exact ⟨[], ⟨none, 0, rfl, Nat.le_refl _, Nat.zero_le _, fun q => absurd rfl q⟩, by simp, by intros; simp, .inl rfl⟩
  · simp [Value.cells] at hcs
    obtain ⟨rfl, rfl, rfl⟩ := hcs
    simp only [if_true] at hmm
    subst hmm
    obtain ⟨l, hl', hp⟩ := exists_list len0 (fun i x => w.cells? 0 (a.add (i * sz)) sz = some (c x) ∧ good x) (fun i hi' => by
      obtain ⟨cs', hc1, hc2⟩ := hi i (by omega)
      rw [hc] at hc1
      obtain ⟨_, hcl, _⟩ := World.cells?_some hc1
      obtain ⟨x, rfl, hg⟩ := hel _ _ _ hcl hc2
      exact ⟨x, hc1, hg⟩)
    refine ⟨l, ?_, ?_, ?_, ?_⟩
    · refine ⟨_, _, by rw [hl'], by omega, hm, fun hne => ?_⟩
      have hpos' : 0 < len0 := by rw [← hl']; exact List.length_pos_iff.2 hne
      obtain ⟨b, off, spot⟩ := a
      have hspot : spot = none := by
        have h0 := (hp 0 (by omega)).1
        obtain ⟨_, hcl, hat⟩ := World.cells?_some h0
        have h1 := hat 0 hpos
        rw [List.getElem?_eq_getElem (by omega)] at h1
        simpa [Addr.add] using World.cell?_spot h1
      subst hspot
      refine ⟨b, off, rfl, fun j hj i hi' => ?_⟩
      obtain ⟨_, hcl, hat⟩ := World.cells?_some (hp j (by omega)).1
      have h1 := hat i hi'
      rw [add_none, add_none] at h1
      rw [← Nat.add_assoc]; exact h1
    · intro x hx'
      obtain ⟨i, hi', rfl⟩ := List.mem_iff_getElem.1 hx'
      have := (hp i (by omega)).2
      rwa [nth_get l i hi'] at this
    · intro ts ds j hall htj hdj
      have hd := congrArg Prod.fst hx
      simp only at hd
      rw [hd] at hdj
      have := sized_slice hall htj hdj ht
      simp only [List.length_map, List.length_range] at this
      exact Nat.le_trans (Nat.mul_le_mul_right _ (by omega)) this
    · exact .inr ⟨_, _, congrArg Prod.fst hx, by simp [hl']⟩
end
end Go.Proofs.YtmhojaiajhdlcaaGreat
namespace Go.Proofs.YtmhojaiajhdlcaaGreat
open Go.ChangeShapes Go.WideShapes Go.ChangeAt Go.RowKit Go.Deep
set_option linter.unusedSimpArgs false
set_option linter.unusedVariables false
/-- An ask. -/
structure Ask24 where
  kd : Int
  slot : Int
  n : Int
  data : ByteArray
instance : Inhabited Ask24 := ⟨⟨0, 0, 0, .empty⟩⟩
abbrev ask24Cells (x : Ask24) : List Value := [.int .i64 x.kd, .int .i64 x.slot, .int .i64 x.n, .string x.data]
structure Ask24Good (x : Ask24) : Prop where
  kd : I64 x.kd
  slot : I64 x.slot
  n : I64 x.n
  sz : x.data.size ≤ maxLen
theorem cells_ask24 : Tryz.prog.cellsOf 74 = 4 := by kernel_rfl
set_option maxRecDepth 100000 in
theorem el_ask24 {H : Type} {enc : TypeId × Value → H} {w : World} (n : Nat) (cs : List Value) (y : DataW H × List MemPlace) (hl : cs.length = 4) (h : DataW.trod enc Tryz.prog w 0 (fun _ => true) true n 74 cs = some y) :
    ∃ x : Ask24, cs = ask24Cells x ∧ Ask24Good x := by
  obtain ⟨_, v0, _, h0, t0⟩ := el_fields Tryz.underlying74 (by kernel_rfl) hl h 0 _ rfl
  obtain ⟨_, v1, _, h1, t1⟩ := el_fields Tryz.underlying74 (by kernel_rfl) hl h 1 _ rfl
  obtain ⟨_, v2, _, h2, t2⟩ := el_fields Tryz.underlying74 (by kernel_rfl) hl h 2 _ rfl
  obtain ⟨_, v3, _, h3, t3⟩ := el_fields Tryz.underlying74 (by kernel_rfl) hl h 3 _ rfl
  obtain ⟨k0, rfl, g0⟩ := el_int Tryz.underlying3 _ _ _ t0
  obtain ⟨k1, rfl, g1⟩ := el_int Tryz.underlying3 _ _ _ t1
  obtain ⟨k2, rfl, g2⟩ := el_int Tryz.underlying3 _ _ _ t2
  obtain ⟨s, hs1, -, hsz⟩ := DataW.trod_string Tryz.underlying9 t3
  simp at hs1
  subst hs1
  match cs, hl with
  | [c0, c1, c2, c3], _ =>
    simp at h0 h1 h2 h3
    exact ⟨⟨k0, k1, k2, s⟩, by rw [h0, h1, h2, h3], ⟨i64_of g0, i64_of g1, i64_of g2, hsz⟩⟩
set_option maxRecDepth 100000 in
/-- Asks that are handed in. -/
theorem open_asks24 {H : Type} {enc : TypeId × Value → H} {w : World} {b0 : Nat} {v : Value} {d : DataW H} {p : List MemPlace} (hval : Value.okWide Tryz.prog w .any b0 72 v) (h : DataW.Trod enc Tryz.prog w 0 (fun _ => true) true 72 v d p) :
    ∃ l : List Ask24, RdN 4 ask24Cells w v l ∧ ∀ x ∈ l, Ask24Good x := by
  obtain ⟨l, h1, h2, -⟩ := open_rdN 4 ask24Cells Ask24Good Tryz.underlying72 cells_ask24 (by omega) (fun n cs y hl h => el_ask24 n cs y hl h) hval h
  exact ⟨l, h1, h2⟩
abbrev ask24Val (x : Ask24) : Value := .agg #[.int .i64 x.kd, .int .i64 x.slot, .int .i64 x.n, .string x.data]
set_option maxRecDepth 100000 in
/-- An ask that is handed in. -/
theorem open_ask24 {H : Type} {enc : TypeId × Value → H} {w : World} {b0 : Nat} {v : Value} {d : DataW H} {p : List MemPlace} (hval : Value.okWide Tryz.prog w .any b0 74 v) (h : DataW.Trod enc Tryz.prog w 0 (fun _ => true) true 74 v d p) :
    ∃ x : Ask24, v = ask24Val x ∧ Ask24Good x := by
  obtain ⟨cs, rfl, hsz⟩ := okWide_struct Tryz.underlying74 hval
  obtain ⟨fuel, hf⟩ := h
  rw [cells_ask24] at hsz
  have hcl : (Value.agg cs).cells.toList.length = 4 := by simpa [Value.cells] using hsz
  obtain ⟨x, hx, hg⟩ := el_ask24 fuel _ _ (by simpa [Value.cells] using hsz) hf
  refine ⟨x, ?_, hg⟩
  have h1 : cs.toList = ask24Cells x := by simpa [Value.cells] using hx
  have h2 : cs = (ask24Cells x).toArray := by rw [← h1]
  rw [h2]
abbrev flv (x : Bool) : Value := .bool x
theorem cells_flags : Tryz.checked.prog.cellsOf 4 = 1 := by kernel_rfl
end Go.Proofs.YtmhojaiajhdlcaaGreat
namespace Go.Proofs.YtmhojaiajhdlcaaGreat
open Go.RowKit
set_option linter.unusedSimpArgs false
set_option linter.unusedVariables false
abbrev sTwo : ByteArray := ⟨#[116, 119, 111]⟩
/-- A text, cut to 300 bytes. -/
def cut3 (d : ByteArray) : ByteArray := if 300 < d.size then d.extract 0 300 else d
theorem cut3_size (d : ByteArray) : (cut3 d).size ≤ 300 := by
  unfold cut3
  split
  · rw [ByteArray.size_extract]; omega
  · omega
/-- The changes of an ask. -/
def setL (x : Ask24) : List Ch :=
  if x.kd = 2 then [(x.slot, cut3 x.data), (x.n, sTwo)] else if x.kd = 5 then [(x.slot, zs (within x.n 0 90000).toNat)] else [(x.slot, cut3 x.data)]
theorem setL_len (x : Ask24) : 1 ≤ (setL x).length ∧ (setL x).length ≤ 2 := by
  unfold setL; split
  · simp
  · split <;> simp
theorem within_nat9 (y : Int) : ∃ m : Nat, within y 0 90000 = (m : Int) ∧ m ≤ 90000 := by
  have h := within_nat y 90000
  obtain ⟨m, h1, h2⟩ := h
  exact ⟨m, h1, h2⟩
theorem setL_ok (x : Ask24) (hs : I64 x.slot) (hn : I64 x.n) : ∀ c ∈ setL x, I64 c.1 ∧ c.2.size ≤ 1000000 := by
  have h3 := cut3_size x.data
  obtain ⟨m, h1, h2⟩ := within_nat9 x.n
  unfold setL
  split
  · intro c hc
    rcases List.mem_cons.1 hc with rfl | hc
    · exact ⟨hs, by dsimp only; omega⟩
    · rw [List.mem_singleton.1 hc]; exact ⟨hn, by show sTwo.size ≤ 1000000; decide⟩
  · split
    · intro c hc
      rw [List.mem_singleton.1 hc, h1]
      exact ⟨hs, by dsimp only; rw [zs_size]; omega⟩
    · intro c hc
      rw [List.mem_singleton.1 hc]
      exact ⟨hs, by dsimp only; omega⟩
section
variable {w W : World} {g : Nat} {e : TypeId}
theorem chBlk_one (c : Ch) (hb : Blk w g e (chCells c)) : RdN 2 chCells w (.slice (some ⟨g, 0, none⟩) 1 1) [c] := by
  refine ⟨_, 1, rfl, by simp, by simp [maxLen], fun _ => ⟨g, 0, rfl, fun j hj i hi => ?_⟩⟩
  have hj0 : j = 0 := by simpa using hj
  subst hj0
  rw [Nat.zero_mul, Nat.zero_add, Nat.zero_add, hb.cell, nth_cons_zero]
theorem chBlk_own (c : Ch) (hb : Blk w g e (chCells c)) {base : Nat} (hg : base ≤ g) : OwnN 2 chCells base e w (.slice (some ⟨g, 0, none⟩) 1 1) [c] :=
  ⟨by simp, .inr ⟨g, 1, (chCells c).toArray, rfl, hg, hb, by simp, by simp [maxLen], by simp, by simp⟩⟩
end
theorem undRch : Tryz.prog.underlying 80 = some (.slice 137) := Tryz.underlying80
theorem infoRch : (Tryz.prog.info? 137).map (fun i => (i.zero, i.size, i.bytes)) = some (some (.agg #[.int .i64 0, .string .empty]), 2, 24) := by kernel_rfl
theorem three (W : World) (xs ys zs : List Value) (e f g : TypeId) {X : World} (hX : ((W.alloc (.cells xs.toArray e)).alloc (.cells ys.toArray f)).alloc (.cells zs.toArray g) = X) : Blk X W.heap.size e xs ∧ Blk X (W.heap.size + 1) f ys ∧ Blk X (W.heap.size + 1 + 1) g zs ∧ Upd [] W X ∧ X.heap.size = W.heap.size + 1 + 1 + 1 := by
  have s1 : (W.alloc (.cells xs.toArray e)).heap.size = W.heap.size + 1 := by simp
  have s2 : ((W.alloc (.cells xs.toArray e)).alloc (.cells ys.toArray f)).heap.size = W.heap.size + 1 + 1 := by simp
  have s3 : (((W.alloc (.cells xs.toArray e)).alloc (.cells ys.toArray f)).alloc (.cells zs.toArray g)).heap.size = W.heap.size + 1 + 1 + 1 := by simp
  have b1 := Blk.new W e xs
  have b2 := Blk.new (W.alloc (.cells xs.toArray e)) f ys
  have b3 := Blk.new ((W.alloc (.cells xs.toArray e)).alloc (.cells ys.toArray f)) g zs
  rw [s1] at b2
  rw [s2] at b3
  subst hX
  exact ⟨b1.upd (((Upd.refl [] _).alloc _).alloc _) (by simp), b2.upd ((Upd.refl [] _).alloc _) (by simp), b3, ((((Upd.refl [] W).alloc _).alloc _).alloc _), s3⟩
theorem conv_zero (n : Nat) (g : Nat) (u : World) (h : Bytes u (.slice (some ⟨g, 0, none⟩) n n) (List.replicate n 0)) : (convert 28 9 (.slice (some ⟨g, 0, none⟩) n n)).run Tryz.prog u = .ok (.string (zs n)) u :=
  convb_str (P := Tryz.prog) Tryz.underlying28 Tryz.underlying5 Tryz.underlying9 _ _ (List.replicate n 0) h
set_option maxRecDepth 100000 in
set_option maxHeartbeats 8000000 in
theorem sets_any (x : Ask24) (hx : Ask24Good x) (W : World) {l : List Ch} (hl : setL x = l) :
    Calls Tryz.prog 38 #[ask24Val x] W fun e w => ∃ a k a' k', e = .returned (.tuple #[.slice a l.length k, .slice a' l.length k']) ∧ Hid (RdN 2 chCells w (.slice a l.length k) l) ∧ Hid (RdN 2 chCells w (.slice a' l.length k') l) ∧ Hid (∀ b ∈ blk (.slice a l.length k), W.heap.size ≤ b) ∧ Hid (∀ b ∈ blk (.slice a' l.length k'), W.heap.size ≤ b) ∧ Upd [] W w := by
  subst hl
  obtain ⟨kd, slot, n, data⟩ := x
  have hkd : I64 kd := hx.kd
  have hsl : I64 slot := hx.slot
  have hn : I64 n := hx.n
  have hsz : data.size ≤ maxLen := hx.sz
  have hm : (data.size : Int) ≤ 9223372036854775807 := by unfold maxLen at hsz; omega
  unfold I64 at hkd hn
  clear hx hsl hsz
  by_cases hb : 300 < data.size
  · have q1 : (300 : Int) < (data.size : Int) := by omega
    have hd : cut3 data = data.extract 0 300 := by unfold cut3; rw [if_pos hb]
    clear hb
    by_cases h2 : kd = 2
    · subst h2
      have hL : setL ⟨2, slot, n, data⟩ = [(slot, data.extract 0 300), (n, sTwo)] := by unfold setL; rw [if_pos rfl, hd]
      clear hkd
      rw [hL]
      obtain ⟨X, hX⟩ : ∃ X, ((W.alloc (.cells #[.int .i64 2, .int .i64 slot, .int .i64 n, .string data] 74)).alloc (.cells #[.int .i64 slot, .string (data.extract 0 300)] 136)).alloc (.cells #[.int .i64 slot, .string (data.extract 0 300)] 137) = X := ⟨_, rfl⟩
      have HX := Lib.hid hX
      clear hX
      go_enter Tryz.func38, Tryz.ntmps38
      go_upto_region 7 with fail
      rw [HX.out]
      obtain ⟨B0, B1, B2, U, hsz⟩ := three W _ _ _ _ _ _ HX.out
      have cn := B0.cell 2
      have u3 : Upd [] X (X.alloc (.cells #[.int .i64 n, .string sTwo] 136)) := (Upd.refl [] X).alloc _
      have HRUN1 := Lib.hid (fun ty => run_appN (P := Tryz.prog) (ty := ty) chCells_len (by decide) chCells_one undCh infoCh rfl (.slice (some ⟨W.heap.size + 1, 0, none⟩) 1 1) (.slice (some ⟨X.heap.size, 0, none⟩) 1 1) [(slot, data.extract 0 300)] [(n, sTwo)] (chBlk_own (slot, data.extract 0 300) (B1.upd u3 (by simp)) (base := W.heap.size) (by omega)) (ch_one (n, sTwo) rfl rfl) (by simp) (by simp [maxLen]) (by simp; omega))
      have HSZ := Lib.hid hsz
      have HB0 := Lib.hid (B0.upd u3 (by simp))
      have HB2 := Lib.hid (B2.upd u3 (by simp))
      have HU := Lib.hid (U.seq u3)
      clear HX hsz B0 B1 B2 U u3 hd
      dsimp only [List.getElem?_cons_succ, List.getElem?_cons_zero] at cn
      go_wp2_with (at_builtin; go_must (first
        | (refine wpList_app_of rfl (.tmp 28) (.tmp 32) rfl (.slice (some ⟨W.heap.size + 1, 0, none⟩) 1 1) (.slice (some ⟨X.heap.size, 0, none⟩) 1 1) rfl rfl (HRUN1.out _) ?_; rintro v7 w7 ⟨ho7, hu7, hk7⟩; have HO7 := Lib.hid ho7; have HK7 := Lib.hid hk7; obtain ⟨a7, k7, rfl, -⟩ := ho7.rd chCells_len; have hb0 := HB0.out.upd hu7 (by simp [blk] <;> omega); have hb2 := HB2.out.upd hu7 (by simp [blk] <;> omega); have HU7 := Lib.hid (HU.out.trans (T := []) hu7 (by simp) (fun x hx => .inr (by simp [blk] at hx; omega))); have cn := hb0.cell 2; have ck := hb0.cell 0; dsimp only [List.getElem?_cons_succ, List.getElem?_cons_zero] at cn ck; have u4 : Upd [] w7 (w7.alloc (.cells #[.int .i64 n, .string sTwo] 137)) := (Upd.refl [] w7).alloc _; have hg := HU7.out.size; have HRUN2 := Lib.hid (fun ty => run_appN (P := Tryz.prog) (ty := ty) chCells_len (by decide) chCells_one undRch infoRch rfl (.slice (some ⟨W.heap.size + 1 + 1, 0, none⟩) 1 1) (.slice (some ⟨w7.heap.size, 0, none⟩) 1 1) [(slot, data.extract 0 300)] [(n, sTwo)] (chBlk_own (slot, data.extract 0 300) (hb2.upd u4 (by simp)) (base := W.heap.size) (by omega)) (chBlk_one (n, sTwo) (Blk.new w7 _ _)) (by simp) (by simp [maxLen]) (by simp; omega)); have HC0 := Lib.hid (hb0.upd u4 (by simp)); have HV7 := Lib.hid (HO7.out.upd u4 (by simp)); have HU8 := Lib.hid (HU7.out.seq u4); clear ho7 hu7 hk7 hb0 hb2 HU7 u4 hg HO7 HRUN1 HB0 HB2 HU; dsimp only)
        | (refine wpList_app_of rfl (.tmp 34) (.tmp 38) rfl (.slice (some ⟨W.heap.size + 1 + 1, 0, none⟩) 1 1) (.slice (some ⟨w7.heap.size, 0, none⟩) 1 1) rfl rfl (HRUN2.out _) ?_; rintro v8 w8 ⟨ho8, hu8, hk8⟩; have HR8 := Lib.hid (ho8.rd chCells_len); have HK8 := Lib.hid hk8; obtain ⟨a8, k8, rfl, -⟩ := HR8.out; have hc0 := HC0.out.upd hu8 (by simp [blk] <;> omega); have ck := hc0.cell 0; dsimp only [List.getElem?_cons_succ, List.getElem?_cons_zero] at ck; have HU8' := Lib.hid hu8; clear ho8 hu8 hk8 hc0; dsimp only)))
      have hs3 := HSZ.out
      have RD7 : Hid (RdN 2 chCells w8 (.slice a7 2 k7) [(slot, data.extract 0 300), (n, sTwo)]) := (HV7.out.upd HU8'.out (fun x hx hy => by
        rcases HK7.out x hx with h | h
        · simp [blk] at h hy; omega
        · simp [blk] at h hy; omega)).rd chCells_len
      have hge := HU8.out.size
      have GE7 : Hid (∀ b ∈ blk (.slice a7 2 k7), W.heap.size ≤ b) := fun b hb => by
        rcases HK7.out b hb with h | h
        · simp [blk] at h; omega
        · simp at h; omega
      have GE8 : Hid (∀ b ∈ blk (.slice a8 2 k8), W.heap.size ≤ b) := fun b hb => by
        rcases HK8.out b hb with h | h
        · simp [blk] at h; omega
        · exact Nat.le_trans hge h
      have HUU := Lib.hid (HU8.out.trans (T := []) HU8'.out (by simp) (fun x hx => .inr (by simp [blk] at hx; omega)))
      refine bodyPost_ret (v := .tuple #[.slice a7 2 k7, .slice a8 2 k8]) (by simp [results, Tryz.results38, go_sem]; try rfl) rfl ?_
      exact ⟨_, _, _, _, rfl, RD7, HR8, GE7, GE8, HUU.out⟩
    · by_cases h5 : kd = 5
      · subst h5
        obtain ⟨m, hwm, hm9⟩ := within_nat9 n
        have hL : setL ⟨5, slot, n, data⟩ = [(slot, zs m)] := by unfold setL; rw [if_neg h2, if_pos rfl, hwm]; rfl
        rw [hL]
        clear hkd h2 hd
        obtain ⟨X, hX⟩ : ∃ X, ((W.alloc (.cells #[.int .i64 5, .int .i64 slot, .int .i64 n, .string data] 74)).alloc (.cells #[.int .i64 slot, .string (data.extract 0 300)] 136)).alloc (.cells #[.int .i64 slot, .string (data.extract 0 300)] 137) = X := ⟨_, rfl⟩
        have HX := Lib.hid hX
        clear hX
        go_enter Tryz.func38, Tryz.ntmps38
        go_upto_region 10 with fail
        rw [HX.out]
        obtain ⟨B0, B1, B2, U, hsz⟩ := three W _ _ _ _ _ _ HX.out
        have cn := B0.cell 2
        dsimp only [List.getElem?_cons_succ, List.getElem?_cons_zero] at cn
        go_wp2_with fail
        (with_reducible refine (within_any n 0 90000 X hn (by omega) (by omega) (by omega)).mono ?_)
        rw [hwm]
        rintro e w9 ⟨rfl, rfl⟩
        obtain ⟨zf, hz1, hz2, hz3, -⟩ := make_zero m (m : Int) rfl (by omega)
        have hz2 := hz2 X
        have hz3 := hz3 X
        have hv1 := conv_zero m X.heap.size (zf X) hz3
        have b1 := B1.upd hz2 (by simp)
        have b2 := B2.upd hz2 (by simp)
        have c1 := b1.cell 1
        have f1 := b1.frozen 1
        have U1 : Upd [W.heap.size + 1] (zf X) ((zf X).setCell ⟨W.heap.size + 1, 1, none⟩ (.string (zs m))) := (Upd.refl _ (zf X)).setCell _ _ (.inl (by simp))
        have hv2 := conv_zero m X.heap.size _ (hz3.upd U1 (by simp [blk]; omega))
        have bb2 := b2.upd U1 (by simp)
        have c2 := bb2.cell 1
        have f2 := bb2.frozen 1
        have U2 : Upd [W.heap.size + 1 + 1] ((zf X).setCell ⟨W.heap.size + 1, 1, none⟩ (.string (zs m))) (((zf X).setCell ⟨W.heap.size + 1, 1, none⟩ (.string (zs m))).setCell ⟨W.heap.size + 1 + 1, 1, none⟩ (.string (zs m))) := (Upd.refl _ _).setCell _ _ (.inl (by simp))
        have HR1 := Lib.hid (chBlk_one (slot, zs m) ((b1.set_ 1 (.string (zs m))).upd U2 (by simp)))
        have HR2 := Lib.hid (chBlk_one (slot, zs m) (bb2.set_ 1 (.string (zs m))))
        have HUU := Lib.hid (((U.seq hz2).trans (T := []) U1 (by simp) (fun x hx => .inr (by simp at hx; omega))).trans (T := []) U2 (by simp) (fun x hx => .inr (by simp at hx; omega)))
        dsimp only [List.getElem?_cons_succ, List.getElem?_cons_zero] at c1 c2
        rw [hsz] at hv1 hv2
        clear U1 U2 U b1 b2 bb2 hz2 hz3 B0 B1 B2 HX hwm
        go_wp2_with fail
        refine bodyPost_ret (v := .tuple #[.slice (some ⟨W.heap.size + 1, 0, none⟩) 1 1, .slice (some ⟨W.heap.size + 1 + 1, 0, none⟩) 1 1]) (by simp [results, Tryz.results38, go_sem]; try rfl) rfl ?_
        exact ⟨_, _, _, _, rfl, HR1, HR2, fun b hb => by simp [blk] at hb; omega, fun b hb => by simp [blk] at hb; omega, HUU.out⟩
      · have hL : setL ⟨kd, slot, n, data⟩ = [(slot, data.extract 0 300)] := by unfold setL; rw [if_neg h2, if_neg h5, hd]
        rw [hL]
        clear hd
        obtain ⟨X, hX⟩ : ∃ X, ((W.alloc (.cells #[.int .i64 kd, .int .i64 slot, .int .i64 n, .string data] 74)).alloc (.cells #[.int .i64 slot, .string (data.extract 0 300)] 136)).alloc (.cells #[.int .i64 slot, .string (data.extract 0 300)] 137) = X := ⟨_, rfl⟩
        have HX := Lib.hid hX
        clear hX
        go_enter Tryz.func38, Tryz.ntmps38
        go_upto_region 13 with fail
        rw [HX.out]
        obtain ⟨B0, B1, B2, U, hsz⟩ := three W _ _ _ _ _ _ HX.out
        have HB1 := Lib.hid B1
        have HB2 := Lib.hid B2
        have HU := Lib.hid U
        clear B0 B1 B2 U HX
        go_wp2_with fail
        refine bodyPost_ret (v := .tuple #[.slice (some ⟨W.heap.size + 1, 0, none⟩) 1 1, .slice (some ⟨W.heap.size + 1 + 1, 0, none⟩) 1 1]) (by simp [results, Tryz.results38, go_sem]; try rfl) rfl ?_
        exact ⟨_, _, _, _, rfl, chBlk_one (slot, data.extract 0 300) HB1.out, chBlk_one (slot, data.extract 0 300) HB2.out, fun b hb => by simp [blk] at hb; omega, fun b hb => by simp [blk] at hb; omega, HU.out⟩
  · have q1 : ¬ (300 : Int) < (data.size : Int) := by omega
    have hd : cut3 data = data := by unfold cut3; rw [if_neg hb]
    clear hb
    by_cases h2 : kd = 2
    · subst h2
      have hL : setL ⟨2, slot, n, data⟩ = [(slot, data), (n, sTwo)] := by unfold setL; rw [if_pos rfl, hd]
      clear hkd
      rw [hL]
      obtain ⟨X, hX⟩ : ∃ X, ((W.alloc (.cells #[.int .i64 2, .int .i64 slot, .int .i64 n, .string data] 74)).alloc (.cells #[.int .i64 slot, .string (data)] 136)).alloc (.cells #[.int .i64 slot, .string (data)] 137) = X := ⟨_, rfl⟩
      have HX := Lib.hid hX
      clear hX
      go_enter Tryz.func38, Tryz.ntmps38
      go_upto_region 7 with fail
      rw [HX.out]
      obtain ⟨B0, B1, B2, U, hsz⟩ := three W _ _ _ _ _ _ HX.out
      have cn := B0.cell 2
      have u3 : Upd [] X (X.alloc (.cells #[.int .i64 n, .string sTwo] 136)) := (Upd.refl [] X).alloc _
      have HRUN1 := Lib.hid (fun ty => run_appN (P := Tryz.prog) (ty := ty) chCells_len (by decide) chCells_one undCh infoCh rfl (.slice (some ⟨W.heap.size + 1, 0, none⟩) 1 1) (.slice (some ⟨X.heap.size, 0, none⟩) 1 1) [(slot, data)] [(n, sTwo)] (chBlk_own (slot, data) (B1.upd u3 (by simp)) (base := W.heap.size) (by omega)) (ch_one (n, sTwo) rfl rfl) (by simp) (by simp [maxLen]) (by simp; omega))
      have HSZ := Lib.hid hsz
      have HB0 := Lib.hid (B0.upd u3 (by simp))
      have HB2 := Lib.hid (B2.upd u3 (by simp))
      have HU := Lib.hid (U.seq u3)
      clear HX hsz B0 B1 B2 U u3 hd
      dsimp only [List.getElem?_cons_succ, List.getElem?_cons_zero] at cn
      go_wp2_with (at_builtin; go_must (first
        | (refine wpList_app_of rfl (.tmp 28) (.tmp 32) rfl (.slice (some ⟨W.heap.size + 1, 0, none⟩) 1 1) (.slice (some ⟨X.heap.size, 0, none⟩) 1 1) rfl rfl (HRUN1.out _) ?_; rintro v7 w7 ⟨ho7, hu7, hk7⟩; have HO7 := Lib.hid ho7; have HK7 := Lib.hid hk7; obtain ⟨a7, k7, rfl, -⟩ := ho7.rd chCells_len; have hb0 := HB0.out.upd hu7 (by simp [blk] <;> omega); have hb2 := HB2.out.upd hu7 (by simp [blk] <;> omega); have HU7 := Lib.hid (HU.out.trans (T := []) hu7 (by simp) (fun x hx => .inr (by simp [blk] at hx; omega))); have cn := hb0.cell 2; have ck := hb0.cell 0; dsimp only [List.getElem?_cons_succ, List.getElem?_cons_zero] at cn ck; have u4 : Upd [] w7 (w7.alloc (.cells #[.int .i64 n, .string sTwo] 137)) := (Upd.refl [] w7).alloc _; have hg := HU7.out.size; have HRUN2 := Lib.hid (fun ty => run_appN (P := Tryz.prog) (ty := ty) chCells_len (by decide) chCells_one undRch infoRch rfl (.slice (some ⟨W.heap.size + 1 + 1, 0, none⟩) 1 1) (.slice (some ⟨w7.heap.size, 0, none⟩) 1 1) [(slot, data)] [(n, sTwo)] (chBlk_own (slot, data) (hb2.upd u4 (by simp)) (base := W.heap.size) (by omega)) (chBlk_one (n, sTwo) (Blk.new w7 _ _)) (by simp) (by simp [maxLen]) (by simp; omega)); have HC0 := Lib.hid (hb0.upd u4 (by simp)); have HV7 := Lib.hid (HO7.out.upd u4 (by simp)); have HU8 := Lib.hid (HU7.out.seq u4); clear ho7 hu7 hk7 hb0 hb2 HU7 u4 hg HO7 HRUN1 HB0 HB2 HU; dsimp only)
        | (refine wpList_app_of rfl (.tmp 34) (.tmp 38) rfl (.slice (some ⟨W.heap.size + 1 + 1, 0, none⟩) 1 1) (.slice (some ⟨w7.heap.size, 0, none⟩) 1 1) rfl rfl (HRUN2.out _) ?_; rintro v8 w8 ⟨ho8, hu8, hk8⟩; have HR8 := Lib.hid (ho8.rd chCells_len); have HK8 := Lib.hid hk8; obtain ⟨a8, k8, rfl, -⟩ := HR8.out; have hc0 := HC0.out.upd hu8 (by simp [blk] <;> omega); have ck := hc0.cell 0; dsimp only [List.getElem?_cons_succ, List.getElem?_cons_zero] at ck; have HU8' := Lib.hid hu8; clear ho8 hu8 hk8 hc0; dsimp only)))
      have hs3 := HSZ.out
      have RD7 : Hid (RdN 2 chCells w8 (.slice a7 2 k7) [(slot, data), (n, sTwo)]) := (HV7.out.upd HU8'.out (fun x hx hy => by
        rcases HK7.out x hx with h | h
        · simp [blk] at h hy; omega
        · simp [blk] at h hy; omega)).rd chCells_len
      have hge := HU8.out.size
      have GE7 : Hid (∀ b ∈ blk (.slice a7 2 k7), W.heap.size ≤ b) := fun b hb => by
        rcases HK7.out b hb with h | h
        · simp [blk] at h; omega
        · simp at h; omega
      have GE8 : Hid (∀ b ∈ blk (.slice a8 2 k8), W.heap.size ≤ b) := fun b hb => by
        rcases HK8.out b hb with h | h
        · simp [blk] at h; omega
        · exact Nat.le_trans hge h
      have HUU := Lib.hid (HU8.out.trans (T := []) HU8'.out (by simp) (fun x hx => .inr (by simp [blk] at hx; omega)))
      refine bodyPost_ret (v := .tuple #[.slice a7 2 k7, .slice a8 2 k8]) (by simp [results, Tryz.results38, go_sem]; try rfl) rfl ?_
      exact ⟨_, _, _, _, rfl, RD7, HR8, GE7, GE8, HUU.out⟩
    · by_cases h5 : kd = 5
      · subst h5
        obtain ⟨m, hwm, hm9⟩ := within_nat9 n
        have hL : setL ⟨5, slot, n, data⟩ = [(slot, zs m)] := by unfold setL; rw [if_neg h2, if_pos rfl, hwm]; rfl
        rw [hL]
        clear hkd h2 hd
        obtain ⟨X, hX⟩ : ∃ X, ((W.alloc (.cells #[.int .i64 5, .int .i64 slot, .int .i64 n, .string data] 74)).alloc (.cells #[.int .i64 slot, .string (data)] 136)).alloc (.cells #[.int .i64 slot, .string (data)] 137) = X := ⟨_, rfl⟩
        have HX := Lib.hid hX
        clear hX
        go_enter Tryz.func38, Tryz.ntmps38
        go_upto_region 10 with fail
        rw [HX.out]
        obtain ⟨B0, B1, B2, U, hsz⟩ := three W _ _ _ _ _ _ HX.out
        have cn := B0.cell 2
        dsimp only [List.getElem?_cons_succ, List.getElem?_cons_zero] at cn
        go_wp2_with fail
        (with_reducible refine (within_any n 0 90000 X hn (by omega) (by omega) (by omega)).mono ?_)
        rw [hwm]
        rintro e w9 ⟨rfl, rfl⟩
        obtain ⟨zf, hz1, hz2, hz3, -⟩ := make_zero m (m : Int) rfl (by omega)
        have hz2 := hz2 X
        have hz3 := hz3 X
        have hv1 := conv_zero m X.heap.size (zf X) hz3
        have b1 := B1.upd hz2 (by simp)
        have b2 := B2.upd hz2 (by simp)
        have c1 := b1.cell 1
        have f1 := b1.frozen 1
        have U1 : Upd [W.heap.size + 1] (zf X) ((zf X).setCell ⟨W.heap.size + 1, 1, none⟩ (.string (zs m))) := (Upd.refl _ (zf X)).setCell _ _ (.inl (by simp))
        have hv2 := conv_zero m X.heap.size _ (hz3.upd U1 (by simp [blk]; omega))
        have bb2 := b2.upd U1 (by simp)
        have c2 := bb2.cell 1
        have f2 := bb2.frozen 1
        have U2 : Upd [W.heap.size + 1 + 1] ((zf X).setCell ⟨W.heap.size + 1, 1, none⟩ (.string (zs m))) (((zf X).setCell ⟨W.heap.size + 1, 1, none⟩ (.string (zs m))).setCell ⟨W.heap.size + 1 + 1, 1, none⟩ (.string (zs m))) := (Upd.refl _ _).setCell _ _ (.inl (by simp))
        have HR1 := Lib.hid (chBlk_one (slot, zs m) ((b1.set_ 1 (.string (zs m))).upd U2 (by simp)))
        have HR2 := Lib.hid (chBlk_one (slot, zs m) (bb2.set_ 1 (.string (zs m))))
        have HUU := Lib.hid (((U.seq hz2).trans (T := []) U1 (by simp) (fun x hx => .inr (by simp at hx; omega))).trans (T := []) U2 (by simp) (fun x hx => .inr (by simp at hx; omega)))
        dsimp only [List.getElem?_cons_succ, List.getElem?_cons_zero] at c1 c2
        rw [hsz] at hv1 hv2
        clear U1 U2 U b1 b2 bb2 hz2 hz3 B0 B1 B2 HX hwm
        go_wp2_with fail
        refine bodyPost_ret (v := .tuple #[.slice (some ⟨W.heap.size + 1, 0, none⟩) 1 1, .slice (some ⟨W.heap.size + 1 + 1, 0, none⟩) 1 1]) (by simp [results, Tryz.results38, go_sem]; try rfl) rfl ?_
        exact ⟨_, _, _, _, rfl, HR1, HR2, fun b hb => by simp [blk] at hb; omega, fun b hb => by simp [blk] at hb; omega, HUU.out⟩
      · have hL : setL ⟨kd, slot, n, data⟩ = [(slot, data)] := by unfold setL; rw [if_neg h2, if_neg h5, hd]
        rw [hL]
        clear hd
        obtain ⟨X, hX⟩ : ∃ X, ((W.alloc (.cells #[.int .i64 kd, .int .i64 slot, .int .i64 n, .string data] 74)).alloc (.cells #[.int .i64 slot, .string (data)] 136)).alloc (.cells #[.int .i64 slot, .string (data)] 137) = X := ⟨_, rfl⟩
        have HX := Lib.hid hX
        clear hX
        go_enter Tryz.func38, Tryz.ntmps38
        go_upto_region 13 with fail
        rw [HX.out]
        obtain ⟨B0, B1, B2, U, hsz⟩ := three W _ _ _ _ _ _ HX.out
        have HB1 := Lib.hid B1
        have HB2 := Lib.hid B2
        have HU := Lib.hid U
        clear B0 B1 B2 U HX
        go_wp2_with fail
        refine bodyPost_ret (v := .tuple #[.slice (some ⟨W.heap.size + 1, 0, none⟩) 1 1, .slice (some ⟨W.heap.size + 1 + 1, 0, none⟩) 1 1]) (by simp [results, Tryz.results38, go_sem]; try rfl) rfl ?_
        exact ⟨_, _, _, _, rfl, chBlk_one (slot, data) HB1.out, chBlk_one (slot, data) HB2.out, fun b hb => by simp [blk] at hb; omega, fun b hb => by simp [blk] at hb; omega, HU.out⟩
end Go.Proofs.YtmhojaiajhdlcaaGreat
