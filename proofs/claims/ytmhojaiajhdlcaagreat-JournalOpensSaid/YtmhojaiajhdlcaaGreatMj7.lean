/- Texts of the proof, joined: Chapter 24: a journal in memory; changes hold; what a slot has. Chapter 24: what a slot has; which have something; how large the files are. Chapter 24: a journal is opened. Chapter 22: Append. Chapter 24: the journal is laid anew. Chapter 24: changes are kept. Chapter 22 as plain law: one file, written once. -/
import Derived.Test.YtmhojaiajhdlcaaGreatMj3
import Derived.Test.YtmhojaiajhdlcaaGreatMj4
import Derived.Test.YtmhojaiajhdlcaaGreatMj5
import Derived.Test.YtmhojaiajhdlcaaGreatMj6
import Derived.Deep.RegionHeld3
namespace Go.Proofs.YtmhojaiajhdlcaaGreat
open Go.RowKit
set_option linter.unusedSimpArgs false
set_option linter.unusedVariables false
set_option linter.unusedSectionVars false
/-- A journal at gj, on the disk at gd; its table at gt. -/
structure JC (w0 w : World) (gd gj gt : Nat) (F0 : List Nat) (t : JS) : Prop where
  top : Blk w gj 144 [.pointer (some ⟨gd, 0, none⟩), .pointer (some ⟨gt, 0, none⟩)]
  tab : TXIS w0 w gt F0 t
  gjb : w0.heap.size ≤ gj
  nin : gj ∉ F0
  jt : JT t
section
variable {w0 w w' : World} {gd gj gt : Nat} {F0 F0' F G : List Nat} {t t' : JS} {s s' : DS}
theorem JC.old (h : JC w0 w gd gj gt F0 t) : Upd [] w0 w := h.tab.old
theorem JC.upd (h : JC w0 w gd gj gt F0 t) {S : List Nat} (hu : Upd S w w') (hs : ∀ x ∈ gj :: F0, x ∉ S) (hS : ∀ x ∈ S, w0.heap.size ≤ x) : JC w0 w' gd gj gt F0 t :=
  ⟨h.top.upd hu (hs gj (by simp)), h.tab.upd hu (fun x hx => hs x (by simp [hx])) hS, h.gjb, h.nin, h.jt⟩
theorem JC.upd0 (h : JC w0 w gd gj gt F0 t) (hu : Upd [] w w') : JC w0 w' gd gj gt F0 t := h.upd hu (by simp) (by simp)
theorem JC.ge (h : JC w0 w gd gj gt F0 t) : ∀ x ∈ gj :: F0, w0.heap.size ≤ x ∧ x < w.heap.size := by
  intro x hx
  rcases List.mem_cons.1 hx with rfl | hx
  · exact ⟨h.gjb, h.top.lt⟩
  · exact h.tab.ge x hx
theorem JC.step (h : JC w0 w gd gj gt F0 t) (h1 : TXIS w0 w' gt F0' t') (hu : Upd F0 w w') (hf : ∀ x ∈ F0', x ∈ F0 ∨ w.heap.size ≤ x) (hj : JT t') : JC w0 w' gd gj gt F0' t' :=
  ⟨h.top.upd hu h.nin, h1, h.gjb, fun hx => by
    rcases hf gj hx with q | q
    · exact h.nin q
    · have := h.top.lt; omega, hj⟩
/-- A journal and its disk. -/
structure JD (w0 w : World) (gd gj : Nat) (F G : List Nat) (t : JS) (s : DS) : Prop where
  jc : ∃ gt F0, JC w0 w gd gj gt F0 t ∧ F = gj :: F0
  dd : DD w0 w gd G s
  ap : Ap F G
def JOut (w0 w : World) (gd gj : Nat) (S : List Nat) (t : JS) (s : DS) (w' : World) : Prop := ∃ F' G', JD w0 w' gd gj F' G' t s ∧ Upd S w w' ∧ (∀ x ∈ F', x ∈ S ∨ w.heap.size ≤ x) ∧ (∀ x ∈ G', x ∈ S ∨ w.heap.size ≤ x)
theorem JD.old (h : JD w0 w gd gj F G t s) : Upd [] w0 w := h.dd.old
theorem JD.geF (h : JD w0 w gd gj F G t s) : ∀ x ∈ F, w0.heap.size ≤ x ∧ x < w.heap.size := by
  obtain ⟨gt, F0, hc, rfl⟩ := h.jc
  exact hc.ge
theorem JD.jt (h : JD w0 w gd gj F G t s) : JT t := by
  obtain ⟨gt, F0, hc, rfl⟩ := h.jc
  exact hc.jt
theorem JD.upd (h : JD w0 w gd gj F G t s) {S : List Nat} (hu : Upd S w w') (h1 : ∀ x ∈ F, x ∉ S) (h2 : ∀ x ∈ G, x ∉ S) (hS : ∀ x ∈ S, w0.heap.size ≤ x) : JD w0 w' gd gj F G t s := by
  obtain ⟨gt, F0, hc, rfl⟩ := h.jc
  exact ⟨⟨gt, F0, hc.upd hu h1 hS, rfl⟩, h.dd.upd hu h2 hS, h.ap⟩
theorem JD.upd0 (h : JD w0 w gd gj F G t s) (hu : Upd [] w w') : JD w0 w' gd gj F G t s := h.upd hu (by simp) (by simp) (by simp)
theorem JD.out0 (h : JD w0 w gd gj F G t s) (hu : Upd [] w w') : JOut w0 w gd gj (F ++ G) t s w' :=
  ⟨F, G, h.upd0 hu, hu.mono (by simp), fun x hx => .inl (List.mem_append.2 (.inl hx)), fun x hx => .inl (List.mem_append.2 (.inr hx))⟩
/-- Behind a call on the disk alone. -/
theorem JD.disk (h : JD w0 w gd gj F G t s) (hd : DOut w0 w gd G s' w') : JOut w0 w gd gj (F ++ G) t s' w' := by
  obtain ⟨G', k1, k2, k3⟩ := hd
  obtain ⟨gt, F0, hc, rfl⟩ := h.jc
  refine ⟨gj :: F0, G', ⟨⟨gt, F0, hc.upd k2 h.ap (fun x hx => (h.dd.ge x hx).1), rfl⟩, k1, fun x hx hg => ?_⟩, k2.mono (fun x hx => .inl (List.mem_append.2 (.inr hx))), fun x hx => .inl (List.mem_append.2 (.inl hx)), fun x hx => (k3 x hx).imp (fun q => List.mem_append.2 (.inr q)) id⟩
  rcases k3 x hg with q | q
  · exact h.ap x hx q
  · have := (hc.ge x hx).2; omega
theorem JOut.later {w1 : World} {S : List Nat} (hu : Upd [] w w1) (h : JOut w0 w1 gd gj S t s w') : JOut w0 w gd gj S t s w' := by
  obtain ⟨F', G', h1, h2, h3, h4⟩ := h
  have := hu.size
  exact ⟨F', G', h1, hu.trans h2 (by simp) (fun x hx => .inl hx), fun x hx => (h3 x hx).imp id (fun q => by omega), fun x hx => (h4 x hx).imp id (fun q => by omega)⟩
/-- One call behind the other. -/
theorem JOut.seq {w1 : World} {S S' : List Nat} {t1 : JS} {s1 : DS} (h : JOut w0 w gd gj S t1 s1 w1) (k : ∀ F' G', JD w0 w1 gd gj F' G' t1 s1 → JOut w0 w1 gd gj (F' ++ G') t s w') : JOut w0 w gd gj S t s w' := by
  obtain ⟨F1, G1, h1, h2, h3, h4⟩ := h
  obtain ⟨F2, G2, k1, k2, k3, k4⟩ := (show ∃ F' G', _ from k F1 G1 h1)
  have hs := h2.size
  have hin : ∀ x ∈ F1 ++ G1, x ∈ S ∨ w.heap.size ≤ x := fun x hx => by
    rcases List.mem_append.1 hx with q | q
    · exact h3 x q
    · exact h4 x q
  have hfin : ∀ x, x ∈ F1 ++ G1 ∨ w1.heap.size ≤ x → x ∈ S ∨ w.heap.size ≤ x := fun x hx => by
    rcases hx with q | q
    · exact hin x q
    · exact .inr (by omega)
  exact ⟨F2, G2, k1, h2.trans k2 (fun x hx => hx) hin, fun x hx => hfin x (k3 x hx), fun x hx => hfin x (k4 x hx)⟩
theorem jHold1_del {c : Ch} (h : c.2 = s0) (t : JS) : jHold1 t c = tDel ltI t c.1 := by unfold jHold1; rw [if_pos h]
theorem jHold1_set {c : Ch} (h : c.2 ≠ s0) (t : JS) : jHold1 t c = tSet ltI t c.1 c.2 := by unfold jHold1; rw [if_neg h]
set_option maxRecDepth 20000 in
set_option maxHeartbeats 4000000 in
theorem hold_any (u : Value) (l : List Ch) (h : JD w0 w gd gj F G t s) (hl : RdN 2 chCells w u l) (hap : ∀ x ∈ blk u, x ∉ F) (hI : ∀ c ∈ l, ChOk c) :
    Calls Tryz.prog 89 #[.pointer (some ⟨gj, 0, none⟩), u] w fun e w' => e = .returned (.tuple #[]) ∧ ∃ F', JD w0 w' gd gj F' G (jAll t l) s ∧ Upd F w w' ∧ (∀ x ∈ F', x ∈ F ∨ w.heap.size ≤ x) := by
  have HL := Lib.hid hl
  have HAP := Lib.hid hap
  have HI := Lib.hid hI
  have HD := Lib.hid h
  obtain ⟨a2, cap2, rfl, hlc, hm, -⟩ := hl
  have hm2 : l.length ≤ 9223372036854775807 := by unfold maxLen at hm; omega
  clear h hap hI hlc hm
  go_enter Tryz.func89, Tryz.ntmps89
  go_wp2_with fail
  go_loopw [5, 8] (fun y i wr => ∃ (k : Nat) (F' : List Nat), i = .int .i64 (k : Int) ∧ k ≤ l.length ∧ Hid (JD w0 wr gd gj F' G (jAll t (l.take k)) s) ∧ Hid (Upd F w wr) ∧ Hid (∀ x ∈ F', x ∈ F ∨ w.heap.size ≤ x)) (fun _ i _ => l.length - (intOf i).toNat)
  case atStart => exact ⟨0, F, rfl, Nat.zero_le _, HD.out, Upd.refl _ _, fun x hx => .inl hx⟩
  case round =>
    obtain ⟨k, F', rfl, hk, hd, hu, hf⟩ := hrel
    by_cases hlt : k < l.length
    · have hrd := HL.out.upd chCells_len hu.out HAP.out
      obtain ⟨a9, c9, he9, -, -, hca⟩ := hrd
      injection he9 with e1 e2 e3
      subst e1; subst e3
      obtain ⟨b, off, rfl, hcb⟩ := hca (by intro e; rw [e] at hlt; simp at hlt)
      have hc0 : ∀ i, i < 2 → wr.cell? ⟨b, off + (k * 2 + i), none⟩ = (chCells (nth l k))[i]? := hcb k hlt
      have hin := HI.out (nth l k) (by rw [nth_get l k hlt]; exact List.getElem_mem hlt)
      have HST : Hid (jAll t (l.take (k + 1)) = jHold1 (jAll t (l.take k)) (nth l k)) := by
        unfold Hid; rw [List.take_succ_eq_append_getElem hlt, jAll_app, nth_get l k hlt]; rfl
      generalize nth l k = x at *
      obtain ⟨ck, cd⟩ := x
      have hin1 := hin.lo
      have hin2 := hin.hi
      dsimp only at hin1 hin2
      have c0 : wr.cell? ⟨b, off + k * 2, none⟩ = some (.int .i64 ck) := hc0 0 (by omega)
      have c1 : wr.cell? ⟨b, off + k * 2 + 1, none⟩ = some (.string cd) := hc0 1 (by omega)
      obtain ⟨tk, htk⟩ : ∃ tk, jAll t (l.take k) = tk := ⟨_, rfl⟩
      rw [htk] at HST hd
      have HIN : Hid (I64 ck) := i64_mk (by omega) (by omega)
      have HCK := Lib.hid hin
      have q0 : (0 : Int) ≤ k := by omega
      have q1 : (k : Int) < l.length := by omega
      obtain ⟨gt, F0, hc, hF⟩ := hd.out.jc
      have hu1 : Upd [] wr (wr.alloc (.cells #[.int .i64 ck, .string cd] 136)) := (Upd.refl [] wr).alloc _
      have HJ := Lib.hid (hc.upd0 hu1)
      have HDD := Lib.hid (hd.out.dd.upd0 hu1)
      have HAPG : Hid (Ap (gj :: F0) G) := by rw [← hF]; exact hd.out.ap
      have HFF : Hid (∀ x ∈ gj :: F0, x ∈ F ∨ w.heap.size ≤ x) := by rw [← hF]; exact hf.out
      have HU1 : Hid (Upd F w (wr.alloc (.cells #[.int .i64 ck, .string cd] 136))) := hu.out.trans hu1 (fun x hx => hx) (by simp)
      have HBX : Hid (Blk (wr.alloc (.cells #[.int .i64 ck, .string cd] 136)) wr.heap.size 136 [.int .i64 ck, .string cd]) := Blk.new wr _ [.int .i64 ck, .string cd]
      have HLN : Hid (tk.length ≤ 100000) := by have := hc.jt.len; unfold Hid; omega
      have hd0 := HBX.out.cell 0
      have hd1 := HBX.out.cell 1
      simp only [List.getElem?_cons_zero, List.getElem?_cons_succ] at hd0 hd1
      have HC0 := Lib.hid hd0
      have HC1 := Lib.hid hd1
      have gc1 : (wr.alloc (.cells #[.int .i64 ck, .string cd] 136)).cell? ⟨gj, 1, none⟩ = some (.pointer (some ⟨gt, 0, none⟩)) := HJ.out.top.cell 1
      have HGC := Lib.hid gc1
      have hfin : ∀ (t2 : JS), jHold1 tk (ck, cd) = t2 → JT t2 → ∀ (W : World), ∀ F2, TXIS w0 W gt F2 t2 → Upd F0 (wr.alloc (.cells #[.int .i64 ck, .string cd] 136)) W → (∀ x ∈ F2, x ∈ F0 ∨ (wr.alloc (.cells #[.int .i64 ck, .string cd] 136)).heap.size ≤ x) → ∃ F', Hid (JD w0 W gd gj F' G (jAll t (l.take (k + 1))) s) ∧ Hid (Upd F w W) ∧ Hid (∀ x ∈ F', x ∈ F ∨ w.heap.size ≤ x) := by
        intro t2 ht2 hj2 W F2 h2 hu2 hf2
        have hsz := HU1.out.size
        have hge := HJ.out.ge
        have hgd := HDD.out.ge
        refine ⟨gj :: F2, ?_, ?_, ?_⟩
        · refine ⟨⟨gt, F2, by rw [HST.out, ht2]; exact HJ.out.step h2 hu2 hf2 hj2, rfl⟩, HDD.out.upd hu2 (fun x hx q => HAPG.out x (by simp [q]) hx) (fun x hx => (hge x (by simp [hx])).1), fun x hx hg => ?_⟩
          rcases List.mem_cons.1 hx with q | q
          · exact HAPG.out x (by simp [q]) hg
          · rcases hf2 x q with r | r
            · exact HAPG.out x (by simp [r]) hg
            · have := (hgd x hg).2; omega
        · exact HU1.out.trans hu2 (fun x hx => hx) (fun x hx => HFF.out x (by simp [hx]))
        · intro x hx
          rcases List.mem_cons.1 hx with q | q
          · exact HFF.out x (by simp [q])
          · rcases hf2 x q with r | r
            · exact HFF.out x (by simp [r])
            · exact .inr (by omega)
      have HFIN := Lib.hid hfin
      have HNX : Hid (wr.heap.size ∉ F0) := fun hx => by have := (hc.tab.ge _ hx).2; omega
      have HJT := Lib.hid hc.jt
      clear hc0 hca hcb hin hin1 hin2 hd hu hf hc hF hu1 htk hfin
      by_cases hcd : cd = s0
      · have t1 : (cd.toList == ([] : List UInt8)) = true := by rw [hcd, strList_eq]; rfl
        have HE := Lib.hid (jHold1_del (c := (ck, cd)) hcd tk)
        have HJ2 : Hid (JT (tDel ltI tk ck)) := by have := HJT.out.hold1 (ck, cd) HCK.out; rwa [HE.out] at this
        clear hcd
        go_wp2_with fail
        generalize wr.alloc (.cells #[.int .i64 ck, .string cd] 136) = w1 at *
        generalize wr.heap.size = gx at *
        have HCD : Hid (∀ W, Upd [] w1 W → Calls Tryz.prog 117 #[.pointer (some ⟨gt, 0, none⟩), .int .i64 ck] W fun e w' => ∃ b, e = .returned (.bool b) ∧ ∃ F2, Hid (TXIS w0 w' gt F2 (tDel ltI tk ck)) ∧ Upd F0 w1 w' ∧ Hid (∀ x ∈ F2, x ∈ F0 ∨ w1.heap.size ≤ x)) := fun W hW => by
          refine (txIS_Del ck _ _ (HJ.out.tab.upd0 hW) HLN.out HIN.out rfl rfl).mono ?_
          rintro e w' ⟨rfl, F2, h2, hu2, hf2⟩
          exact ⟨_, rfl, F2, h2, hW.trans hu2 (by simp) (fun x hx => .inl hx), fun x hx => (hf2 x hx).imp id (fun q => Nat.le_trans hW.size q)⟩
        have HNJ := Lib.hid HJ.out.nin
        have ru := Upd.refl [] w1
        go_region_held3 (fun W => W.cell? ⟨gj, 1, none⟩ = some (.pointer (some ⟨gt, 0, none⟩)) ∧ W.cell? ⟨gx, 0, none⟩ = some (.int .i64 ck)) (first | go_keep | exact ⟨ru2.cell HGC.out HNJ.out, ru2.cell HC0.out HNX.out⟩)
          (first
            | (go_at_call 117; (with_reducible refine (HCD.out _ (Upd.seq ru ?_)).mono ?_); (repeat (first | exact Upd.refl _ _ | apply Upd.drew | apply Upd.drewN | apply Upd.alloc)); (rintro _ W2 ⟨b2, rfl, F2, h2, ru2, hf2⟩; dsimp only)))
        all_goals
          obtain ⟨F9, k1, k2, k3⟩ := HFIN.out _ HE.out HJ2.out W2 F2 h2.out ru2 hf2.out
          clear ru ru2 h2 hf2 HCD
          go_wp2_with fail
          go_roundw
          case rel => exact ⟨k + 1, F9, by go_num, by omega, k1, k2, k3⟩
          case measure => simp [intOf]; omega
      · have t1 : (cd.toList == ([] : List UInt8)) = false := by rw [beq_eq_false_iff_ne]; exact fun q => hcd (str_inj _ _ (by rw [q, strList_eq]))
        have HE := Lib.hid (jHold1_set (c := (ck, cd)) hcd tk)
        have HJ2 : Hid (JT (tSet ltI tk ck cd)) := by have := HJT.out.hold1 (ck, cd) HCK.out; rwa [HE.out] at this
        clear hcd
        go_wp2_with fail
        generalize wr.alloc (.cells #[.int .i64 ck, .string cd] 136) = w1 at *
        generalize wr.heap.size = gx at *
        have HCD : Hid (∀ W, Upd [] w1 W → Calls Tryz.prog 118 #[.pointer (some ⟨gt, 0, none⟩), .int .i64 ck, .string cd] W fun e w' => ∃ b, e = .returned (.bool b) ∧ ∃ F2, Hid (TXIS w0 w' gt F2 (tSet ltI tk ck cd)) ∧ Upd F0 w1 w' ∧ Hid (∀ x ∈ F2, x ∈ F0 ∨ w1.heap.size ≤ x)) := fun W hW => by
          refine (txIS_Set ck cd _ _ (HJ.out.tab.upd0 hW) HLN.out HIN.out rfl rfl).mono ?_
          rintro e w' ⟨rfl, F2, h2, hu2, hf2⟩
          exact ⟨_, rfl, F2, h2, hW.trans hu2 (by simp) (fun x hx => .inl hx), fun x hx => (hf2 x hx).imp id (fun q => Nat.le_trans hW.size q)⟩
        have HNJ := Lib.hid HJ.out.nin
        have ru := Upd.refl [] w1
        go_region_held3 (fun W => W.cell? ⟨gj, 1, none⟩ = some (.pointer (some ⟨gt, 0, none⟩)) ∧ W.cell? ⟨gx, 0, none⟩ = some (.int .i64 ck) ∧ W.cell? ⟨gx, 1, none⟩ = some (.string cd)) (first | go_keep | exact ⟨ru2.cell HGC.out HNJ.out, ru2.cell HC0.out HNX.out, ru2.cell HC1.out HNX.out⟩)
          (first
            | (go_at_call 118; (with_reducible refine (HCD.out _ (Upd.seq ru ?_)).mono ?_); (repeat (first | exact Upd.refl _ _ | apply Upd.drew | apply Upd.drewN | apply Upd.alloc)); (rintro _ W2 ⟨b2, rfl, F2, h2, ru2, hf2⟩; dsimp only)))
        all_goals
          obtain ⟨F9, k1, k2, k3⟩ := HFIN.out _ HE.out HJ2.out W2 F2 h2.out ru2 hf2.out
          clear ru ru2 h2 hf2 HCD
          go_wp2_with fail
          go_roundw
          case rel => exact ⟨k + 1, F9, by go_num, by omega, k1, k2, k3⟩
          case measure => simp [intOf]; omega
    · obtain rfl : k = l.length := by omega
      have HF : Hid (JD w0 wr gd gj F' G (jAll t l) s) := by have := hd.out; rwa [List.take_length] at this
      clear hd
      go_wp2_with fail
      go_end0
      exact ⟨rfl, F', HF.out, hu.out, hf.out⟩
end
end Go.Proofs.YtmhojaiajhdlcaaGreat
namespace Go.Proofs.YtmhojaiajhdlcaaGreat
open Go.RowKit
set_option linter.unusedSimpArgs false
set_option linter.unusedVariables false
set_option linter.unusedSectionVars false
section
variable {w0 w w' : World} {gd gj : Nat} {F G : List Nat} {t t' : JS} {s s' : DS}
theorem JD.cells (h : JD w0 w gd gj F G t s) : ∃ gt F0, w.cell? ⟨gj, 0, none⟩ = some (.pointer (some ⟨gd, 0, none⟩)) ∧ w.cell? ⟨gj, 1, none⟩ = some (.pointer (some ⟨gt, 0, none⟩)) ∧ TXIS w0 w gt F0 t ∧ F = gj :: F0 := by
  obtain ⟨gt, F0, hc, hF⟩ := h.jc
  exact ⟨gt, F0, hc.top.cell 0, hc.top.cell 1, hc.tab, hF⟩
set_option maxRecDepth 20000 in
set_option maxHeartbeats 1000000 in
theorem jGet_any (k : Int) (hk : I64 k) (h : JD w0 w gd gj F G t s) :
    Calls Tryz.prog 81 #[.pointer (some ⟨gj, 0, none⟩), .int .i64 k] w fun e w' => e = .returned (.string (jGet t k)) ∧ Upd [] w w' := by
  obtain ⟨gt, F0, -, c1, ht, -⟩ := h.cells
  have hlen := h.jt.len
  have HT := Lib.hid ht
  have HK := Lib.hid hk
  obtain ⟨y, b, hg⟩ : ∃ y b, tGet ltI s0 t k = (y, b) := ⟨_, _, rfl⟩
  have HG := Lib.hid hg
  have HY : Hid (jGet t k = y) := by unfold Hid jGet; rw [hg]
  clear h ht hk hg
  go_enter Tryz.func81, Tryz.ntmps81
  go_wp2_with fail
  (with_reducible refine (txIS_Get k y b HT.out (by omega) HK.out HG.out).mono ?_)
  rintro e w1 ⟨rfl, hu1⟩
  have HU := Lib.hid hu1
  clear hu1
  go_wp2_with fail
  go_ret
  exact ⟨by rw [HY.out]; rfl, HU.out⟩
set_option maxRecDepth 20000 in
set_option maxHeartbeats 1000000 in
theorem jSlots_any (h : JD w0 w gd gj F G t s) :
    Calls Tryz.prog 44 #[.pointer (some ⟨gj, 0, none⟩)] w fun e w' => ∃ v, e = .returned v ∧ Own iv w.heap.size 3 w' v (t.map (·.1)) ∧ Upd [] w w' := by
  obtain ⟨gt, F0, -, c1, ht, -⟩ := h.cells
  have hlen := h.jt.len
  have HT := Lib.hid ht
  clear h ht
  go_enter Tryz.func44, Tryz.ntmps44
  go_wp2_with fail
  (with_reducible refine (txIS_Keys _ HT.out (by omega) rfl).mono ?_)
  rintro e w1 ⟨v, rfl, ho, hu1⟩
  have HU := Lib.hid hu1
  have HO := Lib.hid ho
  clear hu1 ho
  go_wp2_with fail
  go_ret
  exact ⟨_, rfl, HO.out, HU.out⟩
def jLen (s : DS) (nm : ByteArray) : Nat := (dGet s.now nm).1.length
theorem jLen_le (h : DOk s) (nm : ByteArray) : jLen s nm ≤ 16777216 := Nat.le_trans (get_le_total _ _) h.tot
set_option maxRecDepth 20000 in
set_option maxHeartbeats 1000000 in
theorem jsize_any (nm : ByteArray) (h : JD w0 w gd gj F G t s) (hn : s.now.length ≤ 100000) :
    Calls Tryz.prog 97 #[.pointer (some ⟨gj, 0, none⟩), sv nm] w fun e w' => e = .returned (.int .i64 (jLen s nm : Int)) ∧ Upd [] w w' := by
  obtain ⟨gt, F0, c0, -, -, -⟩ := h.cells
  have HD := Lib.hid h.dd
  have HN := Lib.hid hn
  have HL : Hid (jLen s nm = (dGet s.now nm).1.length) := rfl
  obtain ⟨b, ok, hb⟩ : ∃ b ok, dGet s.now nm = (b, ok) := ⟨_, _, rfl⟩
  have HB := Lib.hid hb
  rw [hb] at HL
  clear h hn hb
  go_enter Tryz.func97, Tryz.ntmps97
  go_wp2_with fail
  (with_reducible refine (dkRead_any nm HD.out HN.out).mono ?_)
  rw [HB.out]
  rintro e w1 ⟨v, rfl, ho, hu1⟩
  have HU := Lib.hid hu1
  obtain ⟨a, k, rfl, -⟩ := ho.rd
  clear hu1 ho
  go_wp2_with fail
  go_ret
  exact ⟨by rw [HL.out]; rfl, HU.out⟩
set_option maxRecDepth 20000 in
set_option maxHeartbeats 1000000 in
theorem jSize_any (h : JD w0 w gd gj F G t s) (hn : s.now.length ≤ 100000) :
    Calls Tryz.prog 82 #[.pointer (some ⟨gj, 0, none⟩)] w fun e w' => e = .returned (.int .i64 ((jLen s nmJ + jLen s nmN : Nat) : Int)) ∧ Upd [] w w' := by
  have HD := Lib.hid h
  have HN := Lib.hid hn
  have l1 := jLen_le h.dd.ok nmJ
  have l2 := jLen_le h.dd.ok nmN
  have HA := Lib.hid (jsize_any nmJ h hn)
  generalize jLen s nmJ = a at *
  have HB : Hid (∀ W, Upd [] w W → Calls Tryz.prog 97 #[.pointer (some ⟨gj, 0, none⟩), sv nmN] W fun e w' => e = .returned (.int .i64 (jLen s nmN : Int)) ∧ Upd [] W w') := fun W hW => jsize_any nmN (h.upd0 hW) hn
  generalize jLen s nmN = b at *
  have HE : Hid (((a + b : Nat) : Int) = (a : Int) + (b : Int)) := by unfold Hid; omega
  clear h hn
  go_enter Tryz.func82, Tryz.ntmps82
  go_wp2_with fail
  (with_reducible refine HA.out.mono ?_)
  rintro e w1 ⟨rfl, hu1⟩
  have HU := Lib.hid hu1
  clear hu1
  go_wp2_with fail
  (with_reducible refine (HB.out _ HU.out).mono ?_)
  rintro e w2 ⟨rfl, hu2⟩
  have HU2 := Lib.hid (HU.out.seq hu2)
  clear hu2
  have hwr : IntKind.i64.wrap ((a : Int) + b) = (a : Int) + b := by rw [IntKind.wrap_i64]; omega
  go_wp2_with fail
  go_ret
  exact ⟨by rw [HE.out]; rfl, HU2.out⟩
end
end Go.Proofs.YtmhojaiajhdlcaaGreat
namespace Go.Proofs.YtmhojaiajhdlcaaGreat
open Go.RowKit
set_option linter.unusedSimpArgs false
set_option linter.unusedVariables false
set_option linter.unusedSectionVars false
section
variable {w0 w w' : World} {gd gj : Nat} {F G G1 : List Nat} {t t' : JS} {s s1 s2 : DS}
theorem JOut.more {S S' : List Nat} (h : JOut w0 w gd gj S t s w') (hs : ∀ x ∈ S, x ∈ S' ∨ w.heap.size ≤ x) : JOut w0 w gd gj S' t s w' := by
  obtain ⟨F', G', h1, h2, h3, h4⟩ := h
  have key : ∀ x, x ∈ S ∨ w.heap.size ≤ x → x ∈ S' ∨ w.heap.size ≤ x := fun x hx => by
    rcases hx with q | q
    · exact hs x q
    · exact .inr q
  exact ⟨F', G', h1, h2.mono hs, fun x hx => key x (h3 x hx), fun x hx => key x (h4 x hx)⟩
theorem jopen_done {W W' : World} (h : JD w0 W gd gj F G1 t s1) (hu : Upd G w W) (hf : ∀ x ∈ F, w.heap.size ≤ x) (hg : ∀ x ∈ G1, x ∈ G ∨ w.heap.size ≤ x) (hd : DOut w0 W gd G1 s2 W') : JOut w0 w gd gj G t s2 W' := by
  obtain ⟨F', G', k1, k2, k3, k4⟩ := (show ∃ F' G', _ from h.disk hd)
  have hs := hu.size
  have hin : ∀ x ∈ F ++ G1, x ∈ G ∨ w.heap.size ≤ x := fun x hx => by
    rcases List.mem_append.1 hx with q | q
    · exact .inr (hf x q)
    · exact hg x q
  have key : ∀ x, x ∈ F ++ G1 ∨ W.heap.size ≤ x → x ∈ G ∨ w.heap.size ≤ x := fun x hx => by
    rcases hx with q | q
    · exact hin x q
    · exact .inr (by omega)
  exact ⟨F', G', k1, hu.trans k2 (fun x hx => hx) hin, fun x hx => key x (k3 x hx), fun x hx => key x (k4 x hx)⟩
theorem jFresh_no (h : inD s.now nmN = false) : jFresh s = s := by unfold jFresh; rw [h]; rfl
theorem jFresh_yes (h : inD s.now nmN = true) : jFresh s = (dRemove s nmN).2 := by unfold jFresh; rw [h]; rfl
theorem jFresh_len : (jFresh s).now.length ≤ s.now.length + 1 ∧ (jFresh s).log.length ≤ s.log.length + 1 := by
  unfold jFresh
  split
  · have h := grows_remove s nmN 0
    exact ⟨h.now, by have := h.log; omega⟩
  · exact ⟨by omega, by omega⟩
set_option maxRecDepth 20000 in
set_option maxHeartbeats 8000000 in
/-- From the reading of the file on. -/
theorem jopenNil_any (w : World) : Calls Tryz.prog 40 #[.pointer none] w fun e w' => e = .returned (.tuple #[.pointer none, .int .i64 1]) ∧ w = w' := by
  go_enter Tryz.func40, Tryz.ntmps40
  go_wp2_with fail
  go_ret2
  exact ⟨rfl, rfl⟩
set_option maxRecDepth 20000 in
set_option maxHeartbeats 8000000 in
theorem jopen_any (h : DD w0 w gd G s) (hn : s.now.length ≤ 4990) (hl : s.log.length ≤ 900000000) :
    Calls Tryz.prog 40 #[.pointer (some ⟨gd, 0, none⟩)] w fun e w' => ∃ gj, e = .returned (.tuple #[.pointer (some ⟨gj, 0, none⟩), .int .i64 0]) ∧ JOut w0 w gd gj G (jOpen s).1 (jOpen s).2 w' := by
  have HG : Hid (∀ x ∈ G, x < w.heap.size) := fun x hx => (h.ge x hx).2
  have HD := Lib.hid h
  have HN := Lib.hid hn
  have HLG := Lib.hid hl
  obtain ⟨fb, fok, hfr⟩ : ∃ b ok, dGet s.now nmN = (b, ok) := ⟨_, _, rfl⟩
  have HFR := Lib.hid hfr
  have hfi : inD s.now nmN = fok := by rw [← dGet_in, hfr]
  have hlen := jFresh_len (s := s)
  obtain ⟨s1, hs1⟩ : ∃ s1, jFresh s = s1 := ⟨_, rfl⟩
  rw [hs1] at hlen
  have HS1 := Lib.hid hs1
  have HN1 : Hid (s1.now.length ≤ 5000) := by unfold Hid; omega
  have HL1 : Hid (s1.log.length ≤ 1000000000) := by unfold Hid; omega
  obtain ⟨b, bok, hb⟩ : ∃ b ok, dGet s1.now nmJ = (b, ok) := ⟨_, _, rfl⟩
  have HB := Lib.hid hb
  have HOP : Hid (jOpen s = ((jScan b).1, if (jScan b).2 < b.length then (dCut s1 nmJ (jScan b).2).2 else s1)) := by unfold Hid jOpen; rw [hs1, hb]
  clear h hn hl hfr hlen hb
  cases fok with
  | true =>
    have hrm : (dRemove s nmN).2 = s1 := by rw [← hs1, jFresh_yes hfi]
    have HRM := Lib.hid hrm
    clear hfi hrm hs1
    go_enter Tryz.func40, Tryz.ntmps40
    go_wp2_with fail
    (with_reducible refine (dkRead_any nmN HD.out (by have := HN.out; omega)).mono ?_)
    rw [HFR.out]
    rintro e w1 ⟨v1, rfl, -, hu1⟩
    have HU1 := Lib.hid hu1
    clear hu1
    go_wp2_with fail
    (with_reducible refine (dRemove_any nmN (HD.out.upd0 HU1.out) (by have := HN.out; omega) (by have := HLG.out; omega)).mono ?_)
    rintro e w2 ⟨rfl, G1, k1, k2, k3⟩
    have H2 : Hid (DD w0 w2 gd G1 s1) := by have := k1; rw [HRM.out] at this; exact this
    have HU2 : Hid (Upd G w w2) := (HU1.out.mono (T := G) (by simp)).trans k2 (fun x hx => hx) (fun x hx => .inl hx)
    have HG1 : Hid (∀ x ∈ G1, x ∈ G ∨ w.heap.size ≤ x) := fun x hx => (k3 x hx).imp id (fun q => Nat.le_trans HU1.out.size q)
    clear k1 k2 k3 HRM
    go_wp2_with fail
    (with_reducible refine (txIS_New w0 w2 H2.out.old).mono ?_)
    rintro e w3 ⟨gt, F0, rfl, ht3, hu3, hf3⟩
    have hu4 : Upd [] w3 (w3.alloc (.cells #[.pointer (some ⟨gd, 0, none⟩), .pointer (some ⟨gt, 0, none⟩)] 144)) := (Upd.refl [] w3).alloc _
    have HJ0 : Hid (JD w0 (w3.alloc (.cells #[.pointer (some ⟨gd, 0, none⟩), .pointer (some ⟨gt, 0, none⟩)] 144)) gd w3.heap.size (w3.heap.size :: F0) G1 [] s1) := by
      have hg := (H2.out.ge)
      have hsz := hu3.size
      refine ⟨⟨gt, F0, ⟨Blk.new w3 _ [.pointer (some ⟨gd, 0, none⟩), .pointer (some ⟨gt, 0, none⟩)], ht3.upd0 hu4, Nat.le_trans H2.out.old.size hsz, fun hx => by have := (ht3.ge _ hx).2; omega, JT.nil⟩, rfl⟩, H2.out.upd0 (hu3.seq hu4), fun x hx hgx => ?_⟩
      have h1 := (hg x hgx).2
      rcases List.mem_cons.1 hx with q | q
      · omega
      · have := hf3 x q; omega
    have HUJ : Hid (Upd G w (w3.alloc (.cells #[.pointer (some ⟨gd, 0, none⟩), .pointer (some ⟨gt, 0, none⟩)] 144))) := HU2.out.trans (hu3.seq hu4) (fun x hx => hx) (by simp)
    have HFJ : Hid (∀ x ∈ w3.heap.size :: F0, w.heap.size ≤ x) := fun x hx => by
      have h1 := HU2.out.size
      have h2 := hu3.size
      rcases List.mem_cons.1 hx with q | q
      · omega
      · have := hf3 x q; omega
    clear ht3 hu3 hf3 hu4
    go_wp2_with fail
    generalize w3.alloc (.cells #[.pointer (some ⟨gd, 0, none⟩), .pointer (some ⟨gt, 0, none⟩)] 144) = w4 at *
    generalize w3.heap.size = gj at *
    (with_reducible refine (dkRead_any nmJ HJ0.out.dd (by have := HN1.out; omega)).mono ?_)
    rw [HB.out]
    rintro e w5 ⟨vb, rfl, hob, hu5⟩
    have hbl : b.length ≤ 16777216 := by have h1 := get_le_total s1.now nmJ; rw [HB.out] at h1; have h2 := HJ0.out.dd.ok.tot; dsimp only at h1; omega
    have HJ5 := Lib.hid (HJ0.out.upd0 hu5)
    have HU5 : Hid (Upd G w w5) := HUJ.out.trans hu5 (fun x hx => hx) (by simp)
    have HAB : Hid (∀ x ∈ blk vb, x ∉ gj :: F0) := fun x hx hf => by
      have h1 := (hob.ge x hx).1
      have h2 := (HJ0.out.geF x hf).2
      omega
    have HRB : Hid (Bytes w5 vb b) := hob.rd
    have HBS : Hid (∀ x ∈ blk vb, x < w5.heap.size) := fun x hx => (hob.ge x hx).2
    obtain ⟨ba, bk, rfl, hbk1, hbk2, -⟩ := hob.rd
    have hbk3 : bk ≤ 9223372036854775807 := by unfold maxLen at hbk2; omega
    clear hob hu5 hbk2 HJ0 HUJ
    go_wp2_with fail
    go_loopw [9] (fun i wr => ∃ (k : Nat) (tk : JS) (F' : List Nat), i = .int .i64 k ∧ k ≤ b.length ∧ Hid (JD w0 wr gd gj F' G1 tk s1) ∧ Hid (∃ f, b.length < f + k ∧ scanJ b f k tk = jScan b) ∧ Hid (Upd G w wr) ∧ Hid (∀ x ∈ F', w.heap.size ≤ x) ∧ Hid (Bytes wr (.slice ba b.length bk) b) ∧ Hid (∀ x ∈ blk (.slice ba b.length bk), x ∉ F' ∧ x < wr.heap.size)) (fun i _ => b.length - (intOf i).toNat)
    case atStart => exact ⟨0, [], gj :: F0, rfl, Nat.zero_le _, HJ5.out, ⟨b.length + 1, by omega, rfl⟩, HU5.out, HFJ.out, HRB.out, fun x hx => ⟨HAB.out x hx, HBS.out x hx⟩⟩
    case round =>
      obtain ⟨k, tk, F', rfl, hk, hj, hsc, hu, hf, hrb, hab⟩ := hrel
      clear HJ5 HU5 HFJ HRB HAB HBS
      obtain ⟨p, tn, er, hq⟩ : ∃ p t e, nextF b (k : Int) = (p, t, e) := ⟨_, _, _, rfl⟩
      have HQ := Lib.hid hq
      have HKI : Hid (I64 (k : Int)) := ⟨by omega, by omega⟩
      go_wp2_with fail
      (with_reducible refine (fNext_any _ b (k : Int) wr hrb.out (by omega) HKI.out).mono ?_)
      unfold NextSaid
      rw [HQ.out]
      rintro e w6 ⟨vp, rfl, hop, hu6⟩
      have H6 := Lib.hid (hj.out.upd0 hu6)
      have H6u : Hid (Upd G w w6) := hu.out.trans hu6 (fun x hx => hx) (by simp)
      have HB6 := Lib.hid (hrb.out.upd0 hu6)
      have HA6 : Hid (∀ x ∈ blk (.slice ba b.length bk), x ∉ F' ∧ x < w6.heap.size) := fun x hx => ⟨(hab.out x hx).1, Nat.lt_of_lt_of_le (hab.out x hx).2 hu6.size⟩
      have HP6 : Hid (Bytes w6 vp p) := hop.rd
      obtain ⟨pa, pk, rfl, -⟩ := hop.rd
      clear hop hu6 hj hrb hq hu hab
      dsimp only
      by_cases he0 : er = 0
      · subst he0
        have hto := frNext_to b k hk (by rw [HQ.out])
        rw [HQ.out] at hto
        obtain ⟨m, hm1, hm2, hm3, hm4, hm5⟩ := hto
        dsimp only at hm4 hm5
        subst hm4
        have HPL : Hid (p.length ≤ 140737488351232) := by unfold Hid; omega
        have HM3 := Lib.hid hm3
        have HM1 := Lib.hid hm1
        clear hm1 hm2 hm3 hm5
        go_wp2_with fail
        (with_reducible refine (changes_any w6 _ p HP6.out HPL.out).mono ?_)
        rintro e w7 ⟨x7, rfl, ho7, hu7⟩
        have H7 := Lib.hid (H6.out.upd0 hu7)
        have H7u : Hid (Upd G w w7) := H6u.out.trans hu7 (fun x hx => hx) (by simp)
        have HB7 := Lib.hid (HB6.out.upd0 hu7)
        have HA7 : Hid (∀ x ∈ blk (.slice ba b.length bk), x ∉ F' ∧ x < w7.heap.size) := fun x hx => ⟨(HA6.out x hx).1, Nat.lt_of_lt_of_le (HA6.out x hx).2 hu7.size⟩
        have HX7 : Hid (RdN 2 chCells w7 x7 (chL p)) := ho7.rd chCells_len
        have HXA : Hid (∀ x ∈ blk x7, x ∉ F') := fun x hx hf => by have := (ho7.ge x hx).1; have := (H6.out.geF x hf).2; omega
        obtain ⟨xa, xk, rfl, -⟩ := ho7.rd chCells_len
        clear ho7 hu7 H6 H6u HB6 HA6 HP6
        cases hok : chOk p with
        | false =>
          have HE : Hid (jScan b = (tk, k)) := by
            obtain ⟨f, h1, h2⟩ := hsc.out
            obtain ⟨f, rfl⟩ : ∃ f', f = f' + 1 := ⟨f - 1, by omega⟩
            rw [scanJ_succ] at h2
            have : jnx b k tk = none := by
              unfold jnx
              rw [HQ.out]; dsimp only
              rw [if_neg (fun q => by have := q.2; rw [hok] at this; exact absurd this (by simp))]
            rw [this] at h2
            exact h2.symm
          clear hok
          by_cases hlt : k < b.length
          · have q1 : (k : Int) < b.length := by omega
            have HEQ : Hid (jOpen s = (tk, (dCut s1 nmJ (k : Int)).2)) := by unfold Hid; rw [HOP.out, HE.out, if_pos hlt]
            go_wp2_with fail
            (with_reducible refine (dCut_any nmJ (k : Int) HKI.out H7.out.dd HN1.out HL1.out).mono ?_)
            rintro e wz ⟨rfl, hdz⟩
            have HZ := Lib.hid (jopen_done H7.out H7u.out hf.out HG1.out hdz)
            clear hdz
            go_wp2_with fail
            go_ret2
            exact ⟨gj, rfl, by rw [HEQ.out]; exact HZ.out⟩
          · have q1 : ¬ (k : Int) < b.length := by omega
            have HEQ : Hid (jOpen s = (tk, s1)) := by unfold Hid; rw [HOP.out, HE.out, if_neg hlt]
            have HZ := Lib.hid (jopen_done H7.out H7u.out hf.out HG1.out (H7.out.dd.out0 (Upd.refl [] _)))
            go_wp2_with fail
            go_ret2
            exact ⟨gj, rfl, by rw [HEQ.out]; exact HZ.out⟩
        | true =>
          have HNX : Hid (∃ f, b.length < f + (k + 8 + m) ∧ scanJ b f (k + 8 + m) (jAll tk (chL p)) = jScan b) := by
            obtain ⟨f, h1, h2⟩ := hsc.out
            obtain ⟨f, rfl⟩ : ∃ f', f = f' + 1 := ⟨f - 1, by omega⟩
            rw [scanJ_succ] at h2
            have : jnx b k tk = some (jAll tk (chL p), k + 8 + m) := by
              unfold jnx
              rw [HQ.out]; dsimp only
              rw [if_pos ⟨rfl, hok⟩, Int.toNat_natCast]
            rw [this] at h2
            exact ⟨f, by have := HM1.out; omega, h2⟩
          have HIN : Hid (∀ c ∈ chL p, ChOk c) := (ch_of hok).2.1
          clear hok hsc
          go_wp2_with fail
          (with_reducible refine (hold_any _ (chL p) H7.out HX7.out HXA.out HIN.out).mono ?_)
          rintro e w8 ⟨rfl, F8, h8, hu8, hf8⟩
          have H8 := Lib.hid h8
          have HB8 := Lib.hid (HB7.out.upd hu8 (fun x hx hq => (HA7.out x hx).1 hq))
          have HU8 : Hid (Upd G w w8) := H7u.out.trans hu8 (fun x hx => hx) (fun x hx => .inr (hf.out x hx))
          have HF8 : Hid (∀ x ∈ F8, w.heap.size ≤ x) := fun x hx => by
            have := H7u.out.size
            rcases hf8 x hx with q | q
            · exact hf.out x q
            · omega
          have HA8 : Hid (∀ x ∈ blk (.slice ba b.length bk), x ∉ F8 ∧ x < w8.heap.size) := fun x hx => ⟨fun q => by
            rcases hf8 x q with r | r
            · exact (HA7.out x hx).1 r
            · have := (HA7.out x hx).2; omega, Nat.lt_of_lt_of_le (HA7.out x hx).2 hu8.size⟩
          clear h8 hu8 hf8 H7 H7u HB7 HA7 HX7 HXA
          go_wp2_with fail
          go_roundw
          case rel => exact ⟨k + 8 + m, _, F8, by first | rfl | (congr 1), HM3.out, H8, HNX, HU8, HF8, HB8, HA8⟩
          case measure => have := HM3.out; have := HM1.out; simp [intOf]; omega
      · have ez : (er != 0) = true := by rw [bne_iff_ne]; exact he0
        have HE : Hid (jScan b = (tk, k)) := by
          obtain ⟨f, h1, h2⟩ := hsc.out
          obtain ⟨f, rfl⟩ : ∃ f', f = f' + 1 := ⟨f - 1, by omega⟩
          rw [scanJ_succ] at h2
          have : jnx b k tk = none := by
            unfold jnx
            rw [HQ.out]; dsimp only
            rw [if_neg (fun q => he0 q.1)]
          rw [this] at h2
          exact h2.symm
        clear he0 HB6 HP6
        by_cases hlt : k < b.length
        · have q1 : (k : Int) < b.length := by omega
          have HEQ : Hid (jOpen s = (tk, (dCut s1 nmJ (k : Int)).2)) := by unfold Hid; rw [HOP.out, HE.out, if_pos hlt]
          go_wp2_with fail
          (with_reducible refine (dCut_any nmJ (k : Int) HKI.out H6.out.dd HN1.out HL1.out).mono ?_)
          rintro e wz ⟨rfl, hdz⟩
          have HZ := Lib.hid (jopen_done H6.out H6u.out hf.out HG1.out hdz)
          clear hdz
          go_wp2_with fail
          go_ret2
          exact ⟨gj, rfl, by rw [HEQ.out]; exact HZ.out⟩
        · have q1 : ¬ (k : Int) < b.length := by omega
          have HEQ : Hid (jOpen s = (tk, s1)) := by unfold Hid; rw [HOP.out, HE.out, if_neg hlt]
          have HZ := Lib.hid (jopen_done H6.out H6u.out hf.out HG1.out (H6.out.dd.out0 (Upd.refl [] _)))
          go_wp2_with fail
          go_ret2
          exact ⟨gj, rfl, by rw [HEQ.out]; exact HZ.out⟩
  | false =>
    have hrm : s = s1 := by rw [← hs1, jFresh_no hfi]
    have HRM := Lib.hid hrm
    clear hfi hrm hs1
    go_enter Tryz.func40, Tryz.ntmps40
    go_wp2_with fail
    (with_reducible refine (dkRead_any nmN HD.out (by have := HN.out; omega)).mono ?_)
    rw [HFR.out]
    rintro e w2 ⟨v1, rfl, -, hu1⟩
    have H2 : Hid (DD w0 w2 gd G s1) := by have := HD.out.upd0 hu1; rw [HRM.out] at this; exact this
    have HU2 : Hid (Upd G w w2) := hu1.mono (by simp)
    have HG1 : Hid (∀ x ∈ G, x ∈ G ∨ w.heap.size ≤ x) := fun x hx => .inl hx
    clear hu1 HRM
    go_wp2_with fail
    (with_reducible refine (txIS_New w0 w2 H2.out.old).mono ?_)
    rintro e w3 ⟨gt, F0, rfl, ht3, hu3, hf3⟩
    have hu4 : Upd [] w3 (w3.alloc (.cells #[.pointer (some ⟨gd, 0, none⟩), .pointer (some ⟨gt, 0, none⟩)] 144)) := (Upd.refl [] w3).alloc _
    have HJ0 : Hid (JD w0 (w3.alloc (.cells #[.pointer (some ⟨gd, 0, none⟩), .pointer (some ⟨gt, 0, none⟩)] 144)) gd w3.heap.size (w3.heap.size :: F0) G [] s1) := by
      have hg := (H2.out.ge)
      have hsz := hu3.size
      refine ⟨⟨gt, F0, ⟨Blk.new w3 _ [.pointer (some ⟨gd, 0, none⟩), .pointer (some ⟨gt, 0, none⟩)], ht3.upd0 hu4, Nat.le_trans H2.out.old.size hsz, fun hx => by have := (ht3.ge _ hx).2; omega, JT.nil⟩, rfl⟩, H2.out.upd0 (hu3.seq hu4), fun x hx hgx => ?_⟩
      have h1 := (hg x hgx).2
      rcases List.mem_cons.1 hx with q | q
      · omega
      · have := hf3 x q; omega
    have HUJ : Hid (Upd G w (w3.alloc (.cells #[.pointer (some ⟨gd, 0, none⟩), .pointer (some ⟨gt, 0, none⟩)] 144))) := HU2.out.trans (hu3.seq hu4) (fun x hx => hx) (by simp)
    have HFJ : Hid (∀ x ∈ w3.heap.size :: F0, w.heap.size ≤ x) := fun x hx => by
      have h1 := HU2.out.size
      have h2 := hu3.size
      rcases List.mem_cons.1 hx with q | q
      · omega
      · have := hf3 x q; omega
    clear ht3 hu3 hf3 hu4
    go_wp2_with fail
    generalize w3.alloc (.cells #[.pointer (some ⟨gd, 0, none⟩), .pointer (some ⟨gt, 0, none⟩)] 144) = w4 at *
    generalize w3.heap.size = gj at *
    (with_reducible refine (dkRead_any nmJ HJ0.out.dd (by have := HN1.out; omega)).mono ?_)
    rw [HB.out]
    rintro e w5 ⟨vb, rfl, hob, hu5⟩
    have hbl : b.length ≤ 16777216 := by have h1 := get_le_total s1.now nmJ; rw [HB.out] at h1; have h2 := HJ0.out.dd.ok.tot; dsimp only at h1; omega
    have HJ5 := Lib.hid (HJ0.out.upd0 hu5)
    have HU5 : Hid (Upd G w w5) := HUJ.out.trans hu5 (fun x hx => hx) (by simp)
    have HAB : Hid (∀ x ∈ blk vb, x ∉ gj :: F0) := fun x hx hf => by
      have h1 := (hob.ge x hx).1
      have h2 := (HJ0.out.geF x hf).2
      omega
    have HRB : Hid (Bytes w5 vb b) := hob.rd
    have HBS : Hid (∀ x ∈ blk vb, x < w5.heap.size) := fun x hx => (hob.ge x hx).2
    obtain ⟨ba, bk, rfl, hbk1, hbk2, -⟩ := hob.rd
    have hbk3 : bk ≤ 9223372036854775807 := by unfold maxLen at hbk2; omega
    clear hob hu5 hbk2 HJ0 HUJ
    go_wp2_with fail
    go_loopw [9] (fun i wr => ∃ (k : Nat) (tk : JS) (F' : List Nat), i = .int .i64 k ∧ k ≤ b.length ∧ Hid (JD w0 wr gd gj F' G tk s1) ∧ Hid (∃ f, b.length < f + k ∧ scanJ b f k tk = jScan b) ∧ Hid (Upd G w wr) ∧ Hid (∀ x ∈ F', w.heap.size ≤ x) ∧ Hid (Bytes wr (.slice ba b.length bk) b) ∧ Hid (∀ x ∈ blk (.slice ba b.length bk), x ∉ F' ∧ x < wr.heap.size)) (fun i _ => b.length - (intOf i).toNat)
    case atStart => exact ⟨0, [], gj :: F0, rfl, Nat.zero_le _, HJ5.out, ⟨b.length + 1, by omega, rfl⟩, HU5.out, HFJ.out, HRB.out, fun x hx => ⟨HAB.out x hx, HBS.out x hx⟩⟩
    case round =>
      obtain ⟨k, tk, F', rfl, hk, hj, hsc, hu, hf, hrb, hab⟩ := hrel
      clear HJ5 HU5 HFJ HRB HAB HBS
      obtain ⟨p, tn, er, hq⟩ : ∃ p t e, nextF b (k : Int) = (p, t, e) := ⟨_, _, _, rfl⟩
      have HQ := Lib.hid hq
      have HKI : Hid (I64 (k : Int)) := ⟨by omega, by omega⟩
      go_wp2_with fail
      (with_reducible refine (fNext_any _ b (k : Int) wr hrb.out (by omega) HKI.out).mono ?_)
      unfold NextSaid
      rw [HQ.out]
      rintro e w6 ⟨vp, rfl, hop, hu6⟩
      have H6 := Lib.hid (hj.out.upd0 hu6)
      have H6u : Hid (Upd G w w6) := hu.out.trans hu6 (fun x hx => hx) (by simp)
      have HB6 := Lib.hid (hrb.out.upd0 hu6)
      have HA6 : Hid (∀ x ∈ blk (.slice ba b.length bk), x ∉ F' ∧ x < w6.heap.size) := fun x hx => ⟨(hab.out x hx).1, Nat.lt_of_lt_of_le (hab.out x hx).2 hu6.size⟩
      have HP6 : Hid (Bytes w6 vp p) := hop.rd
      obtain ⟨pa, pk, rfl, -⟩ := hop.rd
      clear hop hu6 hj hrb hq hu hab
      dsimp only
      by_cases he0 : er = 0
      · subst he0
        have hto := frNext_to b k hk (by rw [HQ.out])
        rw [HQ.out] at hto
        obtain ⟨m, hm1, hm2, hm3, hm4, hm5⟩ := hto
        dsimp only at hm4 hm5
        subst hm4
        have HPL : Hid (p.length ≤ 140737488351232) := by unfold Hid; omega
        have HM3 := Lib.hid hm3
        have HM1 := Lib.hid hm1
        clear hm1 hm2 hm3 hm5
        go_wp2_with fail
        (with_reducible refine (changes_any w6 _ p HP6.out HPL.out).mono ?_)
        rintro e w7 ⟨x7, rfl, ho7, hu7⟩
        have H7 := Lib.hid (H6.out.upd0 hu7)
        have H7u : Hid (Upd G w w7) := H6u.out.trans hu7 (fun x hx => hx) (by simp)
        have HB7 := Lib.hid (HB6.out.upd0 hu7)
        have HA7 : Hid (∀ x ∈ blk (.slice ba b.length bk), x ∉ F' ∧ x < w7.heap.size) := fun x hx => ⟨(HA6.out x hx).1, Nat.lt_of_lt_of_le (HA6.out x hx).2 hu7.size⟩
        have HX7 : Hid (RdN 2 chCells w7 x7 (chL p)) := ho7.rd chCells_len
        have HXA : Hid (∀ x ∈ blk x7, x ∉ F') := fun x hx hf => by have := (ho7.ge x hx).1; have := (H6.out.geF x hf).2; omega
        obtain ⟨xa, xk, rfl, -⟩ := ho7.rd chCells_len
        clear ho7 hu7 H6 H6u HB6 HA6 HP6
        cases hok : chOk p with
        | false =>
          have HE : Hid (jScan b = (tk, k)) := by
            obtain ⟨f, h1, h2⟩ := hsc.out
            obtain ⟨f, rfl⟩ : ∃ f', f = f' + 1 := ⟨f - 1, by omega⟩
            rw [scanJ_succ] at h2
            have : jnx b k tk = none := by
              unfold jnx
              rw [HQ.out]; dsimp only
              rw [if_neg (fun q => by have := q.2; rw [hok] at this; exact absurd this (by simp))]
            rw [this] at h2
            exact h2.symm
          clear hok
          by_cases hlt : k < b.length
          · have q1 : (k : Int) < b.length := by omega
            have HEQ : Hid (jOpen s = (tk, (dCut s1 nmJ (k : Int)).2)) := by unfold Hid; rw [HOP.out, HE.out, if_pos hlt]
            go_wp2_with fail
            (with_reducible refine (dCut_any nmJ (k : Int) HKI.out H7.out.dd HN1.out HL1.out).mono ?_)
            rintro e wz ⟨rfl, hdz⟩
            have HZ := Lib.hid (jopen_done H7.out H7u.out hf.out HG1.out hdz)
            clear hdz
            go_wp2_with fail
            go_ret2
            exact ⟨gj, rfl, by rw [HEQ.out]; exact HZ.out⟩
          · have q1 : ¬ (k : Int) < b.length := by omega
            have HEQ : Hid (jOpen s = (tk, s1)) := by unfold Hid; rw [HOP.out, HE.out, if_neg hlt]
            have HZ := Lib.hid (jopen_done H7.out H7u.out hf.out HG1.out (H7.out.dd.out0 (Upd.refl [] _)))
            go_wp2_with fail
            go_ret2
            exact ⟨gj, rfl, by rw [HEQ.out]; exact HZ.out⟩
        | true =>
          have HNX : Hid (∃ f, b.length < f + (k + 8 + m) ∧ scanJ b f (k + 8 + m) (jAll tk (chL p)) = jScan b) := by
            obtain ⟨f, h1, h2⟩ := hsc.out
            obtain ⟨f, rfl⟩ : ∃ f', f = f' + 1 := ⟨f - 1, by omega⟩
            rw [scanJ_succ] at h2
            have : jnx b k tk = some (jAll tk (chL p), k + 8 + m) := by
              unfold jnx
              rw [HQ.out]; dsimp only
              rw [if_pos ⟨rfl, hok⟩, Int.toNat_natCast]
            rw [this] at h2
            exact ⟨f, by have := HM1.out; omega, h2⟩
          have HIN : Hid (∀ c ∈ chL p, ChOk c) := (ch_of hok).2.1
          clear hok hsc
          go_wp2_with fail
          (with_reducible refine (hold_any _ (chL p) H7.out HX7.out HXA.out HIN.out).mono ?_)
          rintro e w8 ⟨rfl, F8, h8, hu8, hf8⟩
          have H8 := Lib.hid h8
          have HB8 := Lib.hid (HB7.out.upd hu8 (fun x hx hq => (HA7.out x hx).1 hq))
          have HU8 : Hid (Upd G w w8) := H7u.out.trans hu8 (fun x hx => hx) (fun x hx => .inr (hf.out x hx))
          have HF8 : Hid (∀ x ∈ F8, w.heap.size ≤ x) := fun x hx => by
            have := H7u.out.size
            rcases hf8 x hx with q | q
            · exact hf.out x q
            · omega
          have HA8 : Hid (∀ x ∈ blk (.slice ba b.length bk), x ∉ F8 ∧ x < w8.heap.size) := fun x hx => ⟨fun q => by
            rcases hf8 x q with r | r
            · exact (HA7.out x hx).1 r
            · have := (HA7.out x hx).2; omega, Nat.lt_of_lt_of_le (HA7.out x hx).2 hu8.size⟩
          clear h8 hu8 hf8 H7 H7u HB7 HA7 HX7 HXA
          go_wp2_with fail
          go_roundw
          case rel => exact ⟨k + 8 + m, _, F8, by first | rfl | (congr 1), HM3.out, H8, HNX, HU8, HF8, HB8, HA8⟩
          case measure => have := HM3.out; have := HM1.out; simp [intOf]; omega
      · have ez : (er != 0) = true := by rw [bne_iff_ne]; exact he0
        have HE : Hid (jScan b = (tk, k)) := by
          obtain ⟨f, h1, h2⟩ := hsc.out
          obtain ⟨f, rfl⟩ : ∃ f', f = f' + 1 := ⟨f - 1, by omega⟩
          rw [scanJ_succ] at h2
          have : jnx b k tk = none := by
            unfold jnx
            rw [HQ.out]; dsimp only
            rw [if_neg (fun q => he0 q.1)]
          rw [this] at h2
          exact h2.symm
        clear he0 HB6 HP6
        by_cases hlt : k < b.length
        · have q1 : (k : Int) < b.length := by omega
          have HEQ : Hid (jOpen s = (tk, (dCut s1 nmJ (k : Int)).2)) := by unfold Hid; rw [HOP.out, HE.out, if_pos hlt]
          go_wp2_with fail
          (with_reducible refine (dCut_any nmJ (k : Int) HKI.out H6.out.dd HN1.out HL1.out).mono ?_)
          rintro e wz ⟨rfl, hdz⟩
          have HZ := Lib.hid (jopen_done H6.out H6u.out hf.out HG1.out hdz)
          clear hdz
          go_wp2_with fail
          go_ret2
          exact ⟨gj, rfl, by rw [HEQ.out]; exact HZ.out⟩
        · have q1 : ¬ (k : Int) < b.length := by omega
          have HEQ : Hid (jOpen s = (tk, s1)) := by unfold Hid; rw [HOP.out, HE.out, if_neg hlt]
          have HZ := Lib.hid (jopen_done H6.out H6u.out hf.out HG1.out (H6.out.dd.out0 (Upd.refl [] _)))
          go_wp2_with fail
          go_ret2
          exact ⟨gj, rfl, by rw [HEQ.out]; exact HZ.out⟩
end
end Go.Proofs.YtmhojaiajhdlcaaGreat
namespace Go.Proofs.YtmhojaiajhdlcaaGreat
open Go.RowKit
set_option linter.unusedSimpArgs false
set_option linter.unusedVariables false
section
variable {B : List Nat} {K : KB} {s : Sl} {l : List UInt8}
theorem Sh.take_ (h : Sh B K s l) (m : Nat) (hm : m ≤ l.length) : Sh B K ⟨s.a, m, s.k⟩ (l.take m) := by
  have h1 := h.n
  have h2 := h.k
  refine ⟨by rw [List.length_take]; show m = _; omega, by show m ≤ s.k; omega, h.m, h.nul, fun hne => ?_⟩
  have hl : l ≠ [] := fun q => hne (by rw [q]; simp)
  obtain ⟨b, off, e1, e2, e3, e4⟩ := h.ex hl
  refine ⟨b, off, e1, e2, by rw [List.length_take]; omega, ?_⟩
  rw [List.length_take, Nat.min_eq_left hm]
  conv => rhs; rw [← e4]
  rw [List.take_take, Nat.min_eq_left hm]
theorem Sh.drop_ (h : Sh B K s l) (m : Nat) (hm : m ≤ l.length) : Sh B K ⟨if s.k = m then s.a else s.a.map (·.add m), l.length - m, s.k - m⟩ (l.drop m) := by
  have h1 := h.n
  have h2 := h.k
  refine ⟨by rw [List.length_drop], by show l.length - m ≤ s.k - m; omega, by have := h.m; show s.k - m ≤ _; omega, fun q => ?_, fun hne => ?_⟩
  · dsimp only at q ⊢
    split at q
    · have := h.nul q; omega
    · have := h.nul (by simpa using q); omega
  · have hlt : m < l.length := by
      rcases Nat.lt_or_ge m l.length with q | q
      · exact q
      · exact absurd (List.drop_eq_nil_of_le q) hne
    obtain ⟨b, off, e1, e2, e3, e4⟩ := h.ex (fun q => by rw [q] at hlt; simp at hlt)
    refine ⟨b, off + m, ?_, e2, by rw [List.length_drop]; omega, ?_⟩
    · show (if s.k = m then s.a else s.a.map (·.add m)) = _
      rw [if_neg (by omega), e1]; simp [add_none]
    · rw [List.length_drop]
      conv => rhs; rw [← e4]
      rw [List.drop_take, List.drop_drop]
end
/-- A disk, and a slice of bytes that its blocks have. -/
structure DP (w0 w : World) (gd : Nat) (G : List Nat) (s : DS) (sl : Sl) (l : List UInt8) : Prop where
  ex : ∃ gn gm Fn Fm B K cn cm lv lg, DC w0 w gd gn gm Fn Fm B K cn cm lv lg ∧ s = ⟨dfOf cn, dfOf cm, lg.map (·.1)⟩ ∧ DOk s ∧ G = dfoot gd Fn Fm B lv ∧ Sh B K sl l
section
variable {w0 w w' : World} {gd : Nat} {G : List Nat} {s : DS} {sl sl' : Sl} {l l' : List UInt8}
theorem DP.dd (h : DP w0 w gd G s sl l) : DD w0 w gd G s := by
  obtain ⟨gn, gm, Fn, Fm, B, K, cn, cm, lv, lg, hc, e, ho, eG, hs⟩ := h.ex
  exact ⟨gn, gm, Fn, Fm, B, K, cn, cm, lv, lg, hc, e, ho, eG⟩
theorem DP.upd0 (h : DP w0 w gd G s sl l) (hu : Upd [] w w') : DP w0 w' gd G s sl l := by
  obtain ⟨gn, gm, Fn, Fm, B, K, cn, cm, lv, lg, hc, e, ho, eG, hs⟩ := h.ex
  exact ⟨gn, gm, Fn, Fm, B, K, cn, cm, lv, lg, hc.upd0 hu, e, ho, eG, hs⟩
theorem DP.drop_ (h : DP w0 w gd G s sl l) (m : Nat) (hm : m ≤ l.length) : DP w0 w gd G s ⟨if sl.k = m then sl.a else sl.a.map (·.add m), l.length - m, sl.k - m⟩ (l.drop m) := by
  obtain ⟨gn, gm, Fn, Fm, B, K, cn, cm, lv, lg, hc, e, ho, eG, hs⟩ := h.ex
  exact ⟨gn, gm, Fn, Fm, B, K, cn, cm, lv, lg, hc, e, ho, eG, hs.drop_ m hm⟩
theorem DP.form (h : DP w0 w gd G s sl l) : sl.n = l.length ∧ sl.n ≤ sl.k ∧ sl.k ≤ maxLen := by
  obtain ⟨gn, gm, Fn, Fm, B, K, cn, cm, lv, lg, hc, e, ho, eG, hs⟩ := h.ex
  exact ⟨hs.n, hs.k, hs.m⟩
/-- New bytes. -/
theorem DD.bytes (h : DD w0 w gd G s) {v : Value} (ho : Own bv w.heap.size 5 w' v l) (hu : Upd [] w w') : ∃ sl G', v = .slice sl.a sl.n sl.k ∧ DP w0 w' gd G' s sl l ∧ (∀ x ∈ G', x ∈ G ∨ w.heap.size ≤ x) ∧ (∀ x ∈ G, x ∈ G') := by
  obtain ⟨gn, gm, Fn, Fm, B, K, cn, cm, lv, lg, hc, e, hok, rfl⟩ := h.ex
  obtain ⟨sl, B', K', rfl, h1, h2, h3, h4, h5, h6, h7⟩ := hc.bks.new ho hu hc.old.size
  have hd := hc.upd0 hu
  refine ⟨sl, _, rfl, ⟨gn, gm, Fn, Fm, B', K', cn, cm, lv, lg, ⟨hd.dk, hd.gdb, hd.now.keep h2 h7, hd.mark.keep h2 h7, hd.full, hd.apt, h1, hd.log, fun x hx => (hd.lsh x hx).ext h2⟩, e, hok, rfl, h4⟩, fun x hx => ?_, fun x hx => ?_⟩
  · rcases (dfoot_mem _ _ _ _ _ _).1 hx with rfl | hx | hx | hx | hx
    · exact .inl ((dfoot_mem _ _ _ _ _ _).2 (.inl rfl))
    · exact .inl ((dfoot_mem _ _ _ _ _ _).2 (.inr (.inl hx)))
    · exact .inl ((dfoot_mem _ _ _ _ _ _).2 (.inr (.inr (.inl hx))))
    · exact (h3 x hx).imp (fun q => (dfoot_mem _ _ _ _ _ _).2 (.inr (.inr (.inr (.inl q))))) id
    · exact .inl ((dfoot_mem _ _ _ _ _ _).2 (.inr (.inr (.inr (.inr hx)))))
  · rcases (dfoot_mem _ _ _ _ _ _).1 hx with rfl | hx | hx | hx | hx
    · exact (dfoot_mem _ _ _ _ _ _).2 (.inl rfl)
    · exact (dfoot_mem _ _ _ _ _ _).2 (.inr (.inl hx))
    · exact (dfoot_mem _ _ _ _ _ _).2 (.inr (.inr (.inl hx)))
    · exact (dfoot_mem _ _ _ _ _ _).2 (.inr (.inr (.inr (.inl (h2.sub x hx)))))
    · exact (dfoot_mem _ _ _ _ _ _).2 (.inr (.inr (.inr (.inr hx))))
/-- The first bytes are put. -/
theorem dpPut_any (nm : ByteArray) (m : Nat) (h : DP w0 w gd G s sl l) (hm : m ≤ l.length) (hx : WrOk (wPut nm (l.take m)) s.now) (hl : s.log.length ≤ 1000000000) :
    Calls Tryz.prog 67 #[.pointer (some ⟨gd, 0, none⟩), wrv (wPut nm (l.take m)) ⟨sl.a, m, sl.k⟩] w fun e w' => e = .returned (.tuple #[]) ∧ ∃ G', DP w0 w' gd G' (dDo (wPut nm (l.take m)) s) sl l ∧ Upd G w w' ∧ (∀ x ∈ G', x ∈ G ∨ w.heap.size ≤ x) := by
  obtain ⟨gn, gm, Fn, Fm, B, K, cn, cm, lv, lg, hc, rfl, ho, rfl, hs⟩ := h.ex
  refine (do_any (wPut nm (l.take m)) ⟨sl.a, m, sl.k⟩ hc hx (hs.take_ m hm) (by simpa using hl)).mono ?_
  rintro e w' ⟨rfl, Fn', B', K', cn', lv', h1, h2, h3, h4, h5⟩
  exact ⟨rfl, _, ⟨gn, gm, Fn', Fm, B', K', cn', cm, lv', _, h1, by unfold dDo; rw [h3]; simp, ho.do_ hx, rfl, hs.ext h2⟩, h4, h5⟩
/-- MARK -/
def lenV : Value → Nat
  | .slice _ n _ => n
  | _ => 0
theorem bytes_upd {w w' : World} {v : Value} {l : List UInt8} (h : Bytes w v l) {S : List Nat} (hu : Upd S w w') (hs : l ≠ [] → ∀ x ∈ blk v, x ∉ S) : Bytes w' v l := by
  by_cases hne : l = []
  · obtain ⟨a, k, e, h1, h2, h3⟩ := h
    exact ⟨a, k, e, h1, h2, fun q => absurd hne q⟩
  · exact h.upd hu (hs hne)
theorem DOut.dp {w1 w2 : World} {G1 G2 : List Nat} (h : DP w0 w2 gd G2 s sl l) (hu : Upd G w w1) (hf : ∀ x ∈ G1, x ∈ G ∨ w.heap.size ≤ x) (hu2 : Upd G1 w1 w2) (hf2 : ∀ x ∈ G2, x ∈ G1 ∨ w1.heap.size ≤ x) : DOut w0 w gd G s w2 :=
  ⟨G2, h.dd, hu.trans hu2 (fun x hx => hx) hf, fun x hx => by
    have := hu.size
    rcases hf2 x hx with q | q
    · exact hf x q
    · exact .inr (by omega)⟩
set_option maxRecDepth 20000 in
set_option maxHeartbeats 4000000 in
theorem dAppend_any (nm : ByteArray) (v : Value) (p : List UInt8) (hp : Bytes w v p) (hap : p ≠ [] → ∀ x ∈ blk v, x ∉ G) (h : DD w0 w gd G s) (hpl : p.length ≤ 100000000) (hn : s.now.length ≤ 4999) (hl : s.log.length ≤ 500000000) :
    Calls Tryz.prog 19 #[.pointer (some ⟨gd, 0, none⟩), sv nm, v] w (DDoes w0 w gd G (dAppend s nm p)) := by
  have HP := Lib.hid hp
  obtain ⟨ap, cp, rfl, hp1, hp2, -⟩ := hp
  have hcp : cp ≤ 9223372036854775807 := by unfold maxLen at hp2; omega
  obtain ⟨gn, oa, on, ok, c0, -, hget⟩ := h.look nm (by omega)
  have HGET := Lib.hid hget
  have C0 := Lib.hid c0
  have HD := Lib.hid h
  have HL := Lib.hid hl
  have HNL := Lib.hid hn
  have HAP := Lib.hid hap
  have htot := h.ok.tot
  clear hget h hl hn hp2 c0 hap
  cases hok : nameOk nm with
  | false =>
    have HR : Hid (dAppend s nm p = (14, s)) := by unfold Hid dAppend; rw [hok]; rfl
    have HOK := Lib.hid hok
    clear hok
    go_enter Tryz.func19, Tryz.ntmps19
    go_wp2_with fail
    (with_reducible refine (dnamed_any w nm).mono ?_)
    rw [HOK.out]
    rintro e w1 ⟨rfl, rfl⟩
    go_wp2_with fail
    go_ret
    exact ⟨by rw [HR.out]; rfl, by rw [HR.out]; exact HD.out.out0 (Upd.refl _ _)⟩
  | true =>
    have HOK := Lib.hid hok
    have HTOT : Hid (s.now.length ≤ 100000) := by have := HNL.out; unfold Hid; omega
    by_cases hfull : 16777216 < dTotal s.now + p.length
    · have HR : Hid (dAppend s nm p = (9, s)) := by unfold Hid dAppend; rw [hok, if_pos rfl, if_pos hfull]
      have q : (16777216 : Int) - (dTotal s.now : Int) < p.length := by omega
      have hwr : IntKind.i64.wrap (16777216 - (dTotal s.now : Int)) = 16777216 - (dTotal s.now : Int) := by rw [IntKind.wrap_i64]; omega
      clear hok
      go_enter Tryz.func19, Tryz.ntmps19
      go_wp2_with fail
      (with_reducible refine (dnamed_any w nm).mono ?_)
      rw [HOK.out]
      rintro e w1 ⟨rfl, rfl⟩
      go_wp2_with fail
      (with_reducible refine (dTotal_any HD.out HTOT.out).mono ?_)
      rintro e w2 ⟨rfl, hu2⟩
      have HU2 := Lib.hid hu2
      clear hu2
      go_wp2_with fail
      go_ret
      exact ⟨by rw [HR.out]; rfl, by rw [HR.out]; exact HD.out.out0 HU2.out⟩
    · have q : ¬ (16777216 : Int) - (dTotal s.now : Int) < p.length := by omega
      have hwr : IntKind.i64.wrap (16777216 - (dTotal s.now : Int)) = 16777216 - (dTotal s.now : Int) := by rw [IntKind.wrap_i64]; omega
      have HT : Hid (dTotal s.now + p.length ≤ 16777216) := by unfold Hid; omega
      cases hin : inD s.now nm with
      | true =>
        have HR : Hid (dAppend s nm p = (0, dPut nm s (chunks p))) := by unfold Hid dAppend; rw [hok, if_pos rfl, if_neg hfull, hin, if_pos rfl]
        rw [hin] at HGET
        have HIN1 := Lib.hid hin
        clear hok hin hfull
        go_enter Tryz.func19, Tryz.ntmps19
        go_wp2_with fail
        (with_reducible refine (dnamed_any w nm).mono ?_)
        rw [HOK.out]
        rintro e w1 ⟨rfl, rfl⟩
        go_wp2_with fail
        (with_reducible refine (dTotal_any HD.out HTOT.out).mono ?_)
        rintro e w2 ⟨rfl, hu2⟩
        have HU2 := Lib.hid hu2
        have c0 := hu2.cell C0.out (by simp)
        clear hu2
        go_wp2_with fail
        (with_reducible refine (HGET.out w2 HU2.out).mono ?_)
        rintro e w3 ⟨rfl, hu3⟩
        have HU3 := Lib.hid (HU2.out.seq hu3)
        have D1 := Lib.hid (HD.out.upd0 HU3.out)
        have HP1 := Lib.hid (HP.out.upd0 HU3.out)
        have HLN1 : Hid (s.now.length ≤ 5000) := by have := HNL.out; unfold Hid; omega
        have HTT1 : Hid (dTotal s.now + p.length ≤ 16777216) := HT.out
        have HLG1 : Hid (s.log.length ≤ 500000001) := by have := HL.out; unfold Hid; omega
        clear hu3 c0 q hwr htot
        have HRUN := Lib.hid (fun ty => run_app (P := Tryz.prog) (w := w3) (ty := ty) bv_one Tryz.underlying28 infoB8 rfl (.slice none 0 0) (.slice ap p.length cp) [] p (World.ownsRow_nil w3 (w3.heap).size _ 1) HP1.out (by simp; omega) (by simp [maxLen]; omega) (Nat.le_refl _))
        go_wp2_with (at_builtin; go_must (refine wpList_app_of rfl _ _ rfl (.slice none 0 0) (.slice ap p.length cp) rfl rfl (HRUN.out _) ?_; rintro v2 w2 ⟨ho2, hu2, hk2⟩; have HU2 := Lib.hid (hu2.mono (T := []) (by simp [blk])); obtain ⟨⟨a2, n2, k2⟩, G2, rfl, hd2, hg2, hg2'⟩ := D1.out.bytes (l := p) ho2 HU2.out; have HD2 := Lib.hid hd2; have HG2 := Lib.hid hg2; have HG2' := Lib.hid hg2'; clear ho2 hu2 hk2 hd2 hg2 hg2' HRUN; dsimp only))
        go_loopw [2] (fun v wr => ∃ (k : Nat) (sl : Sl) (G' : List Nat), k ≤ (chunks p).length ∧ v = .slice sl.a sl.n sl.k ∧ Hid (DP w0 wr gd G' (dPut nm s ((chunks p).take k)) sl (p.drop (32 * k))) ∧ Hid (Upd G w3 wr) ∧ Hid (∀ x ∈ G', x ∈ G ∨ (w3.heap).size ≤ x)) (fun v _ => lenV v)
        case atStart => exact ⟨0, ⟨a2, n2, k2⟩, G2, Nat.zero_le _, rfl, HD2.out, HU2.out.mono (by simp), HG2.out⟩
        case round =>
          obtain ⟨k, ⟨sa, sn, sk⟩, G', hk, rfl, hd, hu, hg⟩ := hrel
          clear HD2 HU2 HG2 HG2'
          have hform := hd.out.form
          dsimp only at hform
          obtain ⟨hf1, hf2, hf3⟩ := hform
          rw [List.length_drop] at hf1
          have hcl := chunks_len p
          by_cases hlt : k < (chunks p).length
          · have hpos : 32 * k < p.length := by omega
            obtain ⟨hw0, hstep⟩ : WrOk (wPut nm ((p.drop (32 * k)).take 32)) (dPut nm s ((chunks p).take k)).now ∧ (dPut nm s ((chunks p).take k)).log.length ≤ 1000000000 := by
              have ih := PutOk.all p D1.out.ok HIN1.out HLN1.out HTT1.out k hk
              have hcl2 : ((p.drop (32 * k)).take 32).length = min 32 (p.length - 32 * k) := by rw [List.length_take, List.length_drop]
              have htt := HTT1.out
              refine ⟨(ih.step ((p.drop (32 * k)).take 32) (fun q => by rw [q] at hcl2; simp at hcl2; omega) HLN1.out (by rw [hcl2]; omega)).1, ?_⟩
              have := ih.log
              have := HLG1.out
              omega
            have HWO := Lib.hid hw0
            have HLO := Lib.hid hstep
            have HDT := Lib.hid (dPut_take nm s p k hlt)
            obtain ⟨m, hmd⟩ : ∃ m, m = min sn 32 := ⟨_, rfl⟩
            have HM1 : Hid ((p.drop (32 * k)).take 32 = (p.drop (32 * k)).take m) := by
              unfold Hid
              rcases Nat.lt_or_ge sn 32 with q | q
              · rw [List.take_of_length_le (by rw [List.length_drop]; omega), List.take_of_length_le (by rw [List.length_drop]; omega)]
              · rw [show m = 32 by omega]
            have HM2 : Hid ((p.drop (32 * k)).drop m = p.drop (32 * (k + 1))) := by
              unfold Hid
              rw [List.drop_drop]
              rcases Nat.lt_or_ge sn 32 with q | q
              · rw [List.drop_of_length_le (by omega), List.drop_of_length_le (by omega)]
              · rw [show 32 * k + m = 32 * (k + 1) by omega]
            have HM3 : Hid (m ≤ (p.drop (32 * k)).length) := by unfold Hid; rw [List.length_drop]; omega
            have hm1 : m ≤ sn := by omega
            have hm0 : 0 < m := by omega
            have HLD : Hid ((p.drop (32 * k)).length = sn) := by unfold Hid; rw [List.length_drop]; omega
            obtain ⟨A, hA, hcut2⟩ : ∃ A : Option Addr, A = (if sk = m then sa else sa.map (·.add m)) ∧ ∀ W, (Instr.slice 28 (.slice sa sn sk) (some (.int .i64 (m : Int))) none none).run Tryz.prog W = .ok (.slice A (sn - m) (sk - m)) W :=
              ⟨_, rfl, fun W => by have h := run_cut (P := Tryz.prog) (size := 1) Tryz.underlying28 (by kernel_rfl) sa sn sk m hm1 W; simpa using h⟩
            have hcut1 := fun W => run_cut_h (P := Tryz.prog) (size := 1) Tryz.underlying28 (by kernel_rfl) sa sn sk m (by omega) W
            have HA := Lib.hid hA
            have hpz : (0 : Int) < sn := by omega
            have HMD := Lib.hid hmd
            clear hw0 hstep hA hf1 hcl
            have fin : Hid (∀ w' G2, DP w0 w' gd G2 (dDo (wPut nm ((p.drop (32 * k)).take m)) (dPut nm s ((chunks p).take k))) ⟨sa, sn, sk⟩ (p.drop (32 * k)) → DP w0 w' gd G2 (dPut nm s ((chunks p).take (k + 1))) ⟨A, sn - m, sk - m⟩ (p.drop (32 * (k + 1)))) := fun w' G2 h => by
              have h2 := h.drop_ m HM3.out
              rw [HM2.out, HLD.out] at h2
              dsimp only at h2
              rw [← HA.out] at h2
              rw [HDT.out, HM1.out]; exact h2
            rw [HM1.out] at HWO
            rcases Nat.lt_or_ge 32 sn with q | q
            · obtain rfl : m = 32 := by omega
              have q1 : (32 : Int) < sn := by omega
              clear q hmd
              go_wp2_with fail
              (with_reducible refine (dpPut_any nm _ hd.out HM3.out HWO.out HLO.out).mono ?_)
              rintro e w4 ⟨rfl, G4, h4, hu4, hg4⟩
              have H4 := Lib.hid (fin.out w4 G4 h4)
              try rw [Nat.sub_self] at H4
              have HU4 : Hid (Upd G w3 w4) := hu.out.trans hu4 (fun x hx => hx) hg.out
              have HG4 : Hid (∀ x ∈ G4, x ∈ G ∨ (w3.heap).size ≤ x) := fun x hx => by
                have := hu.out.size
                rcases hg4 x hx with r | r
                · exact hg.out x r
                · exact .inr (by omega)
              clear h4 hu4 hg4 fin
              go_wp2_with fail
              go_roundw
              case rel => exact ⟨k + 1, ⟨A, _, _⟩, G4, by omega, by first | rfl | (rw [HA.out, if_neg (by omega)]; rfl), H4, HU4, HG4⟩
              case measure => simp [lenV]; omega
            · obtain rfl : m = sn := by omega
              have q1 : ¬ (32 : Int) < m := by omega
              clear q hmd
              go_wp2_with fail
              (with_reducible refine (dpPut_any nm _ hd.out HM3.out HWO.out HLO.out).mono ?_)
              rintro e w4 ⟨rfl, G4, h4, hu4, hg4⟩
              have H4 := Lib.hid (fin.out w4 G4 h4)
              try rw [Nat.sub_self] at H4
              have HU4 : Hid (Upd G w3 w4) := hu.out.trans hu4 (fun x hx => hx) hg.out
              have HG4 : Hid (∀ x ∈ G4, x ∈ G ∨ (w3.heap).size ≤ x) := fun x hx => by
                have := hu.out.size
                rcases hg4 x hx with r | r
                · exact hg.out x r
                · exact .inr (by omega)
              clear h4 hu4 hg4 fin
              go_wp2_with fail
              go_roundw
              case rel => exact ⟨k + 1, ⟨A, _, _⟩, G4, by omega, by first | rfl | (rw [HA.out, if_neg (by omega)]; rfl), H4, HU4, HG4⟩
              case measure => simp [lenV]; omega
          · obtain rfl : k = (chunks p).length := by omega
            have hz : sn = 0 := by omega
            have HF : Hid (DP w0 wr gd G' (dPut nm s (chunks p)) ⟨sa, sn, sk⟩ (p.drop (32 * (chunks p).length))) := by have := hd.out; rwa [List.take_length] at this
            have HFO := Lib.hid hf1
            clear hf1 hcl hd
            subst hz
            go_wp2_with fail
            go_ret
            exact ⟨by rw [HR.out]; rfl, by rw [HR.out]; exact DOut.dp HF.out (HU3.out.mono (by simp)) (fun x hx => .inl hx) hu.out hg.out⟩
      | false =>
        have HR : Hid (dAppend s nm p = (0, dPut nm (dDo (wMake nm) s) (chunks p))) := by unfold Hid dAppend; rw [hok, if_pos rfl, if_neg hfull, hin, if_neg (by simp)]
        rw [hin] at HGET
        obtain ⟨hw, hk1, hk2, hk3, hk4⟩ := HD.out.ok.make nm hin (by have := HNL.out; omega)
        have HW := Lib.hid hw
        have HIN1 := Lib.hid hk2
        have HLN1 : Hid ((dDo (wMake nm) s).now.length ≤ 5000) := by have := HNL.out; unfold Hid; omega
        have HTT1 : Hid (dTotal (dDo (wMake nm) s).now + p.length ≤ 16777216) := by unfold Hid; rw [hk3]; exact HT.out
        have HLG1 : Hid ((dDo (wMake nm) s).log.length ≤ 500000001) := by have := HL.out; unfold Hid dDo; simp; omega
        have HLL : Hid (s.log.length ≤ 1000000000) := by have := HL.out; unfold Hid; omega
        clear hok hin hfull hw hk1 hk2 hk3 hk4
        go_enter Tryz.func19, Tryz.ntmps19
        go_wp2_with fail
        (with_reducible refine (dnamed_any w nm).mono ?_)
        rw [HOK.out]
        rintro e w1 ⟨rfl, rfl⟩
        go_wp2_with fail
        (with_reducible refine (dTotal_any HD.out HTOT.out).mono ?_)
        rintro e w2 ⟨rfl, hu2⟩
        have HU2 := Lib.hid hu2
        have c0 := hu2.cell C0.out (by simp)
        clear hu2
        go_wp2_with fail
        (with_reducible refine (HGET.out w2 HU2.out).mono ?_)
        rintro e w3 ⟨rfl, hu3⟩
        have HU3 := Lib.hid (HU2.out.seq hu3)
        clear hu3 c0 q hwr htot
        go_wp2_with fail
        (with_reducible refine (dDo_any (wMake nm) (HD.out.upd0 HU3.out) HW.out rfl HLL.out).mono ?_)
        rintro e w5 ⟨rfl, ho5⟩
        have HO5 := Lib.hid (ho5.later HU3.out)
        obtain ⟨G5, hd5, hu5, hg5⟩ := HO5.out
        have D1 := Lib.hid hd5
        have HU5 := Lib.hid hu5
        have HG5 := Lib.hid hg5
        have HP1 := Lib.hid (bytes_upd HP.out hu5 HAP.out)
        clear ho5 hd5 hu5 hg5 HO5
        have HRUN := Lib.hid (fun ty => run_app (P := Tryz.prog) (w := w5) (ty := ty) bv_one Tryz.underlying28 infoB8 rfl (.slice none 0 0) (.slice ap p.length cp) [] p (World.ownsRow_nil w5 (w5.heap).size _ 1) HP1.out (by simp; omega) (by simp [maxLen]; omega) (Nat.le_refl _))
        go_wp2_with (at_builtin; go_must (refine wpList_app_of rfl _ _ rfl (.slice none 0 0) (.slice ap p.length cp) rfl rfl (HRUN.out _) ?_; rintro v2 w2 ⟨ho2, hu2, hk2⟩; have HU2 := Lib.hid (hu2.mono (T := []) (by simp [blk])); obtain ⟨⟨a2, n2, k2⟩, G2, rfl, hd2, hg2, hg2'⟩ := D1.out.bytes (l := p) ho2 HU2.out; have HD2 := Lib.hid hd2; have HG2 := Lib.hid hg2; have HG2' := Lib.hid hg2'; clear ho2 hu2 hk2 hd2 hg2 hg2' HRUN; dsimp only))
        go_loopw [2] (fun v wr => ∃ (k : Nat) (sl : Sl) (G' : List Nat), k ≤ (chunks p).length ∧ v = .slice sl.a sl.n sl.k ∧ Hid (DP w0 wr gd G' (dPut nm (dDo (wMake nm) s) ((chunks p).take k)) sl (p.drop (32 * k))) ∧ Hid (Upd G5 w5 wr) ∧ Hid (∀ x ∈ G', x ∈ G5 ∨ (w5.heap).size ≤ x)) (fun v _ => lenV v)
        case atStart => exact ⟨0, ⟨a2, n2, k2⟩, G2, Nat.zero_le _, rfl, HD2.out, HU2.out.mono (by simp), HG2.out⟩
        case round =>
          obtain ⟨k, ⟨sa, sn, sk⟩, G', hk, rfl, hd, hu, hg⟩ := hrel
          clear HD2 HU2 HG2 HG2'
          have hform := hd.out.form
          dsimp only at hform
          obtain ⟨hf1, hf2, hf3⟩ := hform
          rw [List.length_drop] at hf1
          have hcl := chunks_len p
          by_cases hlt : k < (chunks p).length
          · have hpos : 32 * k < p.length := by omega
            obtain ⟨hw0, hstep⟩ : WrOk (wPut nm ((p.drop (32 * k)).take 32)) (dPut nm (dDo (wMake nm) s) ((chunks p).take k)).now ∧ (dPut nm (dDo (wMake nm) s) ((chunks p).take k)).log.length ≤ 1000000000 := by
              have ih := PutOk.all p D1.out.ok HIN1.out HLN1.out HTT1.out k hk
              have hcl2 : ((p.drop (32 * k)).take 32).length = min 32 (p.length - 32 * k) := by rw [List.length_take, List.length_drop]
              have htt := HTT1.out
              refine ⟨(ih.step ((p.drop (32 * k)).take 32) (fun q => by rw [q] at hcl2; simp at hcl2; omega) HLN1.out (by rw [hcl2]; omega)).1, ?_⟩
              have := ih.log
              have := HLG1.out
              omega
            have HWO := Lib.hid hw0
            have HLO := Lib.hid hstep
            have HDT := Lib.hid (dPut_take nm (dDo (wMake nm) s) p k hlt)
            obtain ⟨m, hmd⟩ : ∃ m, m = min sn 32 := ⟨_, rfl⟩
            have HM1 : Hid ((p.drop (32 * k)).take 32 = (p.drop (32 * k)).take m) := by
              unfold Hid
              rcases Nat.lt_or_ge sn 32 with q | q
              · rw [List.take_of_length_le (by rw [List.length_drop]; omega), List.take_of_length_le (by rw [List.length_drop]; omega)]
              · rw [show m = 32 by omega]
            have HM2 : Hid ((p.drop (32 * k)).drop m = p.drop (32 * (k + 1))) := by
              unfold Hid
              rw [List.drop_drop]
              rcases Nat.lt_or_ge sn 32 with q | q
              · rw [List.drop_of_length_le (by omega), List.drop_of_length_le (by omega)]
              · rw [show 32 * k + m = 32 * (k + 1) by omega]
            have HM3 : Hid (m ≤ (p.drop (32 * k)).length) := by unfold Hid; rw [List.length_drop]; omega
            have hm1 : m ≤ sn := by omega
            have hm0 : 0 < m := by omega
            have HLD : Hid ((p.drop (32 * k)).length = sn) := by unfold Hid; rw [List.length_drop]; omega
            obtain ⟨A, hA, hcut2⟩ : ∃ A : Option Addr, A = (if sk = m then sa else sa.map (·.add m)) ∧ ∀ W, (Instr.slice 28 (.slice sa sn sk) (some (.int .i64 (m : Int))) none none).run Tryz.prog W = .ok (.slice A (sn - m) (sk - m)) W :=
              ⟨_, rfl, fun W => by have h := run_cut (P := Tryz.prog) (size := 1) Tryz.underlying28 (by kernel_rfl) sa sn sk m hm1 W; simpa using h⟩
            have hcut1 := fun W => run_cut_h (P := Tryz.prog) (size := 1) Tryz.underlying28 (by kernel_rfl) sa sn sk m (by omega) W
            have HA := Lib.hid hA
            have hpz : (0 : Int) < sn := by omega
            have HMD := Lib.hid hmd
            clear hw0 hstep hA hf1 hcl
            have fin : Hid (∀ w' G2, DP w0 w' gd G2 (dDo (wPut nm ((p.drop (32 * k)).take m)) (dPut nm (dDo (wMake nm) s) ((chunks p).take k))) ⟨sa, sn, sk⟩ (p.drop (32 * k)) → DP w0 w' gd G2 (dPut nm (dDo (wMake nm) s) ((chunks p).take (k + 1))) ⟨A, sn - m, sk - m⟩ (p.drop (32 * (k + 1)))) := fun w' G2 h => by
              have h2 := h.drop_ m HM3.out
              rw [HM2.out, HLD.out] at h2
              dsimp only at h2
              rw [← HA.out] at h2
              rw [HDT.out, HM1.out]; exact h2
            rw [HM1.out] at HWO
            rcases Nat.lt_or_ge 32 sn with q | q
            · obtain rfl : m = 32 := by omega
              have q1 : (32 : Int) < sn := by omega
              clear q hmd
              go_wp2_with fail
              (with_reducible refine (dpPut_any nm _ hd.out HM3.out HWO.out HLO.out).mono ?_)
              rintro e w4 ⟨rfl, G4, h4, hu4, hg4⟩
              have H4 := Lib.hid (fin.out w4 G4 h4)
              try rw [Nat.sub_self] at H4
              have HU4 : Hid (Upd G5 w5 w4) := hu.out.trans hu4 (fun x hx => hx) hg.out
              have HG4 : Hid (∀ x ∈ G4, x ∈ G5 ∨ (w5.heap).size ≤ x) := fun x hx => by
                have := hu.out.size
                rcases hg4 x hx with r | r
                · exact hg.out x r
                · exact .inr (by omega)
              clear h4 hu4 hg4 fin
              go_wp2_with fail
              go_roundw
              case rel => exact ⟨k + 1, ⟨A, _, _⟩, G4, by omega, by first | rfl | (rw [HA.out, if_neg (by omega)]; rfl), H4, HU4, HG4⟩
              case measure => simp [lenV]; omega
            · obtain rfl : m = sn := by omega
              have q1 : ¬ (32 : Int) < m := by omega
              clear q hmd
              go_wp2_with fail
              (with_reducible refine (dpPut_any nm _ hd.out HM3.out HWO.out HLO.out).mono ?_)
              rintro e w4 ⟨rfl, G4, h4, hu4, hg4⟩
              have H4 := Lib.hid (fin.out w4 G4 h4)
              try rw [Nat.sub_self] at H4
              have HU4 : Hid (Upd G5 w5 w4) := hu.out.trans hu4 (fun x hx => hx) hg.out
              have HG4 : Hid (∀ x ∈ G4, x ∈ G5 ∨ (w5.heap).size ≤ x) := fun x hx => by
                have := hu.out.size
                rcases hg4 x hx with r | r
                · exact hg.out x r
                · exact .inr (by omega)
              clear h4 hu4 hg4 fin
              go_wp2_with fail
              go_roundw
              case rel => exact ⟨k + 1, ⟨A, _, _⟩, G4, by omega, by first | rfl | (rw [HA.out, if_neg (by omega)]; rfl), H4, HU4, HG4⟩
              case measure => simp [lenV]; omega
          · obtain rfl : k = (chunks p).length := by omega
            have hz : sn = 0 := by omega
            have HF : Hid (DP w0 wr gd G' (dPut nm (dDo (wMake nm) s) (chunks p)) ⟨sa, sn, sk⟩ (p.drop (32 * (chunks p).length))) := by have := hd.out; rwa [List.take_length] at this
            have HFO := Lib.hid hf1
            clear hf1 hcl hd
            subst hz
            go_wp2_with fail
            go_ret
            exact ⟨by rw [HR.out]; rfl, by rw [HR.out]; exact DOut.dp HF.out HU5.out HG5.out hu.out hg.out⟩
end
end Go.Proofs.YtmhojaiajhdlcaaGreat
namespace Go.Proofs.YtmhojaiajhdlcaaGreat
open Go.RowKit
set_option linter.unusedSimpArgs false
set_option linter.unusedVariables false
set_option linter.unusedSectionVars false
theorem ch_one {w : World} {C : Array Value} {g : Nat} (c : Ch) (hg : g = w.heap.size) (hC : C = (chCells c).toArray) : RdN 2 chCells (w.alloc (.cells C 136)) (.slice (some ⟨g, 0, none⟩) 1 1) [c] := by
  subst hg; subst hC
  have hb := Blk.new w 136 (chCells c)
  refine ⟨_, 1, rfl, by simp, by simp [maxLen], fun _ => ⟨w.heap.size, 0, rfl, fun j hj i hi => ?_⟩⟩
  have hj0 : j = 0 := by simpa using hj
  subst hj0
  rw [Nat.zero_mul, Nat.zero_add, Nat.zero_add, hb.cell, nth_cons_zero]
theorem putF_le (p : List UInt8) : (putF [] p).length ≤ 262152 := by
  unfold putF
  split
  · simp
  · rw [List.nil_append, frameOf_len]; omega
/-- How much has come behind k calls. -/
structure More (k : Nat) (s s' : DS) : Prop where
  ok : DOk s'
  now : s'.now.length ≤ s.now.length + k
  log : s'.log.length ≤ s.log.length + 262160 * k
theorem More.zero {s : DS} (h : DOk s) : More 0 s s := ⟨h, by omega, by omega⟩
theorem More.up {k : Nat} {s s' : DS} (h : More k s s') : More (k + 1) s s' := ⟨h.ok, by have := h.now; omega, by have := h.log; omega⟩
theorem More.append {k : Nat} {s s' : DS} (h : More k s s') (nm : ByteArray) (p : List UInt8) (hp : p.length ≤ 262152) (hn : s'.now.length ≤ 4999) : More (k + 1) s (dAppend s' nm p).2 := by
  have h1 := grows_append h.ok nm p hn
  have h2 := h1.now
  have h3 := h1.log
  have h4 := h.now
  have h5 := h.log
  exact ⟨h.ok.append nm p hn, by omega, by omega⟩
/-- The rows from the k-th on, still to be laid. -/
theorem jLay_drop (t : JS) (k : Nat) (e : Int) (s : DS) (hk : k < t.length) (he : e = 0) : jLay (t.drop k) (e, s) = jLay (t.drop (k + 1)) (dAppend s nmN (putF [] (encChs [nth t k]))) := by
  rw [List.drop_eq_getElem_cons hk, nth_get t k hk]
  show (if e = 0 then _ else _) = _
  rw [if_pos he]
theorem jLay_stop (u : JS) (e : Int) (s : DS) (he : e ≠ 0) : jLay u (e, s) = (e, s) := by
  cases u with
  | nil => rfl
  | cons r u => show (if e = 0 then _ else _) = _; rw [if_neg he]
section
variable {w0 w w' : World} {gd gj : Nat} {F G : List Nat} {t t' : JS} {s s' : DS}
theorem JD.app (h : JD w0 w gd gj F G t s) {v : Value} {p : List UInt8} (nm : ByteArray) (hp : Bytes w v p) (hap : p ≠ [] → ∀ x ∈ blk v, x ∉ G) (hpl : p.length ≤ 100000000) (hn : s.now.length ≤ 4999) (hl : s.log.length ≤ 500000000) {r : Int} (he : dAppend s nm p = (r, s')) :
    Calls Tryz.prog 19 #[.pointer (some ⟨gd, 0, none⟩), sv nm, v] w fun e w' => e = .returned (.int .i64 r) ∧ JOut w0 w gd gj (F ++ G) t s' w' := by
  refine (dAppend_any nm v p hp hap h.dd hpl hn hl).mono ?_
  rw [he]
  rintro e w' ⟨rfl, ho⟩
  exact ⟨rfl, h.disk ho⟩
theorem JOut.cell0 {S : List Nat} (h : JOut w0 w gd gj S t s w') : w'.cell? ⟨gj, 0, none⟩ = some (.pointer (some ⟨gd, 0, none⟩)) := by
  obtain ⟨F', G', h1, -⟩ := h
  obtain ⟨gt, F0, c0, -⟩ := h1.cells
  exact c0
theorem jout_done {W W' : World} {F1 G1 : List Nat} {s1 s2 : DS} (h : JD w0 W gd gj F1 G1 t s1) (hu : Upd (F ++ G) w W) (hf : ∀ x ∈ F1, x ∈ F ++ G ∨ w.heap.size ≤ x) (hg : ∀ x ∈ G1, x ∈ F ++ G ∨ w.heap.size ≤ x) (hd : DOut w0 W gd G1 s2 W') : JOut w0 w gd gj (F ++ G) t s2 W' := by
  obtain ⟨F', G', k1, k2, k3, k4⟩ := (show ∃ F' G', _ from h.disk hd)
  have hs := hu.size
  have hin : ∀ x ∈ F1 ++ G1, x ∈ F ++ G ∨ w.heap.size ≤ x := fun x hx => by
    rcases List.mem_append.1 hx with q | q
    · exact hf x q
    · exact hg x q
  have key : ∀ x, x ∈ F1 ++ G1 ∨ W.heap.size ≤ x → x ∈ F ++ G ∨ w.heap.size ≤ x := fun x hx => by
    rcases hx with q | q
    · exact hin x q
    · exact .inr (by omega)
  exact ⟨F', G', k1, hu.trans k2 (fun x hx => hx) hin, fun x hx => key x (k3 x hx), fun x hx => key x (k4 x hx)⟩
theorem JOut.refl (h : JD w0 w gd gj F G t s) : JOut w0 w gd gj (F ++ G) t s w := h.out0 (Upd.refl [] w)
set_option maxRecDepth 20000 in
set_option maxHeartbeats 8000000 in
theorem anew_any (h : JD w0 w gd gj F G t s) (hn : s.now.length ≤ 4900) (hl : s.log.length ≤ 480000000) :
    Calls Tryz.prog 98 #[.pointer (some ⟨gj, 0, none⟩)] w fun e w' => e = .returned (.tuple #[]) ∧ JOut w0 w gd gj (F ++ G) t (jAnew t s) w' := by
  obtain ⟨e0, s0', hap0⟩ : ∃ e s', dAppend s nmN [] = (e, s') := ⟨_, _, rfl⟩
  obtain ⟨e9, s9, hlay⟩ : ∃ e s', jLay t (e0, s0') = (e, s') := ⟨_, _, rfl⟩
  have HLAY : Hid (jLay (t.drop 0) (e0, s0') = (e9, s9)) := hlay
  have HAN : Hid (jAnew t s = if e9 ≠ 0 then (dRemove s9 nmN).2 else (dRename s9 nmN nmJ).2) := by unfold Hid jAnew; rw [hap0, hlay]
  have HM0 : Hid (More 1 s s0') := by
    have := (More.zero h.dd.ok).append nmN [] (by simp) (by omega)
    rw [hap0] at this; exact this
  have HAP0 := Lib.hid hap0
  have HD := Lib.hid h
  have HN := Lib.hid hn
  have HL := Lib.hid hl
  have HJT := Lib.hid h.jt
  have ht41 := h.jt.len
  obtain ⟨gt, F0, c0, c1, -, -⟩ := h.cells
  clear h hn hl hap0 hlay
  go_enter Tryz.func98, Tryz.ntmps98
  go_wp2_with fail
  (with_reducible refine (HD.out.app nmN (Rd.nil w) (fun q => absurd rfl q) (by simp) (by have := HN.out; omega) (by have := HL.out; omega) HAP0.out).mono ?_)
  rintro e w1 ⟨rfl, ho1⟩
  have HO1 := Lib.hid ho1
  clear ho1 c0 c1
  go_wp2_with fail
  go_loopw [2, 3] (fun ve vi wr => ∃ (k : Nat) (e : Int) (sk : DS), ve = .int .i64 e ∧ vi = .int .i64 (k : Int) ∧ k ≤ t.length ∧ Hid (JOut w0 w gd gj (F ++ G) t sk wr) ∧ Hid (jLay (t.drop k) (e, sk) = (e9, s9)) ∧ Hid (More (k + 1) s sk)) (fun _ vi _ => t.length - (intOf vi).toNat)
  case atStart => exact ⟨0, e0, s0', rfl, rfl, Nat.zero_le _, HO1, HLAY, HM0⟩
  case round =>
    clear HO1 HLAY HM0 HAP0
    obtain ⟨k, ek, sk, rfl, rfl, hk, ho, hlay, hm⟩ := hrel
    have hMn := hm.out.now
    have hMl := hm.out.log
    have HSZ : Hid (sk.now.length ≤ 4990 ∧ sk.log.length ≤ 495000000) := by have := HN.out; have := HL.out; unfold Hid; omega
    clear hMn hMl
    obtain ⟨Fk, Gk, hj, hu, hf, hg⟩ := (show ∃ F' G', _ from ho.out)
    have HJ := Lib.hid hj
    have HU := Lib.hid hu
    have HF := Lib.hid hf
    have HG := Lib.hid hg
    obtain ⟨gt, F0, c0, c1, ht, -⟩ := hj.cells
    have HT := Lib.hid ht
    clear hj hu hf hg ho ht
    by_cases hlt : k < t.length
    · have q1 : (k : Int) < t.length := by omega
      by_cases he : ek = 0
      · subst he
        have hmem := nth_mem (l := t) k hlt
        have hok := HJT.out.ks _ hmem
        have hat := tAt_at (0 : Int) s0 t k hlt
        have hdr := jLay_drop t k 0 sk hlt rfl
        generalize nth t k = row at *
        obtain ⟨rk, rd⟩ := row
        have h1 := hok.lo
        have h2 := hok.hi
        have h3 := hok.sz
        dsimp only at h1 h2 h3 hat
        obtain ⟨e1, s1, hap⟩ : ∃ e s', dAppend sk nmN (putF [] (encChs [(rk, rd)])) = (e, s') := ⟨_, _, rfl⟩
        rw [hap] at hdr
        have HLAY : Hid (jLay (t.drop (k + 1)) (e1, s1) = (e9, s9)) := by unfold Hid; rw [← hdr]; exact hlay.out
        have HAP := Lib.hid hap
        have HAT := Lib.hid hat
        have hpl := putF_le (encChs [(rk, rd)])
        have HM1 : Hid (More (k + 2) s s1) := by have := hm.out.append nmN _ hpl (by have := HSZ.out; omega); rw [hap] at this; exact this
        have HPL := Lib.hid hpl
        have HROW : Hid (∀ c ∈ [(rk, rd)], I64 c.1 ∧ c.2.size ≤ 1000000) := by
          intro c hc
          simp at hc
          subst hc
          exact ⟨i64_mk (by dsimp only; omega) (by dsimp only; omega), by dsimp only; omega⟩
        have HEL : Hid ((encChs [(rk, rd)]).length ≤ 140737488351232) := by
          have := encCh_le rk rd (i64_mk (by omega) (by omega)) (by omega)
          have h9 := encNum_len 1
          have h8 := nb_le8 1 (by omega)
          unfold Hid; rw [encChs_one, List.length_append]; omega
        have HI : Hid (I64 (k : Int)) := i64_mk (by omega) (by omega)
        clear hmem hok h1 h2 h3 hat hdr hap hpl hlay hm
        go_wp2_with fail
        (with_reducible refine (txIS_Len (t.length : Int) HT.out rfl).mono ?_)
        rintro e w2 ⟨rfl, rfl⟩
        go_wp2_with fail
        (with_reducible refine (txIS_At (k : Int) rk rd true HI.out HT.out (by omega) HAT.out).mono ?_)
        rintro e w3 ⟨rfl, hu3⟩
        have HJ3 := Lib.hid (HJ.out.upd0 hu3)
        have HU3 : Hid (Upd (F ++ G) w w3) := HU.out.trans hu3 (fun x hx => hx) (by simp)
        have d0 := hu3.cell c0 (by simp)
        have D0 := Lib.hid d0
        have HS3 : Hid (∀ x ∈ Gk, x < w3.heap.size) := fun x hx => (HJ3.out.dd.ge x hx).2
        clear hu3 HJ HU HT c0 c1
        have HC1 : Hid (∀ W g, RdN 2 chCells W (.slice (some ⟨g, 0, none⟩) 1 1) [(rk, rd)] → Upd [] w3 W → Calls Tryz.prog 96 #[.slice (some ⟨g, 0, none⟩) 1 1] W fun e w' => ∃ a n k, e = .returned (.slice a n k) ∧ Hid (Own bv w3.heap.size 5 w' (.slice a n k) (encChs [(rk, rd)])) ∧ Upd [] w3 w') := fun W g hr hW => by
          refine (payload_any _ [(rk, rd)] W hr HROW.out (by simp)).mono ?_
          rintro e w' ⟨v, rfl, ho, hu⟩
          obtain ⟨a, k, rfl, -⟩ := ho.rd
          exact ⟨a, _, k, rfl, ho.base_le hW.size, hW.seq hu⟩
        have HC2 : Hid (∀ W a n k, Own bv w3.heap.size 5 W (.slice a n k) (encChs [(rk, rd)]) → Upd [] w3 W → Calls Tryz.prog 78 #[.slice none 0 0, .slice a n k] W fun e w' => ∃ a n k, e = .returned (.slice a n k) ∧ Hid (Own bv w3.heap.size 5 w' (.slice a n k) (putF [] (encChs [(rk, rd)]))) ∧ Upd [] w3 w') := fun W a n k ho hW => by
          refine (fPut_any _ _ [] (encChs [(rk, rd)]) W (Rd.nil _) ho.rd (by simp) HEL.out).mono ?_
          rintro e w' ⟨v, rfl, ho2, hu⟩
          obtain ⟨a, k, rfl, -⟩ := ho2.rd
          exact ⟨a, _, k, rfl, ho2.base_le hW.size, hW.seq hu⟩
        have HC3 : Hid (∀ W a n k, Own bv w3.heap.size 5 W (.slice a n k) (putF [] (encChs [(rk, rd)])) → Upd [] w3 W → Calls Tryz.prog 19 #[.pointer (some ⟨gd, 0, none⟩), sv nmN, .slice a n k] W fun e w' => e = .returned (.int .i64 e1) ∧ Hid (JOut w0 w3 gd gj (Fk ++ Gk) t s1 w') ∧ Upd (Fk ++ Gk) w3 w') := fun W a n k ho hW => by
          refine ((HJ3.out.upd0 hW).app nmN ho.rd (fun _ x hx hg => by have := (ho.ge x hx).1; have := HS3.out x hg; omega) (by have := HPL.out; omega) (by have := HSZ.out; omega) (by have := HSZ.out; omega) HAP.out).mono ?_
          rintro e w' ⟨rfl, hd⟩
          have h1 := JOut.later hW hd
          exact ⟨rfl, h1, by obtain ⟨F', G', k1, k2, k3, k4⟩ := (show ∃ F' G', _ from h1); exact k2⟩
        have ru := Upd.refl [] w3
        go_wp2_with fail
        go_region_held3 (fun W => W.cell? ⟨gj, 0, none⟩ = some (.pointer (some ⟨gd, 0, none⟩))) (first | go_keep | exact ru.cell D0.out (by simp) | exact jc0)
          (first
            | (go_at_call 96; (with_reducible refine (HC1.out _ _ ?_ (Upd.seq ru ?_)).mono ?_); (first | exact ch_one _ (by simp) rfl | exact RdN.upd0 chCells_len (ch_one _ (by simp) rfl) (by repeat (first | exact Upd.refl _ _ | apply Upd.drew | apply Upd.drewN))); (repeat (first | exact Upd.refl _ _ | apply Upd.drew | apply Upd.drewN | apply Upd.alloc)); (rintro _ W1 ⟨a1, n1, k1, rfl, ho1, ru⟩; dsimp only))
            | (go_at_call 78; (with_reducible refine (HC2.out _ a1 n1 k1 (Own.upd (S := []) ho1.out ?_ (by simp)) (Upd.seq ru ?_)).mono ?_); (repeat (first | exact Upd.refl _ _ | apply Upd.drew | apply Upd.drewN | apply Upd.alloc)); (rintro _ W2 ⟨a2, n2, k2, rfl, ho2, ru⟩; dsimp only))
            | (go_at_call 19; (with_reducible refine (HC3.out _ a2 n2 k2 (Own.upd (S := []) ho2.out ?_ (by simp)) (Upd.seq ru ?_)).mono ?_); (repeat (first | exact Upd.refl _ _ | apply Upd.drew | apply Upd.drewN | apply Upd.alloc)); (rintro _ W3 ⟨rfl, hd3, ru3⟩; have jc0 := JOut.cell0 hd3.out; dsimp only)))
        all_goals
          have HO3 : Hid (JOut w0 w gd gj (F ++ G) t s1 W3) := by
            have hin : ∀ x ∈ Fk ++ Gk, x ∈ F ++ G ∨ w.heap.size ≤ x := fun x hx => by
              rcases List.mem_append.1 hx with q | q
              · exact HF.out x q
              · exact HG.out x q
            obtain ⟨F', G', k1, k2, k3, k4⟩ := (show ∃ F' G', _ from hd3.out)
            have hs := HU3.out.size
            have key : ∀ x, x ∈ Fk ++ Gk ∨ w3.heap.size ≤ x → x ∈ F ++ G ∨ w.heap.size ≤ x := fun x hx => by
              rcases hx with q | q
              · exact hin x q
              · exact .inr (by omega)
            exact ⟨F', G', k1, HU3.out.trans k2 (fun x hx => hx) hin, fun x hx => key x (k3 x hx), fun x hx => key x (k4 x hx)⟩
          clear hd3 ru3 ho1 ho2 ru HC1 HC2 HC3 d0 D0 HJ3 HU3 jc0
          go_wp2_with fail
          go_roundw
          case rel => exact ⟨k + 1, e1, s1, rfl, by go_num, by omega, HO3, HLAY, HM1⟩
          case measure => simp [intOf]; omega
      · have t2 : (ek == 0) = false := by rw [beq_eq_false_iff_ne]; exact he
        have hst := jLay_stop (t.drop k) ek sk he
        have HEQ : Hid (ek = e9 ∧ sk = s9) := by
          have := hlay.out
          rw [hst] at this
          injection this with h1 h2
          exact ⟨h1, h2⟩
        obtain ⟨rfl, rfl⟩ := HEQ.out
        have ez : (ek != 0) = true := by rw [bne_iff_ne]; exact he
        have HA2 : Hid (jAnew t s = (dRemove sk nmN).2) := by unfold Hid; rw [HAN.out, if_pos he]
        clear hst he hlay hm
        go_wp2_with fail
        (with_reducible refine (txIS_Len (t.length : Int) HT.out rfl).mono ?_)
        rintro e w2 ⟨rfl, rfl⟩
        go_wp2_with fail
        (with_reducible refine (dRemove_any nmN HJ.out.dd (by have := HSZ.out; omega) (by have := HSZ.out; omega)).mono ?_)
        rintro e w5 ⟨rfl, hd5⟩
        have HZ := Lib.hid (jout_done HJ.out HU.out HF.out HG.out hd5)
        clear hd5
        go_wp2_with fail
        ((try simp only [Exit.inBlock, Exit.then]); refine bodyPost_ret (results_none rfl _ _ _) rfl ?_)
        exact ⟨rfl, by rw [HA2.out]; exact HZ.out⟩
    · obtain rfl : k = t.length := by omega
      have q1 : ¬ (t.length : Int) < t.length := by omega
      have HEQ : Hid (ek = e9 ∧ sk = s9) := by
        have := hlay.out
        rw [List.drop_length] at this
        injection this with h1 h2
        exact ⟨h1, h2⟩
      obtain ⟨rfl, rfl⟩ := HEQ.out
      by_cases he : ek = 0
      · subst he
        have HA2 : Hid (jAnew t s = (dRename sk nmN nmJ).2) := by unfold Hid; rw [HAN.out, if_neg (fun q => q rfl)]
        clear hlay hm
        go_wp2_with fail
        (with_reducible refine (txIS_Len (t.length : Int) HT.out rfl).mono ?_)
        rintro e w2 ⟨rfl, rfl⟩
        go_wp2_with fail
        (with_reducible refine (dRename_any nmN nmJ HJ.out.dd (by have := HSZ.out; omega) (by have := HSZ.out; omega)).mono ?_)
        rintro e w5 ⟨rfl, hd5⟩
        have HZ := Lib.hid (jout_done HJ.out HU.out HF.out HG.out hd5)
        clear hd5
        go_wp2_with fail
        go_end0
        exact ⟨rfl, by rw [HA2.out]; exact HZ.out⟩
      · have ez : (ek != 0) = true := by rw [bne_iff_ne]; exact he
        have HA2 : Hid (jAnew t s = (dRemove sk nmN).2) := by unfold Hid; rw [HAN.out, if_pos he]
        clear he hlay hm
        go_wp2_with fail
        (with_reducible refine (txIS_Len (t.length : Int) HT.out rfl).mono ?_)
        rintro e w2 ⟨rfl, rfl⟩
        go_wp2_with fail
        (with_reducible refine (dRemove_any nmN HJ.out.dd (by have := HSZ.out; omega) (by have := HSZ.out; omega)).mono ?_)
        rintro e w5 ⟨rfl, hd5⟩
        have HZ := Lib.hid (jout_done HJ.out HU.out HF.out HG.out hd5)
        clear hd5
        go_wp2_with fail
        ((try simp only [Exit.inBlock, Exit.then]); refine bodyPost_ret (results_none rfl _ _ _) rfl ?_)
        exact ⟨rfl, by rw [HA2.out]; exact HZ.out⟩
end
end Go.Proofs.YtmhojaiajhdlcaaGreat
namespace Go.Proofs.YtmhojaiajhdlcaaGreat
open Go.RowKit
set_option linter.unusedSimpArgs false
set_option linter.unusedVariables false
set_option linter.unusedSectionVars false
theorem chBad_no {l : List Ch} (h : ∀ j, j < l.length → 0 ≤ (nth l j).1 ∧ (nth l j).1 ≤ 40) : chBad l = false := by
  unfold chBad
  cases hb : l.any fun c => decide (c.1 < 0 ∨ 40 < c.1) with
  | false => rfl
  | true =>
    obtain ⟨x, hx, hd⟩ := List.any_eq_true.1 hb
    obtain ⟨j, hj, rfl⟩ := List.mem_iff_getElem.1 hx
    have h1 := h j hj
    rw [nth_get _ _ hj] at h1
    have h2 := of_decide_eq_true hd
    omega
theorem chBad_yes {l : List Ch} (j : Nat) (hj : j < l.length) (h : (nth l j).1 < 0 ∨ 40 < (nth l j).1) : chBad l = true := by
  unfold chBad
  rw [List.any_eq_true]
  exact ⟨nth l j, by rw [nth_get _ _ hj]; exact List.getElem_mem _, decide_eq_true h⟩
theorem encCh_size (c : Ch) : c.2.size ≤ (encCh c).length := by
  have := encText_len c.2
  unfold encCh
  rw [List.length_append]; omega
theorem chs_size {l : List Ch} {c : Ch} (hc : c ∈ l) : c.2.size ≤ (encChs l).length := by
  have h1 := one_le hc
  have h2 := encCh_size c
  rw [encChs_one, List.length_append] at h1
  omega
section
variable {w0 w w' : World} {gd gj : Nat} {F G : List Nat} {t t' : JS} {s s' : DS}
set_option maxRecDepth 20000 in
set_option maxHeartbeats 8000000 in
theorem jset_any (u : Value) (l : List Ch) (h : JD w0 w gd gj F G t s) (hl : RdN 2 chCells w u l) (hap : ∀ x ∈ blk u, x ∉ F ++ G) (hI : ∀ c ∈ l, I64 c.1 ∧ c.2.size ≤ 1000000) (hn : s.now.length ≤ 4890) (hlg : s.log.length ≤ 470000000) :
    Calls Tryz.prog 45 #[.pointer (some ⟨gj, 0, none⟩), u] w fun e w' => e = .returned (.int .i64 (jSet t s l).1) ∧ JOut w0 w gd gj (F ++ G) (jSet t s l).2.1 (jSet t s l).2.2 w' := by
  have HL := Lib.hid hl
  have HAP := Lib.hid hap
  have HI := Lib.hid hI
  have HD := Lib.hid h
  have HN := Lib.hid hn
  have HLG := Lib.hid hlg
  obtain ⟨ua, uk, rfl, hlc, hm, -⟩ := hl
  have hm2 : uk ≤ 9223372036854775807 := by unfold maxLen at hm; omega
  clear h hap hI hn hlg hm
  by_cases hbad : l.length < 1 ∨ 41 < l.length
  · have HE : Hid (jSet t s l = (1, t, s)) := by unfold Hid jSet; rw [if_pos hbad]
    go_enter Tryz.func45, Tryz.ntmps45
    rcases hbad with q | q
    · have q1 : (l.length : Int) < 1 := by omega
      clear q
      go_wp2_with fail
      go_ret
      exact ⟨by rw [HE.out]; rfl, by rw [HE.out]; exact HD.out.out0 (Upd.refl _ _)⟩
    · have q1 : ¬ (l.length : Int) < 1 := by omega
      have q2 : (41 : Int) < l.length := by omega
      clear q
      go_wp2_with fail
      go_ret
      exact ⟨by rw [HE.out]; rfl, by rw [HE.out]; exact HD.out.out0 (Upd.refl _ _)⟩
  · have q1 : ¬ (l.length : Int) < 1 := by omega
    have q2 : ¬ (41 : Int) < l.length := by omega
    have HE : Hid (jSet t s l = if chBad l = true then (1, t, s) else if 262144 < (encChs l).length then (2, t, s) else if (dAppend s nmJ (putF [] (encChs l))).1 ≠ 0 then ((dAppend s nmJ (putF [] (encChs l))).1, t, (dAppend s nmJ (putF [] (encChs l))).2) else (0, jAll t l, if 262144 < (dGet (dAppend s nmJ (putF [] (encChs l))).2.now nmJ).1.length then jAnew (jAll t l) (dAppend s nmJ (putF [] (encChs l))).2 else (dAppend s nmJ (putF [] (encChs l))).2)) := by
      unfold Hid; exact if_neg hbad
    have hl41 : l.length ≤ 41 := by omega
    have hl1 : 1 ≤ l.length := by omega
    clear hbad
    go_enter Tryz.func45, Tryz.ntmps45
    go_wp2_with fail
    go_loopw [6, 19] (fun y i wr => ∃ k : Nat, i = .int .i64 (k : Int) ∧ k ≤ l.length ∧ Hid (Upd [] w wr) ∧ Hid (∀ j, j < k → 0 ≤ (nth l j).1 ∧ (nth l j).1 ≤ 40)) (fun _ i _ => l.length - (intOf i).toNat)
    case atStart => exact ⟨0, rfl, Nat.zero_le _, Upd.refl _ _, fun j hj => absurd hj (by omega)⟩
    case round =>
      obtain ⟨k, rfl, hk, hu, hgood⟩ := hrel
      by_cases hlt : k < l.length
      · have hrd := HL.out.upd0 chCells_len hu.out
        obtain ⟨a9, c9, he9, -, -, hca⟩ := hrd
        injection he9 with e1 e2 e3
        subst e1; subst e3
        obtain ⟨b, off, rfl, hcb⟩ := hca (by intro e; rw [e] at hlt; simp at hlt)
        have hc0 : ∀ i, i < 2 → wr.cell? ⟨b, off + (k * 2 + i), none⟩ = (chCells (nth l k))[i]? := hcb k hlt
        have HBD : Hid (((nth l k).1 < 0 ∨ 40 < (nth l k).1) → chBad l = true) := fun q => chBad_yes k hlt q
        have HGD : Hid (0 ≤ (nth l k).1 ∧ (nth l k).1 ≤ 40 → ∀ j, j < k + 1 → 0 ≤ (nth l j).1 ∧ (nth l j).1 ≤ 40) := fun q j hj => by
          rcases Nat.lt_or_eq_of_le (Nat.le_of_lt_succ hj) with r | r
          · exact hgood.out j r
          · subst r; exact q
        generalize nth l k = x at *
        obtain ⟨ck, cd⟩ := x
        dsimp only at HBD HGD
        have c0 : wr.cell? ⟨b, off + k * 2, none⟩ = some (.int .i64 ck) := hc0 0 (by omega)
        have c1 : wr.cell? ⟨b, off + k * 2 + 1, none⟩ = some (.string cd) := hc0 1 (by omega)
        have q3 : (0 : Int) ≤ k := by omega
        have q4 : (k : Int) < l.length := by omega
        have hu5 : Upd [] wr (wr.alloc (.cells #[.int .i64 ck, .string cd] 136)) := (Upd.refl [] wr).alloc _
        have HU5 := Lib.hid (hu.out.seq hu5)
        clear hca hcb hc0 hgood hu5
        by_cases hlo : ck < 0
        · have HE2 : Hid (jSet t s l = (1, t, s)) := by unfold Hid; rw [HE.out, if_pos (HBD.out (.inl hlo))]
          clear HBD HGD
          go_wp2_with fail
          go_ret
          exact ⟨by rw [HE2.out]; rfl, by rw [HE2.out]; exact HD.out.out0 HU5.out⟩
        · by_cases hhi : 40 < ck
          · have HE2 : Hid (jSet t s l = (1, t, s)) := by unfold Hid; rw [HE.out, if_pos (HBD.out (.inr hhi))]
            clear HBD HGD
            go_wp2_with fail
            go_ret
            exact ⟨by rw [HE2.out]; rfl, by rw [HE2.out]; exact HD.out.out0 HU5.out⟩
          · have HG2 := Lib.hid (HGD.out ⟨by omega, by omega⟩)
            clear HBD HGD
            go_wp2_with fail
            go_roundw
            case rel => exact ⟨k + 1, by go_num, by omega, HU5, HG2⟩
            case measure => simp [intOf]; omega
      · obtain rfl : k = l.length := by omega
        have hcb := chBad_no hgood.out
        have HIN : Hid (∀ c ∈ l, 0 ≤ c.1 ∧ c.1 ≤ 40) := fun c hc => by
          obtain ⟨j, hj, rfl⟩ := List.mem_iff_getElem.1 hc
          have := hgood.out j hj
          rwa [nth_get _ _ hj] at this
        have HE2 := Lib.hid (HE.out.trans (if_neg (by rw [hcb]; simp)))
        have HL1 := Lib.hid (HL.out.upd0 chCells_len hu.out)
        have HD1 := Lib.hid (HD.out.upd0 hu.out)
        have HSZL := Lib.hid (fun c hc => chs_size (l := l) (c := c) hc)
        have HUB : Hid (l ≠ [] → ∀ x ∈ blk (.slice ua l.length uk), x < wr.heap.size) := fun _ x hx => by
          obtain ⟨a9, c9, he9, -, -, hca⟩ := HL1.out
          injection he9 with e1 e2 e3
          subst e1
          obtain ⟨b, off, rfl, hcb⟩ := hca (by intro e; rw [e] at hl1; simp at hl1)
          simp [blk] at hx
          subst hx
          have h1 := hcb 0 (by omega) 0 (by omega)
          have h2 : (chCells (nth l 0))[0]? = some (.int .i64 (nth l 0).1) := rfl
          rw [h2] at h1
          exact World.block_lt_of_cell? _ _ h1
        clear hcb hgood HE
        go_wp2_with fail
        (with_reducible refine (payload_any _ l wr HL1.out HI.out (by omega)).mono ?_)
        rintro e w2 ⟨v2, rfl, ho2, hu2⟩
        obtain ⟨p, hp⟩ : ∃ p, encChs l = p := ⟨_, rfl⟩
        rw [hp] at ho2 HE2 HSZL
        have HP := Lib.hid hp
        have HO2 := Lib.hid ho2
        have HU2 := Lib.hid (hu.out.seq hu2)
        have HL2 := Lib.hid (HL1.out.upd0 chCells_len hu2)
        have HD2 := Lib.hid (HD1.out.upd0 hu2)
        have HUB2 : Hid (l ≠ [] → ∀ x ∈ blk (.slice ua l.length uk), x < w2.heap.size) := fun q x hx => Nat.lt_of_lt_of_le (HUB.out q x hx) hu2.size
        have HGW : Hid (∀ x ∈ G, x < wr.heap.size) := fun x hx => (HD1.out.dd.ge x hx).2
        have HRW : Hid (wr.heap.size ≤ w2.heap.size) := hu2.size
        obtain ⟨pa, pk, rfl, -⟩ := ho2.rd
        clear hp ho2 hu2 hu HL1 HD1 HUB
        by_cases hlong : 262144 < p.length
        · have q5 : (262144 : Int) < p.length := by omega
          have HE3 : Hid (jSet t s l = (2, t, s)) := by unfold Hid; rw [HE2.out, if_pos hlong]
          clear HE2 hlong
          go_wp2_with fail
          go_ret
          exact ⟨by rw [HE3.out]; rfl, by rw [HE3.out]; exact HD.out.out0 HU2.out⟩
        · have q5 : ¬ (262144 : Int) < p.length := by omega
          have HPL : Hid (p.length ≤ 262144) := by unfold Hid; omega
          obtain ⟨e1, s1, hap⟩ : ∃ e s', dAppend s nmJ (putF [] p) = (e, s') := ⟨_, _, rfl⟩
          have HE3 := Lib.hid (HE2.out.trans (if_neg hlong))
          rw [hap] at HE3
          have HAP1 := Lib.hid hap
          have HFL := Lib.hid (putF_le p)
          have HM1 : Hid (More 1 s s1) := by have := (More.zero HD.out.dd.ok).append nmJ _ HFL.out (by have := HN.out; omega); rw [hap] at this; exact this
          have HCHK : Hid (∀ c ∈ l, ChOk c) := fun c hc => ⟨(HIN.out c hc).1, (HIN.out c hc).2, by have := HSZL.out c hc; have := HPL.out; omega⟩
          clear hap HE2 hlong
          obtain ⟨gt, F0, c0, -, -, -⟩ := HD2.out.cells
          have D0 := Lib.hid c0
          have HC2 : Hid (∀ W, Upd [] w2 W → Calls Tryz.prog 78 #[.slice none 0 0, .slice pa p.length pk] W fun e w' => ∃ a n k, e = .returned (.slice a n k) ∧ Hid (Own bv w2.heap.size 5 w' (.slice a n k) (putF [] p)) ∧ Upd [] w2 w') := fun W hW => by
            refine (fPut_any _ _ [] p W (Rd.nil _) (HO2.out.rd.upd0 hW) (by simp) (by have := HPL.out; omega)).mono ?_
            rintro e w' ⟨v, rfl, ho2, hu⟩
            obtain ⟨a, k, rfl, -⟩ := ho2.rd
            exact ⟨a, _, k, rfl, ho2.base_le hW.size, hW.seq hu⟩
          have HC3 : Hid (∀ W a n k, Own bv w2.heap.size 5 W (.slice a n k) (putF [] p) → Upd [] w2 W → Calls Tryz.prog 19 #[.pointer (some ⟨gd, 0, none⟩), sv nmJ, .slice a n k] W fun e w' => e = .returned (.int .i64 e1) ∧ Hid (JOut w0 w2 gd gj (F ++ G) t s1 w') ∧ Upd (F ++ G) w2 w') := fun W a n k ho hW => by
            refine ((HD2.out.upd0 hW).app nmJ ho.rd (fun _ x hx hg => by have := (ho.ge x hx).1; have := HGW.out x hg; have := HRW.out; omega) (by have := HFL.out; omega) (by have := HN.out; omega) (by have := HLG.out; omega) HAP1.out).mono ?_
            rintro e w' ⟨rfl, hd⟩
            have h1 := JOut.later hW hd
            exact ⟨rfl, h1, by obtain ⟨F', G', k1, k2, k3, k4⟩ := (show ∃ F' G', _ from h1); exact k2⟩
          have ru := Upd.refl [] w2
          go_wp2_with fail
          go_region_held3 (fun W => W.cell? ⟨gj, 0, none⟩ = some (.pointer (some ⟨gd, 0, none⟩))) (first | go_keep | exact ru.cell D0.out (by simp) | exact jc0)
            (first
              | (go_at_call 78; (with_reducible refine (HC2.out _ (Upd.seq ru ?_)).mono ?_); (repeat (first | exact Upd.refl _ _ | apply Upd.drew | apply Upd.drewN | apply Upd.alloc)); (rintro _ W2 ⟨a2, n2, k2, rfl, ho2, ru⟩; dsimp only))
              | (go_at_call 19; (with_reducible refine (HC3.out _ a2 n2 k2 (Own.upd (S := []) ho2.out ?_ (by simp)) (Upd.seq ru ?_)).mono ?_); (repeat (first | exact Upd.refl _ _ | apply Upd.drew | apply Upd.drewN | apply Upd.alloc)); (rintro _ W3 ⟨rfl, hd3, ru3⟩; have jc0 := JOut.cell0 hd3.out; dsimp only)))
          all_goals
            have HO3 : Hid (JOut w0 w gd gj (F ++ G) t s1 W3) := JOut.later HU2.out hd3.out
            obtain ⟨F3, G3, k31, k32, k33, k34⟩ := (show ∃ F' G', _ from hd3.out)
            have HJ3 := Lib.hid k31
            have HU3 : Hid (Upd (F ++ G) w W3) := HU2.out.trans k32 (by simp) (fun x hx => .inl hx)
            have hs2 := HU2.out.size
            have HF3 : Hid (∀ x ∈ F3, x ∈ F ++ G ∨ w.heap.size ≤ x) := fun x hx => (k33 x hx).imp id (fun q => by omega)
            have HG3 : Hid (∀ x ∈ G3, x ∈ F ++ G ∨ w.heap.size ≤ x) := fun x hx => (k34 x hx).imp id (fun q => by omega)
            have HL3 := Lib.hid (HL2.out.upd chCells_len k32 HAP.out)
            have HA3 : Hid (∀ x ∈ blk (.slice ua l.length uk), x ∉ F3) := fun x hx hf => by
              rcases k33 x hf with q | q
              · exact HAP.out x hx q
              · have := HUB2.out (by intro e; rw [e] at hl1; simp at hl1) x hx; omega
            clear hd3 ru3 ho2 ru HC2 HC3 c0 D0 k31 k32 k33 k34 jc0 HL2 HD2
            by_cases he : e1 = 0
            · subst he
              have HE4 := Lib.hid (HE3.out.trans (if_neg (fun q => q rfl)))
              clear HE3
              go_wp2_with fail
              (with_reducible refine (hold_any _ l HJ3.out HL3.out HA3.out HCHK.out).mono ?_)
              rintro e w5 ⟨rfl, F5, h5, hu5, hf5⟩
              have H5 := Lib.hid h5
              have HU5 : Hid (Upd (F ++ G) w w5) := HU3.out.trans hu5 (fun x hx => hx) (fun x hx => HF3.out x hx)
              have hs3 := HU3.out.size
              have HF5 : Hid (∀ x ∈ F5, x ∈ F ++ G ∨ w.heap.size ≤ x) := fun x hx => by
                rcases hf5 x hx with q | q
                · exact HF3.out x q
                · exact .inr (by omega)
              have HN5 : Hid (s1.now.length ≤ 4900 ∧ s1.log.length ≤ 480000000) := by have h1 := HM1.out.now; have h2 := HM1.out.log; have := HN.out; have := HLG.out; unfold Hid; omega
              clear h5 hu5 hf5 HJ3 HL3 HA3 HU3 HO3
              go_wp2_with fail
              (with_reducible refine (jsize_any nmJ H5.out (by have := HN5.out; omega)).mono ?_)
              rintro e w6 ⟨rfl, hu6⟩
              have H6 := Lib.hid (H5.out.upd0 hu6)
              have HU6 : Hid (Upd (F ++ G) w w6) := HU5.out.trans hu6 (fun x hx => hx) (by simp)
              have HZL : Hid ((dGet s1.now nmJ).1.length = jLen s1 nmJ) := rfl
              rw [HZL.out] at HE4
              generalize jLen s1 nmJ = zl at *
              clear hu6 H5 HU5
              by_cases hz : 262144 < zl
              · have q6 : (262144 : Int) < zl := by omega
                have HE5 : Hid (jSet t s l = (0, jAll t l, jAnew (jAll t l) s1)) := by unfold Hid; rw [HE4.out, if_pos hz]
                clear HE4 hz
                go_wp2_with fail
                (with_reducible refine (anew_any H6.out HN5.out.1 HN5.out.2).mono ?_)
                rintro e w7 ⟨rfl, ho7⟩
                have HZ : Hid (JOut w0 w gd gj (F ++ G) (jAll t l) (jAnew (jAll t l) s1) w7) := by
                  obtain ⟨F7, G7, k1, k2, k3, k4⟩ := (show ∃ F' G', _ from ho7)
                  have hs6 := HU6.out.size
                  have hin : ∀ x ∈ F5 ++ G3, x ∈ F ++ G ∨ w.heap.size ≤ x := fun x hx => by
                    rcases List.mem_append.1 hx with q | q
                    · exact HF5.out x q
                    · exact HG3.out x q
                  have key : ∀ x, x ∈ F5 ++ G3 ∨ w6.heap.size ≤ x → x ∈ F ++ G ∨ w.heap.size ≤ x := fun x hx => by
                    rcases hx with q | q
                    · exact hin x q
                    · exact .inr (by omega)
                  exact ⟨F7, G7, k1, HU6.out.trans k2 (fun x hx => hx) hin, fun x hx => key x (k3 x hx), fun x hx => key x (k4 x hx)⟩
                clear ho7
                go_wp2_with fail
                go_ret
                exact ⟨by rw [HE5.out]; rfl, by rw [HE5.out]; exact HZ.out⟩
              · have q6 : ¬ (262144 : Int) < zl := by omega
                have HE5 : Hid (jSet t s l = (0, jAll t l, s1)) := by unfold Hid; rw [HE4.out, if_neg hz]
                clear HE4 hz
                go_wp2_with fail
                go_ret
                exact ⟨by rw [HE5.out]; rfl, by rw [HE5.out]; exact ⟨F5, G3, H6.out, HU6.out, HF5.out, HG3.out⟩⟩
            · have ez : (e1 != 0) = true := by rw [bne_iff_ne]; exact he
              have HE4 : Hid (jSet t s l = (e1, t, s1)) := by unfold Hid; rw [HE3.out, if_pos he]
              clear he HE3
              go_wp2_with fail
              go_ret
              exact ⟨by rw [HE4.out]; rfl, by rw [HE4.out]; exact HO3.out⟩
end
end Go.Proofs.YtmhojaiajhdlcaaGreat
namespace Go.Proofs.YtmhojaiajhdlcaaGreat
open Go.RowKit
set_option linter.unusedSimpArgs false
set_option linter.unusedVariables false
theorem chunks_flat (p : List UInt8) : ∀ k, ((chunks p).take k).flatten = p.take (32 * k)
  | 0 => by simp
  | k + 1 => by
    have hl := chunks_len p
    rcases Nat.lt_or_ge k (chunks p).length with h | h
    · rw [take_succ_nth _ k h, List.flatten_append, chunks_flat p k, chunks_nth p k h]
      rw [show 32 * (k + 1) = 32 * k + 32 by omega, List.take_add]
      simp
    · rw [List.take_of_length_le (by omega), ← List.take_of_length_le h, chunks_flat p k, List.take_of_length_le (by omega), List.take_of_length_le (by omega)]
theorem chunks_all (p : List UInt8) : (chunks p).flatten = p := by
  have h := chunks_flat p (chunks p).length
  have hl := chunks_len p
  rw [List.take_length, List.take_of_length_le (by omega)] at h
  exact h
section
variable (nm : ByteArray)
theorem below_one {ν : Type} (x : ν) : below strLt [(nm, x)] nm = 0 := by unfold below; rw [List.takeWhile_cons, strOrd.irr nm]; rfl
theorem isIn_one {ν : Type} [Inhabited ν] (x : ν) : isIn strLt [(nm, x)] nm = true := by unfold isIn; rw [below_one]; exact decide_eq_true ⟨by simp, rfl⟩
theorem get_one (b : List UInt8) : dGet [(nm, b)] nm = (b, true) := by rw [dGet_yes (isIn_one nm b), below_one]; rfl
theorem set_one (b c : List UInt8) : tSet strLt [(nm, b)] nm c = [(nm, c)] := by unfold tSet; rw [isIn_one, below_one]; rfl
theorem set_none (c : List UInt8) : tSet strLt ([] : DF) nm c = [(nm, c)] := rfl
theorem put_one (mk : DF) : ∀ (l : List (List UInt8)) (b : List UInt8) (lg : List Wr), dPut nm ⟨[(nm, b)], mk, lg⟩ l = ⟨[(nm, b ++ l.flatten)], mk, lg ++ l.map (wPut nm)⟩
  | [], b, lg => by simp [dPut]
  | c :: l, b, lg => by
    have h1 : dPut nm ⟨[(nm, b)], mk, lg⟩ (c :: l) = dPut nm (dDo (wPut nm c) ⟨[(nm, b)], mk, lg⟩) l := rfl
    have h2 : dDo (wPut nm c) ⟨[(nm, b)], mk, lg⟩ = ⟨[(nm, b ++ c)], mk, lg ++ [wPut nm c]⟩ := by
      unfold dDo
      have : wApply (wPut nm c) [(nm, b)] = tSet strLt [(nm, b)] nm ((dGet [(nm, b)] nm).1 ++ c) := rfl
      rw [this, get_one, set_one]
    rw [h1, h2, put_one mk l (b ++ c) (lg ++ [wPut nm c])]
    simp
theorem wAll_puts : ∀ (l : List (List UInt8)) (b : List UInt8), wAll [(nm, b)] (l.map (wPut nm)) = [(nm, b ++ l.flatten)]
  | [], b => by simp [wAll]
  | c :: l, b => by
    have h1 : wAll [(nm, b)] ((c :: l).map (wPut nm)) = wAll (wApply (wPut nm c) [(nm, b)]) (l.map (wPut nm)) := rfl
    have h2 : wApply (wPut nm c) [(nm, b)] = [(nm, b ++ c)] := by
      have : wApply (wPut nm c) [(nm, b)] = tSet strLt [(nm, b)] nm ((dGet [(nm, b)] nm).1 ++ c) := rfl
      rw [this, get_one, set_one]
    rw [h1, h2, wAll_puts l (b ++ c)]
    simp
theorem append_one (p : List UInt8) (hok : nameOk nm = true) (hp : p.length ≤ 16777216) : dAppend ⟨[], [], []⟩ nm p = (0, ⟨[(nm, p)], [], wMake nm :: (chunks p).map (wPut nm)⟩) := by
  unfold dAppend
  have h0 : dTotal [] = 0 := rfl
  rw [hok, if_pos rfl, if_neg (by show ¬ 16777216 < dTotal [] + p.length; omega)]
  have h1 : (if inD (⟨[], [], []⟩ : DS).now nm = true then (⟨[], [], []⟩ : DS) else dDo (wMake nm) ⟨[], [], []⟩) = ⟨[(nm, [])], [], [wMake nm]⟩ := rfl
  rw [h1, put_one, List.nil_append, chunks_all]; rfl
theorem back_one (p : List UInt8) (n : Int) : dGet (dBackF ⟨[(nm, p)], [], wMake nm :: (chunks p).map (wPut nm)⟩ n) nm = (p.take (32 * (n.toNat - 1)), decide (n.toNat ≠ 0)) := by
  unfold dBackF
  dsimp only
  cases hn : n.toNat with
  | zero => rfl
  | succ m =>
    rw [List.take_succ_cons]
    have h1 : wAll [] (wMake nm :: ((chunks p).map (wPut nm)).take m) = wAll [(nm, [])] (((chunks p).map (wPut nm)).take m) := rfl
    rw [h1, ← List.map_take, wAll_puts, List.nil_append, chunks_flat, get_one]
    simp
end
end Go.Proofs.YtmhojaiajhdlcaaGreat
