/- Texts of the proof, joined: Chapter 24: the document's journal is opened. The book's Same at texts. The walk of DiskRuns. Arguments that are asks of chapter 22. Chapter 22 as plain law: a call by its kind. Chapter 22 as plain law: any calls by their kinds. Both disks side by side: a call on one of them. Both journals, the program's and the document's, each on its own disk. Chapter 24: the walk of the laws' 'alike': both journals have the same slots and the same files. Chapter 24 as plain law: what an opening finds is in order. The walk of JournalPlays. -/
import Derived.Test.YtmhojaiajhdlcaaGreatMj11
import Derived.Test.YtmhojaiajhdlcaaGreatRows
import Derived.Test.YtmhojaiajhdlcaaGreatMj1
import Derived.Test.YtmhojaiajhdlcaaGreatMj7
import Derived.Test.YtmhojaiajhdlcaaGreatMj8
import Derived.Test.YtmhojaiajhdlcaaGreatMj2
import Derived.Test.YtmhojaiajhdlcaaGreatMj4
import Derived.Test.YtmhojaiajhdlcaaGreatMj10
import Derived.Test.YtmhojaiajhdlcaaGreatMj9
import Derived.Test.YtmhojaiajhdlcaaGreatMj5
import Derived.Deep.RegionHeld3
import Derived.Deep.CutBlock
import Derived.Deep.DeepCutAuto
namespace Go.Proofs.YtmhojaiajhdlcaaGreat
open Go.RowKit
set_option linter.unusedSimpArgs false
set_option linter.unusedVariables false
set_option linter.unusedSectionVars false
theorem rjChanges_ok (w : World) (u : Value) (B : List UInt8) (h : Bytes w u B) (hz : B.length ≤ 140737488351232) {ok : Bool} (hok : chOk B = ok) :
    Calls Tryz.prog 94 #[u] w fun e w' => ∃ a n k, e = .returned (.tuple #[.slice a n k, .bool ok]) ∧ Hid (ok = true → RdN 2 chCells w' (.slice a n k) (chL B)) ∧ Hid (∀ x ∈ blk (.slice a n k), w.heap.size ≤ x) ∧ Upd [] w w' := by
  subst hok
  obtain ⟨h1, h2⟩ := ch_ref B
  refine (rjChanges_any w u B h hz).mono ?_
  rw [h1]
  rintro e w' ⟨a, k, rfl, ho, hu⟩
  refine ⟨a, _, k, rfl, fun q => ?_, fun x hx => (ho.out.ge x hx).1, hu⟩
  rw [← h2 q]
  exact ho.out.rd chCells_len
theorem RJ.new (w : World) (gr : Nat) : RJ w (w.alloc (.cells #[.pointer (some ⟨gr, 0, none⟩), .string ⟨#[]⟩, .string ⟨#[]⟩, .string ⟨#[]⟩, .string ⟨#[]⟩, .string ⟨#[]⟩, .string ⟨#[]⟩, .string ⟨#[]⟩, .string ⟨#[]⟩, .string ⟨#[]⟩, .string ⟨#[]⟩, .string ⟨#[]⟩, .string ⟨#[]⟩, .string ⟨#[]⟩, .string ⟨#[]⟩, .string ⟨#[]⟩, .string ⟨#[]⟩, .string ⟨#[]⟩, .string ⟨#[]⟩, .string ⟨#[]⟩, .string ⟨#[]⟩, .string ⟨#[]⟩, .string ⟨#[]⟩, .string ⟨#[]⟩, .string ⟨#[]⟩, .string ⟨#[]⟩, .string ⟨#[]⟩, .string ⟨#[]⟩, .string ⟨#[]⟩, .string ⟨#[]⟩, .string ⟨#[]⟩, .string ⟨#[]⟩, .string ⟨#[]⟩, .string ⟨#[]⟩, .string ⟨#[]⟩, .string ⟨#[]⟩, .string ⟨#[]⟩, .string ⟨#[]⟩, .string ⟨#[]⟩, .string ⟨#[]⟩, .string ⟨#[]⟩, .string ⟨#[]⟩] 78)) w.heap.size gr (List.replicate 41 s0) :=
  ⟨Blk.new w _ (.pointer (some ⟨gr, 0, none⟩) :: (List.replicate 41 s0).map .string), Nat.le_refl _, by simp, (Upd.refl [] w).alloc _⟩
section
variable {w0 w w' : World} {gr gk : Nat} {G : List Nat} {t t' : JS} {s s' : DS}
theorem RJD.new (h : RD w0 w gr G s) : RJD w0 (w.alloc (.cells #[.pointer (some ⟨gr, 0, none⟩), .string ⟨#[]⟩, .string ⟨#[]⟩, .string ⟨#[]⟩, .string ⟨#[]⟩, .string ⟨#[]⟩, .string ⟨#[]⟩, .string ⟨#[]⟩, .string ⟨#[]⟩, .string ⟨#[]⟩, .string ⟨#[]⟩, .string ⟨#[]⟩, .string ⟨#[]⟩, .string ⟨#[]⟩, .string ⟨#[]⟩, .string ⟨#[]⟩, .string ⟨#[]⟩, .string ⟨#[]⟩, .string ⟨#[]⟩, .string ⟨#[]⟩, .string ⟨#[]⟩, .string ⟨#[]⟩, .string ⟨#[]⟩, .string ⟨#[]⟩, .string ⟨#[]⟩, .string ⟨#[]⟩, .string ⟨#[]⟩, .string ⟨#[]⟩, .string ⟨#[]⟩, .string ⟨#[]⟩, .string ⟨#[]⟩, .string ⟨#[]⟩, .string ⟨#[]⟩, .string ⟨#[]⟩, .string ⟨#[]⟩, .string ⟨#[]⟩, .string ⟨#[]⟩, .string ⟨#[]⟩, .string ⟨#[]⟩, .string ⟨#[]⟩, .string ⟨#[]⟩, .string ⟨#[]⟩] 78)) gr w.heap.size G [] s :=
  ⟨⟨_, (RJ.new w gr).rebase h.old, Has.zero⟩, JT.nil, by simp [Full0], h.upd0 ((Upd.refl [] w).alloc _), fun q => by have := (h.ge _ q).2; omega⟩
theorem rjopen_done {W W' : World} {G1 : List Nat} {s1 s2 : DS} (h : RJD w0 W gr gk G1 t s1) (hu : Upd G w W) (hk : w.heap.size ≤ gk) (hg : ∀ x ∈ G1, x ∈ G ∨ w.heap.size ≤ x) (hd : ROut w0 W gr G1 s2 W') : RJOut w0 w gr gk G t s2 W' := by
  obtain ⟨G', k1, k2, k3⟩ := h.disk (Upd.refl [] W) hd
  have hs := hu.size
  refine ⟨G', k1, hu.trans k2 (fun x hx => hx) hg, .inr hk, fun x hx => ?_⟩
  rcases k3 x hx with q | q
  · exact hg x q
  · exact .inr (by omega)
set_option maxRecDepth 20000 in
set_option maxHeartbeats 8000000 in
theorem rjOpen_any (h : RD w0 w gr G s) (hn : s.now.length ≤ 4990) (hl : s.log.length ≤ 900000000) :
    Calls Tryz.prog 42 #[.pointer (some ⟨gr, 0, none⟩)] w fun e w' => ∃ gk, e = .returned (.pointer (some ⟨gk, 0, none⟩)) ∧ RJOut w0 w gr gk G (jOpen s).1 (jOpen s).2 w' := by
  have HN := Lib.hid hn
  have HLG := Lib.hid hl
  have HJ0 := Lib.hid (RJD.new h)
  have HU0 : Hid (Upd [] w (w.alloc (.cells #[.pointer (some ⟨gr, 0, none⟩), .string ⟨#[]⟩, .string ⟨#[]⟩, .string ⟨#[]⟩, .string ⟨#[]⟩, .string ⟨#[]⟩, .string ⟨#[]⟩, .string ⟨#[]⟩, .string ⟨#[]⟩, .string ⟨#[]⟩, .string ⟨#[]⟩, .string ⟨#[]⟩, .string ⟨#[]⟩, .string ⟨#[]⟩, .string ⟨#[]⟩, .string ⟨#[]⟩, .string ⟨#[]⟩, .string ⟨#[]⟩, .string ⟨#[]⟩, .string ⟨#[]⟩, .string ⟨#[]⟩, .string ⟨#[]⟩, .string ⟨#[]⟩, .string ⟨#[]⟩, .string ⟨#[]⟩, .string ⟨#[]⟩, .string ⟨#[]⟩, .string ⟨#[]⟩, .string ⟨#[]⟩, .string ⟨#[]⟩, .string ⟨#[]⟩, .string ⟨#[]⟩, .string ⟨#[]⟩, .string ⟨#[]⟩, .string ⟨#[]⟩, .string ⟨#[]⟩, .string ⟨#[]⟩, .string ⟨#[]⟩, .string ⟨#[]⟩, .string ⟨#[]⟩, .string ⟨#[]⟩, .string ⟨#[]⟩] 78))) := (Upd.refl [] w).alloc _
  obtain ⟨fb, fok, hfr⟩ : ∃ b ok, dGet s.now nmN = (b, ok) := ⟨_, _, rfl⟩
  have HFR := Lib.hid hfr
  have hfi : inD s.now nmN = fok := by rw [← dGet_in, hfr]
  have hlen := jFresh_len (s := s)
  obtain ⟨s1, hs1⟩ : ∃ s1, jFresh s = s1 := ⟨_, rfl⟩
  rw [hs1] at hlen
  have HS1 := Lib.hid hs1
  have HN1 : Hid (s1.now.length ≤ 5000) := by unfold Hid; omega
  have HL1 : Hid (s1.log.length ≤ 1000000000) := by unfold Hid; omega
  obtain ⟨b, bok, hb⟩ : ∃ b ok, dGet s1.now nmJ = (b, ok) := ⟨_, _, rfl⟩
  have HB := Lib.hid hb
  have HOP : Hid (jOpen s = ((jScan b).1, if (jScan b).2 < b.length then (dCut s1 nmJ (jScan b).2).2 else s1)) := by unfold Hid jOpen; rw [hs1, hb]
  clear h hn hl hfr hlen hb
  cases fok with
  | true =>
    have hrm : (dRemove s nmN).2 = s1 := by rw [← hs1, jFresh_yes hfi]
    have HRM := Lib.hid hrm
    clear hfi hrm hs1
    go_enter Tryz.func42, Tryz.ntmps42
    go_wp2_with fail
    generalize w.alloc (.cells #[.pointer (some ⟨gr, 0, none⟩), .string ⟨#[]⟩, .string ⟨#[]⟩, .string ⟨#[]⟩, .string ⟨#[]⟩, .string ⟨#[]⟩, .string ⟨#[]⟩, .string ⟨#[]⟩, .string ⟨#[]⟩, .string ⟨#[]⟩, .string ⟨#[]⟩, .string ⟨#[]⟩, .string ⟨#[]⟩, .string ⟨#[]⟩, .string ⟨#[]⟩, .string ⟨#[]⟩, .string ⟨#[]⟩, .string ⟨#[]⟩, .string ⟨#[]⟩, .string ⟨#[]⟩, .string ⟨#[]⟩, .string ⟨#[]⟩, .string ⟨#[]⟩, .string ⟨#[]⟩, .string ⟨#[]⟩, .string ⟨#[]⟩, .string ⟨#[]⟩, .string ⟨#[]⟩, .string ⟨#[]⟩, .string ⟨#[]⟩, .string ⟨#[]⟩, .string ⟨#[]⟩, .string ⟨#[]⟩, .string ⟨#[]⟩, .string ⟨#[]⟩, .string ⟨#[]⟩, .string ⟨#[]⟩, .string ⟨#[]⟩, .string ⟨#[]⟩, .string ⟨#[]⟩, .string ⟨#[]⟩, .string ⟨#[]⟩] 78) = wa at *
    generalize hgk : w.heap.size = gk at *
    have HGK : Hid (w.heap.size ≤ gk) := by unfold Hid; omega
    clear hgk
    (with_reducible refine (rdRead_any nmN HJ0.out.rd (by have := HN.out; omega)).mono ?_)
    rw [HFR.out]
    rintro e w1 ⟨v1, rfl, hb1, -, hu1⟩
    obtain ⟨a1, c1, rfl, -⟩ := hb1
    have HJ1 := Lib.hid (HJ0.out.upd0 hu1)
    have HU1 := Lib.hid (HU0.out.seq hu1)
    clear hu1 HJ0 HU0
    go_wp2_with fail
    (with_reducible refine (rRemove_any nmN HJ1.out.rd (by have := HN.out; omega) (by have := HLG.out; omega)).mono ?_)
    rintro e w2 ⟨rfl, hd2⟩
    obtain ⟨G1, k1, k2, k3⟩ := HJ1.out.disk (Upd.refl [] w1) hd2
    have H2 : Hid (RJD w0 w2 gr gk G1 [] s1) := by rw [HRM.out] at k1; exact k1
    have HU2 : Hid (Upd G w w2) := (HU1.out.mono (T := G) (by simp)).trans k2 (fun x hx => hx) (fun x hx => .inl hx)
    have HG1 : Hid (∀ x ∈ G1, x ∈ G ∨ w.heap.size ≤ x) := fun x hx => (k3 x hx).imp id (fun q => Nat.le_trans HU1.out.size q)
    clear k1 k2 k3 HRM hd2 HJ1 HU1
    go_wp2_with fail
    (with_reducible refine (rdRead_any nmJ H2.out.rd (by have := HN1.out; omega)).mono ?_)
    rw [HB.out]
    rintro e w5 ⟨vb, rfl, hob, hgb, hu5⟩
    have hbl : b.length ≤ 16777216 := by have h1 := get_le_total s1.now nmJ; rw [HB.out] at h1; have h2 := H2.out.rd.ok.tot; dsimp only at h1; omega
    have H5 := Lib.hid (H2.out.upd0 hu5)
    have HU5 : Hid (Upd G w w5) := HU2.out.trans hu5 (fun x hx => hx) (by simp)
    have HAB : Hid (gk ∉ blk vb) := fun hx => H2.out.ap (hgb gk hx)
    have HRB : Hid (Bytes w5 vb b) := hob
    obtain ⟨ba, bk, rfl, hbk1, hbk2, -⟩ := id hob
    have hbk3 : bk ≤ 9223372036854775807 := by unfold maxLen at hbk2; omega
    have hbm : b.length ≤ 9223372036854775807 := by omega
    clear hob hgb hu5 hbk2 H2 HU2
    cases bok with
    | false =>
      have hbe : b = [] := by
        have h1 := HB.out
        have h2 : inD s1.now nmJ = false := by rw [← dGet_in, h1]
        rw [dGet_no h2] at h1
        injection h1 with h1 _
        exact h1.symm
      have HEQ : Hid (jOpen s = ([], s1)) := by unfold Hid; rw [HOP.out, hbe, jScan_nil]; rfl
      have HZ := Lib.hid (rjopen_done H5.out HU5.out HGK.out HG1.out (H5.out.rd.out0 (Upd.refl [] _)))
      clear hbe
      go_wp2_with fail
      go_ret
      exact ⟨gk, rfl, by rw [HEQ.out]; exact HZ.out⟩
    | true =>
    go_wp2_with fail
    go_loopw [8] (fun i wr => ∃ (k : Nat) (tk : JS), i = .int .i64 k ∧ k ≤ b.length ∧ Hid (RJD w0 wr gr gk G1 tk s1) ∧ Hid (∃ f, b.length < f + k ∧ scanJ b f k tk = jScan b) ∧ Hid (Upd G w wr) ∧ Hid (Bytes wr (.slice ba b.length bk) b)) (fun i _ => b.length - (intOf i).toNat)
    case atStart => exact ⟨0, [], rfl, Nat.zero_le _, H5.out, ⟨b.length + 1, by omega, rfl⟩, HU5.out, HRB.out⟩
    case round =>
      obtain ⟨k, tk, rfl, hk, hj, hsc, hu, hrb⟩ := hrel
      clear H5 HU5 HRB
      obtain ⟨p, tn, er, hq⟩ : ∃ p t e, nextF b (k : Int) = (p, t, e) := ⟨_, _, _, rfl⟩
      have HQ := Lib.hid hq
      have HKI : Hid (I64 (k : Int)) := ⟨by omega, by omega⟩
      go_wp2_with fail
      (with_reducible refine (rNext_any _ b (k : Int) wr hrb.out (by omega) HKI.out).mono ?_)
      unfold NextSaid
      rw [HQ.out]
      rintro e w6 ⟨vp, rfl, hop, hu6⟩
      have H6 := Lib.hid (hj.out.upd0 hu6)
      have H6u : Hid (Upd G w w6) := hu.out.trans hu6 (fun x hx => hx) (by simp)
      have HB6 := Lib.hid (hrb.out.upd0 hu6)
      have HP6 : Hid (Bytes w6 vp p) := hop.rd
      obtain ⟨pa, pk, rfl, -⟩ := hop.rd
      clear hop hu6 hj hrb hq hu
      dsimp only
      by_cases he0 : er = 0
      · subst he0
        have hto := frNext_to b k hk (by rw [HQ.out])
        rw [HQ.out] at hto
        obtain ⟨m, hm1, hm2, hm3, hm4, hm5⟩ := hto
        dsimp only at hm4 hm5
        subst hm4
        have HPL : Hid (p.length ≤ 140737488351232) := by unfold Hid; omega
        have HM3 := Lib.hid hm3
        have HM1 := Lib.hid hm1
        clear hm1 hm2 hm3 hm5
        obtain ⟨ok, hok⟩ : ∃ ok, chOk p = ok := ⟨_, rfl⟩
        have HOK := Lib.hid hok
        go_wp2_with fail
        (with_reducible refine (rjChanges_ok w6 _ p HP6.out HPL.out HOK.out).mono ?_)
        rintro e w7 ⟨xa, xn, xk, rfl, hx7, hxg, hu7⟩
        have H7 := Lib.hid (H6.out.upd0 hu7)
        have H7u : Hid (Upd G w w7) := H6u.out.trans hu7 (fun x hx => hx) (by simp)
        have HB7 := Lib.hid (HB6.out.upd0 hu7)
        have HXA : Hid (gk ∉ blk (.slice xa xn xk)) := fun hx => by have := hxg.out gk hx; have := H6.out.geK.2; omega
        clear hxg hu7 H6 H6u HB6 HP6
        cases ok with
        | false =>
          have HE : Hid (jScan b = (tk, k)) := by
            obtain ⟨f, h1, h2⟩ := hsc.out
            obtain ⟨f, rfl⟩ : ∃ f', f = f' + 1 := ⟨f - 1, by omega⟩
            rw [scanJ_succ] at h2
            have : jnx b k tk = none := by
              unfold jnx
              rw [HQ.out]; dsimp only
              rw [if_neg (fun q => by have := q.2; rw [hok] at this; exact absurd this (by simp))]
            rw [this] at h2
            exact h2.symm
          clear hok
          by_cases hlt : k < b.length
          · have q1 : (k : Int) < b.length := by omega
            have HEQ : Hid (jOpen s = (tk, (dCut s1 nmJ (k : Int)).2)) := by unfold Hid; rw [HOP.out, HE.out, if_pos hlt]
            go_wp2_with fail
            (with_reducible refine (rCut_any nmJ (k : Int) HKI.out H7.out.rd HN1.out HL1.out).mono ?_)
            rintro e wz ⟨rfl, hdz⟩
            have HZ := Lib.hid (rjopen_done H7.out H7u.out HGK.out HG1.out hdz)
            clear hdz
            go_wp2_with fail
            go_ret
            exact ⟨gk, rfl, by rw [HEQ.out]; exact HZ.out⟩
          · have q1 : ¬ (k : Int) < b.length := by omega
            have HEQ : Hid (jOpen s = (tk, s1)) := by unfold Hid; rw [HOP.out, HE.out, if_neg hlt]
            have HZ := Lib.hid (rjopen_done H7.out H7u.out HGK.out HG1.out (H7.out.rd.out0 (Upd.refl [] _)))
            go_wp2_with fail
            go_ret
            exact ⟨gk, rfl, by rw [HEQ.out]; exact HZ.out⟩
        | true =>
          have HNX : Hid (∃ f, b.length < f + (k + 8 + m) ∧ scanJ b f (k + 8 + m) (jAll tk (chL p)) = jScan b) := by
            obtain ⟨f, h1, h2⟩ := hsc.out
            obtain ⟨f, rfl⟩ : ∃ f', f = f' + 1 := ⟨f - 1, by omega⟩
            rw [scanJ_succ] at h2
            have : jnx b k tk = some (jAll tk (chL p), k + 8 + m) := by
              unfold jnx
              rw [HQ.out]; dsimp only
              rw [if_pos ⟨rfl, hok⟩, Int.toNat_natCast]
            rw [this] at h2
            exact ⟨f, by have := HM1.out; omega, h2⟩
          have HIN : Hid (∀ c ∈ chL p, ChOk c) := (ch_of hok).2.1
          have HX7 := Lib.hid (hx7.out rfl)
          obtain ⟨hv, hrj, hhas⟩ := H7.out.rj
          have HRJ := Lib.hid hrj
          have HHAS := Lib.hid hhas
          clear hok hsc hx7 hrj hhas
          go_wp2_with fail
          (with_reducible refine (rjTake_any _ (chL p) HRJ.out HX7.out HXA.out (fun c hc => ⟨(HIN.out c hc).lo, (HIN.out c hc).hi⟩)).mono ?_)
          rintro e w8 ⟨rfl, h8, hu8⟩
          have H8 := Lib.hid (H7.out.hold HHAS.out h8 hu8 HIN.out)
          have HB8 : Hid (Bytes w8 (.slice ba b.length bk) b) := HB7.out.upd hu8 (fun x hx hq => by simp at hq; subst hq; exact HAB.out hx)
          have HU8 : Hid (Upd G w w8) := H7u.out.trans hu8 (fun x hx => hx) (fun x hx => .inr (by simp at hx; subst hx; exact HGK.out))
          clear h8 hu8 H7 H7u HB7 HX7 HXA HRJ HHAS
          go_wp2_with fail
          go_roundw
          case rel => exact ⟨k + 8 + m, _, by first | rfl | (congr 1), HM3.out, H8, HNX, HU8, HB8⟩
          case measure => have := HM3.out; have := HM1.out; simp [intOf]; omega
      · have ez : (er != 0) = true := by rw [bne_iff_ne]; exact he0
        have HE : Hid (jScan b = (tk, k)) := by
          obtain ⟨f, h1, h2⟩ := hsc.out
          obtain ⟨f, rfl⟩ : ∃ f', f = f' + 1 := ⟨f - 1, by omega⟩
          rw [scanJ_succ] at h2
          have : jnx b k tk = none := by
            unfold jnx
            rw [HQ.out]; dsimp only
            rw [if_neg (fun q => he0 q.1)]
          rw [this] at h2
          exact h2.symm
        clear he0 HB6 HP6
        by_cases hlt : k < b.length
        · have q1 : (k : Int) < b.length := by omega
          have HEQ : Hid (jOpen s = (tk, (dCut s1 nmJ (k : Int)).2)) := by unfold Hid; rw [HOP.out, HE.out, if_pos hlt]
          go_wp2_with fail
          (with_reducible refine (rCut_any nmJ (k : Int) HKI.out H6.out.rd HN1.out HL1.out).mono ?_)
          rintro e wz ⟨rfl, hdz⟩
          have HZ := Lib.hid (rjopen_done H6.out H6u.out HGK.out HG1.out hdz)
          clear hdz
          go_wp2_with fail
          go_ret
          exact ⟨gk, rfl, by rw [HEQ.out]; exact HZ.out⟩
        · have q1 : ¬ (k : Int) < b.length := by omega
          have HEQ : Hid (jOpen s = (tk, s1)) := by unfold Hid; rw [HOP.out, HE.out, if_neg hlt]
          have HZ := Lib.hid (rjopen_done H6.out H6u.out HGK.out HG1.out (H6.out.rd.out0 (Upd.refl [] _)))
          go_wp2_with fail
          go_ret
          exact ⟨gk, rfl, by rw [HEQ.out]; exact HZ.out⟩
  | false =>
    have hrm : s = s1 := by rw [← hs1, jFresh_no hfi]
    have HRM := Lib.hid hrm
    clear hfi hrm hs1
    go_enter Tryz.func42, Tryz.ntmps42
    go_wp2_with fail
    generalize w.alloc (.cells #[.pointer (some ⟨gr, 0, none⟩), .string ⟨#[]⟩, .string ⟨#[]⟩, .string ⟨#[]⟩, .string ⟨#[]⟩, .string ⟨#[]⟩, .string ⟨#[]⟩, .string ⟨#[]⟩, .string ⟨#[]⟩, .string ⟨#[]⟩, .string ⟨#[]⟩, .string ⟨#[]⟩, .string ⟨#[]⟩, .string ⟨#[]⟩, .string ⟨#[]⟩, .string ⟨#[]⟩, .string ⟨#[]⟩, .string ⟨#[]⟩, .string ⟨#[]⟩, .string ⟨#[]⟩, .string ⟨#[]⟩, .string ⟨#[]⟩, .string ⟨#[]⟩, .string ⟨#[]⟩, .string ⟨#[]⟩, .string ⟨#[]⟩, .string ⟨#[]⟩, .string ⟨#[]⟩, .string ⟨#[]⟩, .string ⟨#[]⟩, .string ⟨#[]⟩, .string ⟨#[]⟩, .string ⟨#[]⟩, .string ⟨#[]⟩, .string ⟨#[]⟩, .string ⟨#[]⟩, .string ⟨#[]⟩, .string ⟨#[]⟩, .string ⟨#[]⟩, .string ⟨#[]⟩, .string ⟨#[]⟩, .string ⟨#[]⟩] 78) = wa at *
    generalize hgk : w.heap.size = gk at *
    have HGK : Hid (w.heap.size ≤ gk) := by unfold Hid; omega
    clear hgk
    (with_reducible refine (rdRead_any nmN HJ0.out.rd (by have := HN.out; omega)).mono ?_)
    rw [HFR.out]
    rintro e w1 ⟨v1, rfl, hb1, -, hu1⟩
    obtain ⟨a1, c1, rfl, -⟩ := hb1
    have HJ1 := Lib.hid (HJ0.out.upd0 hu1)
    have HU1 := Lib.hid (HU0.out.seq hu1)
    clear hu1 HJ0 HU0
    go_wp2_with fail
    have H2 : Hid (RJD w0 w1 gr gk G [] s1) := by have := HJ1.out; rw [HRM.out] at this; exact this
    have HU2 : Hid (Upd G w w1) := HU1.out.mono (by simp)
    have HG1 : Hid (∀ x ∈ G, x ∈ G ∨ w.heap.size ≤ x) := fun x hx => .inl hx
    clear HRM HJ1 HU1
    (with_reducible refine (rdRead_any nmJ H2.out.rd (by have := HN1.out; omega)).mono ?_)
    rw [HB.out]
    rintro e w5 ⟨vb, rfl, hob, hgb, hu5⟩
    have hbl : b.length ≤ 16777216 := by have h1 := get_le_total s1.now nmJ; rw [HB.out] at h1; have h2 := H2.out.rd.ok.tot; dsimp only at h1; omega
    have H5 := Lib.hid (H2.out.upd0 hu5)
    have HU5 : Hid (Upd G w w5) := HU2.out.trans hu5 (fun x hx => hx) (by simp)
    have HAB : Hid (gk ∉ blk vb) := fun hx => H2.out.ap (hgb gk hx)
    have HRB : Hid (Bytes w5 vb b) := hob
    obtain ⟨ba, bk, rfl, hbk1, hbk2, -⟩ := id hob
    have hbk3 : bk ≤ 9223372036854775807 := by unfold maxLen at hbk2; omega
    have hbm : b.length ≤ 9223372036854775807 := by omega
    clear hob hgb hu5 hbk2 H2 HU2
    cases bok with
    | false =>
      have hbe : b = [] := by
        have h1 := HB.out
        have h2 : inD s1.now nmJ = false := by rw [← dGet_in, h1]
        rw [dGet_no h2] at h1
        injection h1 with h1 _
        exact h1.symm
      have HEQ : Hid (jOpen s = ([], s1)) := by unfold Hid; rw [HOP.out, hbe, jScan_nil]; rfl
      have HZ := Lib.hid (rjopen_done H5.out HU5.out HGK.out HG1.out (H5.out.rd.out0 (Upd.refl [] _)))
      clear hbe
      go_wp2_with fail
      go_ret
      exact ⟨gk, rfl, by rw [HEQ.out]; exact HZ.out⟩
    | true =>
    go_wp2_with fail
    go_loopw [8] (fun i wr => ∃ (k : Nat) (tk : JS), i = .int .i64 k ∧ k ≤ b.length ∧ Hid (RJD w0 wr gr gk G tk s1) ∧ Hid (∃ f, b.length < f + k ∧ scanJ b f k tk = jScan b) ∧ Hid (Upd G w wr) ∧ Hid (Bytes wr (.slice ba b.length bk) b)) (fun i _ => b.length - (intOf i).toNat)
    case atStart => exact ⟨0, [], rfl, Nat.zero_le _, H5.out, ⟨b.length + 1, by omega, rfl⟩, HU5.out, HRB.out⟩
    case round =>
      obtain ⟨k, tk, rfl, hk, hj, hsc, hu, hrb⟩ := hrel
      clear H5 HU5 HRB
      obtain ⟨p, tn, er, hq⟩ : ∃ p t e, nextF b (k : Int) = (p, t, e) := ⟨_, _, _, rfl⟩
      have HQ := Lib.hid hq
      have HKI : Hid (I64 (k : Int)) := ⟨by omega, by omega⟩
      go_wp2_with fail
      (with_reducible refine (rNext_any _ b (k : Int) wr hrb.out (by omega) HKI.out).mono ?_)
      unfold NextSaid
      rw [HQ.out]
      rintro e w6 ⟨vp, rfl, hop, hu6⟩
      have H6 := Lib.hid (hj.out.upd0 hu6)
      have H6u : Hid (Upd G w w6) := hu.out.trans hu6 (fun x hx => hx) (by simp)
      have HB6 := Lib.hid (hrb.out.upd0 hu6)
      have HP6 : Hid (Bytes w6 vp p) := hop.rd
      obtain ⟨pa, pk, rfl, -⟩ := hop.rd
      clear hop hu6 hj hrb hq hu
      dsimp only
      by_cases he0 : er = 0
      · subst he0
        have hto := frNext_to b k hk (by rw [HQ.out])
        rw [HQ.out] at hto
        obtain ⟨m, hm1, hm2, hm3, hm4, hm5⟩ := hto
        dsimp only at hm4 hm5
        subst hm4
        have HPL : Hid (p.length ≤ 140737488351232) := by unfold Hid; omega
        have HM3 := Lib.hid hm3
        have HM1 := Lib.hid hm1
        clear hm1 hm2 hm3 hm5
        obtain ⟨ok, hok⟩ : ∃ ok, chOk p = ok := ⟨_, rfl⟩
        have HOK := Lib.hid hok
        go_wp2_with fail
        (with_reducible refine (rjChanges_ok w6 _ p HP6.out HPL.out HOK.out).mono ?_)
        rintro e w7 ⟨xa, xn, xk, rfl, hx7, hxg, hu7⟩
        have H7 := Lib.hid (H6.out.upd0 hu7)
        have H7u : Hid (Upd G w w7) := H6u.out.trans hu7 (fun x hx => hx) (by simp)
        have HB7 := Lib.hid (HB6.out.upd0 hu7)
        have HXA : Hid (gk ∉ blk (.slice xa xn xk)) := fun hx => by have := hxg.out gk hx; have := H6.out.geK.2; omega
        clear hxg hu7 H6 H6u HB6 HP6
        cases ok with
        | false =>
          have HE : Hid (jScan b = (tk, k)) := by
            obtain ⟨f, h1, h2⟩ := hsc.out
            obtain ⟨f, rfl⟩ : ∃ f', f = f' + 1 := ⟨f - 1, by omega⟩
            rw [scanJ_succ] at h2
            have : jnx b k tk = none := by
              unfold jnx
              rw [HQ.out]; dsimp only
              rw [if_neg (fun q => by have := q.2; rw [hok] at this; exact absurd this (by simp))]
            rw [this] at h2
            exact h2.symm
          clear hok
          by_cases hlt : k < b.length
          · have q1 : (k : Int) < b.length := by omega
            have HEQ : Hid (jOpen s = (tk, (dCut s1 nmJ (k : Int)).2)) := by unfold Hid; rw [HOP.out, HE.out, if_pos hlt]
            go_wp2_with fail
            (with_reducible refine (rCut_any nmJ (k : Int) HKI.out H7.out.rd HN1.out HL1.out).mono ?_)
            rintro e wz ⟨rfl, hdz⟩
            have HZ := Lib.hid (rjopen_done H7.out H7u.out HGK.out HG1.out hdz)
            clear hdz
            go_wp2_with fail
            go_ret
            exact ⟨gk, rfl, by rw [HEQ.out]; exact HZ.out⟩
          · have q1 : ¬ (k : Int) < b.length := by omega
            have HEQ : Hid (jOpen s = (tk, s1)) := by unfold Hid; rw [HOP.out, HE.out, if_neg hlt]
            have HZ := Lib.hid (rjopen_done H7.out H7u.out HGK.out HG1.out (H7.out.rd.out0 (Upd.refl [] _)))
            go_wp2_with fail
            go_ret
            exact ⟨gk, rfl, by rw [HEQ.out]; exact HZ.out⟩
        | true =>
          have HNX : Hid (∃ f, b.length < f + (k + 8 + m) ∧ scanJ b f (k + 8 + m) (jAll tk (chL p)) = jScan b) := by
            obtain ⟨f, h1, h2⟩ := hsc.out
            obtain ⟨f, rfl⟩ : ∃ f', f = f' + 1 := ⟨f - 1, by omega⟩
            rw [scanJ_succ] at h2
            have : jnx b k tk = some (jAll tk (chL p), k + 8 + m) := by
              unfold jnx
              rw [HQ.out]; dsimp only
              rw [if_pos ⟨rfl, hok⟩, Int.toNat_natCast]
            rw [this] at h2
            exact ⟨f, by have := HM1.out; omega, h2⟩
          have HIN : Hid (∀ c ∈ chL p, ChOk c) := (ch_of hok).2.1
          have HX7 := Lib.hid (hx7.out rfl)
          obtain ⟨hv, hrj, hhas⟩ := H7.out.rj
          have HRJ := Lib.hid hrj
          have HHAS := Lib.hid hhas
          clear hok hsc hx7 hrj hhas
          go_wp2_with fail
          (with_reducible refine (rjTake_any _ (chL p) HRJ.out HX7.out HXA.out (fun c hc => ⟨(HIN.out c hc).lo, (HIN.out c hc).hi⟩)).mono ?_)
          rintro e w8 ⟨rfl, h8, hu8⟩
          have H8 := Lib.hid (H7.out.hold HHAS.out h8 hu8 HIN.out)
          have HB8 : Hid (Bytes w8 (.slice ba b.length bk) b) := HB7.out.upd hu8 (fun x hx hq => by simp at hq; subst hq; exact HAB.out hx)
          have HU8 : Hid (Upd G w w8) := H7u.out.trans hu8 (fun x hx => hx) (fun x hx => .inr (by simp at hx; subst hx; exact HGK.out))
          clear h8 hu8 H7 H7u HB7 HX7 HXA HRJ HHAS
          go_wp2_with fail
          go_roundw
          case rel => exact ⟨k + 8 + m, _, by first | rfl | (congr 1), HM3.out, H8, HNX, HU8, HB8⟩
          case measure => have := HM3.out; have := HM1.out; simp [intOf]; omega
      · have ez : (er != 0) = true := by rw [bne_iff_ne]; exact he0
        have HE : Hid (jScan b = (tk, k)) := by
          obtain ⟨f, h1, h2⟩ := hsc.out
          obtain ⟨f, rfl⟩ : ∃ f', f = f' + 1 := ⟨f - 1, by omega⟩
          rw [scanJ_succ] at h2
          have : jnx b k tk = none := by
            unfold jnx
            rw [HQ.out]; dsimp only
            rw [if_neg (fun q => he0 q.1)]
          rw [this] at h2
          exact h2.symm
        clear he0 HB6 HP6
        by_cases hlt : k < b.length
        · have q1 : (k : Int) < b.length := by omega
          have HEQ : Hid (jOpen s = (tk, (dCut s1 nmJ (k : Int)).2)) := by unfold Hid; rw [HOP.out, HE.out, if_pos hlt]
          go_wp2_with fail
          (with_reducible refine (rCut_any nmJ (k : Int) HKI.out H6.out.rd HN1.out HL1.out).mono ?_)
          rintro e wz ⟨rfl, hdz⟩
          have HZ := Lib.hid (rjopen_done H6.out H6u.out HGK.out HG1.out hdz)
          clear hdz
          go_wp2_with fail
          go_ret
          exact ⟨gk, rfl, by rw [HEQ.out]; exact HZ.out⟩
        · have q1 : ¬ (k : Int) < b.length := by omega
          have HEQ : Hid (jOpen s = (tk, s1)) := by unfold Hid; rw [HOP.out, HE.out, if_neg hlt]
          have HZ := Lib.hid (rjopen_done H6.out H6u.out HGK.out HG1.out (H6.out.rd.out0 (Upd.refl [] _)))
          go_wp2_with fail
          go_ret
          exact ⟨gk, rfl, by rw [HEQ.out]; exact HZ.out⟩
end
end Go.Proofs.YtmhojaiajhdlcaaGreat
namespace Go.Proofs.YtmhojaiajhdlcaaGreat
open Go.RowKit
set_option linter.unusedSimpArgs false
set_option linter.unusedVariables false
set_option maxHeartbeats 400000 in
theorem sameStr_any (v u : Value) (l m : List ByteArray) (w : World) (h : Rd sv w v l) (h2 : Rd sv w u m) :
    Calls Tryz.prog 91 #[v, u] w fun e w' => e = .returned (.bool (decide (l = m))) ∧ ∃ n, w' = w.drewN n := by
  obtain ⟨a, cap, rfl, hlc, hm, hc⟩ := h
  obtain ⟨a2, cap2, rfl, hlc2, hm2, hc2⟩ := h2
  have hm' : l.length ≤ 9223372036854775807 := by unfold maxLen at hm; omega
  have hm2' : m.length ≤ 9223372036854775807 := by unfold maxLen at hm2; omega
  clear hm hlc hm2 hlc2
  by_cases hlen : l.length = m.length
  · have HL := Lib.hid hlen
    have t1 : ((l.length : Int) != (m.length : Int)) = false := by rw [bne_eq_false_iff_eq]; omega
    have H1 := Lib.hid hc
    have H2 := Lib.hid hc2
    clear hlen hc hc2
    go_enter Tryz.func91, Tryz.ntmps91
    go_wp2
    go_loopw [5] (fun i wr => ∃ k n : Nat, wr = w.drewN n ∧ k ≤ l.length ∧ i = .int .i64 k ∧ Hid (∀ j, j < k → nth l j = nth m j)) (fun i _ => l.length - (intOf i).toNat)
    case atStart => exact ⟨0, 0, rfl, Nat.zero_le _, rfl, fun j hj => absurd hj (by omega)⟩
    case round =>
      obtain ⟨k, n, rfl, hk, rfl, hs⟩ := hrel
      by_cases hlt : k < l.length
      · obtain ⟨b, off, rfl, hc'⟩ := H1.out (by intro h; simp [h] at hlt)
        have hlt2 : k < m.length := by rw [← HL.out]; exact hlt
        obtain ⟨b2, off2, rfl, hc2'⟩ := H2.out (by intro h; simp [h] at hlt2)
        have hck := hc' k hlt
        have hck2 := hc2' k hlt2
        clear hc' hc2'
        have q1 : (k : Int) < (l.length : Int) := by omega
        have q2 : (k : Int) < (m.length : Int) := by omega
        go_wp2
        go_quiet (fail)
        go_wp2
        · have hne : nth l k ≠ nth m k := str_ne (by assumption)
          go_ret
          exact ⟨congrArg (fun b => Ending.returned (.bool b)) (decide_eq_false (fun e => by rw [e] at hne; exact hne rfl)).symm, _, World.drewN_drewN ..⟩
        · have heq : nth l k = nth m k := str_eq (by assumption)
          have HEQ := Lib.hid heq
          clear heq
          go_roundw
          case rel => exact ⟨k + 1, _, rfl, by omega, by go_num, fun j hj => by
            by_cases e : j = k
            · rw [e]; exact HEQ.out
            · exact hs.out j (by omega)⟩
          case measure => simp [intOf]; omega
      · obtain rfl : k = l.length := by omega
        go_wp2
        go_ret
        exact ⟨congrArg (fun b => Ending.returned (.bool b)) (decide_eq_true (same_ext HL.out hs.out)).symm, _, rfl⟩
  · have t1 : ((l.length : Int) != (m.length : Int)) = true := by rw [bne_iff_ne]; omega
    have t2 : decide (l = m) = false := by simp; intro h; exact hlen (by rw [h])
    have T2 := Lib.hid t2
    clear hlen t2
    go_enter Tryz.func91, Tryz.ntmps91
    go_wp2
    go_ret
    exact ⟨congrArg (fun b => Ending.returned (.bool b)) T2.out.symm, 0, rfl⟩

theorem sameStr_ok (v u : Value) (l : List ByteArray) (w : World) (h : Rd sv w v l) (h2 : Rd sv w u l) :
    Calls Tryz.prog 91 #[v, u] w fun e w' => e = .returned (.bool true) ∧ ∃ n, w' = w.drewN n := by
  have h := sameStr_any v u l l w h h2
  rw [decide_eq_true rfl] at h; exact h
end Go.Proofs.YtmhojaiajhdlcaaGreat
namespace Go.Proofs.YtmhojaiajhdlcaaGreat
open Go.RowKit
set_option linter.unusedSimpArgs false
set_option linter.unusedVariables false
abbrev nA : ByteArray := ⟨#[97]⟩
abbrev nB : ByteArray := ⟨#[98]⟩
abbrev nC : ByteArray := ⟨#[99]⟩
abbrev nQ : ByteArray := ⟨#[113]⟩
def z33 : List UInt8 := List.replicate 33 0
def qs1 : DS := (dAppend ⟨[], [], []⟩ nA z33).2
def qs2 : DS := (dRename qs1 nA nB).2
def qs3 : DS := dBack qs2 2
def qs4 : DS := dMark qs3
def qs5 : DS := (dAppend qs4 nA []).2
def qs6 : DS := (dAppend qs5 nC []).2
theorem i64_d (x : Int) (h1 : -9223372036854775808 ≤ x) (h2 : x ≤ 9223372036854775807) : I64 x := ⟨h1, h2⟩
theorem sameStr_yes (v u : Value) (l : List ByteArray) (w : World) (h : Rd sv w v l) (h2 : Rd sv w u l) :
    Calls Tryz.prog 91 #[v, u] w fun e w' => e = .returned (.bool true) ∧ Upd [] w w' :=
  (sameStr_ok v u l w h h2).mono fun e w' ⟨h1, n, h2⟩ => ⟨h1, by rw [h2]; exact (Upd.refl [] w).drewN n⟩
theorem DOut.dd {w0 w w' : World} {gd : Nat} {G : List Nat} {s : DS} (h : DOut w0 w gd G s w') : ∃ G', DD w0 w' gd G' s ∧ Upd G w w' ∧ (∀ x ∈ G', x ∈ G ∨ w.heap.size ≤ x) := h
end Go.Proofs.YtmhojaiajhdlcaaGreat
namespace Go.Proofs.YtmhojaiajhdlcaaGreat
open Go.ChangeShapes Go.WideShapes Go.ChangeAt Go.RowKit Go.Deep
set_option linter.unusedSimpArgs false
set_option linter.unusedVariables false
/-- An ask. -/
structure Ask22 where
  kd : Int
  n : Int
  nm : ByteArray
  tn : ByteArray
  dv : Sl
  d : List UInt8
instance : Inhabited Ask22 := ⟨⟨0, 0, .empty, .empty, default, []⟩⟩
abbrev ask22Cells (x : Ask22) : List Value := [.int .i64 x.kd, .int .i64 x.n, .string x.nm, .string x.tn, slv x.dv]
structure Ask22Good (w : World) (x : Ask22) : Prop where
  kd : I64 x.kd
  n : I64 x.n
  rd : Bytes w (slv x.dv) x.d
theorem cells_byte22 : Tryz.checked.prog.cellsOf 5 = 1 := by kernel_rfl
end Go.Proofs.YtmhojaiajhdlcaaGreat
namespace Go.Proofs.YtmhojaiajhdlcaaGreat
open Go.RowKit
set_option linter.unusedSimpArgs false
set_option linter.unusedVariables false
def dStep (x : Ask22) (s : DS) : DS :=
  if x.kd = 1 then (dAppend s x.nm x.d).2 else
  if x.kd = 2 then (dRename s x.nm x.tn).2 else
  if x.kd = 3 then (dCut s x.nm x.n).2 else
  if x.kd = 4 then (dRemove s x.nm).2 else s
theorem dStep_1 (s : DS) (n : Int) (nm tn : ByteArray) (dv : Sl) (d : List UInt8) : dStep ⟨1, n, nm, tn, dv, d⟩ s = (dAppend s nm d).2 := by unfold dStep; simp
theorem dStep_2 (s : DS) (n : Int) (nm tn : ByteArray) (dv : Sl) (d : List UInt8) : dStep ⟨2, n, nm, tn, dv, d⟩ s = (dRename s nm tn).2 := by unfold dStep; simp
theorem dStep_3 (s : DS) (n : Int) (nm tn : ByteArray) (dv : Sl) (d : List UInt8) : dStep ⟨3, n, nm, tn, dv, d⟩ s = (dCut s nm n).2 := by unfold dStep; simp
theorem dStep_4 (s : DS) (n : Int) (nm tn : ByteArray) (dv : Sl) (d : List UInt8) : dStep ⟨4, n, nm, tn, dv, d⟩ s = (dRemove s nm).2 := by unfold dStep; simp
theorem dStep_no (s : DS) (kd n : Int) (nm tn : ByteArray) (dv : Sl) (d : List UInt8) (h1 : kd ≠ 1) (h2 : kd ≠ 2) (h3 : kd ≠ 3) (h4 : kd ≠ 4) : dStep ⟨kd, n, nm, tn, dv, d⟩ s = s := by unfold dStep; simp [h1, h2, h3, h4]
theorem grows_step {s : DS} (h : DOk s) (x : Ask22) (hl : s.now.length ≤ 4999) : Grows s (dStep x s) x.d.length := by
  unfold dStep
  split
  · exact grows_append h _ _ hl
  split
  · exact grows_rename _ _ _ _
  split
  · exact grows_cut _ _ _ _
  split
  · exact grows_remove _ _ _
  · exact Grows.refl _ _
end Go.Proofs.YtmhojaiajhdlcaaGreat
namespace Go.Proofs.YtmhojaiajhdlcaaGreat
open Go.RowKit
set_option linter.unusedSimpArgs false
set_option linter.unusedVariables false
def dAny (x : Ask22) (s : DS) : DS :=
  if x.kd = 5 then dMark s else if x.kd = 6 then dBack s x.n else dStep x s
theorem Any.step {k : Nat} {s : DS} (h : Any k s) (x : Ask22) (hx : x.d.length ≤ 500) (hk : k ≤ 100) : Any (k + 1) (dAny x s) := by
  unfold dAny dStep
  split
  · exact h.mark
  split
  · exact h.back _
  split
  · exact h.append _ _ hx hk
  split
  · exact h.rename _ _ hk
  split
  · exact h.cut _ _ hk
  split
  · exact h.remove _ hk
  · exact h.up
theorem dAny_1 (s : DS) (n : Int) (nm tn : ByteArray) (dv : Sl) (d : List UInt8) : dAny ⟨1, n, nm, tn, dv, d⟩ s = (dAppend s nm d).2 := by unfold dAny; simp [dStep_1]
theorem dAny_2 (s : DS) (n : Int) (nm tn : ByteArray) (dv : Sl) (d : List UInt8) : dAny ⟨2, n, nm, tn, dv, d⟩ s = (dRename s nm tn).2 := by unfold dAny; simp [dStep_2]
theorem dAny_3 (s : DS) (n : Int) (nm tn : ByteArray) (dv : Sl) (d : List UInt8) : dAny ⟨3, n, nm, tn, dv, d⟩ s = (dCut s nm n).2 := by unfold dAny; simp [dStep_3]
theorem dAny_4 (s : DS) (n : Int) (nm tn : ByteArray) (dv : Sl) (d : List UInt8) : dAny ⟨4, n, nm, tn, dv, d⟩ s = (dRemove s nm).2 := by unfold dAny; simp [dStep_4]
theorem dAny_5 (s : DS) (n : Int) (nm tn : ByteArray) (dv : Sl) (d : List UInt8) : dAny ⟨5, n, nm, tn, dv, d⟩ s = dMark s := by unfold dAny; simp
theorem dAny_6 (s : DS) (n : Int) (nm tn : ByteArray) (dv : Sl) (d : List UInt8) : dAny ⟨6, n, nm, tn, dv, d⟩ s = dBack s n := by unfold dAny; simp
theorem dAny_no (s : DS) (kd n : Int) (nm tn : ByteArray) (dv : Sl) (d : List UInt8) (h1 : kd ≠ 1) (h2 : kd ≠ 2) (h3 : kd ≠ 3) (h4 : kd ≠ 4) (h5 : kd ≠ 5) (h6 : kd ≠ 6) : dAny ⟨kd, n, nm, tn, dv, d⟩ s = s := by unfold dAny; simp [h5, h6, dStep_no _ _ _ _ _ _ _ h1 h2 h3 h4]
end Go.Proofs.YtmhojaiajhdlcaaGreat
namespace Go.Proofs.YtmhojaiajhdlcaaGreat
open Go.RowKit
set_option linter.unusedSimpArgs false
set_option linter.unusedVariables false
/-- The two disks. -/
structure Bo (w0 W : World) (gd gr : Nat) (s : DS) (G1 G2 : List Nat) : Prop where
  d : DD w0 W gd G1 s
  r : RD w0 W gr G2 s
  ap : Ap G1 G2
section
variable {w0 W W' : World} {gd gr gb : Nat} {xs : List Value} {sd sr s s' : DS} {G1 G2 : List Nat}
theorem Bo.upd0 (h : Bo w0 W gd gr s G1 G2) (hu : Upd [] W W') : Bo w0 W' gd gr s G1 G2 := ⟨h.d.upd0 hu, h.r.upd0 hu, h.ap⟩
theorem RD.new (w0 w : World) (hu : Upd [] w0 w) : ∃ G, RD w0 (w.alloc (.cells #[.slice none 0 0, .slice none 0 0, .slice none 0 0] 45)) w.heap.size G ⟨[], [], []⟩ ∧ ∀ x ∈ G, w.heap.size ≤ x := by
  have hua : Upd [] w (w.alloc (.cells #[.slice none 0 0, .slice none 0 0, .slice none 0 0] 45)) := (Upd.refl [] w).alloc _
  have hrl : ∀ W, RL W [] (slv ⟨none, 0, 0⟩) [] := fun W => ⟨⟨none, 0, rfl, Nat.le_refl _, Nat.zero_le _, fun h => absurd rfl h⟩, fun x hx => by simp [blk] at hx, fun c hc => by simp at hc, fun c hc => by simp at hc, Rising.nil⟩
  refine ⟨_, ⟨[], ⟨none, 0, 0⟩, ⟨none, 0, 0⟩, [], [], .slice none 0 0, [], ⟨Blk.new w _ [.slice none 0 0, .slice none 0 0, .slice none 0 0], hu.size, by simp, hrl _, hrl _, OwnN.nil _ _ _, by simp, by simp, fun x hx => by simp [blk] at hx, hu.seq hua, by simp⟩, rfl, DOk.zero, rfl⟩, fun x hx => ?_⟩
  rcases (rfoot_mem _ _ _ _).1 hx with rfl | hx | hx
  · exact Nat.le_refl _
  · simp at hx
  · simp [blk] at hx
end
end Go.Proofs.YtmhojaiajhdlcaaGreat
namespace Go.Proofs.YtmhojaiajhdlcaaGreat
open Go.RowKit
set_option linter.unusedSimpArgs false
set_option linter.unusedVariables false
set_option linter.unusedSectionVars false
/-- The blocks of X are as they were in u; none of A or B is among them. -/
structure KY (w : World) (X : List Nat) (u : World) (A B : List Nat) : Prop where
  sz : u.heap.size ≤ w.heap.size
  lt : ∀ x ∈ X, x < u.heap.size
  outA : ∀ x ∈ X, x ∉ A
  outB : ∀ x ∈ X, x ∉ B
  eq : ∀ x ∈ X, w.heap[x]? = u.heap[x]?
theorem KY.step {w w' u : World} {X A B A' B' S : List Nat} (h : KY w X u A B) (hu : Upd S w w') (hS : ∀ x ∈ S, x ∈ A ∨ x ∈ B) (hA : ∀ x ∈ A', x ∈ A ∨ w.heap.size ≤ x) (hB : ∀ x ∈ B', x ∈ B ∨ w.heap.size ≤ x) : KY w' X u A' B' := by
  have hsz := h.sz
  refine ⟨Nat.le_trans hsz hu.size, h.lt, fun x hx q => ?_, fun x hx q => ?_, fun x hx => ?_⟩
  · rcases hA x q with q | q
    · exact h.outA x hx q
    · have := h.lt x hx; omega
  · rcases hB x q with q | q
    · exact h.outB x hx q
    · have := h.lt x hx; omega
  · rw [hu.block x (by have := h.lt x hx; omega) (fun q => ?_), h.eq x hx]
    rcases hS x q with q | q
    · exact h.outA x hx q
    · exact h.outB x hx q
theorem RdN.kept {α : Type} [Inhabited α] {sz : Nat} {c : α → List Value} {w u : World} {v : Value} {l : List α} (h : RdN sz c u v l) (hk : ∀ x ∈ blk v, w.heap[x]? = u.heap[x]?) : RdN sz c w v l := by
  obtain ⟨a, cap, rfl, h1, h2, h3⟩ := h
  refine ⟨a, cap, rfl, h1, h2, fun hne => ?_⟩
  obtain ⟨b, off, rfl, hc⟩ := h3 hne
  refine ⟨b, off, rfl, fun j hj i hi => ?_⟩
  rw [← hc j hj i hi]
  have hb := hk b (by simp [blk])
  unfold World.cell?
  rw [hb]
structure J2 (w0 w : World) (X : List Nat) (u : World) (gd gj gr gk : Nat) (t : JS) (s : DS) (t2 : JS) (s2 : DS) : Prop where
  ex : ∃ F G G2, JD w0 w gd gj F G t s ∧ RJD w0 w gr gk G2 t2 s2 ∧ Ap (F ++ G) (gk :: G2) ∧ KY w X u (F ++ G) (gk :: G2)
theorem apx_grow {X Y X' : List Nat} {n : Nat} (h : Ap X Y) (hx : ∀ x ∈ X', x ∈ X ∨ n ≤ x) (hy : ∀ y ∈ Y, y < n) : Ap X' Y := fun x hx' hy' => by
  rcases hx x hx' with q | q
  · exact h x q hy'
  · have := hy x hy'; omega
theorem apx_sym {X Y : List Nat} (h : Ap X Y) : Ap Y X := fun x hx hy => h x hy hx
section
variable {w0 w w' u : World} {X : List Nat} {gd gj gj' gr gk gk' : Nat} {t t' t2 : JS} {s s' s2 : DS}
theorem JD.lts {F G : List Nat} (h : JD w0 w gd gj F G t s) : ∀ x ∈ F ++ G, w0.heap.size ≤ x ∧ x < w.heap.size := fun x hx => by
  rcases List.mem_append.1 hx with q | q
  · exact h.geF x q
  · exact h.dd.ge x q
theorem RJD.lts {G2 : List Nat} (h : RJD w0 w gr gk G2 t s) : ∀ x ∈ gk :: G2, w0.heap.size ≤ x ∧ x < w.heap.size := fun x hx => by
  rcases List.mem_cons.1 hx with rfl | q
  · exact h.geK
  · exact h.rd.ge x q
theorem J2.old (h : J2 w0 w X u gd gj gr gk t s t2 s2) : Upd [] w0 w := by
  obtain ⟨F, G, G2, h1, h2, h3, h9⟩ := h.ex
  exact h1.old
theorem J2.upd0 (h : J2 w0 w X u gd gj gr gk t s t2 s2) (hu : Upd [] w w') : J2 w0 w' X u gd gj gr gk t s t2 s2 := by
  obtain ⟨F, G, G2, h1, h2, h3, h9⟩ := h.ex
  exact ⟨F, G, G2, h1.upd0 hu, h2.upd0 hu, h3, h9.step hu (by simp) (fun x hx => .inl hx) (fun x hx => .inl hx)⟩
/-- New blocks are kept. -/
theorem J2.keep (h : J2 w0 w X u gd gj gr gk t s t2 s2) (hu : Upd [] w w') (Y : List Nat) (hY : ∀ x ∈ Y, w.heap.size ≤ x ∧ x < w'.heap.size) : J2 w0 w' Y w' gd gj gr gk t s t2 s2 := by
  obtain ⟨F, G, G2, h1, h2, h3, h9⟩ := h.ex
  exact ⟨F, G, G2, h1.upd0 hu, h2.upd0 hu, h3, Nat.le_refl _, fun x hx => (hY x hx).2, fun x hx q => by have := (h1.lts x q).2; have := (hY x hx).1; omega, fun x hx q => by have := (h2.lts x q).2; have := (hY x hx).1; omega, fun _ _ => rfl⟩
theorem J2.free (h : J2 w0 w X u gd gj gr gk t s t2 s2) : J2 w0 w [] w gd gj gr gk t s t2 s2 := by
  obtain ⟨F, G, G2, h1, h2, h3, h9⟩ := h.ex
  exact ⟨F, G, G2, h1, h2, h3, Nat.le_refl _, by simp, by simp, by simp, by simp⟩
theorem J2.rdn (h : J2 w0 w X u gd gj gr gk t s t2 s2) {v : Value} {l : List Ch} (hr : RdN 2 chCells u v l) (hX : ∀ x ∈ blk v, x ∈ X) : RdN 2 chCells w v l := by
  obtain ⟨F, G, G2, h1, h2, h3, h9⟩ := h.ex
  exact hr.kept (fun x hx => h9.eq x (hX x hx))
theorem J2.stepD {F G G2 Y : List Nat} (h1 : JD w0 w gd gj F G t s) (h2 : RJD w0 w gr gk G2 t2 s2) (h3 : Ap (F ++ G) (gk :: G2)) (h9 : KY w X u (F ++ G) (gk :: G2)) (hX : ∀ x ∈ Y, x ∈ F ++ G) (ho : JOut w0 w gd gj' Y t' s' w') : J2 w0 w' X u gd gj' gr gk t' s' t2 s2 := by
  obtain ⟨F', G', k1, k2, k3, k4⟩ := (show ∃ F' G', _ from ho)
  replace k2 := k2.mono (T := F ++ G) (fun x hx => .inl (hX x hx))
  have key : ∀ x ∈ F' ++ G', x ∈ F ++ G ∨ w.heap.size ≤ x := fun x hx => by
    rcases List.mem_append.1 hx with q | q
    · exact (k3 x q).imp (hX x) id
    · exact (k4 x q).imp (hX x) id
  refine ⟨F', G', G2, k1, h2.upd k2 (fun hs => h3 gk hs (by simp)) (fun x hx hs => h3 x hs (List.mem_cons_of_mem _ hx)) (fun x hx => (h1.lts x hx).1), apx_grow h3 key (fun y hy => (h2.lts y hy).2), h9.step k2 (fun x hx => .inl hx) key (fun x hx => .inl hx)⟩
theorem J2.stepR {F G G2 Y : List Nat} (h1 : JD w0 w gd gj F G t s) (h2 : RJD w0 w gr gk G2 t2 s2) (h3 : Ap (F ++ G) (gk :: G2)) (h9 : KY w X u (F ++ G) (gk :: G2)) (hX : ∀ x ∈ Y, x ∈ gk :: G2) (ho : RJOut w0 w gr gk' Y t' s' w') : J2 w0 w' X u gd gj gr gk' t s t' s' := by
  obtain ⟨G', k1, k2, k3, k4⟩ := (show ∃ G', _ from ho)
  replace k2 := k2.mono (T := gk :: G2) (fun x hx => .inl (hX x hx))
  have key : ∀ x ∈ gk' :: G', x ∈ gk :: G2 ∨ w.heap.size ≤ x := fun x hx => by
    rcases List.mem_cons.1 hx with rfl | q
    · exact k3.imp (hX _) id
    · exact (k4 x q).imp (hX x) id
  refine ⟨F, G, G', h1.upd k2 (fun x hx hs => h3 x (List.mem_append.2 (.inl hx)) hs) (fun x hx hs => h3 x (List.mem_append.2 (.inr hx)) hs) (fun x hx => (h2.lts x hx).1), k1, apx_sym (apx_grow (apx_sym h3) key (fun y hy => (h1.lts y hy).2)), h9.step k2 (fun x hx => .inr hx) (fun x hx => .inl hx) key⟩
/-- Behind a call on a disk. -/
theorem J2.diskD {F G G2 : List Nat} (h1 : JD w0 w gd gj F G t s) (h2 : RJD w0 w gr gk G2 t2 s2) (h3 : Ap (F ++ G) (gk :: G2)) (h9 : KY w X u (F ++ G) (gk :: G2)) (ho : DOut w0 w gd G s' w') : J2 w0 w' X u gd gj gr gk t s' t2 s2 := J2.stepD h1 h2 h3 h9 (fun _ h => h) (h1.disk ho)
theorem J2.diskR {F G G2 : List Nat} (h1 : JD w0 w gd gj F G t s) (h2 : RJD w0 w gr gk G2 t2 s2) (h3 : Ap (F ++ G) (gk :: G2)) (h9 : KY w X u (F ++ G) (gk :: G2)) (ho : ROut w0 w gr G2 s' w') : J2 w0 w' X u gd gj gr gk t s t2 s' := by
  obtain ⟨G', k1, k2, k3⟩ := h2.disk (Upd.refl [] w) ho
  exact J2.stepR h1 h2 h3 h9 (fun _ h => h) ⟨G', k1, k2.mono (fun x hx => .inl (List.mem_cons_of_mem _ hx)), .inl (by simp), fun x hx => (k3 x hx).imp (List.mem_cons_of_mem _) id⟩
variable {Q : List UInt8 → Prop} {k : Nat}
theorem j2Set (h : J2 w0 w X u gd gj gr gk t s t2 s2) (v : Value) (l : List Ch) (hl : RdN 2 chCells w v l) (hX : ∀ x ∈ blk v, x ∈ X) (hI : ∀ c ∈ l, I64 c.1 ∧ c.2.size ≤ 1000000) (hs : St Q k s) (hk : k ≤ 470000000) {e : Int} (he : jSet t s l = (e, t', s')) :
    Calls Tryz.prog 45 #[.pointer (some ⟨gj, 0, none⟩), v] w fun x w' => x = .returned (.int .i64 e) ∧ J2 w0 w' X u gd gj gr gk t' s' t2 s2 := by
  obtain ⟨F, G, G2, h1, h2, h3, h9⟩ := h.ex
  have hc := jset_any v l h1 hl (fun x hx => h9.outA x (hX x hx)) hI (by have := hs.now; omega) (by have := hs.lg; omega)
  rw [he] at hc
  refine hc.mono ?_
  rintro x w' ⟨rfl, ho⟩
  exact ⟨rfl, J2.stepD h1 h2 h3 h9 (fun _ h => h) ho⟩
theorem j2SetR (h : J2 w0 w X u gd gj gr gk t s t2 s2) (v : Value) (l : List Ch) (hl : RdN 2 chCells w v l) (hX : ∀ x ∈ blk v, x ∈ X) (hI : ∀ c ∈ l, I64 c.1 ∧ c.2.size ≤ 1000000) (hs : St Q k s2) (hk : k ≤ 470000000) {e : Int} (he : jSet t2 s2 l = (e, t', s')) :
    Calls Tryz.prog 39 #[.pointer (some ⟨gk, 0, none⟩), v] w fun x w' => x = .returned (.int .i64 e) ∧ J2 w0 w' X u gd gj gr gk t s t' s' := by
  obtain ⟨F, G, G2, h1, h2, h3, h9⟩ := h.ex
  have hc := rjSet_any v l h2 hl (fun x hx => h9.outB x (hX x hx)) hI (by have := hs.now; omega) (by have := hs.lg; omega)
  rw [he] at hc
  refine hc.mono ?_
  rintro x w' ⟨rfl, ho⟩
  exact ⟨rfl, J2.stepR h1 h2 h3 h9 (fun _ h => h) ho⟩
theorem j2Open (h : J2 w0 w X u gd gj gr gk t s t2 s2) (hs : St Q k s) (hk : k ≤ 470000000) (he : jOpen s = (t', s')) :
    Calls Tryz.prog 40 #[.pointer (some ⟨gd, 0, none⟩)] w fun e w' => ∃ gj', e = .returned (.tuple #[.pointer (some ⟨gj', 0, none⟩), .int .i64 0]) ∧ J2 w0 w' X u gd gj' gr gk t' s' t2 s2 := by
  obtain ⟨F, G, G2, h1, h2, h3, h9⟩ := h.ex
  have hc := jopen_any h1.dd (by have := hs.now; omega) (by have := hs.lg; omega)
  rw [he] at hc
  refine hc.mono ?_
  rintro e w' ⟨gj', rfl, ho⟩
  exact ⟨gj', rfl, J2.stepD h1 h2 h3 h9 (fun x hx => List.mem_append.2 (.inr hx)) ho⟩
theorem j2OpenR (h : J2 w0 w X u gd gj gr gk t s t2 s2) (hs : St Q k s2) (hk : k ≤ 470000000) (he : jOpen s2 = (t', s')) :
    Calls Tryz.prog 42 #[.pointer (some ⟨gr, 0, none⟩)] w fun e w' => ∃ gk', e = .returned (.pointer (some ⟨gk', 0, none⟩)) ∧ J2 w0 w' X u gd gj gr gk' t s t' s' := by
  obtain ⟨F, G, G2, h1, h2, h3, h9⟩ := h.ex
  have hc := rjOpen_any h2.rd (by have := hs.now; omega) (by have := hs.lg; omega)
  rw [he] at hc
  refine hc.mono ?_
  rintro e w' ⟨gk', rfl, ho⟩
  exact ⟨gk', rfl, J2.stepR h1 h2 h3 h9 (fun x hx => List.mem_cons_of_mem _ hx) ho⟩
theorem j2Mark (h : J2 w0 w X u gd gj gr gk t s t2 s2) (hs : St Q k s) :
    Calls Tryz.prog 21 #[.pointer (some ⟨gd, 0, none⟩)] w fun e w' => e = .returned (.tuple #[]) ∧ J2 w0 w' X u gd gj gr gk t (dMark s) t2 s2 := by
  obtain ⟨F, G, G2, h1, h2, h3, h9⟩ := h.ex
  refine (dMark_any h1.dd (by have := hs.now; omega)).mono ?_
  rintro e w' ⟨rfl, ho⟩
  exact ⟨rfl, J2.diskD h1 h2 h3 h9 ho⟩
theorem j2MarkR (h : J2 w0 w X u gd gj gr gk t s t2 s2) :
    Calls Tryz.prog 22 #[.pointer (some ⟨gr, 0, none⟩)] w fun e w' => e = .returned (.tuple #[]) ∧ J2 w0 w' X u gd gj gr gk t s t2 (dMark s2) := by
  obtain ⟨F, G, G2, h1, h2, h3, h9⟩ := h.ex
  refine (rSetMark_any h2.rd).mono ?_
  rintro e w' ⟨rfl, ho⟩
  exact ⟨rfl, J2.diskR h1 h2 h3 h9 ho⟩
theorem j2Back (h : J2 w0 w X u gd gj gr gk t s t2 s2) (n : Int) (hn : I64 n) (hs : St Q k s) :
    Calls Tryz.prog 35 #[.pointer (some ⟨gd, 0, none⟩), .int .i64 n] w fun e w' => e = .returned (.tuple #[]) ∧ J2 w0 w' X u gd gj gr gk t (dBack s n) t2 s2 := by
  obtain ⟨F, G, G2, h1, h2, h3, h9⟩ := h.ex
  refine (dBack_any n hn h1.dd (by have := hs.mlen; omega)).mono ?_
  rintro e w' ⟨rfl, ho⟩
  exact ⟨rfl, J2.diskD h1 h2 h3 h9 ho⟩
theorem j2BackR (h : J2 w0 w X u gd gj gr gk t s t2 s2) (n : Int) (hn : I64 n) (hs : St Q k s2) (hk : k ≤ 470000000) :
    Calls Tryz.prog 36 #[.pointer (some ⟨gr, 0, none⟩), .int .i64 n] w fun e w' => e = .returned (.tuple #[]) ∧ J2 w0 w' X u gd gj gr gk t s t2 (dBack s2 n) := by
  obtain ⟨F, G, G2, h1, h2, h3, h9⟩ := h.ex
  refine (rBack_any n hn h2.rd (by have := hs.lg; omega)).mono ?_
  rintro e w' ⟨rfl, ho⟩
  exact ⟨rfl, J2.diskR h1 h2 h3 h9 ho⟩
end
end Go.Proofs.YtmhojaiajhdlcaaGreat
namespace Go.Proofs.YtmhojaiajhdlcaaGreat
open Go.RowKit
set_option linter.unusedSimpArgs false
set_option linter.unusedVariables false
theorem RD.opsJ {w0 w : World} {gr : Nat} {G2 : List Nat} {s : DS} (h : RD w0 w gr G2 s) : ∃ oa oc, w.cell? ⟨gr, 2, none⟩ = some (.slice oa s.log.length oc) ∧ s.log.length ≤ oc ∧ oc ≤ maxLen := by
  obtain ⟨R, nv, mv, ln, lm, ov, ops, hc, rfl, ho, rfl⟩ := h.ex
  obtain ⟨ao, co, rfl, h1, h2, -⟩ := hc.opw.rd lwCells_len
  exact ⟨ao, co, by have := hc.dk.cell 2; simpa using this, by simpa using h1, h2⟩
theorem nameJ_in {s : DS} (hr : Rising strLt s.now) (k : Nat) (hk : k < s.now.length) : ∃ d, dGet s.now (nth (s.now.map (·.1)) k) = (d, true) ∧ d.length ≤ dTotal s.now := by
  have h1 : nth (s.now.map (·.1)) k = (nth s.now k).1 := by rw [nth_get _ _ (by simpa using hk), nth_get _ _ hk]; simp
  have h2 : inD s.now (nth s.now k).1 = true := isIn_at strOrd hr k hk
  refine ⟨(dGet s.now (nth s.now k).1).1, by rw [h1]; exact Prod.ext rfl (by rw [dGet_in]; exact h2), get_le_total _ _⟩
theorem jGet_out {t : JS} (h : JT t) (i : Int) (hi : i < 0 ∨ 40 < i) : jGet t i = s0 := by
  rcases get_cases (lt := ltI) s0 t i with ⟨v, hv⟩ | hn
  · have hm := (get_mem intOrd s0 h.ris _ v).1 hv
    have h1 := (h.ks _ hm).lo
    have h2 := (h.ks _ hm).hi
    dsimp only at h1 h2
    omega
  · unfold jGet; rw [hn]
section
variable {w0 w u : World} {X : List Nat} {gd gj gr gk : Nat} {t : JS} {s : DS} {Q : List UInt8 → Prop} {q : Nat}
set_option maxRecDepth 20000 in
set_option maxHeartbeats 8000000 in
theorem rjAlike_any (h : J2 w0 w X u gd gj gr gk t s t s) (hs : St Q q s) :
    Calls Tryz.prog 41 #[.pointer (some ⟨gj, 0, none⟩), .pointer (some ⟨gd, 0, none⟩), .pointer (some ⟨gk, 0, none⟩)] w fun e w' => e = .returned (.bool true) ∧ Upd [] w w' := by
  obtain ⟨F, G, G2, h1, h2, -⟩ := h.ex
  have HP1 := Lib.hid h1
  have HP2 := Lib.hid h2
  have HST := Lib.hid hs
  have HJT := Lib.hid h2.jt
  have HFU := Lib.hid h2.full
  have HT0 : Hid (([] : List Int) ++ (tFrom t 0).map (·.1) = t.map (·.1)) := by unfold Hid; rw [tFrom_zero h2.jt]; rfl
  have htl := h2.jt.len
  clear h hs h1 h2
  go_enter Tryz.func41, Tryz.ntmps41
  go_wp2_with fail
  go_loopw [7, 8] (fun v i wr => ∃ (k : Nat) (ks : List Int), i = .int .i64 (k : Int) ∧ k ≤ 41 ∧ Hid (Own iv w.heap.size 3 wr v ks) ∧ Hid (Upd [] w wr) ∧ Hid (ks ++ (tFrom t k).map (·.1) = t.map (·.1))) (fun _ i _ => 41 - (intOf i).toNat)
  case atStart => exact ⟨0, [], rfl, by omega, World.ownsRow_nil _ _ _ _, Upd.refl _ _, HT0⟩
  case round =>
    clear HT0
    obtain ⟨k, ks, rfl, hk, ho, hu, hks⟩ := hrel
    by_cases hlt : k < 41
    · have q1 : (k : Int) ≤ 40 := by omega
      have q0 : (0 : Int) ≤ k := by omega
      have q2 : (k : Int) < 41 := by omega
      have c1 := (HP2.out.upd0 hu.out).slot k hlt
      have hst := tFrom_step HJT.out HFU.out k
      obtain ⟨y, hy⟩ : ∃ y, jGet t k = y := ⟨_, rfl⟩
      have HY := Lib.hid hy
      rw [hy] at c1 hst
      have HC1 : Hid (∀ W, Upd [] wr W → Calls Tryz.prog 81 #[.pointer (some ⟨gj, 0, none⟩), .int .i64 (k : Int)] W fun e w' => e = .returned (.string y) ∧ Upd [] wr w') := fun W hW => by
        refine (jGet_any (k : Int) (i64_mk (by omega) (by omega)) (HP1.out.upd0 (hu.out.seq hW))).mono ?_
        rw [HY.out]
        rintro e w' ⟨rfl, hu2⟩
        exact ⟨rfl, hW.seq hu2⟩
      have D1 := Lib.hid c1
      have ru := Upd.refl [] wr
      have z1 : (y.toList == y.toList) = true := by simp
      have hle : ks.length ≤ 41 := by
        have h1 := congrArg List.length hks.out
        rw [List.length_append, List.length_map, List.length_map] at h1
        omega
      obtain ⟨ao, co, hov, -⟩ := ho.out.rd
      subst hov
      have HO := Lib.hid ho.out
      have HU := Lib.hid hu.out
      clear hy ho hu
      by_cases hy0 : y = s0
      · have HKS : Hid (ks ++ (tFrom t (k + 1)).map (·.1) = t.map (·.1)) := by unfold Hid; rw [← hst.1 hy0]; exact hks.out
        subst hy0
        clear hst hks
        go_wp2_with fail
        go_region_held3 (fun W => W.cell? ⟨gk, 1 + k, none⟩ = some (.string s0)) (first | go_keep | exact ru.cell D1.out (by simp)) (first
          | (go_at_call 81; (with_reducible refine (HC1.out _ (Upd.seq ru ?_)).mono ?_); (repeat (first | exact Upd.refl _ _ | apply Upd.drew | apply Upd.drewN | apply Upd.alloc)); (rintro _ W1 ⟨rfl, ru⟩; dsimp only)))
        all_goals
          have c2 := ru.cell D1.out (by simp)
          have HUN := Lib.hid (HU.out.seq ru)
          have HON := Lib.hid (HO.out.upd ru (by simp))
          clear ru HC1 D1 c1 HU HO
          go_wp2_with fail
          go_roundw
          case rel => exact ⟨k + 1, ks, by go_num, by omega, HON, HUN, HKS⟩
          case measure => simp [intOf]; omega
      · have HKS : Hid ((ks ++ [(k : Int)]) ++ (tFrom t (k + 1)).map (·.1) = t.map (·.1)) := by
          unfold Hid; have := hks.out; rw [hst.2 hy0] at this; rw [← this]; simp
        have e2 := ne_str hy0
        clear hst hks hy0
        go_wp2_with fail
        go_region_held3 (fun W => W.cell? ⟨gk, 1 + k, none⟩ = some (.string y)) (first | go_keep | exact ru.cell D1.out (by simp)) (first
          | (go_at_call 81; (with_reducible refine (HC1.out _ (Upd.seq ru ?_)).mono ?_); (repeat (first | exact Upd.refl _ _ | apply Upd.drew | apply Upd.drewN | apply Upd.alloc)); (rintro _ W1 ⟨rfl, ru⟩; dsimp only)))
        all_goals
          have c2 := ru.cell D1.out (by simp)
          have HUN := Lib.hid (HU.out.seq ru)
          have HON := Lib.hid (HO.out.upd ru (by simp))
          have HSZ := Lib.hid HUN.out.size
          have HB : Hid ((ks.length + [(k : Int)].length) * 8 ≤ 140737488355328) := by unfold Hid; simp; omega
          have HL : Hid (ks.length + [(k : Int)].length ≤ maxLen) := by unfold Hid maxLen; simp; omega
          clear ru HC1 D1 c1 HU HO
          go_wp2_with (at_builtin; go_must (refine wpList_app_of rfl _ _ rfl (.slice ao ks.length co) (.slice (some ⟨W1.heap.size, 0, none⟩) 1 1) rfl rfl (run_app (c := iv) (fun _ => rfl) undKIS infoKeyIS rfl _ _ ks [(k : Int)] (HON.out.upd (((Upd.refl [] _).alloc _)) (by simp)) (Rd.lit [(k : Int)] (by simp) rfl rfl (by decide) (by decide)) HB.out HL.out (by have := HSZ.out; simp <;> omega)) ?_; rintro v1 w3 ⟨ho3, hu3, hk3⟩; have HO3 := Lib.hid ho3; have HU3 : Hid (Upd [] w w3) := ((HUN.out.alloc _).trans hu3 (by simp) (fun y hy => .inr (HON.out.ge y hy).1)); clear ho3 hu3 hk3))
          go_roundw
          case rel => exact ⟨k + 1, ks ++ [(k : Int)], by go_num, by omega, HO3, HU3, HKS⟩
          case measure => simp [intOf]; omega
    · obtain rfl : k = 41 := by omega
      have hke : ks = t.map (·.1) := by have := hks.out; rwa [tFrom_end HJT.out, List.map_nil, List.append_nil] at this
      have HO := Lib.hid ho.out
      have HU := Lib.hid hu.out
      obtain ⟨ao, co, hov, -⟩ := ho.out.rd
      subst hov
      have c0 := (HP2.out.upd0 HU.out).c0
      clear ho hu hks hlt
      subst hke
      obtain ⟨ns, hns⟩ : ∃ ns, s.now.map (·.1) = ns := ⟨_, rfl⟩
      obtain ⟨ks, hks⟩ : ∃ ks, t.map (·.1) = ks := ⟨_, rfl⟩
      have HKS := Lib.hid hks
      rw [hks] at HO ⊢
      have hnl := HST.out.now
      have hnsl : ns.length = s.now.length := by rw [← hns]; simp
      have HNSL := Lib.hid hnsl
      have HNS := Lib.hid hns
      have hnsb : ns.length ≤ 2 := by omega
      have HNL : Hid (s.now.length ≤ 100000) := by unfold Hid; omega
      have HN5 : Hid (s.now.length ≤ 5000) := by unfold Hid; omega
      have HRI := Lib.hid HP2.out.rd.ok.ris
      have htot := HP2.out.rd.ok.tot
      obtain ⟨tt, htt⟩ : ∃ tt, dTotal s.now = tt := ⟨_, rfl⟩
      have HTT := Lib.hid htt
      have HSZ : Hid (jLen s nmJ + jLen s nmN = tt) := by unfold Hid; rw [← htt, HST.out.tot]; rfl
      obtain ⟨cc, hcc⟩ : ∃ cc, s.log.length = cc := ⟨_, rfl⟩
      have HCC := Lib.hid hcc
      rw [htt] at htot
      clear hns hks htt hcc hnl hnsl
      go_wp2_with fail
      (with_reducible refine (rNames_any (HP2.out.upd0 HU.out).rd HNL.out).mono ?_)
      rw [HNS.out]
      rintro e w1 ⟨v1, rfl, ho1', hu1⟩
      obtain ⟨a1, k1, rfl, hk11, hk12, -⟩ := ho1'.rd
      have hk1b : k1 ≤ 9223372036854775807 := by unfold maxLen at hk12; omega
      have HO1 := Lib.hid ho1'.rd
      have HU1 := Lib.hid (HU.out.seq hu1)
      have HA1 := Lib.hid (HO.out.rd.upd0 hu1)
      obtain ⟨oa, oc, hoc, hol, hom⟩ := (HP2.out.upd0 HU1.out).rd.opsJ
      rw [HCC.out] at hoc hol
      have hoc2 : oc ≤ 9223372036854775807 := by unfold maxLen at hom; omega
      have g0 := (HP2.out.upd0 HU1.out).c0
      have C0 := Lib.hid g0
      have C2 := Lib.hid hoc
      have ru := Upd.refl [] w1
      have HB1 := Lib.hid (HP1.out.upd0 HU1.out)
      have HB2 := Lib.hid (HP2.out.upd0 HU1.out)
      clear ho1' hu1 HU HO c0 hom
      have HC1 : Hid (∀ W, Upd [] w1 W → Calls Tryz.prog 44 #[.pointer (some ⟨gj, 0, none⟩)] W fun e w' => ∃ a k, e = .returned (.slice a ks.length k) ∧ Hid (Rd iv w' (.slice a ks.length k) ks) ∧ Upd [] w1 w') := fun W hW => by
        refine (jSlots_any (HB1.out.upd0 hW)).mono ?_
        rw [HKS.out]
        rintro e w' ⟨v, rfl, ho, hu⟩
        have hr := ho.rd
        obtain ⟨a, k, rfl, -⟩ := id hr
        exact ⟨a, k, rfl, hr, hW.seq hu⟩
      have HC2 : Hid (∀ W a k, Rd iv W (.slice a ks.length k) ks → Upd [] w1 W → Calls Tryz.prog 43 #[.slice a ks.length k, .slice ao ks.length co] W fun e w' => e = .returned (.bool true) ∧ Upd [] w1 w') := fun W a k hr hW => by
        refine (sameInt_any _ _ ks ks W hr (HA1.out.upd0 hW)).mono ?_
        rintro e w' ⟨rfl, n, rfl⟩
        exact ⟨by simp, hW.drewN n⟩
      have HC3 : Hid (∀ W, Upd [] w1 W → Calls Tryz.prog 92 #[.pointer (some ⟨gd, 0, none⟩)] W fun e w' => ∃ a k, e = .returned (.slice a ns.length k) ∧ Hid (Rd sv w' (.slice a ns.length k) ns) ∧ Upd [] w1 w') := fun W hW => by
        refine (dNames_any (HB1.out.dd.upd0 hW) HNL.out).mono ?_
        rw [HNS.out]
        rintro e w' ⟨v, rfl, ho, hu⟩
        obtain ⟨a, k, rfl, -⟩ := ho.rd
        exact ⟨a, k, rfl, ho.rd, hW.seq hu⟩
      have HC4 : Hid (∀ W a k, Rd sv W (.slice a ns.length k) ns → Upd [] w1 W → Calls Tryz.prog 91 #[.slice a ns.length k, .slice a1 ns.length k1] W fun e w' => e = .returned (.bool true) ∧ Upd [] w1 w') := fun W a k hr hW => by
        refine (sameStr_yes _ _ ns W hr (HO1.out.upd0 hW)).mono ?_
        rintro e w' ⟨rfl, hu⟩
        exact ⟨rfl, hW.seq hu⟩
      have HC5 : Hid (∀ W, Upd [] w1 W → Calls Tryz.prog 27 #[.pointer (some ⟨gd, 0, none⟩)] W fun e w' => e = .returned (.int .i64 (cc : Int)) ∧ Upd [] w1 w') := fun W hW => by
        refine (dCount_any (HB1.out.dd.upd0 hW)).mono ?_
        rw [HCC.out]
        rintro e w' ⟨rfl, rfl⟩
        exact ⟨rfl, hW⟩
      have HC6 : Hid (∀ W, Upd [] w1 W → Calls Tryz.prog 82 #[.pointer (some ⟨gj, 0, none⟩)] W fun e w' => e = .returned (.int .i64 (tt : Int)) ∧ Upd [] w1 w') := fun W hW => by
        refine (jSize_any (HB1.out.upd0 hW) HNL.out).mono ?_
        rw [HSZ.out]
        rintro e w' ⟨rfl, hu⟩
        exact ⟨rfl, hW.seq hu⟩
      have HC7 : Hid (∀ W, Upd [] w1 W → Calls Tryz.prog 69 #[.pointer (some ⟨gr, 0, none⟩)] W fun e w' => e = .returned (.int .i64 (tt : Int)) ∧ Upd [] w1 w') := fun W hW => by
        refine (rTotal_any (HB2.out.upd0 hW).rd HNL.out).mono ?_
        rw [HTT.out]
        rintro e w' ⟨rfl, hu⟩
        exact ⟨rfl, hW.seq hu⟩
      have HC8 : Hid (∀ W (i : Int), I64 i → (i < 0 ∨ 40 < i) → Upd [] w1 W → Calls Tryz.prog 81 #[.pointer (some ⟨gj, 0, none⟩), .int .i64 i] W fun e w' => e = .returned (.string ⟨#[]⟩) ∧ Upd [] w1 w') := fun W i hi hio hW => by
        refine (jGet_any i hi (HB1.out.upd0 hW)).mono ?_
        rw [jGet_out HJT.out i hio]
        rintro e w' ⟨rfl, hu2⟩
        exact ⟨rfl, hW.seq hu2⟩
      have z1 : ((tt : Int) != (tt : Int)) = false := by simp
      have z2 : ((cc : Int) != (cc : Int)) = false := by simp
      go_wp2_with fail
      go_region_held3 (fun w' => w'.cell? ⟨gk, 0, none⟩ = some (.pointer (some ⟨gr, 0, none⟩)) ∧ w'.cell? ⟨gr, 2, none⟩ = some (.slice oa cc oc)) (first | go_keep | exact ⟨ru.cell C0.out (by simp), ru.cell C2.out (by simp)⟩)
        (first
          | (go_at_call 44; (with_reducible refine (HC1.out _ (Upd.seq ru ?_)).mono ?_); (repeat (first | exact Upd.refl _ _ | apply Upd.drew | apply Upd.drewN | apply Upd.alloc)); (rintro _ w2 ⟨a2, k2, rfl, hr2, ru⟩; dsimp only))
          | (go_at_call 43; (with_reducible refine (HC2.out _ a2 k2 (hr2.out.upd0 ?_) (Upd.seq ru ?_)).mono ?_); (repeat (first | exact Upd.refl _ _ | apply Upd.drew | apply Upd.drewN | apply Upd.alloc)); (rintro _ w3 ⟨rfl, ru⟩; dsimp only))
          | (go_at_call 92; (with_reducible refine (HC3.out _ (Upd.seq ru ?_)).mono ?_); (repeat (first | exact Upd.refl _ _ | apply Upd.drew | apply Upd.drewN | apply Upd.alloc)); (rintro _ w4 ⟨a4, k4, rfl, hr4, ru⟩; dsimp only))
          | (go_at_call 91; (with_reducible refine (HC4.out _ a4 k4 (hr4.out.upd0 ?_) (Upd.seq ru ?_)).mono ?_); (repeat (first | exact Upd.refl _ _ | apply Upd.drew | apply Upd.drewN | apply Upd.alloc)); (rintro _ w5 ⟨rfl, ru⟩; dsimp only))
          | (go_at_call 27; (with_reducible refine (HC5.out _ (Upd.seq ru ?_)).mono ?_); (repeat (first | exact Upd.refl _ _ | apply Upd.drew | apply Upd.drewN | apply Upd.alloc)); (rintro _ w6 ⟨rfl, ru⟩; dsimp only))
          | (go_at_call 82; (with_reducible refine (HC6.out _ (Upd.seq ru ?_)).mono ?_); (repeat (first | exact Upd.refl _ _ | apply Upd.drew | apply Upd.drewN | apply Upd.alloc)); (rintro _ w7 ⟨rfl, ru⟩; dsimp only))
          | (go_at_call 69; (with_reducible refine (HC7.out _ (Upd.seq ru ?_)).mono ?_); (repeat (first | exact Upd.refl _ _ | apply Upd.drew | apply Upd.drewN | apply Upd.alloc)); (rintro _ w8 ⟨rfl, ru⟩; dsimp only))
          | (go_at_call 81; (with_reducible refine (HC8.out _ _ (i64_mk (by omega) (by omega)) (by omega) (Upd.seq ru ?_)).mono ?_); (repeat (first | exact Upd.refl _ _ | apply Upd.drew | apply Upd.drewN | apply Upd.alloc)); (rintro _ w9 ⟨rfl, ru⟩; dsimp only)))
      all_goals
        have RU := Lib.hid ru
        clear ru HC1 HC2 HC3 HC4 HC5 HC6 HC7 HC8 hoc g0
        go_wp2_with fail
        go_loopw [10] (fun vi wr => ∃ k : Nat, k ≤ ns.length ∧ vi = .int .i64 k ∧ Hid (Upd [] w1 wr)) (fun vi _ => ns.length - (intOf vi).toNat)
        case atStart => exact ⟨0, Nat.zero_le _, rfl, by unfold Hid; first | exact RU.out | exact RU.out.drewN _⟩
        case round =>
          obtain ⟨k, hk, rfl, hu⟩ := hrel
          by_cases hlt : k < ns.length
          · obtain ⟨b, off, rfl, hc⟩ := HO1.out.at_ k hlt
            have d0 := hu.out.cell hc (by simp)
            have hin := nameJ_in (s := s) HRI.out k (by rw [← HNSL.out]; exact hlt)
            rw [HNS.out, HTT.out] at hin
            obtain ⟨d, hd, hdl⟩ := hin
            clear hc
            generalize nth ns k = nm at *
            have HDG := Lib.hid hd
            have q0 : (0 : Int) ≤ k := by omega
            have q1 : (k : Int) < ns.length := by omega
            have HBR := Lib.hid (HB1.out.upd0 hu.out)
            clear hd
            go_wp2_with fail
            (with_reducible refine (dkRead_any nm HBR.out.dd HNL.out).mono ?_)
            rw [HDG.out]
            rintro e w4 ⟨v4, rfl, ho4, hu4⟩
            have HR4 : Hid (Bytes w4 v4 d) := ho4.rd
            have HU4 := Lib.hid (hu.out.seq hu4)
            have HBS := Lib.hid (HB2.out.upd0 HU4.out)
            have d0 := hu4.cell d0 (by simp)
            have g0 := HBS.out.c0
            have D0 := Lib.hid d0
            have GG0 := Lib.hid g0
            obtain ⟨a4, c4, rfl, -⟩ := ho4.rd
            clear ho4 hu4
            have ru := Upd.refl [] w4
            have HCR : Hid (∀ W, Upd [] w4 W → Calls Tryz.prog 29 #[.pointer (some ⟨gr, 0, none⟩), sv nm] W fun e w' => ∃ a k, e = .returned (.tuple #[.slice a d.length k, .bool true]) ∧ Hid (Bytes w' (.slice a d.length k) d) ∧ Upd [] w4 w') := fun W hW => by
              refine (rdRead_any nm (HBS.out.upd0 hW).rd HN5.out).mono ?_
              rw [HDG.out]
              rintro e w' ⟨v, rfl, hr, -, hu⟩
              obtain ⟨a, k, rfl, -⟩ := id hr
              exact ⟨a, k, rfl, hr, hW.seq hu⟩
            go_wp2_with fail
            go_region_held3 (fun w' => w'.cell? ⟨gk, 0, none⟩ = some (.pointer (some ⟨gr, 0, none⟩)) ∧ w'.cell? ⟨b, off + k, none⟩ = some (sv nm)) (first | go_keep | exact ⟨ru.cell GG0.out (by simp), ru.cell D0.out (by simp)⟩)
              (first
                | (go_at_call 29; (with_reducible refine (HCR.out _ (Upd.seq ru ?_)).mono ?_); (repeat (first | exact Upd.refl _ _ | apply Upd.drew | apply Upd.drewN | apply Upd.alloc)); (rintro _ w5 ⟨a5, c5, rfl, hr5, ru⟩; dsimp only)))
            all_goals
              have HR5 := Lib.hid hr5.out
              have HR45 := Lib.hid (HR4.out.upd0 ru)
              have HU5 := Lib.hid (HU4.out.seq ru)
              clear ru hr5 HCR
              go_wp2_with fail
              (with_reducible refine (sameByte_ok _ _ d _ HR45.out HR5.out).mono ?_)
              rintro e w6 ⟨rfl, n6, rfl⟩
              go_wp2_with fail
              go_roundw
              case rel => exact ⟨k + 1, by omega, by go_num, HU5.out.drewN n6⟩
              case measure => simp [intOf]; omega
          · obtain rfl : k = ns.length := by omega
            have q1 : ¬ ((ns.length : Nat) : Int) < ns.length := by omega
            go_wp2_with fail
            go_ret
            exact ⟨rfl, HU1.out.seq hu.out⟩
end
end Go.Proofs.YtmhojaiajhdlcaaGreat
namespace Go.Proofs.YtmhojaiajhdlcaaGreat
open Go.RowKit
set_option linter.unusedSimpArgs false
set_option linter.unusedVariables false
/-- Anything. -/
abbrev TT : List UInt8 → Prop := fun _ => True
theorem all_ok : ∀ (m : List Ch) {l : List Ch} {t : JS}, ChsOk l → (∀ c ∈ m, c ∈ l) → JT t → Full0 t → (∀ p ∈ t, ChsOk [p]) → JT (jAll t m) ∧ Full0 (jAll t m) ∧ ∀ p ∈ jAll t m, ChsOk [p]
  | [], _, _, _, _, h1, h2, h3 => ⟨h1, h2, h3⟩
  | c :: m, l, t, hl, hm, h1, h2, h3 => by
    have hc := hl.ok c (hm c (by simp))
    rw [jAll_cons]
    refine all_ok m hl (fun x hx => hm x (by simp [hx])) (h1.hold1 c hc) (Full0.hold1 h1.ris h2 c) (fun p hp => ?_)
    have hone : ChsOk [c] := ⟨by intro x hx; simp at hx; subst hx; exact hc, by simp, by simp, Nat.le_trans (one_le (hm c (by simp))) hl.sz⟩
    unfold jHold1 at hp
    split at hp
    · exact h3 p ((mem_del intOrd h1.ris _ _).1 hp).1
    · rcases (mem_set intOrd h1.ris _ _ _).1 hp with rfl | q
      · exact hone
      · exact h3 p q.1
theorem scanJ_ok (b : List UInt8) : ∀ (f k : Nat) (t : JS), k ≤ b.length → JT t → Full0 t → (∀ p ∈ t, ChsOk [p]) → JT (scanJ b f k t).1 ∧ Full0 (scanJ b f k t).1 ∧ ∀ p ∈ (scanJ b f k t).1, ChsOk [p]
  | 0, k, t, hk, h1, h2, h3 => ⟨h1, h2, h3⟩
  | f + 1, k, t, hk, h1, h2, h3 => by
    rw [scanJ_succ]
    cases hx : jnx b k t with
    | none => exact ⟨h1, h2, h3⟩
    | some q =>
      have hto := jnx_to hk hx
      unfold jnx at hx
      split at hx
      · rename_i hc
        injection hx with hx
        obtain ⟨c1, c2, c3, c4⟩ := ch_of hc.2
        obtain ⟨n, n1, n2, n3, n4, n5⟩ := frNext_to b k hk hc.1
        have hok : ChsOk (chL (nextF b (k : Int)).1) := ⟨c2, c3, c4, by rw [← c1, n5]; exact n2⟩
        obtain ⟨d1, d2, d3⟩ := all_ok (chL (nextF b (k : Int)).1) hok (fun _ h => h) h1 h2 h3
        rw [← hx] at hto ⊢
        exact scanJ_ok b f _ _ hto.2 d1 d2 d3
      · exact absurd hx (by simp)
theorem jScan_ok (b : List UInt8) : JT (jScan b).1 ∧ Full0 (jScan b).1 ∧ ∀ p ∈ (jScan b).1, ChsOk [p] := scanJ_ok b _ _ _ (Nat.zero_le _) JT.nil (by simp [Full0]) (by simp)
theorem jOpen_no {k : Nat} {s : DS} (h : St TT k s) : dGet (jOpen s).2.now nmN = ([], false) := by
  have hF : St TT (k + 1) (jFresh s) ∧ dGet (jFresh s).now nmN = ([], false) := by
    unfold jFresh
    cases hin : inD s.now nmN with
    | true =>
      rw [if_pos rfl]
      obtain ⟨r1, r2, r3⟩ := h.remove hin
      exact ⟨r1, r3⟩
    | false =>
      rw [if_neg (by simp)]
      exact ⟨h.more (by omega), dGet_no hin⟩
  obtain ⟨f1, f2⟩ := hF
  unfold jOpen
  dsimp only
  split
  · rename_i hlt
    have hin : inD (jFresh s).now nmJ = true := by
      cases hb : inD (jFresh s).now nmJ with
      | true => rfl
      | false => rw [dGet_no hb] at hlt; simp at hlt
    obtain ⟨r1, r2, r3⟩ := f1.cut (jScan (dGet (jFresh s).now nmJ).1).2 hin (jScan_le _) trivial
    rw [r3, f2]
  · exact f2
/-- Behind an opening the journal is in order. -/
theorem jOpen_ok {k : Nat} {s : DS} (h : St TT k s) : JInv (jOpen s).1 (jOpen s).2 ∧ St TT (k + 2) (jOpen s).2 := by
  obtain ⟨e1, e2, e3⟩ := jOpen_any' h trivial
  obtain ⟨o1, o2, o3⟩ := jScan_ok (dGet s.now nmJ).1
  refine ⟨⟨⟨?_, by rw [e1]; exact o1, by rw [e1]; exact o2, by rw [e1]; exact o3⟩, jOpen_no h⟩, e2⟩
  rw [e1, e3]
  exact jScan_cut _
/-- Behind k calls of the law. -/
structure PlI (k : Nat) (t : JS) (s : DS) : Prop where
  st : St TT (12000002 * k) s
  inv : JInv t s
theorem PlI.zero : PlI 0 [] ⟨[], [], []⟩ := ⟨St.zero trivial, JInv.zero⟩
theorem PlI.up {k : Nat} {t : JS} {s : DS} (h : PlI k t s) : PlI (k + 1) t s := ⟨h.st.more (by omega), h.inv⟩
theorem PlI.set_ {k : Nat} {t t' : JS} {s s' : DS} {e : Int} (h : PlI k t s) (l : List Ch) (he : jSet t (dMark s) l = (e, t', s')) : PlI (k + 1) t' s' := by
  have hi : JInv t (dMark s) := ⟨h.inv.j, h.inv.n⟩
  have h1 := sets (h.st.mark) hi l (fun _ _ _ => trivial) (fun _ => trivial)
  rw [he] at h1
  have h2 : St TT (0 + 12000000) s' := h1.st
  exact ⟨h2.more (by omega), h1.inv⟩
theorem PlI.open_ {k q : Nat} {t' : JS} {s s' : DS} (h : St TT q s) (hq : q + 2 ≤ 12000002 * k) (he : jOpen s = (t', s')) : PlI k t' s' := by
  obtain ⟨h1, h2⟩ := jOpen_ok h
  rw [he] at h1 h2
  exact ⟨h2.more hq, h1⟩
end Go.Proofs.YtmhojaiajhdlcaaGreat
namespace Go.Proofs.YtmhojaiajhdlcaaGreat
open Go.RowKit
set_option linter.unusedSimpArgs false
set_option linter.unusedVariables false
set_option linter.unusedSectionVars false
theorem jr_start1 {w W W' : World} {gd gr gj : Nat} {G1 G2 : List Nat} {t : JS} {s s2 s' : DS} (HT : DD w W gd G1 s) (HR : RD w W gr G2 s2) (HA : Ap G1 G2) (ho : JOut w W gd gj G1 t s' W') : ∃ F G, JD w W' gd gj F G t s' ∧ RD w W' gr G2 s2 ∧ Ap (F ++ G) G2 := by
  obtain ⟨F', G', k1, k2, k3, k4⟩ := ho
  refine ⟨F', G', k1, HR.upd k2 (fun x hx hs => HA x hs hx) (fun x hx => (HT.ge x hx).1), apx_grow HA (fun x hx => ?_) (fun y hy => (HR.ge y hy).2)⟩
  rcases List.mem_append.1 hx with q | q
  · exact k3 x q
  · exact k4 x q
theorem jr_start2 {w W W' : World} {gd gr gj gk : Nat} {F G G2 : List Nat} {t t2 : JS} {s s2 s' : DS} (h1 : JD w W gd gj F G t s) (h2 : RD w W gr G2 s2) (h3 : Ap (F ++ G) G2) (ho : RJOut w W gr gk G2 t2 s' W') : J2 w W' [] W' gd gj gr gk t s t2 s' := by
  obtain ⟨G', k1, k2, k3, k4⟩ := ho
  have key : ∀ x ∈ gk :: G', x ∈ G2 ∨ W.heap.size ≤ x := fun x hx => by
    rcases List.mem_cons.1 hx with rfl | q
    · exact k3
    · exact k4 x q
  exact ⟨F, G, G', h1.upd k2 (fun x hx hs => h3 x (List.mem_append.2 (.inl hx)) hs) (fun x hx hs => h3 x (List.mem_append.2 (.inr hx)) hs) (fun x hx => (h2.ge x hx).1), k1, apx_sym (apx_grow (apx_sym h3) key (fun y hy => (h1.lts y hy).2)), Nat.le_refl _, by simp, by simp, by simp, by simp⟩
theorem RdN.ltC {w : World} {v : Value} {l : List Ch} (h : RdN 2 chCells w v l) (hne : 1 ≤ l.length) : ∀ x ∈ blk v, x < w.heap.size := fun x hx => by
  obtain ⟨a, c, rfl, -, -, hca⟩ := h
  obtain ⟨b, off, rfl, hcb⟩ := hca (by intro e; rw [e] at hne; simp at hne)
  simp [blk] at hx
  subst hx
  have h1 := hcb 0 (by omega) 0 (by omega)
  have h2 : (chCells (nth l 0))[0]? = some (.int .i64 (nth l 0).1) := rfl
  rw [h2] at h1
  exact World.block_lt_of_cell? _ _ h1
/-- Both journals alike behind k calls. -/
structure RP (w0 w : World) (gd gr : Nat) (k : Nat) (gj gk : Nat) (t : JS) (s : DS) : Prop where
  two : J2 w0 w [] w gd gj gr gk t s t s
  inv : PlI k t s
set_option maxRecDepth 100000 in
set_option maxHeartbeats 8000000 in
theorem journalPlays_any (w : World) (vl : Value) (l : List Ask24) (hl : RdN 4 ask24Cells w vl l) (hg : ∀ x ∈ l, Ask24Good x) :
    Calls Tryz.prog 7 #[vl] w fun e w' => e = .returned (.bool true) ∧ Upd [] w w' := by
  obtain ⟨a1, cap1, rfl, hlc1, hcm1, hcell1⟩ := hl
  have hm1 : l.length ≤ 9223372036854775807 := by unfold maxLen at hcm1; omega
  have HC1 := Lib.hid hcell1
  have HG := Lib.hid hg
  clear hlc1 hcm1 hcell1 hg
  go_enter Tryz.func7, Tryz.ntmps7
  go_wp2_with fail
  (with_reducible refine (dNew_any w w (Upd.refl [] w)).mono ?_)
  rintro e w1 ⟨gd, G1, rfl, h1, hu1, hf1⟩
  have H1 := Lib.hid h1
  obtain ⟨G2, h2, hf2⟩ := RD.new w w1 hu1
  have HT : Hid (DD w (w1.alloc (.cells #[.slice none 0 0, .slice none 0 0, .slice none 0 0] 45)) gd G1 ⟨[], [], []⟩) := H1.out.upd0 ((Upd.refl [] w1).alloc _)
  have HR : Hid (RD w (w1.alloc (.cells #[.slice none 0 0, .slice none 0 0, .slice none 0 0] 45)) w1.heap.size G2 ⟨[], [], []⟩) := h2
  have HA : Hid (Ap G1 G2) := fun x hx hy => by have := (H1.out.ge x hx).2; have := hf2 x hy; omega
  clear h1 hu1 hf1 h2 hf2 H1
  go_wp2_with fail
  generalize w1.alloc (.cells #[.slice none 0 0, .slice none 0 0, .slice none 0 0] 45) = w2 at *
  generalize w1.heap.size = gr at *
  (with_reducible refine (jopen_any HT.out (by simp) (by simp)).mono ?_)
  rw [jOpen_inv JInv.zero]
  rintro e w3 ⟨gj, rfl, ho⟩
  obtain ⟨F3, G3, k1, k2, k3⟩ := jr_start1 HT.out HR.out HA.out ho
  have HJ3 := Lib.hid k1
  have HR3 := Lib.hid k2
  have HA3 := Lib.hid k3
  clear ho k1 k2 k3 HT HR HA
  dsimp only
  go_wp2_with fail
  (with_reducible refine (rjOpen_any HR3.out (by simp) (by simp)).mono ?_)
  rw [jOpen_inv JInv.zero]
  rintro e w4 ⟨gk, rfl, ho⟩
  have HRP : Hid (RP w w4 gd gr 0 gj gk [] ⟨[], [], []⟩) := ⟨jr_start2 HJ3.out HR3.out HA3.out ho, PlI.zero⟩
  clear ho HJ3 HR3 HA3
  dsimp only
  go_wp2_with fail
  go_loopw [5, 6, 7, 8] (fun vj ve vk vi wr => ∃ (k gj gk : Nat) (t : JS) (s : DS), k ≤ 30 ∧ k ≤ l.length ∧ vj = .pointer (some ⟨gj, 0, none⟩) ∧ ve = .int .i64 0 ∧ vk = .pointer (some ⟨gk, 0, none⟩) ∧ vi = .int .i64 k ∧ Hid (RP w wr gd gr k gj gk t s)) (fun _ _ _ vi _ => 30 - (intOf vi).toNat)
  case atStart => exact ⟨0, gj, gk, [], _, by omega, by omega, rfl, rfl, rfl, rfl, HRP⟩
  case round =>
    clear HRP
    obtain ⟨k, gj, gk, t, s, hk, hkl, rfl, rfl, rfl, rfl, hs⟩ := hrel
    have hend : (k < l.length ∧ k < 30) ∨ (k = l.length ∧ Hid (k ≤ 30)) ∨ (k = 30 ∧ k < l.length) := by unfold Hid; omega
    rcases hend with ⟨hlt, h40⟩ | hend
    · obtain ⟨lb, loff, rfl, hca⟩ := HC1.out (by intro h; simp [h] at hlt)
      have q1 : (k : Int) < l.length := by omega
      have q2 : (k : Int) < 30 := by omega
      have q3 : (0 : Int) ≤ k := by omega
      have hcb : ∀ i, i < 4 → w.cell? ⟨lb, loff + (k * 4 + i), none⟩ = (ask24Cells (nth l k))[i]? := hca k hlt
      have hgx := HG.out (nth l k) (by rw [nth_get _ _ hlt]; exact List.getElem_mem _)
      generalize nth l k = x at hcb hgx
      obtain ⟨kd, slot, n0, data⟩ := x
      have HX := Lib.hid hgx
      have HNI : Hid (I64 n0) := hgx.n
      have HA0 : Hid (w.cell? ⟨lb, loff + k * 4, none⟩ = some (.int .i64 kd)) := hcb 0 (by omega)
      have HA1 : Hid (w.cell? ⟨lb, loff + k * 4 + 1, none⟩ = some (.int .i64 slot)) := hcb 1 (by omega)
      have HA2 : Hid (w.cell? ⟨lb, loff + k * 4 + 2, none⟩ = some (.int .i64 n0)) := hcb 2 (by omega)
      have HA3 : Hid (w.cell? ⟨lb, loff + k * 4 + 3, none⟩ = some (.string data)) := hcb 3 (by omega)
      have HOK : Hid (∀ c ∈ setL ⟨kd, slot, n0, data⟩, I64 c.1 ∧ c.2.size ≤ 1000000) := setL_ok _ hgx.slot hgx.n
      have HLEN : Hid (1 ≤ (setL ⟨kd, slot, n0, data⟩).length) := (setL_len _).1
      obtain ⟨cl, hcl⟩ : ∃ cl, setL ⟨kd, slot, n0, data⟩ = cl := ⟨_, rfl⟩
      have HL := Lib.hid hcl
      rw [hcl] at HOK HLEN
      have HB := Lib.hid hs.out.two
      have HST := Lib.hid hs.out.inv.st
      have HPI := Lib.hid hs.out.inv
      have HKB : Hid (12000002 * k ≤ 400000000 ∧ 12000002 * (k + 1) ≤ 400000000) := by unfold Hid; omega
      have HK0 : Hid ((0 : Nat) ≤ 470000000) := by unfold Hid; omega
      have d0 : wr.cell? ⟨lb, loff + k * 4, none⟩ = some (.int .i64 kd) := (HB.out.old).cell HA0.out (by simp)
      have d1 : wr.cell? ⟨lb, loff + k * 4 + 1, none⟩ = some (.int .i64 slot) := (HB.out.old).cell HA1.out (by simp)
      have d2 : wr.cell? ⟨lb, loff + k * 4 + 2, none⟩ = some (.int .i64 n0) := (HB.out.old).cell HA2.out (by simp)
      have d3 : wr.cell? ⟨lb, loff + k * 4 + 3, none⟩ = some (.string data) := (HB.out.old).cell HA3.out (by simp)
      clear hca hcb hgx hcl hs HC1 HG
      go_upto_block 2 with fail
      go_cut [5, 6, 7] (fun v5 v6 v7 wx => ∃ (gj gk : Nat) (t : JS) (s : DS), v5 = .pointer (some ⟨gj, 0, none⟩) ∧ v6 = .int .i64 0 ∧ v7 = .pointer (some ⟨gk, 0, none⟩) ∧ Hid (J2 w wx [] wx gd gj gr gk t s t s) ∧ Hid (PlI (k + 1) t s))
      case first =>
        by_cases k1 : kd = 1
        · subst k1
          obtain ⟨er, t1, s1, hset⟩ : ∃ e t' s', jSet t (dMark s) cl = (e, t', s') := ⟨_, _, _, rfl⟩
          have HSET := Lib.hid hset
          have HP2 := Lib.hid (HPI.out.set_ cl hset)
          have HSM := Lib.hid HST.out.mark
          have x1 : ((er : Int) != er) = false := by simp
          clear hset
          go_wp2_with fail
          (with_reducible refine (j2Mark HB.out HST.out).mono ?_)
          rintro e w5 ⟨rfl, h5⟩
          have H5 := Lib.hid h5
          clear h5 d0 d1 d2 d3
          go_wp2_with fail
          (with_reducible refine (j2MarkR H5.out).mono ?_)
          rintro e w6 ⟨rfl, h6⟩
          have H6 := Lib.hid h6
          have d0 : w6.cell? ⟨lb, loff + k * 4, none⟩ = some (.int .i64 1) := (H6.out.old).cell HA0.out (by simp)
          have d1 : w6.cell? ⟨lb, loff + k * 4 + 1, none⟩ = some (.int .i64 slot) := (H6.out.old).cell HA1.out (by simp)
          have d2 : w6.cell? ⟨lb, loff + k * 4 + 2, none⟩ = some (.int .i64 n0) := (H6.out.old).cell HA2.out (by simp)
          have d3 : w6.cell? ⟨lb, loff + k * 4 + 3, none⟩ = some (.string data) := (H6.out.old).cell HA3.out (by simp)
          clear h6
          go_wp2_with fail
          (with_reducible refine (sets_any ⟨1, slot, n0, data⟩ HX.out w6 HL.out).mono ?_)
          rintro e w7 ⟨a3, k3, a4, k4, rfl, hr3, hr4, hg3, hg4, hu7⟩
          have H7 := Lib.hid (H6.out.keep hu7 (blk (.slice a3 cl.length k3) ++ blk (.slice a4 cl.length k4)) (fun b hb => by
            rcases List.mem_append.1 hb with q | q
            · exact ⟨hg3.out b q, hr3.out.ltC HLEN.out b q⟩
            · exact ⟨hg4.out b q, hr4.out.ltC HLEN.out b q⟩))
          clear hu7 hg3 hg4 d0 d1 d2 d3
          go_wp2_with fail
          (with_reducible refine (j2Set H7.out _ cl hr3.out (fun b hb => List.mem_append.2 (.inl hb)) HOK.out HSM.out HK0.out HSET.out).mono ?_)
          rintro e w8 ⟨rfl, h8⟩
          have H8 := Lib.hid h8
          have HR4 := Lib.hid (h8.rdn hr4.out (fun b hb => List.mem_append.2 (.inr hb)))
          clear h8
          go_wp2_with fail
          (with_reducible refine (j2SetR H8.out _ cl HR4.out (fun b hb => List.mem_append.2 (.inr hb)) HOK.out HSM.out HK0.out HSET.out).mono ?_)
          rintro e w9 ⟨rfl, h9⟩
          have HF := Lib.hid h9.free
          clear h9
          go_wp2_with fail
          go_meet
          exact ⟨_, _, _, _, rfl, rfl, rfl, HF, HP2⟩
        · have t1 : (kd == 1) = false := by rw [beq_eq_false_iff_ne]; exact k1
          by_cases k2 : kd = 2
          · subst k2
            obtain ⟨er, t1, s1, hset⟩ : ∃ e t' s', jSet t (dMark s) cl = (e, t', s') := ⟨_, _, _, rfl⟩
            have HSET := Lib.hid hset
            have HP2 := Lib.hid (HPI.out.set_ cl hset)
            have HSM := Lib.hid HST.out.mark
            have x1 : ((er : Int) != er) = false := by simp
            clear hset
            go_wp2_with fail
            (with_reducible refine (j2Mark HB.out HST.out).mono ?_)
            rintro e w5 ⟨rfl, h5⟩
            have H5 := Lib.hid h5
            clear h5 d0 d1 d2 d3
            go_wp2_with fail
            (with_reducible refine (j2MarkR H5.out).mono ?_)
            rintro e w6 ⟨rfl, h6⟩
            have H6 := Lib.hid h6
            have d0 : w6.cell? ⟨lb, loff + k * 4, none⟩ = some (.int .i64 2) := (H6.out.old).cell HA0.out (by simp)
            have d1 : w6.cell? ⟨lb, loff + k * 4 + 1, none⟩ = some (.int .i64 slot) := (H6.out.old).cell HA1.out (by simp)
            have d2 : w6.cell? ⟨lb, loff + k * 4 + 2, none⟩ = some (.int .i64 n0) := (H6.out.old).cell HA2.out (by simp)
            have d3 : w6.cell? ⟨lb, loff + k * 4 + 3, none⟩ = some (.string data) := (H6.out.old).cell HA3.out (by simp)
            clear h6
            go_wp2_with fail
            (with_reducible refine (sets_any ⟨2, slot, n0, data⟩ HX.out w6 HL.out).mono ?_)
            rintro e w7 ⟨a3, k3, a4, k4, rfl, hr3, hr4, hg3, hg4, hu7⟩
            have H7 := Lib.hid (H6.out.keep hu7 (blk (.slice a3 cl.length k3) ++ blk (.slice a4 cl.length k4)) (fun b hb => by
              rcases List.mem_append.1 hb with q | q
              · exact ⟨hg3.out b q, hr3.out.ltC HLEN.out b q⟩
              · exact ⟨hg4.out b q, hr4.out.ltC HLEN.out b q⟩))
            clear hu7 hg3 hg4 d0 d1 d2 d3
            go_wp2_with fail
            (with_reducible refine (j2Set H7.out _ cl hr3.out (fun b hb => List.mem_append.2 (.inl hb)) HOK.out HSM.out HK0.out HSET.out).mono ?_)
            rintro e w8 ⟨rfl, h8⟩
            have H8 := Lib.hid h8
            have HR4 := Lib.hid (h8.rdn hr4.out (fun b hb => List.mem_append.2 (.inr hb)))
            clear h8
            go_wp2_with fail
            (with_reducible refine (j2SetR H8.out _ cl HR4.out (fun b hb => List.mem_append.2 (.inr hb)) HOK.out HSM.out HK0.out HSET.out).mono ?_)
            rintro e w9 ⟨rfl, h9⟩
            have HF := Lib.hid h9.free
            clear h9
            go_wp2_with fail
            go_meet
            exact ⟨_, _, _, _, rfl, rfl, rfl, HF, HP2⟩
          · have t2 : (kd == 2) = false := by rw [beq_eq_false_iff_ne]; exact k2
            by_cases k5 : kd = 5
            · subst k5
              obtain ⟨er, t1, s1, hset⟩ : ∃ e t' s', jSet t (dMark s) cl = (e, t', s') := ⟨_, _, _, rfl⟩
              have HSET := Lib.hid hset
              have HP2 := Lib.hid (HPI.out.set_ cl hset)
              have HSM := Lib.hid HST.out.mark
              have x1 : ((er : Int) != er) = false := by simp
              clear hset
              go_wp2_with fail
              (with_reducible refine (j2Mark HB.out HST.out).mono ?_)
              rintro e w5 ⟨rfl, h5⟩
              have H5 := Lib.hid h5
              clear h5 d0 d1 d2 d3
              go_wp2_with fail
              (with_reducible refine (j2MarkR H5.out).mono ?_)
              rintro e w6 ⟨rfl, h6⟩
              have H6 := Lib.hid h6
              have d0 : w6.cell? ⟨lb, loff + k * 4, none⟩ = some (.int .i64 5) := (H6.out.old).cell HA0.out (by simp)
              have d1 : w6.cell? ⟨lb, loff + k * 4 + 1, none⟩ = some (.int .i64 slot) := (H6.out.old).cell HA1.out (by simp)
              have d2 : w6.cell? ⟨lb, loff + k * 4 + 2, none⟩ = some (.int .i64 n0) := (H6.out.old).cell HA2.out (by simp)
              have d3 : w6.cell? ⟨lb, loff + k * 4 + 3, none⟩ = some (.string data) := (H6.out.old).cell HA3.out (by simp)
              clear h6
              go_wp2_with fail
              (with_reducible refine (sets_any ⟨5, slot, n0, data⟩ HX.out w6 HL.out).mono ?_)
              rintro e w7 ⟨a3, k3, a4, k4, rfl, hr3, hr4, hg3, hg4, hu7⟩
              have H7 := Lib.hid (H6.out.keep hu7 (blk (.slice a3 cl.length k3) ++ blk (.slice a4 cl.length k4)) (fun b hb => by
                rcases List.mem_append.1 hb with q | q
                · exact ⟨hg3.out b q, hr3.out.ltC HLEN.out b q⟩
                · exact ⟨hg4.out b q, hr4.out.ltC HLEN.out b q⟩))
              clear hu7 hg3 hg4 d0 d1 d2 d3
              go_wp2_with fail
              (with_reducible refine (j2Set H7.out _ cl hr3.out (fun b hb => List.mem_append.2 (.inl hb)) HOK.out HSM.out HK0.out HSET.out).mono ?_)
              rintro e w8 ⟨rfl, h8⟩
              have H8 := Lib.hid h8
              have HR4 := Lib.hid (h8.rdn hr4.out (fun b hb => List.mem_append.2 (.inr hb)))
              clear h8
              go_wp2_with fail
              (with_reducible refine (j2SetR H8.out _ cl HR4.out (fun b hb => List.mem_append.2 (.inr hb)) HOK.out HSM.out HK0.out HSET.out).mono ?_)
              rintro e w9 ⟨rfl, h9⟩
              have HF := Lib.hid h9.free
              clear h9
              go_wp2_with fail
              go_meet
              exact ⟨_, _, _, _, rfl, rfl, rfl, HF, HP2⟩
            · have t5 : (kd == 5) = false := by rw [beq_eq_false_iff_ne]; exact k5
              by_cases k4 : kd = 4
              · subst k4
                go_wp2_with fail
                (with_reducible refine (j2Back HB.out n0 HNI.out HST.out).mono ?_)
                rintro e w7 ⟨rfl, h7⟩
                have H7 := Lib.hid h7
                clear h7 d0 d1 d2 d3
                have d0 : w7.cell? ⟨lb, loff + k * 4, none⟩ = some (.int .i64 4) := (H7.out.old).cell HA0.out (by simp)
                have d1 : w7.cell? ⟨lb, loff + k * 4 + 1, none⟩ = some (.int .i64 slot) := (H7.out.old).cell HA1.out (by simp)
                have d2 : w7.cell? ⟨lb, loff + k * 4 + 2, none⟩ = some (.int .i64 n0) := (H7.out.old).cell HA2.out (by simp)
                have d3 : w7.cell? ⟨lb, loff + k * 4 + 3, none⟩ = some (.string data) := (H7.out.old).cell HA3.out (by simp)
                go_wp2_with fail
                (with_reducible refine (j2BackR H7.out n0 HNI.out HST.out (by have := HKB.out; omega)).mono ?_)
                rintro e w8 ⟨rfl, h8⟩
                have H8 := Lib.hid h8
                obtain ⟨sb, hsb⟩ : ∃ sb, dBack s n0 = sb := ⟨_, rfl⟩
                rw [hsb] at H8
                have HSB : Hid (St TT 0 sb) := by rw [← hsb]; exact HST.out.back n0
                have HKS : Hid ((0 : Nat) ≤ 470000000) := HK0
                clear h8 hsb d0 d1 d2 d3 H7
                obtain ⟨t1, s1, hop⟩ : ∃ t' s', jOpen sb = (t', s') := ⟨_, _, rfl⟩
                have HOP := Lib.hid hop
                have HP2 : Hid (PlI (k + 1) t1 s1) := PlI.open_ HSB.out (by omega) hop
                clear hop
                go_wp2_with fail
                (with_reducible refine (j2Open H8.out HSB.out HKS.out HOP.out).mono ?_)
                rintro e w5 ⟨gj5, rfl, h5⟩
                have H5 := Lib.hid h5
                clear h5
                go_wp2_with fail
                (with_reducible refine (j2OpenR H5.out HSB.out HKS.out HOP.out).mono ?_)
                rintro e w6 ⟨gk5, rfl, h6⟩
                have HF := Lib.hid h6.free
                clear h6
                go_wp2_with fail
                go_meet
                exact ⟨_, _, _, _, rfl, rfl, rfl, HF, HP2⟩
              · have t4 : (kd == 4) = false := by rw [beq_eq_false_iff_ne]; exact k4
                by_cases k3 : kd = 3
                · subst k3
                  have HKS : Hid (12000002 * k ≤ 470000000) := by have := HKB.out; unfold Hid; omega
                  obtain ⟨t1, s1, hop⟩ : ∃ t' s', jOpen s = (t', s') := ⟨_, _, rfl⟩
                  have HOP := Lib.hid hop
                  have HP2 : Hid (PlI (k + 1) t1 s1) := PlI.open_ HST.out (by omega) hop
                  clear hop
                  go_wp2_with fail
                  (with_reducible refine (j2Open HB.out HST.out HKS.out HOP.out).mono ?_)
                  rintro e w5 ⟨gj5, rfl, h5⟩
                  have H5 := Lib.hid h5
                  clear h5
                  go_wp2_with fail
                  (with_reducible refine (j2OpenR H5.out HST.out HKS.out HOP.out).mono ?_)
                  rintro e w6 ⟨gk5, rfl, h6⟩
                  have HF := Lib.hid h6.free
                  clear h6
                  go_wp2_with fail
                  go_meet
                  exact ⟨_, _, _, _, rfl, rfl, rfl, HF, HP2⟩
                · have t3 : (kd == 3) = false := by rw [beq_eq_false_iff_ne]; exact k3
                  have HP2 := Lib.hid HPI.out.up
                  have HF := Lib.hid HB.out.free
                  go_wp2_with fail
                  go_meet
                  exact ⟨_, _, _, _, rfl, rfl, rfl, HF, HP2⟩
      case rest =>
        obtain ⟨gj9, gk9, t9, s9, rfl, rfl, rfl, h2, hp⟩ := hcut
        have HST9 := Lib.hid hp.out.st
        clear HB HST HPI HX HOK HLEN HL d0 d1 d2 d3 HKB
        go_wp2_with fail
        (with_reducible refine (rjAlike_any h2.out HST9.out).mono ?_)
        rintro e w15 ⟨rfl, hu15⟩
        have HF : Hid (RP w w15 gd gr (k + 1) gj9 gk9 t9 s9) := ⟨(h2.out.upd0 hu15).free, hp.out⟩
        clear hu15 h2 hp
        go_wp2_with fail
        go_roundw
        case rel => exact ⟨k + 1, gj9, gk9, t9, s9, by omega, by omega, rfl, rfl, rfl, by go_num, HF⟩
        case measure => simp [intOf]; omega
    · have HO := Lib.hid hs.out.two.old
      clear hs HC1 HG
      rcases hend with ⟨hke, h40⟩ | ⟨hke, hkn⟩
      · have q1 : ¬ (k : Int) < l.length := by omega
        clear h40
        go_wp2_with fail
        (with_reducible refine (journalRuns_any _).mono ?_)
        rintro e w15 ⟨rfl, hu15⟩
        have HU := Lib.hid (HO.out.seq hu15)
        clear hu15
        go_wp2_with fail
        go_ret
        exact ⟨rfl, HU.out⟩
      · have q1 : (k : Int) < l.length := by omega
        have q2 : ¬ (k : Int) < 30 := by omega
        go_wp2_with fail
        (with_reducible refine (journalRuns_any _).mono ?_)
        rintro e w15 ⟨rfl, hu15⟩
        have HU := Lib.hid (HO.out.seq hu15)
        clear hu15
        go_wp2_with fail
        go_ret
        exact ⟨rfl, HU.out⟩
end Go.Proofs.YtmhojaiajhdlcaaGreat
