/- Texts of the proof, joined: Chapter 25: a ledger is opened. Chapter 25: a record is added; how many there are. The document's disk: rows of files; where a name stands. The document's disk: a raw write, a file comes. The document's disk: bytes come behind a file's, a file is cut. -/
import Derived.Test.YtmhojaiajhdlcaaGreatMp2
import Derived.Test.YtmhojaiajhdlcaaGreatMp3
import Derived.Test.YtmhojaiajhdlcaaGreatMp4
import Derived.Test.YtmhojaiajhdlcaaGreatMp6
import Derived.Deep.RegionHeld3
import Derived.Test.YtmhojaiajhdlcaaGreatMp5
import Derived.Deep.RegionLaw
namespace Go.Proofs.YtmhojaiajhdlcaaGreat
open Go.RowKit
set_option linter.unusedSimpArgs false
set_option linter.unusedVariables false
theorem OwnN.base_le {α : Type} {sz : Nat} {c : α → List Value} {base base' : Nat} {e : TypeId} {w : World} {v : Value} {l : List α} (h : OwnN sz c base e w v l) (hb : base' ≤ base) : OwnN sz c base' e w v l := by
  obtain ⟨h1, h2⟩ := h
  refine ⟨h1, ?_⟩
  rcases h2 with h2 | ⟨g, cap, cur, rfl, hb', hg, r⟩
  · exact .inl h2
  · exact .inr ⟨g, cap, cur, rfl, by omega, hg, r⟩
theorem LC.rebase {w0 w W : World} {gl gd gm : Nat} {lv : Value} {rl : List Rec} (h : LC w W gl gd gm lv rl) (hu : Upd [] w0 w) : LC w0 W gl gd gm lv rl :=
  ⟨h.top, h.rows.base_le hu.size, h.map, Nat.le_trans hu.size h.glb, Nat.le_trans hu.size h.gmb, hu.seq h.old⟩
theorem LC.new (w : World) (gd : Nat) : LC w ((w.alloc (.map #[] 0)).alloc (.cells #[.pointer (some ⟨gd, 0, none⟩), .slice none 0 0, .map (some w.heap.size)] 123)) (w.heap.size + 1) gd w.heap.size (.slice none 0 0) [] := by
  have hu1 : Upd [] w (w.alloc (.map #[] 0)) := (Upd.refl [] w).alloc _
  have hsz : (w.alloc (.map #[] 0)).heap.size = w.heap.size + 1 := by simp
  have hu2 : Upd [] (w.alloc (.map #[] 0)) ((w.alloc (.map #[] 0)).alloc (.cells #[.pointer (some ⟨gd, 0, none⟩), .slice none 0 0, .map (some w.heap.size)] 123)) := (Upd.refl [] _).alloc _
  have hb := Blk.new (w.alloc (.map #[] 0)) 123 [.pointer (some ⟨gd, 0, none⟩), .slice none 0 0, .map (some w.heap.size)]
  rw [hsz] at hb
  exact ⟨hb, OwnN.nil _ _ _, (KMap.new w).upd hu2 (by simp), by omega, Nat.le_refl _, hu1.seq hu2⟩
theorem rec_key64 {r : Rec} (h : recOk r = true) : Key64 r.key := by
  have hi := recOk_in h
  have i1 := hi.ino
  have i2 := hi.gen
  have i3 := hi.at_
  have i4 := hi.rule
  exact ⟨⟨by omega, by omega⟩, ⟨by omega, by omega⟩, ⟨by omega, by omega⟩, by unfold maxLen; omega⟩
theorem pair_rec (q : Rec × Bool) : ∃ ino gen at_ rule kind c0 c1 c2 c3 c4 c5 c6 c7 c8 c9 ok, q = (mkRec ino gen at_ rule kind c0 c1 c2 c3 c4 c5 c6 c7 c8 c9, ok) := by
  obtain ⟨X, ok⟩ := q
  obtain ⟨ino, gen, at_, rule, kind, c0, c1, c2, c3, c4, c5, c6, c7, c8, c9, rfl⟩ := rec_mk X
  exact ⟨ino, gen, at_, rule, kind, c0, c1, c2, c3, c4, c5, c6, c7, c8, c9, ok, rfl⟩
theorem ledGet_c (w : World) (u : Value) (B : List UInt8) (ino gen at_ : Int) (rule : ByteArray) (kind c0 c1 c2 c3 c4 c5 c6 c7 c8 c9 : Int) (ok : Bool) (h : Bytes w u B) (hz : B.length ≤ 140737488351232) (hX : getRec B = (mkRec ino gen at_ rule kind c0 c1 c2 c3 c4 c5 c6 c7 c8 c9, ok)) :
    Calls Tryz.prog 10 #[u] w fun e w' => e = .returned (.tuple #[mkVal ino gen at_ rule kind c0 c1 c2 c3 c4 c5 c6 c7 c8 c9, .bool ok]) ∧ Upd [] w w' := by
  have h1 := ledGet_any w u B h hz
  rw [hX] at h1
  exact h1
/-- A ledger on a disk. -/
structure LD (w0 w : World) (gd gl : Nat) (F G : List Nat) (rl : List Rec) (s : DS) : Prop where
  lc : ∃ gm lv, LC w0 w gl gd gm lv rl ∧ F = lfoot gl gm lv
  dd : DD w0 w gd G s
  ap : Ap F G
  ok : ∀ r ∈ rl, recOk r = true
def LOut (w0 w : World) (gd gl : Nat) (S : List Nat) (rl : List Rec) (s : DS) (w' : World) : Prop := ∃ F' G', LD w0 w' gd gl F' G' rl s ∧ Upd S w w' ∧ (∀ x ∈ F', x ∈ S ∨ w.heap.size ≤ x) ∧ (∀ x ∈ G', x ∈ S ∨ w.heap.size ≤ x)
section
variable {w0 w w' : World} {gd gl : Nat} {F G : List Nat} {rl : List Rec} {s s' : DS}
/-- Behind a cut, or none. -/
theorem lopen_done {gm : Nat} {lv : Value} {W W' : World} (h : DD w0 w gd G s) (hc : LC w W gl gd gm lv rl) (hok : ∀ r ∈ rl, recOk r = true) (hd : DOut w0 W gd G s' W') (hG : ∀ x ∈ G, x < w.heap.size) : LOut w0 w gd gl G rl s' W' := by
  obtain ⟨G', k1, k2, k3⟩ := hd
  have hge := hc.ge
  have hap : ∀ x ∈ lfoot gl gm lv, x ∉ G := fun x hx hg => by have := (hge x hx).1; have := hG x hg; omega
  have hl := (hc.rebase h.old).upd k2 hap (fun x hx => (h.ge x hx).1)
  have hs := hc.old.size
  refine ⟨lfoot gl gm lv, G', ⟨⟨gm, lv, hl, rfl⟩, k1, fun x hx hg => ?_, hok⟩, hc.old.trans k2 (by simp) (fun x hx => .inl hx), fun x hx => .inr (hge x hx).1, fun x hx => (k3 x hx).imp id (fun q => by omega)⟩
  rcases k3 x hg with q | q
  · exact hap x hx q
  · have := (hge x hx).2; omega
set_option maxRecDepth 20000 in
set_option maxHeartbeats 8000000 in
theorem ledOpen_any (h : DD w0 w gd G s) (hn : s.now.length ≤ 5000) (hl : s.log.length ≤ 1000000000) :
    Calls Tryz.prog 23 #[.pointer (some ⟨gd, 0, none⟩)] w fun e w' => ∃ gl, e = .returned (.tuple #[.pointer (some ⟨gl, 0, none⟩), .int .i64 0]) ∧ LOut w0 w gd gl G (lOpen s).1 (lOpen s).2 w' := by
  have hG : ∀ x ∈ G, x < w.heap.size := fun x hx => (h.ge x hx).2
  have HG := Lib.hid hG
  have HD := Lib.hid h
  have HN := Lib.hid hn
  have HLG := Lib.hid hl
  have HL0 := Lib.hid (LC.new w gd)
  have htot := get_le_total s.now nmL
  have htot2 := h.ok.tot
  have hmm := @run_makeMap Tryz.prog
  clear h hG hn hl
  go_enter Tryz.func23, Tryz.ntmps23
  go_wp2_with fail
  have HLC0 := HL0
  generalize (w.alloc (.map #[] 0)).alloc (.cells #[.pointer (some ⟨gd, 0, none⟩), .slice none 0 0, .map (some w.heap.size)] 123) = w2 at *
  (with_reducible refine (dkRead_any nmL (HD.out.upd0 HL0.out.old) (by have := HN.out; omega)).mono ?_)
  rintro e w3 ⟨vb, rfl, hob, hu3⟩
  obtain ⟨b, hb⟩ : ∃ b, (dGet s.now nmL).1 = b := ⟨_, rfl⟩
  rw [hb] at hob htot
  have HB := Lib.hid hb
  have hbl : b.length ≤ 16777216 := by omega
  have HBL := Lib.hid hbl
  have HL3 := Lib.hid (HL0.out.upd0 hu3)
  have HAB : Hid (∀ x ∈ blk vb, x ∉ lfoot (w.heap.size + 1) w.heap.size (.slice none 0 0)) := fun x hx hf => by
    have h1 := (hob.ge x hx).1
    have h2 := (HL0.out.ge x hf).2
    omega
  have HRB : Hid (Bytes w3 vb b) := hob.rd
  obtain ⟨ba, bk, rfl, hbk1, hbk2, -⟩ := hob.rd
  have hbk3 : bk ≤ 9223372036854775807 := by unfold maxLen at hbk2; omega
  generalize w.heap.size + 1 = gl at *
  obtain ⟨gm, hgm⟩ : ∃ gm, w.heap.size = gm := ⟨_, rfl⟩
  have HGM := Lib.hid hgm
  rw [hgm] at HL3 HAB
  clear hob hu3 hb htot htot2 hbk2 hgm HL0 HLC0 hmm
  go_wp2_with fail
  go_loopw [7] (fun i wr => ∃ (k : Nat) (rl : List Rec) (la : Option Addr) (ln lk : Nat), i = .int .i64 k ∧ Hid (LC w wr gl gd gm (.slice la ln lk) rl) ∧ Hid (∀ r ∈ rl, recOk r = true) ∧ k ≤ b.length ∧ Hid (rl.length ≤ k) ∧ Hid (scanL b (b.length + 1 - rl.length) k rl = lScan b) ∧ Hid (Bytes wr (.slice ba b.length bk) b) ∧ Hid (∀ x ∈ blk (.slice ba b.length bk), x ∉ lfoot gl gm (.slice la ln lk))) (fun i _ => b.length - (intOf i).toNat)
  case atStart => exact ⟨0, [], none, 0, 0, rfl, HL3.out, (fun r hr => by simp at hr), Nat.zero_le _, Nat.le_refl _, rfl, HRB.out, HAB.out⟩
  case round =>
    obtain ⟨k, rl, la, ln, lk, rfl, hlc, hok, hk, hrk, hsc, hrb, hab⟩ := hrel
    clear HL3 HAB HRB
    obtain ⟨p, tn, er, hq⟩ : ∃ p t e, nextF b (k : Int) = (p, t, e) := ⟨_, _, _, rfl⟩
    have HQ := Lib.hid hq
    have HKI : Hid (I64 (k : Int)) := ⟨by omega, by omega⟩
    have HNS : Hid (∀ x, scanL b (b.length + 1 - rl.length) k rl = x ↔ (match nxt b k rl with | some q => scanL b (b.length - rl.length) q.2 (rl ++ [q.1]) | none => (rl, k)) = x) := by
      intro x
      have h1 := hrk.out
      obtain ⟨f, hf⟩ : ∃ f, b.length + 1 - rl.length = f + 1 := ⟨b.length - rl.length, by omega⟩
      have hf2 : b.length - rl.length = f := by omega
      rw [hf, hf2]; exact Iff.rfl
    go_wp2_with fail
    (with_reducible refine (fNext_any _ b (k : Int) wr hrb.out (by have := HBL.out; omega) HKI.out).mono ?_)
    unfold NextSaid
    rw [HQ.out]
    rintro e w4 ⟨vp, rfl, hop, hu4⟩
    have HC4 := Lib.hid (hlc.out.upd0 hu4)
    have HB4 := Lib.hid (hrb.out.upd0 hu4)
    have HP4 : Hid (Bytes w4 vp p) := hop.rd
    obtain ⟨pa, pk, rfl, -⟩ := hop.rd
    clear hop hu4 hlc hrb hq
    dsimp only
    by_cases he0 : er = 0
    · subst he0
      have hto := nextF_to b k hk (by rw [HQ.out])
      rw [HQ.out] at hto
      obtain ⟨m, hm1, hm2, hm3, hm4, hm5⟩ := hto
      dsimp only at hm4 hm5
      subst hm4
      have HPL : Hid (p.length ≤ 140737488351232) := by unfold Hid; omega
      have HM3 := Lib.hid hm3
      have HM1 := Lib.hid hm1
      have hto0 : ((k : Int) + 8 + (m : Int) = ((k + 8 + m : Nat) : Int)) := by omega
      have HTO := Lib.hid hto0
      clear hm1 hm2 hm3 hm5 hto0
      obtain ⟨ino, gen, at_, rule, kind, c0, c1, c2, c3, c4, c5, c6, c7, c8, c9, ok, hX⟩ := pair_rec (getRec p)
      have HX := Lib.hid hX
      go_wp2_with fail
      (with_reducible refine (ledGet_c w4 _ p ino gen at_ rule kind c0 c1 c2 c3 c4 c5 c6 c7 c8 c9 ok HP4.out HPL.out HX.out).mono ?_)
      rintro e w5 ⟨rfl, hu5⟩
      have HC5 := Lib.hid (HC4.out.upd0 hu5)
      have HB5 := Lib.hid (HB4.out.upd0 hu5)
      clear hu5 HC4 HB4 HP4 hX
      have hu6 : Upd [] w5 (w5.alloc (.cells #[.int .i64 ino, .int .i64 gen, .int .i64 at_, .string rule, .int .i64 kind, .int .i64 c0, .int .i64 c1, .int .i64 c2, .int .i64 c3, .int .i64 c4, .int .i64 c5, .int .i64 c6, .int .i64 c7, .int .i64 c8, .int .i64 c9] 27)) := (Upd.refl [] w5).alloc _
      have HC6 := Lib.hid (HC5.out.upd0 hu6)
      have HB6 := Lib.hid (HB5.out.upd0 hu6)
      have hx6 : Blk (w5.alloc (.cells #[.int .i64 ino, .int .i64 gen, .int .i64 at_, .string rule, .int .i64 kind, .int .i64 c0, .int .i64 c1, .int .i64 c2, .int .i64 c3, .int .i64 c4, .int .i64 c5, .int .i64 c6, .int .i64 c7, .int .i64 c8, .int .i64 c9] 27)) w5.heap.size 27 [.int .i64 ino, .int .i64 gen, .int .i64 at_, .string rule, .int .i64 kind, .int .i64 c0, .int .i64 c1, .int .i64 c2, .int .i64 c3, .int .i64 c4, .int .i64 c5, .int .i64 c6, .int .i64 c7, .int .i64 c8, .int .i64 c9] := Blk.new w5 _ [.int .i64 ino, .int .i64 gen, .int .i64 at_, .string rule, .int .i64 kind, .int .i64 c0, .int .i64 c1, .int .i64 c2, .int .i64 c3, .int .i64 c4, .int .i64 c5, .int .i64 c6, .int .i64 c7, .int .i64 c8, .int .i64 c9]
      have HX6 := Lib.hid hx6
      cases ok with
      | false =>
        have HE : Hid (lScan b = (rl, k)) := by
          unfold Hid
          have h1 := hsc.out
          rw [HNS.out] at h1
          rw [← h1]
          have : nxt b k rl = none := by
            unfold nxt
            rw [HQ.out]; dsimp only
            rw [HX.out, if_neg (fun q => absurd q.2.1 (by simp))]
          simp only [this]
        clear hx6 hu6 HC5 HB5
        by_cases hlt : k < b.length
        · have q1 : (k : Int) < b.length := by omega
          have HEQ : Hid (lOpen s = (rl, (dCut s nmL (k : Int)).2)) := by unfold Hid lOpen; rw [HB.out, HE.out, if_pos hlt]
          go_wp2_with fail
          (with_reducible refine (dCut_any nmL (k : Int) HKI.out (HD.out.upd0 HC6.out.old) HN.out HLG.out).mono ?_)
          rintro e wz ⟨rfl, hdz⟩
          have HZ := Lib.hid (lopen_done HD.out HC6.out hok.out hdz HG.out)
          clear hdz
          go_wp2_with fail
          go_ret2
          exact ⟨gl, rfl, by rw [HEQ.out]; exact HZ.out⟩
        · have q1 : ¬ (k : Int) < b.length := by omega
          have HEQ : Hid (lOpen s = (rl, s)) := by unfold Hid lOpen; rw [HB.out, HE.out, if_neg hlt]
          have HZ := Lib.hid (lopen_done HD.out HC6.out hok.out ((HD.out.upd0 HC6.out.old).out0 (Upd.refl [] _)) HG.out)
          go_wp2_with fail
          go_ret2
          exact ⟨gl, rfl, by rw [HEQ.out]; exact HZ.out⟩
      | true =>
        have d0 := hx6.cell 0
        have d1 := hx6.cell 1
        have d2 := hx6.cell 2
        have d3 := hx6.cell 3
        simp only [List.getElem?_cons_zero, List.getElem?_cons_succ] at d0 d1 d2 d3
        have hk64 : Key64 ⟨ino, gen, at_, rule⟩ := rec_key64 (r := mkRec ino gen at_ rule kind c0 c1 c2 c3 c4 c5 c6 c7 c8 c9) (by have := (enc_get (B := p) (by rw [HX.out])).1; rw [HX.out] at this; exact this)
        have HRO : Hid (recOk (mkRec ino gen at_ rule kind c0 c1 c2 c3 c4 c5 c6 c7 c8 c9) = true) := by have := (enc_get (B := p) (by rw [HX.out])).1; rw [HX.out] at this; exact this
        have HK6 := Lib.hid hk64
        clear hx6 hu6 HC5 HB5 hk64
        go_wp2_with fail
        generalize w5.alloc (.cells #[.int .i64 ino, .int .i64 gen, .int .i64 at_, .string rule, .int .i64 kind, .int .i64 c0, .int .i64 c1, .int .i64 c2, .int .i64 c3, .int .i64 c4, .int .i64 c5, .int .i64 c6, .int .i64 c7, .int .i64 c8, .int .i64 c9] 27) = w6 at *
        generalize w5.heap.size = gx at *
        (with_reducible refine (ledHas_c HC6.out ino gen at_ rule HK6.out).mono ?_)
        rintro e w7 ⟨rfl, hu7⟩
        have HC7 := Lib.hid (HC6.out.upd0 hu7)
        have HB7 := Lib.hid (HB6.out.upd0 hu7)
        have hx7 := HX6.out.upd hu7 (by simp)
        cases hhas : hasK rl ⟨ino, gen, at_, rule⟩ with
        | true =>
          have HE : Hid (lScan b = (rl, k)) := by
            unfold Hid
            have h1 := hsc.out
            rw [HNS.out] at h1
            rw [← h1]
            have : nxt b k rl = none := by
              unfold nxt
              rw [HQ.out]; dsimp only
              rw [HX.out, if_neg (fun q => by have := q.2.2; dsimp only at this; rw [hhas] at this; exact absurd this (by simp))]
            simp only [this]
          clear hhas hx7 hu7 HC6 HB6 HX6 d0 d1 d2 d3
          by_cases hlt : k < b.length
          · have q1 : (k : Int) < b.length := by omega
            have HEQ : Hid (lOpen s = (rl, (dCut s nmL (k : Int)).2)) := by unfold Hid lOpen; rw [HB.out, HE.out, if_pos hlt]
            go_wp2_with fail
            (with_reducible refine (dCut_any nmL (k : Int) HKI.out (HD.out.upd0 HC7.out.old) HN.out HLG.out).mono ?_)
            rintro e wz ⟨rfl, hdz⟩
            have HZ := Lib.hid (lopen_done HD.out HC7.out hok.out hdz HG.out)
            clear hdz
            go_wp2_with fail
            go_ret2
            exact ⟨gl, rfl, by rw [HEQ.out]; exact HZ.out⟩
          · have q1 : ¬ (k : Int) < b.length := by omega
            have HEQ : Hid (lOpen s = (rl, s)) := by unfold Hid lOpen; rw [HB.out, HE.out, if_neg hlt]
            have HZ := Lib.hid (lopen_done HD.out HC7.out hok.out ((HD.out.upd0 HC7.out.old).out0 (Upd.refl [] _)) HG.out)
            go_wp2_with fail
            go_ret2
            exact ⟨gl, rfl, by rw [HEQ.out]; exact HZ.out⟩
        | false =>
          have HNX : Hid (scanL b (b.length + 1 - (rl ++ [mkRec ino gen at_ rule kind c0 c1 c2 c3 c4 c5 c6 c7 c8 c9]).length) (k + 8 + m) (rl ++ [mkRec ino gen at_ rule kind c0 c1 c2 c3 c4 c5 c6 c7 c8 c9]) = lScan b) := by
            have h1 := hsc.out
            rw [HNS.out] at h1
            have h2 : nxt b k rl = some (mkRec ino gen at_ rule kind c0 c1 c2 c3 c4 c5 c6 c7 c8 c9, k + 8 + m) := by
              unfold nxt
              rw [HQ.out]; dsimp only
              rw [HX.out, if_pos ⟨rfl, rfl, hhas⟩, Int.toNat_natCast]
            rw [h2] at h1
            have h3 : b.length + 1 - (rl ++ [mkRec ino gen at_ rule kind c0 c1 c2 c3 c4 c5 c6 c7 c8 c9]).length = b.length - rl.length := by rw [List.length_append, List.length_singleton]; omega
            unfold Hid
            rw [h3]; exact h1
          have e0 := hx7.cell 0
          have e1 := hx7.cell 1
          have e2 := hx7.cell 2
          have e3 := hx7.cell 3
          have e4 := hx7.cell 4
          have e5 := hx7.cell 5
          have e6 := hx7.cell 6
          have e7 := hx7.cell 7
          have e8 := hx7.cell 8
          have e9 := hx7.cell 9
          have e10 := hx7.cell 10
          have e11 := hx7.cell 11
          have e12 := hx7.cell 12
          have e13 := hx7.cell 13
          have e14 := hx7.cell 14
          simp only [List.getElem?_cons_zero, List.getElem?_cons_succ] at e0 e1 e2 e3 e4 e5 e6 e7 e8 e9 e10 e11 e12 e13 e14
          have HRL : Hid (rl.length ≤ 100000000) := by have := hrk.out; have := HBL.out; unfold Hid; omega
          clear hhas hx7 hu7 HC6 HB6 HX6 hsc HNS d0 d1 d2 d3
          go_wp2_with fail
          (with_reducible refine (ledKeep_c HC7.out ino gen at_ rule kind c0 c1 c2 c3 c4 c5 c6 c7 c8 c9 HK6.out HRL.out).mono ?_)
          rintro e w8 ⟨rfl, lv8, hc8, hu8, hb8⟩
          obtain ⟨l8, k8, rfl, -⟩ := own_slice hc8.rows
          have HC8 := Lib.hid hc8
          have HB8 := Lib.hid (HB7.out.upd hu8 hab.out)
          have HA8 : Hid (∀ x ∈ blk (.slice ba b.length bk), x ∉ lfoot gl gm (.slice l8 (rl ++ [mkRec ino gen at_ rule kind c0 c1 c2 c3 c4 c5 c6 c7 c8 c9]).length k8)) := fun x hx hf => by
            have h1 := hab.out x hx
            rcases List.mem_cons.1 hf with q | hf
            · exact h1 (by rw [q]; exact lf_top _ _ _)
            · rcases List.mem_cons.1 hf with q | hf
              · exact h1 (by rw [q]; exact lf_map _ _ _)
              · rcases hb8 x hf with q | q
                · exact h1 (lf_row q)
                · have hne : b ≠ [] := by intro q2; have hm3 := HM3.out; rw [q2] at hm3; simp at hm3
                  have := HB7.out.lt hne x hx
                  omega
          have HO8 : Hid (∀ r ∈ rl ++ [mkRec ino gen at_ rule kind c0 c1 c2 c3 c4 c5 c6 c7 c8 c9], recOk r = true) := fun r hr => by
            rcases List.mem_append.1 hr with q | q
            · exact hok.out r q
            · simp at q; rw [q]; exact HRO.out
          clear hc8 hu8 hb8 HC7 HB7
          go_wp2_with fail
          go_roundw
          case rel => exact ⟨k + 8 + m, _, l8, _, k8, by first | rfl | (congr 1), HC8.out, HO8.out, HM3.out, by have := hrk.out; unfold Hid; rw [List.length_append, List.length_singleton]; omega, HNX.out, HB8.out, HA8.out⟩
          case measure => have := HM3.out; simp [intOf]; omega
    · have ez : (er != 0) = true := by rw [bne_iff_ne]; exact he0
      have HE : Hid (lScan b = (rl, k)) := by
        unfold Hid
        have h1 := hsc.out
        rw [HNS.out] at h1
        rw [← h1]
        have : nxt b k rl = none := by
          unfold nxt
          rw [HQ.out]; dsimp only
          rw [if_neg (fun q => he0 q.1)]
        simp only [this]
      clear he0 HB4 HP4
      by_cases hlt : k < b.length
      · have q1 : (k : Int) < b.length := by omega
        have HEQ : Hid (lOpen s = (rl, (dCut s nmL (k : Int)).2)) := by unfold Hid lOpen; rw [HB.out, HE.out, if_pos hlt]
        go_wp2_with fail
        (with_reducible refine (dCut_any nmL (k : Int) HKI.out (HD.out.upd0 HC4.out.old) HN.out HLG.out).mono ?_)
        rintro e wz ⟨rfl, hdz⟩
        have HZ := Lib.hid (lopen_done HD.out HC4.out hok.out hdz HG.out)
        clear hdz
        go_wp2_with fail
        go_ret2
        exact ⟨gl, rfl, by rw [HEQ.out]; exact HZ.out⟩
      · have q1 : ¬ (k : Int) < b.length := by omega
        have HEQ : Hid (lOpen s = (rl, s)) := by unfold Hid lOpen; rw [HB.out, HE.out, if_neg hlt]
        have HZ := Lib.hid (lopen_done HD.out HC4.out hok.out ((HD.out.upd0 HC4.out.old).out0 (Upd.refl [] _)) HG.out)
        go_wp2_with fail
        go_ret2
        exact ⟨gl, rfl, by rw [HEQ.out]; exact HZ.out⟩
end
end Go.Proofs.YtmhojaiajhdlcaaGreat
namespace Go.Proofs.YtmhojaiajhdlcaaGreat
open Go.RowKit
set_option linter.unusedSimpArgs false
set_option linter.unusedVariables false
section
variable {w0 w w' : World} {gd gl : Nat} {F G : List Nat} {rl : List Rec} {s s' : DS}
theorem LD.old (h : LD w0 w gd gl F G rl s) : Upd [] w0 w := h.dd.old
theorem LD.geF (h : LD w0 w gd gl F G rl s) : ∀ x ∈ F, w0.heap.size ≤ x ∧ x < w.heap.size := by
  obtain ⟨gm, lv, hc, rfl⟩ := h.lc
  exact hc.ge
theorem LD.upd (h : LD w0 w gd gl F G rl s) {S : List Nat} (hu : Upd S w w') (h1 : ∀ x ∈ F, x ∉ S) (h2 : ∀ x ∈ G, x ∉ S) (hS : ∀ x ∈ S, w0.heap.size ≤ x) : LD w0 w' gd gl F G rl s := by
  obtain ⟨gm, lv, hc, rfl⟩ := h.lc
  exact ⟨⟨gm, lv, hc.upd hu h1 hS, rfl⟩, h.dd.upd hu h2 hS, h.ap, h.ok⟩
theorem LD.upd0 (h : LD w0 w gd gl F G rl s) (hu : Upd [] w w') : LD w0 w' gd gl F G rl s := h.upd hu (by simp) (by simp) (by simp)
theorem LD.out0 (h : LD w0 w gd gl F G rl s) (hu : Upd [] w w') : LOut w0 w gd gl (F ++ G) rl s w' :=
  ⟨F, G, h.upd0 hu, hu.mono (by simp), fun x hx => .inl (List.mem_append.2 (.inl hx)), fun x hx => .inl (List.mem_append.2 (.inr hx))⟩
/-- Behind a call on the disk alone. -/
theorem LD.disk (h : LD w0 w gd gl F G rl s) {w1 : World} (hu : Upd [] w w1) (hd : DOut w0 w1 gd G s' w') : ∃ G', LD w0 w' gd gl F G' rl s' ∧ Upd G w w' ∧ (∀ x ∈ G', x ∈ G ∨ w.heap.size ≤ x) := by
  obtain ⟨G', k1, k2, k3⟩ := hd
  have h1 := h.upd0 hu
  have hs := hu.size
  obtain ⟨gm, lv, hc, rfl⟩ := h1.lc
  refine ⟨G', ⟨⟨gm, lv, hc.upd k2 h.ap (fun x hx => (h.dd.ge x hx).1), rfl⟩, k1, fun x hx hg => ?_, h.ok⟩, hu.trans k2 (by simp) (fun x hx => .inl hx), fun x hx => (k3 x hx).imp id (fun q => by omega)⟩
  rcases k3 x hg with q | q
  · exact h.ap x hx q
  · have := (hc.ge x hx).2; omega
theorem LD.out (h : LD w0 w gd gl F G rl s) {G' : List Nat} (h2 : LD w0 w' gd gl F G' rl s') (hu : Upd G w w') (hf : ∀ x ∈ G', x ∈ G ∨ w.heap.size ≤ x) : LOut w0 w gd gl (F ++ G) rl s' w' :=
  ⟨F, G', h2, hu.mono (fun x hx => .inl (List.mem_append.2 (.inr hx))), fun x hx => .inl (List.mem_append.2 (.inl hx)), fun x hx => (hf x hx).imp (fun q => List.mem_append.2 (.inr q)) id⟩
set_option maxRecDepth 20000 in
set_option maxHeartbeats 8000000 in
theorem ledAdd_c (h : LD w0 w gd gl F G rl s) (ino gen at_ : Int) (rule : ByteArray) (kind c0 c1 c2 c3 c4 c5 c6 c7 c8 c9 : Int) (hn : s.now.length ≤ 4999) (hlg : s.log.length ≤ 500000000) (hrl : rl.length ≤ 100000000) :
    Calls Tryz.prog 31 #[.pointer (some ⟨gl, 0, none⟩), mkVal ino gen at_ rule kind c0 c1 c2 c3 c4 c5 c6 c7 c8 c9] w fun e w' => e = .returned (.tuple #[.bool (lAdd rl s (mkRec ino gen at_ rule kind c0 c1 c2 c3 c4 c5 c6 c7 c8 c9)).1.1, .int .i64 (lAdd rl s (mkRec ino gen at_ rule kind c0 c1 c2 c3 c4 c5 c6 c7 c8 c9)).1.2]) ∧ LOut w0 w gd gl (F ++ G) (lAdd rl s (mkRec ino gen at_ rule kind c0 c1 c2 c3 c4 c5 c6 c7 c8 c9)).2.1 (lAdd rl s (mkRec ino gen at_ rule kind c0 c1 c2 c3 c4 c5 c6 c7 c8 c9)).2.2 w' := by
  have hu0 : Upd [] w (w.alloc (.cells #[.int .i64 ino, .int .i64 gen, .int .i64 at_, .string rule, .int .i64 kind, .int .i64 c0, .int .i64 c1, .int .i64 c2, .int .i64 c3, .int .i64 c4, .int .i64 c5, .int .i64 c6, .int .i64 c7, .int .i64 c8, .int .i64 c9] 27)) := (Upd.refl [] w).alloc _
  have HU0 := Lib.hid hu0
  have H0 := Lib.hid h
  have HB0 : Hid (Blk (w.alloc (.cells #[.int .i64 ino, .int .i64 gen, .int .i64 at_, .string rule, .int .i64 kind, .int .i64 c0, .int .i64 c1, .int .i64 c2, .int .i64 c3, .int .i64 c4, .int .i64 c5, .int .i64 c6, .int .i64 c7, .int .i64 c8, .int .i64 c9] 27)) w.heap.size 27 [.int .i64 ino, .int .i64 gen, .int .i64 at_, .string rule, .int .i64 kind, .int .i64 c0, .int .i64 c1, .int .i64 c2, .int .i64 c3, .int .i64 c4, .int .i64 c5, .int .i64 c6, .int .i64 c7, .int .i64 c8, .int .i64 c9]) := Blk.new w _ [.int .i64 ino, .int .i64 gen, .int .i64 at_, .string rule, .int .i64 kind, .int .i64 c0, .int .i64 c1, .int .i64 c2, .int .i64 c3, .int .i64 c4, .int .i64 c5, .int .i64 c6, .int .i64 c7, .int .i64 c8, .int .i64 c9]
  have HN := Lib.hid hn
  have HLG := Lib.hid hlg
  have HRL := Lib.hid hrl
  clear h hu0 hn hlg hrl
  cases hok : recOk (mkRec ino gen at_ rule kind c0 c1 c2 c3 c4 c5 c6 c7 c8 c9) with
  | false =>
    have HOK := Lib.hid hok
    have HE : Hid (lAdd rl s (mkRec ino gen at_ rule kind c0 c1 c2 c3 c4 c5 c6 c7 c8 c9) = ((false, 1), rl, s)) := by unfold Hid lAdd; rw [hok]; rfl
    clear hok
    go_enter Tryz.func31, Tryz.ntmps31
    go_wp2_with fail
    (with_reducible refine (ledRight_c _ ino gen at_ rule kind c0 c1 c2 c3 c4 c5 c6 c7 c8 c9).mono ?_)
    rw [HOK.out]
    rintro e w1 ⟨rfl, hu1⟩
    have HU1 := Lib.hid (HU0.out.seq hu1)
    clear hu1
    go_wp2_with fail
    go_ret2
    exact ⟨by rw [HE.out]; rfl, by rw [HE.out]; exact H0.out.out0 HU1.out⟩
  | true =>
    have HOK := Lib.hid hok
    have HK : Hid (Key64 ⟨ino, gen, at_, rule⟩) := rec_key64 (r := mkRec ino gen at_ rule kind c0 c1 c2 c3 c4 c5 c6 c7 c8 c9) hok
    cases hhas : hasK rl ⟨ino, gen, at_, rule⟩ with
    | true =>
      have HE : Hid (lAdd rl s (mkRec ino gen at_ rule kind c0 c1 c2 c3 c4 c5 c6 c7 c8 c9) = ((false, 0), rl, s)) := by unfold Hid lAdd; rw [hok, if_pos rfl]; dsimp only; rw [hhas]; rfl
      have HH := Lib.hid hhas
      clear hok hhas
      go_enter Tryz.func31, Tryz.ntmps31
      go_wp2_with fail
      (with_reducible refine (ledRight_c _ ino gen at_ rule kind c0 c1 c2 c3 c4 c5 c6 c7 c8 c9).mono ?_)
      rw [HOK.out]
      rintro e w1 ⟨rfl, hu1⟩
      have HU1 := Lib.hid (HU0.out.seq hu1)
      have hb1 := HB0.out.upd hu1 (by simp)
      have d0 := hb1.cell 0
      have d1 := hb1.cell 1
      have d2 := hb1.cell 2
      have d3 := hb1.cell 3
      simp only [List.getElem?_cons_zero, List.getElem?_cons_succ] at d0 d1 d2 d3
      clear hu1 hb1
      go_wp2_with fail
      obtain ⟨gm, lv, hc, -⟩ := H0.out.lc
      (with_reducible refine (ledHas_c (hc.upd0 HU1.out) ino gen at_ rule HK.out).mono ?_)
      rw [HH.out]
      rintro e w2 ⟨rfl, hu2⟩
      have HU2 := Lib.hid (HU1.out.seq hu2)
      clear hu2 hc
      go_wp2_with fail
      go_ret2
      exact ⟨by rw [HE.out]; rfl, by rw [HE.out]; exact H0.out.out0 HU2.out⟩
    | false =>
      obtain ⟨r1, s1, hap⟩ : ∃ r s', dAppend s nmL (frameOf (encRec (mkRec ino gen at_ rule kind c0 c1 c2 c3 c4 c5 c6 c7 c8 c9))) = (r, s') := ⟨_, _, rfl⟩
      have HAP := Lib.hid hap
      have HFL : Hid ((frameOf (encRec (mkRec ino gen at_ rule kind c0 c1 c2 c3 c4 c5 c6 c7 c8 c9))).length ≤ 100000000 ∧ frameOf (encRec (mkRec ino gen at_ rule kind c0 c1 c2 c3 c4 c5 c6 c7 c8 c9)) ≠ []) := by
        have h1 := encRec_len hok
        have h2 := frameOf_len (encRec (mkRec ino gen at_ rule kind c0 c1 c2 c3 c4 c5 c6 c7 c8 c9))
        exact ⟨by omega, fun q => by rw [q] at h2; simp at h2; omega⟩
      have HFP : Hid (putF [] (encRec (mkRec ino gen at_ rule kind c0 c1 c2 c3 c4 c5 c6 c7 c8 c9)) = frameOf (encRec (mkRec ino gen at_ rule kind c0 c1 c2 c3 c4 c5 c6 c7 c8 c9))) := by unfold Hid; rw [putF_fit _ _ (fit_rec hok)]; rfl
      have HEL : Hid ((encRec (mkRec ino gen at_ rule kind c0 c1 c2 c3 c4 c5 c6 c7 c8 c9)).length ≤ 100000) := by have := encRec_len hok; unfold Hid; omega
      have HE : Hid (lAdd rl s (mkRec ino gen at_ rule kind c0 c1 c2 c3 c4 c5 c6 c7 c8 c9) = if r1 = 0 then ((true, 0), rl ++ [mkRec ino gen at_ rule kind c0 c1 c2 c3 c4 c5 c6 c7 c8 c9], s1) else ((false, r1), rl, s1)) := by
        unfold Hid lAdd; rw [hok, if_pos rfl]; dsimp only; rw [hhas, hap]; rfl
      have HH := Lib.hid hhas
      clear hok hhas hap
      go_enter Tryz.func31, Tryz.ntmps31
      go_wp2_with fail
      (with_reducible refine (ledRight_c _ ino gen at_ rule kind c0 c1 c2 c3 c4 c5 c6 c7 c8 c9).mono ?_)
      rw [HOK.out]
      rintro e w1 ⟨rfl, hu1⟩
      have HU1 := Lib.hid (HU0.out.seq hu1)
      have hb1 := HB0.out.upd hu1 (by simp)
      have HB1 := Lib.hid hb1
      have d0 := hb1.cell 0
      have d1 := hb1.cell 1
      have d2 := hb1.cell 2
      have d3 := hb1.cell 3
      simp only [List.getElem?_cons_zero, List.getElem?_cons_succ] at d0 d1 d2 d3
      clear hu1 hb1 HB0 HU0
      go_wp2_with fail
      obtain ⟨gm, lv, hc, hF⟩ := H0.out.lc
      (with_reducible refine (ledHas_c (hc.upd0 HU1.out) ino gen at_ rule HK.out).mono ?_)
      rw [HH.out]
      rintro e w2 ⟨rfl, hu2⟩
      have HU2 := Lib.hid (HU1.out.seq hu2)
      have hb2 := HB1.out.upd hu2 (by simp)
      have HB2 := Lib.hid hb2
      have HL2 := Lib.hid (H0.out.upd0 HU2.out)
      have hgx : w.heap.size < w2.heap.size := hb2.lt
      have HGX : Hid (∀ x ∈ G, x < w.heap.size) := fun x hx => (H0.out.dd.ge x hx).2
      have HGF : Hid (∀ x ∈ F, x < w.heap.size) := fun x hx => (H0.out.geF x hx).2
      have HSZ : Hid (w.heap.size ≤ w2.heap.size) := HU2.out.size
      have gc0 : w2.cell? ⟨gl, 0, none⟩ = some (.pointer (some ⟨gd, 0, none⟩)) := (hc.upd0 HU2.out).top.cell 0
      have d0 := hb2.cell 0
      have d1 := hb2.cell 1
      have d2 := hb2.cell 2
      have d3 := hb2.cell 3
      have d4 := hb2.cell 4
      have d5 := hb2.cell 5
      have d6 := hb2.cell 6
      have d7 := hb2.cell 7
      have d8 := hb2.cell 8
      have d9 := hb2.cell 9
      have d10 := hb2.cell 10
      have d11 := hb2.cell 11
      have d12 := hb2.cell 12
      have d13 := hb2.cell 13
      have d14 := hb2.cell 14
      simp only [List.getElem?_cons_zero, List.getElem?_cons_succ] at d0 d1 d2 d3 d4 d5 d6 d7 d8 d9 d10 d11 d12 d13 d14
      have HS : Hid (∀ W, W = w2 → W.cell? ⟨gl, 0, none⟩ = some (.pointer (some ⟨gd, 0, none⟩)) ∧ W.cell? ⟨w.heap.size, 0, none⟩ = some (.int .i64 ino) ∧ W.cell? ⟨w.heap.size, 1, none⟩ = some (.int .i64 gen) ∧ W.cell? ⟨w.heap.size, 2, none⟩ = some (.int .i64 at_) ∧ W.cell? ⟨w.heap.size, 3, none⟩ = some (.string rule) ∧ W.cell? ⟨w.heap.size, 4, none⟩ = some (.int .i64 kind) ∧ W.cell? ⟨w.heap.size, 5, none⟩ = some (.int .i64 c0) ∧ W.cell? ⟨w.heap.size, 6, none⟩ = some (.int .i64 c1) ∧ W.cell? ⟨w.heap.size, 7, none⟩ = some (.int .i64 c2) ∧ W.cell? ⟨w.heap.size, 8, none⟩ = some (.int .i64 c3) ∧ W.cell? ⟨w.heap.size, 9, none⟩ = some (.int .i64 c4) ∧ W.cell? ⟨w.heap.size, 10, none⟩ = some (.int .i64 c5) ∧ W.cell? ⟨w.heap.size, 11, none⟩ = some (.int .i64 c6) ∧ W.cell? ⟨w.heap.size, 12, none⟩ = some (.int .i64 c7) ∧ W.cell? ⟨w.heap.size, 13, none⟩ = some (.int .i64 c8) ∧ W.cell? ⟨w.heap.size, 14, none⟩ = some (.int .i64 c9)) := by
        rintro W rfl
        exact ⟨gc0, d0, d1, d2, d3, d4, d5, d6, d7, d8, d9, d10, d11, d12, d13, d14⟩
      have HGLG : Hid (gl ∉ G) := fun hx => H0.out.ap gl (by rw [hF]; exact lf_top _ _ _) hx
      have HKEEP : Hid (∀ (T : List Nat) W, (T = [] ∨ T = G) → Upd T w2 W → W.cell? ⟨gl, 0, none⟩ = some (.pointer (some ⟨gd, 0, none⟩)) ∧ W.cell? ⟨w.heap.size, 0, none⟩ = some (.int .i64 ino) ∧ W.cell? ⟨w.heap.size, 1, none⟩ = some (.int .i64 gen) ∧ W.cell? ⟨w.heap.size, 2, none⟩ = some (.int .i64 at_) ∧ W.cell? ⟨w.heap.size, 3, none⟩ = some (.string rule) ∧ W.cell? ⟨w.heap.size, 4, none⟩ = some (.int .i64 kind) ∧ W.cell? ⟨w.heap.size, 5, none⟩ = some (.int .i64 c0) ∧ W.cell? ⟨w.heap.size, 6, none⟩ = some (.int .i64 c1) ∧ W.cell? ⟨w.heap.size, 7, none⟩ = some (.int .i64 c2) ∧ W.cell? ⟨w.heap.size, 8, none⟩ = some (.int .i64 c3) ∧ W.cell? ⟨w.heap.size, 9, none⟩ = some (.int .i64 c4) ∧ W.cell? ⟨w.heap.size, 10, none⟩ = some (.int .i64 c5) ∧ W.cell? ⟨w.heap.size, 11, none⟩ = some (.int .i64 c6) ∧ W.cell? ⟨w.heap.size, 12, none⟩ = some (.int .i64 c7) ∧ W.cell? ⟨w.heap.size, 13, none⟩ = some (.int .i64 c8) ∧ W.cell? ⟨w.heap.size, 14, none⟩ = some (.int .i64 c9)) := by
        intro T W hT hu
        have n1 : gl ∉ T := by rcases hT with rfl | rfl; simp; exact HGLG.out
        have n2 : w.heap.size ∉ T := by
          rcases hT with rfl | rfl
          · simp
          · intro hx; have := HGX.out _ hx; omega
        obtain ⟨g0, g1⟩ := HS.out w2 rfl
        obtain ⟨e0, e1, e2, e3, e4, e5, e6, e7, e8, e9, e10, e11, e12, e13, e14⟩ := g1
        exact ⟨hu.cell g0 n1, hu.cell e0 n2, hu.cell e1 n2, hu.cell e2 n2, hu.cell e3 n2, hu.cell e4 n2, hu.cell e5 n2, hu.cell e6 n2, hu.cell e7 n2, hu.cell e8 n2, hu.cell e9 n2, hu.cell e10 n2, hu.cell e11 n2, hu.cell e12 n2, hu.cell e13 n2, hu.cell e14 n2⟩
      have HC1 : Hid (∀ W, Upd [] w2 W → Calls Tryz.prog 14 #[mkVal ino gen at_ rule kind c0 c1 c2 c3 c4 c5 c6 c7 c8 c9] W fun e w' => ∃ a n k, e = .returned (.slice a n k) ∧ Hid (Own bv w2.heap.size 5 w' (.slice a n k) (encRec (mkRec ino gen at_ rule kind c0 c1 c2 c3 c4 c5 c6 c7 c8 c9))) ∧ Upd [] w2 w') := fun W hW => by
        refine (ledPut_c W ino gen at_ rule kind c0 c1 c2 c3 c4 c5 c6 c7 c8 c9).mono ?_
        rw [HOK.out, if_pos rfl]
        rintro e w' ⟨v, rfl, ho, hu⟩
        obtain ⟨a, k, rfl, -⟩ := ho.rd
        exact ⟨a, _, k, rfl, ho.base_le hW.size, hW.seq hu⟩
      have HC2 : Hid (∀ W a n k, Own bv w2.heap.size 5 W (.slice a n k) (encRec (mkRec ino gen at_ rule kind c0 c1 c2 c3 c4 c5 c6 c7 c8 c9)) → Upd [] w2 W → Calls Tryz.prog 78 #[.slice none 0 0, .slice a n k] W fun e w' => ∃ a n k, e = .returned (.slice a n k) ∧ Hid (Own bv w2.heap.size 5 w' (.slice a n k) (frameOf (encRec (mkRec ino gen at_ rule kind c0 c1 c2 c3 c4 c5 c6 c7 c8 c9)))) ∧ Upd [] w2 w') := fun W a n k ho hW => by
        refine (fPut_any _ _ [] (encRec (mkRec ino gen at_ rule kind c0 c1 c2 c3 c4 c5 c6 c7 c8 c9)) W (Rd.nil _) ho.rd (by simp) (by have := HEL.out; omega)).mono ?_
        rw [HFP.out]
        rintro e w' ⟨v, rfl, ho2, hu⟩
        obtain ⟨a, k, rfl, -⟩ := ho2.rd
        exact ⟨a, _, k, rfl, ho2.base_le hW.size, hW.seq hu⟩
      have HC3 : Hid (∀ W a n k, Own bv w2.heap.size 5 W (.slice a n k) (frameOf (encRec (mkRec ino gen at_ rule kind c0 c1 c2 c3 c4 c5 c6 c7 c8 c9))) → Upd [] w2 W → Calls Tryz.prog 19 #[.pointer (some ⟨gd, 0, none⟩), sv nmL, .slice a n k] W fun e w' => e = .returned (.int .i64 r1) ∧ Hid (DOut w0 W gd G s1 w') ∧ Hid (Upd [] w2 W) ∧ Upd G w2 w') := fun W a n k ho hW => by
        refine (dAppend_any nmL _ _ ho.rd (fun _ x hx hg => by have := (ho.ge x hx).1; have := HGX.out x hg; have := HSZ.out; omega) (HL2.out.dd.upd0 hW) HFL.out.1 HN.out HLG.out).mono ?_
        rw [HAP.out]
        rintro e w' ⟨rfl, hd⟩
        exact ⟨rfl, hd, hW, by obtain ⟨G', k1, k2, k3⟩ := hd; exact hW.trans k2 (by simp) (fun x hx => .inl hx)⟩
      have ru := Upd.refl [] w2
      clear hu2 hb2 hc hF HB1 HU1
      go_wp2_with fail
      go_region_held3 (fun W => W.cell? ⟨gl, 0, none⟩ = some (.pointer (some ⟨gd, 0, none⟩)) ∧ W.cell? ⟨w.heap.size, 0, none⟩ = some (.int .i64 ino) ∧ W.cell? ⟨w.heap.size, 1, none⟩ = some (.int .i64 gen) ∧ W.cell? ⟨w.heap.size, 2, none⟩ = some (.int .i64 at_) ∧ W.cell? ⟨w.heap.size, 3, none⟩ = some (.string rule) ∧ W.cell? ⟨w.heap.size, 4, none⟩ = some (.int .i64 kind) ∧ W.cell? ⟨w.heap.size, 5, none⟩ = some (.int .i64 c0) ∧ W.cell? ⟨w.heap.size, 6, none⟩ = some (.int .i64 c1) ∧ W.cell? ⟨w.heap.size, 7, none⟩ = some (.int .i64 c2) ∧ W.cell? ⟨w.heap.size, 8, none⟩ = some (.int .i64 c3) ∧ W.cell? ⟨w.heap.size, 9, none⟩ = some (.int .i64 c4) ∧ W.cell? ⟨w.heap.size, 10, none⟩ = some (.int .i64 c5) ∧ W.cell? ⟨w.heap.size, 11, none⟩ = some (.int .i64 c6) ∧ W.cell? ⟨w.heap.size, 12, none⟩ = some (.int .i64 c7) ∧ W.cell? ⟨w.heap.size, 13, none⟩ = some (.int .i64 c8) ∧ W.cell? ⟨w.heap.size, 14, none⟩ = some (.int .i64 c9)) (first | go_keep | exact HKEEP.out [] _ (.inl rfl) ru | exact HKEEP.out G _ (.inr rfl) ru3)
        (first
          | (go_at_call 14; (with_reducible refine (HC1.out _ (Upd.seq ru ?_)).mono ?_); (repeat (first | exact Upd.refl _ _ | apply Upd.drew | apply Upd.drewN | apply Upd.alloc)); (rintro _ W1 ⟨a1, n1, k1, rfl, ho1, ru⟩; dsimp only))
          | (go_at_call 78; (with_reducible refine (HC2.out _ a1 n1 k1 (Own.upd (S := []) ho1.out ?_ (by simp)) (Upd.seq ru ?_)).mono ?_); (repeat (first | exact Upd.refl _ _ | apply Upd.drew | apply Upd.drewN | apply Upd.alloc)); (rintro _ W2 ⟨a2, n2, k2, rfl, ho2, ru⟩; dsimp only))
          | (go_at_call 19; (with_reducible refine (HC3.out _ a2 n2 k2 (Own.upd (S := []) ho2.out ?_ (by simp)) (Upd.seq ru ?_)).mono ?_); (repeat (first | exact Upd.refl _ _ | apply Upd.drew | apply Upd.drewN | apply Upd.alloc)); (rintro _ W3 ⟨rfl, hd3, hw3, ru3⟩; dsimp only)))
      all_goals
        obtain ⟨G3, h3, hu3, hf3⟩ := HL2.out.disk hw3.out hd3.out
        have H3 := Lib.hid h3
        have HU3 := Lib.hid hu3
        have HF3 := Lib.hid hf3
        clear hd3 hw3 ru3 ho1 ho2 ru HC1 HC2 HC3 gc0 d0 d1 d2 d3 d4 d5 d6 d7 d8 d9 d10 d11 d12 d13 d14 HL2 h3 hf3
        by_cases hz : r1 = 0
        · subst hz
          have HE2 : Hid (lAdd rl s (mkRec ino gen at_ rule kind c0 c1 c2 c3 c4 c5 c6 c7 c8 c9) = ((true, 0), rl ++ [mkRec ino gen at_ rule kind c0 c1 c2 c3 c4 c5 c6 c7 c8 c9], s1)) := by unfold Hid; rw [HE.out, if_pos rfl]
          obtain ⟨-, e0, e1, e2, e3, e4, e5, e6, e7, e8, e9, e10, e11, e12, e13, e14⟩ := HKEEP.out G W3 (.inr rfl) hu3
          clear hu3
          go_wp2_with fail
          obtain ⟨gm3, lv3, hc3, hF3⟩ := H3.out.lc
          (with_reducible refine (ledKeep_c hc3 ino gen at_ rule kind c0 c1 c2 c3 c4 c5 c6 c7 c8 c9 HK.out HRL.out).mono ?_)
          rintro e w4 ⟨rfl, lv4, hc4, hu4, hb4⟩
          have hge3 := hc3.ge
          have hsz2 := HU2.out.size
          have hsz3 := HU3.out.size
          have hap4 : Ap (lfoot gl gm3 lv4) G3 := fun x hx hg => by
            have hd : x ∈ lfoot gl gm3 lv3 → False := fun q => H3.out.ap x (by rw [hF3]; exact q) hg
            rcases List.mem_cons.1 hx with q | hx
            · exact hd (by rw [q]; exact lf_top _ _ _)
            · rcases List.mem_cons.1 hx with q | hx
              · exact hd (by rw [q]; exact lf_map _ _ _)
              · rcases hb4 x hx with q | q
                · exact hd (lf_row q)
                · have := (H3.out.dd.ge x hg).2; omega
          have hd4 := H3.out.dd.upd hu4 (fun x hx hf => H3.out.ap x (by rw [hF3]; exact hf) hx) (fun x hx => (hge3 x hx).1)
          have hout : LOut w0 w gd gl (F ++ G) (rl ++ [mkRec ino gen at_ rule kind c0 c1 c2 c3 c4 c5 c6 c7 c8 c9]) s1 w4 := by
            refine ⟨lfoot gl gm3 lv4, G3, ⟨⟨gm3, lv4, hc4, rfl⟩, hd4, hap4, fun r hr => ?_⟩, ?_, fun x hx => ?_, fun x hx => ?_⟩
            · rcases List.mem_append.1 hr with q | q
              · exact H3.out.ok r q
              · simp at q; rw [q]; exact HOK.out
            · refine (HU2.out.trans HU3.out (T := F ++ G) (by simp) (fun x hx => .inl (List.mem_append.2 (.inr hx)))).trans hu4 (fun x hx => hx) (fun x hx => .inl (List.mem_append.2 (.inl ?_)))
              rw [hF3]; exact hx
            · have hi : x ∈ lfoot gl gm3 lv3 → x ∈ F ++ G := fun q => List.mem_append.2 (.inl (by rw [hF3]; exact q))
              rcases List.mem_cons.1 hx with q | hx
              · exact .inl (hi (by rw [q]; exact lf_top _ _ _))
              · rcases List.mem_cons.1 hx with q | hx
                · exact .inl (hi (by rw [q]; exact lf_map _ _ _))
                · rcases hb4 x hx with q | q
                  · exact .inl (hi (lf_row q))
                  · exact .inr (by omega)
            · rcases HF3.out x hx with q | q
              · exact .inl (List.mem_append.2 (.inr q))
              · exact .inr (by omega)
          have HOUT := Lib.hid hout
          clear hout hd4 hap4 hc4 hu4 hb4 hc3 hge3
          go_wp2_with fail
          go_ret2
          exact ⟨by rw [HE2.out]; rfl, by rw [HE2.out]; exact HOUT.out⟩
        · have ez : (r1 != 0) = true := by rw [bne_iff_ne]; exact hz
          have HE2 : Hid (lAdd rl s (mkRec ino gen at_ rule kind c0 c1 c2 c3 c4 c5 c6 c7 c8 c9) = ((false, r1), rl, s1)) := by unfold Hid; rw [HE.out, if_neg hz]
          have HOUT : Hid (LOut w0 w gd gl (F ++ G) rl s1 W3) := by
            have hsz2 := HU2.out.size
            exact H0.out.out H3.out (HU2.out.trans HU3.out (by simp) (fun x hx => .inl hx)) (fun x hx => (HF3.out x hx).imp id (fun q => by omega))
          clear hz hu3
          go_wp2_with fail
          go_ret2
          exact ⟨by rw [HE2.out]; rfl, by rw [HE2.out]; exact HOUT.out⟩
theorem ledAdd_any (h : LD w0 w gd gl F G rl s) (r : Rec) (hn : s.now.length ≤ 4999) (hlg : s.log.length ≤ 500000000) (hrl : rl.length ≤ 100000000) {b : Bool} {er : Int} {rl' : List Rec} (he : lAdd rl s r = ((b, er), rl', s')) :
    Calls Tryz.prog 31 #[.pointer (some ⟨gl, 0, none⟩), recVal r] w fun e w' => e = .returned (.tuple #[.bool b, .int .i64 er]) ∧ LOut w0 w gd gl (F ++ G) rl' s' w' := by
  obtain ⟨ino, gen, at_, rule, kind, c0, c1, c2, c3, c4, c5, c6, c7, c8, c9, rfl⟩ := rec_mk r
  have := ledAdd_c h ino gen at_ rule kind c0 c1 c2 c3 c4 c5 c6 c7 c8 c9 hn hlg hrl
  rw [he] at this
  exact this
end
end Go.Proofs.YtmhojaiajhdlcaaGreat
namespace Go.Proofs.YtmhojaiajhdlcaaGreat
open Go.RowKit
set_option linter.unusedSimpArgs false
set_option linter.unusedVariables false
set_option linter.unusedSectionVars false
abbrev OW := ByteArray × (Sl × List UInt8)
abbrev owCells (c : OW) : List Value := [sv c.1, slv c.2.1]
theorem owCells_len : ∀ x, (owCells x).length = 2 := fun _ => rfl
theorem owCells_one : ∀ x, ∀ u ∈ owCells x, u.oneCell' = true := by intro x u hu; simp [owCells] at hu; rcases hu with rfl | rfl <;> rfl
theorem infoOW : (Tryz.prog.info? 132).map (fun i => (i.zero, i.size, i.bytes)) = some (some (.agg #[.string ⟨#[]⟩, .slice none 0 0]), 2, 40) := by kernel_rfl
theorem undOW : Tryz.prog.underlying 42 = some (.slice 132) := by kernel_rfl
theorem sizeOW : (Tryz.prog.info? 132).map (·.size) = some 2 := by kernel_rfl
/-- Where a name stands, or -1. -/
def atI (l : List OW) (nm : ByteArray) : Int := if isIn strLt l nm then (below strLt l nm : Int) else -1
theorem str_neR {a b : ByteArray} (h : a ≠ b) : (a.toList == b.toList) = false := by rw [beq_eq_false_iff_ne]; exact fun q => h (str_inj _ _ q)
set_option maxRecDepth 20000 in
set_option maxHeartbeats 1000000 in
theorem rdAt_any (w : World) (v : Value) (l : List OW) (nm : ByteArray) (h : RdN 2 owCells w v l) (hr : Rising strLt l) (hl : l.length ≤ 100000) :
    Calls Tryz.prog 70 #[v, sv nm] w fun e w' => e = .returned (.int .i64 (atI l nm)) ∧ Upd [] w w' := by
  obtain ⟨a, cap, rfl, hlc, hcm, hcell⟩ := h
  have hcap : cap ≤ 9223372036854775807 := by unfold maxLen at hcm; omega
  have HC := Lib.hid hcell
  have HR := Lib.hid hr
  clear hcell hr hcm
  go_enter Tryz.func70, Tryz.ntmps70
  go_wp2_with fail
  go_loopw [5] (fun i wr => ∃ k : Nat, k ≤ l.length ∧ i = .int .i64 k ∧ Hid (Upd [] w wr) ∧ Hid (∀ j, j < k → (nth l j).1 ≠ nm)) (fun i _ => l.length - (intOf i).toNat)
  case atStart => exact ⟨0, Nat.zero_le _, rfl, Upd.refl _ _, fun j h => absurd h (by omega)⟩
  case round =>
    obtain ⟨k, hk, rfl, hu, hne⟩ := hrel
    by_cases hlt : k < l.length
    · obtain ⟨b, off, rfl, hc⟩ := HC.out (by intro h; simp [h] at hlt)
      have c0 : wr.cell? ⟨b, off + k * 2, none⟩ = some (.string (nth l k).1) := hu.out.cell (hc k hlt 0 (by omega)) (by simp)
      have HX : Hid (∃ m, (nth l k).1 = m) := ⟨_, rfl⟩
      have HK : Hid ((nth l k).1 = nm → atI l nm = (k : Int)) := fun he => by
        unfold atI
        rw [← he, isIn_at strOrd HR.out k hlt, below_at strOrd HR.out k hlt]; rfl
      have HNE : Hid ((nth l k).1 ≠ nm → ∀ j, j < k + 1 → (nth l j).1 ≠ nm) := fun he j hj => by
        rcases Nat.lt_or_eq_of_le (Nat.le_of_lt_succ hj) with q | q
        · exact hne.out j q
        · subst q; exact he
      clear hc HX hne
      generalize (nth l k).1 = m at *
      have q0 : (0 : Int) ≤ k := by omega
      have q1 : (k : Int) < l.length := by omega
      by_cases he : m = nm
      · have HI := Lib.hid (HK.out he)
        have t1 : (m.toList == nm.toList) = true := by rw [he]; simp
        clear he HK HNE
        go_wp2_with fail
        go_ret
        exact ⟨by rw [HI.out]; rfl, hu.out⟩
      · have HI := Lib.hid (HNE.out he)
        have t1 := str_neR he
        clear he HK HNE
        go_wp2_with fail
        go_roundw
        case rel => exact ⟨k + 1, by omega, by go_num, hu, HI⟩
        case measure => simp [intOf]; omega
    · obtain rfl : k = l.length := by omega
      have HI : Hid (atI l nm = -1) := by
        unfold Hid atI
        rw [if_neg]
        intro hin
        unfold isIn at hin
        obtain ⟨h1, h2⟩ := of_decide_eq_true hin
        exact hne.out _ h1 h2
      clear hne
      go_wp2_with fail
      go_ret
      exact ⟨by rw [HI.out]; rfl, hu.out⟩
end Go.Proofs.YtmhojaiajhdlcaaGreat
namespace Go.Proofs.YtmhojaiajhdlcaaGreat
open Go.RowKit
set_option linter.unusedSimpArgs false
set_option linter.unusedVariables false
theorem ownN_emptyR {α : Type} (sz : Nat) (c : α → List Value) (base : Nat) (e : TypeId) (W : World) (G : Nat) (h : base ≤ G) (hW : Blk W G e []) : OwnN sz c base e W (.slice (some ⟨G, 0, none⟩) 0 0) [] :=
  ⟨by simp, .inr ⟨G, 0, #[], rfl, h, hW, Nat.le_refl _, Nat.zero_le _, by simp, by simp⟩⟩
theorem RdN.takeR {α : Type} [Inhabited α] {sz : Nat} {c : α → List Value} {w : World} {a : Option Addr} {n cap : Nat} {l : List α} (h : RdN sz c w (.slice a n cap) l) (k : Nat) (hk : k ≤ l.length) : RdN sz c w (.slice a k cap) (l.take k) := by
  obtain ⟨a', cap', he, h1, h2, h3⟩ := h
  injection he with e1 e2 e3; subst e1; subst e3
  refine ⟨a, cap, by rw [List.length_take, Nat.min_eq_left hk], by rw [List.length_take]; omega, h2, fun hne => ?_⟩
  obtain ⟨b, off, rfl, hc⟩ := h3 (fun q => hne (by rw [q]; simp))
  exact ⟨b, off, rfl, fun j hj i hi => by rw [List.length_take] at hj; rw [nth_take _ _ _ (by omega)]; exact hc j (by omega) i hi⟩
theorem RdN.dropR {α : Type} [Inhabited α] {sz : Nat} {c : α → List Value} {w : World} {a : Option Addr} {n cap : Nat} {l : List α} (h : RdN sz c w (.slice a n cap) l) (k : Nat) (hk : k ≤ l.length) :
    RdN sz c w (.slice (if cap = k then a else a.map (·.add (k * sz))) (n - k) (cap - k)) (l.drop k) := by
  obtain ⟨a', cap', he, h1, h2, h3⟩ := h
  injection he with e1 e2 e3; subst e1; subst e2; subst e3
  refine ⟨_, _, by rw [List.length_drop], by rw [List.length_drop]; omega, by omega, fun hne => ?_⟩
  have hlt : k < l.length := by
    rcases Nat.lt_or_ge k l.length with q | q
    · exact q
    · exact absurd (List.drop_eq_nil_of_le q) hne
  obtain ⟨b, off, rfl, hc⟩ := h3 (fun q => by rw [q] at hlt; simp at hlt)
  rw [if_neg (by omega)]
  refine ⟨b, off + k * sz, by simp [add_none], fun j hj i hi => ?_⟩
  rw [List.length_drop] at hj
  have := hc (k + j) (by omega) i hi
  rw [nth_drop]
  rw [show off + k * sz + (j * sz + i) = off + ((k + j) * sz + i) by rw [Nat.add_mul]; omega]
  exact this
theorem OwnN.base_leR {α : Type} {sz : Nat} {c : α → List Value} {base base' : Nat} {e : TypeId} {w : World} {v : Value} {l : List α} (h : OwnN sz c base e w v l) (hb : base' ≤ base) : OwnN sz c base' e w v l := by
  obtain ⟨h1, h2⟩ := h
  refine ⟨h1, ?_⟩
  rcases h2 with h2 | ⟨g, cap, cur, rfl, hb', hg, r⟩
  · exact .inl h2
  · exact .inr ⟨g, cap, cur, rfl, by omega, hg, r⟩
/-- A list of files in blocks that nobody writes. -/
structure RL (w : World) (R : List Nat) (v : Value) (l : List OW) : Prop where
  row : RdN 2 owCells w v l
  vR : ∀ x ∈ blk v, x ∈ R
  dat : ∀ c ∈ l, Bytes w (slv c.2.1) c.2.2
  dR : ∀ c ∈ l, ∀ x ∈ blk (slv c.2.1), x ∈ R
  ris : Rising strLt l
theorem RL.upd {w w' : World} {R : List Nat} {v : Value} {l : List OW} (h : RL w R v l) {S : List Nat} (hu : Upd S w w') (hs : ∀ x ∈ R, x ∉ S) : RL w' R v l :=
  ⟨h.row.upd owCells_len hu (fun x hx => hs x (h.vR x hx)), h.vR, fun c hc => (h.dat c hc).upd hu (fun x hx => hs x (h.dR c hc x hx)), h.dR, h.ris⟩
theorem RL.upd0 {w w' : World} {R : List Nat} {v : Value} {l : List OW} (h : RL w R v l) (hu : Upd [] w w') : RL w' R v l := h.upd hu (by simp)
/-- What a raw write gives. -/
def RDoes (w : World) (R : List Nat) (fs' : DF) (e : Ending) (w' : World) : Prop := ∃ v' R' l', e = .returned v' ∧ RL w' R' v' l' ∧ OwnN 2 owCells w.heap.size 132 w' v' l' ∧ dfOf l' = fs' ∧ Upd [] w w' ∧ (∀ x ∈ R, x ∈ R') ∧ (∀ x ∈ R', x ∈ R ∨ (w.heap.size ≤ x ∧ x < w'.heap.size)) ∧ (∀ c ∈ l', c.2.2 ≠ [] → ∀ x ∈ blk (slv c.2.1), x ∉ blk v')
theorem RDoes.later {w w1 w' : World} {R : List Nat} {fs' : DF} {e : Ending} (hu : Upd [] w w1) (h : RDoes w1 R fs' e w') : RDoes w R fs' e w' := by
  obtain ⟨v', R', l', h1, h2, ho, h3, h4, h5, h6, h7⟩ := h
  exact ⟨v', R', l', h1, h2, ho.base_leR hu.size, h3, hu.seq h4, h5, fun x hx => (h6 x hx).imp id (fun q => ⟨by have := hu.size; omega, q.2⟩), h7⟩
/-- Rows in a new block, over the same bytes or new ones. -/
theorem RDoes.of {w w' : World} {R : List Nat} {v : Value} {l : List OW} (h : RL w R v l) {base : Nat} {v' : Value} {l' : List OW} {fs' : DF} {e : Ending} (he : e = .returned v') (ho : OwnN 2 owCells base 132 w' v' l') (hb : w.heap.size ≤ base) (hu : Upd [] w w') (hfs : dfOf l' = fs') (hr : Rising strLt l')
    (hd : ∀ c ∈ l', c ∈ l ∨ (Bytes w' (slv c.2.1) c.2.2 ∧ (∀ x ∈ blk (slv c.2.1), x ∈ R ∨ (w.heap.size ≤ x ∧ x < w'.heap.size)) ∧ (c.2.2 ≠ [] → ∀ x ∈ blk (slv c.2.1), x ∉ blk v'))) : RDoes w R fs' e w' := by
  refine ⟨v', R ++ (blk v' ++ l'.flatMap fun c => (blk (slv c.2.1))), l', he, ⟨ho.rd owCells_len, fun x hx => by simp [hx], fun c hc => ?_, fun c hc x hx => ?_, hr⟩, ho.base_leR hb, hfs, hu, fun x hx => by simp [hx], fun x hx => ?_, fun c hc hne x hx hy => ?_⟩
  · rcases hd c hc with q | q
    · exact (h.dat c q).upd0 hu
    · exact q.1
  · exact List.mem_append.2 (.inr (List.mem_append.2 (.inr (List.mem_flatMap.2 ⟨c, hc, hx⟩))))
  · rcases List.mem_append.1 hx with q | q
    · exact .inl q
    · rcases List.mem_append.1 q with q | q
      · exact .inr ⟨by have := (ho.ge x q).1; omega, (ho.ge x q).2⟩
      · obtain ⟨c, hc, hx'⟩ := List.mem_flatMap.1 q
        rcases hd c hc with r | r
        · exact .inl (h.dR c r x hx')
        · exact r.2.1 x hx'
  · rcases hd c hc with r | r
    · have h1 := (h.dat c r).lt hne x hx
      have h2 := (ho.ge x hy).1
      omega
    · exact r.2.2 hne x hx hy
theorem set_no {l : List OW} {nm : ByteArray} (y : Sl × List UInt8) (h : isIn strLt l nm = false) : tSet strLt l nm y = l.take (below strLt l nm) ++ [(nm, y)] ++ l.drop (below strLt l nm) := by unfold tSet; rw [h]; simp
section
variable {w : World} {R : List Nat} {v : Value} {l : List OW}
set_option maxRecDepth 20000 in
set_option maxHeartbeats 4000000 in
theorem rMade_1 (nm tn : ByteArray) (p : List UInt8) (n : Int) (pa : Option Addr) (pn pk : Nat) (h : RL w R v l) (hl : l.length ≤ 10000) (hin : isIn strLt l nm = false) :
    Calls Tryz.prog 80 #[v, wrv ⟨1, nm, tn, p, n⟩ ⟨pa, pn, pk⟩] w (RDoes w R (tSet strLt (dfOf l) nm [])) := by
  obtain ⟨ao0, co0, rfl, hlc, hcm, -⟩ := h.row
  have hcap : co0 ≤ 9223372036854775807 := by unfold maxLen at hcm; omega
  have HB0 := Lib.hid (Blk.new w 119 [.int .i64 1, sv nm, sv tn, .slice pa pn pk, .int .i64 n])
  have HU0 := Lib.hid ((Upd.refl [] w).alloc (.cells #[.int .i64 1, sv nm, sv tn, .slice pa pn pk, .int .i64 n] 119))
  have H := Lib.hid h
  clear h hcm
  go_enter Tryz.func80, Tryz.ntmps80
  have hb0 : Blk (w.alloc (.cells #[.int .i64 1, sv nm, sv tn, .slice pa pn pk, .int .i64 n] 119)) w.heap.size 119 [.int .i64 1, sv nm, sv tn, .slice pa pn pk, .int .i64 n] := HB0.out
  have HRUN : Hid (∀ ty (W : World) (G : Nat), G = w.heap.size + 1 → W = (w.alloc (.cells #[.int .i64 1, sv nm, sv tn, .slice pa pn pk, .int .i64 n] 119)).alloc (.cells #[] 132) → ∃ v' w', (Builtin.append_ #[42, 42] ty #[.slice (some ⟨G, 0, none⟩) 0 0, .slice ao0 l.length co0]).run Tryz.prog W = .ok v' w' ∧ (OwnN 2 owCells (w.heap.size + 1) 132 w' v' l ∧ Upd [] (w.alloc (.cells #[.int .i64 1, sv nm, sv tn, .slice pa pn pk, .int .i64 n] 119)) w')) := by
    rintro ty W G rfl rfl
    have hs : (w.alloc (.cells #[.int .i64 1, sv nm, sv tn, .slice pa pn pk, .int .i64 n] 119)).heap.size = w.heap.size + 1 := by simp
    have hbk := Blk.new (w.alloc (.cells #[.int .i64 1, sv nm, sv tn, .slice pa pn pk, .int .i64 n] 119)) 132 []
    rw [hs] at hbk
    have hu := (Upd.refl [] (w.alloc (.cells #[.int .i64 1, sv nm, sv tn, .slice pa pn pk, .int .i64 n] 119))).alloc (.cells #[] 132)
    obtain ⟨v', w', h1, h2, h3, h4⟩ := run_appN (P := Tryz.prog) (ty := ty) (base := w.heap.size + 1) owCells_len (by decide) owCells_one undOW infoOW rfl _ (.slice ao0 l.length co0) [] l (ownN_emptyR 2 owCells (w.heap.size + 1) _ _ (w.heap.size + 1) (Nat.le_refl _) hbk) (H.out.row.upd0 owCells_len (HU0.out.seq hu)) (by simp; omega) (by unfold maxLen; simp; omega) (by simp)
    rw [List.nil_append] at h2
    exact ⟨v', w', h1, h2, hu.trans h3 (by simp) (fun y hy => .inr (by simp [blk] at hy; omega))⟩
  clear hb0
  go_wp2_with (at_builtin; go_must (refine wpList_app_of rfl _ _ rfl (.slice (some ⟨w.heap.size + 1, 0, none⟩) 0 0) (.slice ao0 l.length co0) rfl rfl (HRUN.out _ _ _ rfl rfl) ?_; rintro v1 w1 ⟨ho1, hu1⟩; have HO1 := Lib.hid ho1; have HU1 := Lib.hid hu1; obtain ⟨ao, co, rfl, -⟩ := ho1.rd owCells_len; have hb1 := HB0.out.upd hu1 (by simp); have d0 := hb1.cell 0; have d1 := hb1.cell 1; have d2 := hb1.cell 2; have d3 := hb1.cell 3; have d4 := hb1.cell 4; simp only [List.getElem?_cons_zero, List.getElem?_cons_succ] at d0 d1 d2 d3 d4; have HB1 := Lib.hid hb1; clear ho1 hu1 hb1 HRUN; dsimp only))
  (with_reducible refine (rdAt_any w1 _ l nm (HO1.out.rd owCells_len) H.out.ris (by omega)).mono ?_)
  rintro e wq ⟨rfl, huq⟩
  have D1 := Lib.hid (huq.cell d1 (by simp))
  replace d0 := huq.cell d0 (by simp)
  have HOQ := Lib.hid (HO1.out.upd huq (by simp))
  have HUQ := Lib.hid ((HU0.out.seq HU1.out).seq huq)
  generalize atI l nm = ai at *
  obtain ⟨hco, hlco⟩ : co ≤ 9223372036854775807 ∧ l.length ≤ co := by
    obtain ⟨a', k', he, h1, h2, -⟩ := HO1.out.rd owCells_len
    have := (Value.slice.inj he).2.2
    subst this; unfold maxLen at h2; exact ⟨by omega, h1⟩
  have HSQ : Hid (w.heap.size ≤ wq.heap.size) := HUQ.out.size
  have HIN := Lib.hid hin
  clear d1 d2 d3 d4 huq HO1 HU1 HB1 HB0 hin
  go_wp2_with fail
  go_loopw [7] (fun i wr => ∃ k : Nat, k ≤ l.length ∧ i = .int .i64 k ∧ Hid (Upd [] wq wr) ∧ Hid (∀ j, j < k → strLt (nth l j).1 nm = true)) (fun i _ => l.length - (intOf i).toNat)
  case atStart => exact ⟨0, Nat.zero_le _, rfl, Upd.refl _ _, fun j h => absurd h (by omega)⟩
  case round =>
    obtain ⟨k, hk, rfl, hu, hlo⟩ := hrel
    clear d0
    have e1 := hu.out.cell D1.out (by simp)
    by_cases hlt : k < l.length
    · obtain ⟨a', co', he, -, -, hcell⟩ := (HOQ.out.rd owCells_len)
      obtain ⟨lb, loff, e2, hcell⟩ := hcell (by intro h; simp [h] at hlt)
      obtain rfl : ao = some ⟨lb, loff, none⟩ := ((Value.slice.inj he).1).trans e2
      have e3 : wr.cell? ⟨lb, loff + k * 2, none⟩ = some (.string (nth l k).1) := hu.out.cell (hcell k hlt 0 (by omega)) (by simp)
      have q0 : (0 : Int) ≤ k := by omega
      have q1 : (k : Int) < l.length := by omega
      clear he e2 hcell
      cases hcmp : strLt (nth l k).1 nm with
      | true =>
        have HLO : Hid (∀ j, j < k + 1 → strLt (nth l j).1 nm = true) := fun j hj => by
          rcases Nat.lt_or_eq_of_le (Nat.le_of_lt_succ hj) with q | q
          · exact hlo.out j q
          · subst q; exact hcmp
        generalize (nth l k).1 = m at *
        have hc1 := hcmp
        clear hcmp hlo
        go_wp2_with fail
        go_quiet (fail)
        have HU3 := Lib.hid (hu.out.drewN nq)
        generalize wr.drewN nq = w2 at *
        clear hu e1 e3
        go_wp2_with fail
        go_roundw
        case rel => exact ⟨k + 1, by omega, by go_num, HU3, HLO⟩
        case measure => simp [intOf]; omega
      | false =>
        have HAT : Hid (below strLt l nm = k) := below_eq l nm k hk hlo.out (fun _ => hcmp)
        generalize (nth l k).1 = m at *
        have hc1 := hcmp
        clear hcmp hlo
        go_wp2_with fail
        go_quiet (fail)
        have HU3 := Lib.hid (hu.out.drewN nq)
        replace e1 := HU3.out.cell D1.out (by simp)
        generalize wr.drewN nq = w2 at *
        clear hu
        have hb : k ≤ l.length := by omega
        have HR2 := Lib.hid ((HOQ.out.upd HU3.out (by simp)).rd owCells_len)
        have HA1 : Hid (∀ (W : World) (G : Nat), w2.heap.size ≤ G → Upd [] w2 W → Blk W G 132 [] → ∃ v' w', (Builtin.append_ #[42, 42] 42 #[.slice (some ⟨G, 0, none⟩) 0 0, .slice (some ⟨lb, loff, none⟩) k co]).run Tryz.prog W = .ok v' w' ∧ (OwnN 2 owCells w2.heap.size 132 w' v' (l.take k) ∧ Upd [G] W w' ∧ Upd [] w2 w' ∧ ∃ a1 k1, v' = .slice a1 k k1)) := by
          intro W G hG hU hB
          obtain ⟨v', w', h1, h2, h3, h4⟩ := run_appN (P := Tryz.prog) (ty := 42) (base := w2.heap.size) owCells_len (by decide) owCells_one undOW infoOW rfl _ (.slice (some ⟨lb, loff, none⟩) k co) [] (l.take k) (ownN_emptyR 2 owCells _ _ W G hG hB) ((HR2.out.takeR k hb).upd0 owCells_len hU) (by simp; omega) (by unfold maxLen; simp; omega) hU.size
          rw [List.nil_append] at h2
          obtain ⟨a1, k1, h5, _⟩ := h2.rd owCells_len
          exact ⟨v', w', h1, h2, h3, hU.trans h3 (by simp) (fun y hy => .inr (by simp [blk] at hy; omega)), a1, k1, by rw [h5, List.length_take, Nat.min_eq_left hb]⟩
        have HA2 : Hid (∀ (W : World) (a1 : Option Addr) (k1 GR : Nat), OwnN 2 owCells w2.heap.size 132 W (.slice a1 k k1) (l.take k) → Upd [] w2 W → (∀ j u, ([.string nm, .slice none 0 0] : List Value)[j]? = some u → W.cell? ⟨GR, j, none⟩ = some u) → ∃ v' w', (Builtin.append_ #[42, 42] 42 #[.slice a1 k k1, .slice (some ⟨GR, 0, none⟩) 1 1]).run Tryz.prog W = .ok v' w' ∧ (OwnN 2 owCells w2.heap.size 132 w' v' (l.take k ++ [(nm, (⟨none, 0, 0⟩, []))]) ∧ Upd [] w2 w' ∧ ∃ a2 k2, v' = .slice a2 (k + 1) k2)) := by
          intro W a1 k1 GR hO hU hc
          have hr : RdN 2 owCells W (.slice (some ⟨GR, 0, none⟩) 1 1) [(nm, ((⟨none, 0, 0⟩ : Sl), ([] : List UInt8)))] := ⟨_, 1, rfl, by simp, by simp [maxLen], fun _ => ⟨GR, 0, rfl, fun j hj i hi => by
            simp at hj; subst hj
            have hi2 : i = 0 ∨ i = 1 := by omega
            rcases hi2 with rfl | rfl
            · simpa [nth_cons_zero] using hc 0 _ rfl
            · simpa [nth_cons_zero] using hc 1 _ rfl⟩⟩
          obtain ⟨v', w', h1, h2, h3, h4⟩ := run_appN (P := Tryz.prog) (ty := 42) (base := w2.heap.size) owCells_len (by decide) owCells_one undOW infoOW rfl _ _ (l.take k) [(nm, ((⟨none, 0, 0⟩ : Sl), ([] : List UInt8)))] hO hr (by simp; omega) (by unfold maxLen; simp; omega) hU.size
          obtain ⟨a2, k2, h5, _⟩ := h2.rd owCells_len
          exact ⟨v', w', h1, h2, hU.trans h3 (by simp) (fun y hy => .inr (hO.ge y hy).1), a2, k2, by rw [h5, List.length_append, List.length_take, Nat.min_eq_left hb]; rfl⟩
        obtain ⟨D, hD, hcutD⟩ : ∃ D : Option Addr, D = (if co = k then (some ⟨lb, loff, none⟩) else ((some ⟨lb, loff, none⟩) : Option Addr).map (·.add (k * 2))) ∧ ∀ W, (Instr.slice 42 (.slice (some ⟨lb, loff, none⟩) l.length co) (some (.int .i64 ((k : Nat) : Int))) none none).run Tryz.prog W = .ok (.slice D (l.length - k) (co - k)) W := ⟨_, rfl, fun W => run_cut (P := Tryz.prog) undOW sizeOW (some ⟨lb, loff, none⟩) l.length co k hb W⟩
        have HD : Hid (RdN 2 owCells w2 (.slice D (l.length - k) (co - k)) (l.drop k)) := by unfold Hid; rw [hD]; exact HR2.out.dropR k hb
        have HA3 : Hid (∀ (W : World) (a2 : Option Addr) (k2 : Nat), OwnN 2 owCells w2.heap.size 132 W (.slice a2 (k + 1) k2) (l.take k ++ [(nm, ((⟨none, 0, 0⟩ : Sl), ([] : List UInt8)))]) → Upd [] w2 W → ∃ v' w', (Builtin.append_ #[42, 42] 42 #[.slice a2 (k + 1) k2, (.slice D (l.length - k) (co - k))]).run Tryz.prog W = .ok v' w' ∧ (OwnN 2 owCells w2.heap.size 132 w' v' (l.take k ++ [(nm, ((⟨none, 0, 0⟩ : Sl), ([] : List UInt8)))] ++ l.drop k) ∧ Upd [] w2 w' ∧ ∃ a3 n3 k3, v' = .slice a3 n3 k3)) := by
          intro W a2 k2 hO hU
          obtain ⟨v', w', h1, h2, h3, h4⟩ := run_appN (P := Tryz.prog) (ty := 42) (base := w2.heap.size) owCells_len (by decide) owCells_one undOW infoOW rfl _ (.slice D (l.length - k) (co - k)) (l.take k ++ [(nm, ((⟨none, 0, 0⟩ : Sl), ([] : List UInt8)))]) (l.drop k) hO (HD.out.upd0 owCells_len hU) (by simp; omega) (by unfold maxLen; simp; omega) hU.size
          obtain ⟨a3, k3, h5, _⟩ := h2.rd owCells_len
          exact ⟨v', w', h1, h2, hU.trans h3 (by simp) (fun y hy => .inr (hO.ge y hy).1), a3, _, k3, h5⟩
        clear hD
        have hcutA : ∀ W, (Instr.slice 42 (.slice (some ⟨lb, loff, none⟩) l.length co) none (some (.int .i64 ((k : Nat) : Int))) none).run Tryz.prog W = .ok (.slice (some ⟨lb, loff, none⟩) k co) W := fun W => run_cut_h (P := Tryz.prog) undOW sizeOW (some ⟨lb, loff, none⟩) l.length co k (by omega) W
        go_wp2_with fail
        go_region_held3 (fun w' => w'.cell? ⟨w.heap.size, 1, none⟩ = some (sv nm)) (first | go_keep | exact hkeep3 | exact hkeep2 | exact hkeep)
          (first
                | ((refine step_app_of rfl (.tmp 46) (.tmp 49) rfl (.slice a2 (k + 1) k2) (.slice D (l.length - k) (co - k)) (by rfl) (by rfl) (HA3.out _ a2 k2 ?_ ?_) ?_); (refine OwnN.upd (S := []) ho4 ?_ (by simp); (repeat (first | exact Upd.refl _ _ | apply Upd.drew | apply Upd.drewN | apply Upd.alloc))); (refine hu4.seq ?_; (repeat (first | exact Upd.refl _ _ | apply Upd.drew | apply Upd.drewN | apply Upd.alloc))); (rintro v3 w5 ⟨ho5, hu5, a3, n3, k3, rfl⟩; have hkeep3 := hu5.cell e1 (by simp); dsimp only))
                | ((refine step_app_of rfl (.tmp 41) (.tmp 45) rfl (.slice a1 k k1) (.slice (some ⟨w3.heap.size, 0, none⟩) 1 1) (by rfl) (by rfl) (HA2.out _ a1 k1 (w3.heap.size) ?_ ?_ ?_) ?_); (refine OwnN.upd (S := []) ho3 ?_ (by simp); (repeat (first | exact Upd.refl _ _ | apply Upd.drew | apply Upd.drewN | apply Upd.alloc))); (refine hu23.seq ?_; (repeat (first | exact Upd.refl _ _ | apply Upd.drew | apply Upd.drewN | apply Upd.alloc))); exact fun j u h => ((Upd.refl [] _).drew).cell (cells_new (W := w3) rfl rfl j u h) (by simp); (rintro v2 w4 ⟨ho4, hu4, a2, k2, rfl⟩; have hkeep2 := hu4.cell e1 (by simp); dsimp only))
                | ((refine step_app_of rfl (.tmp 41) (.tmp 45) rfl (.slice a1 k k1) (.slice (some ⟨w2.heap.size + 1, 0, none⟩) 1 1) (by rfl) (by rfl) (HA2.out _ a1 k1 (w2.heap.size + 1) ?_ ?_ ?_) ?_); (refine OwnN.upd (S := []) ho3 ?_ (by simp); (repeat (first | exact Upd.refl _ _ | apply Upd.drew | apply Upd.drewN | apply Upd.alloc))); (refine hu23.seq ?_; (repeat (first | exact Upd.refl _ _ | apply Upd.drew | apply Upd.drewN | apply Upd.alloc))); exact fun j u h => ((Upd.refl [] _).drew).cell (hcr j u h) (by simp); (rintro v2 w4 ⟨ho4, hu4, a2, k2, rfl⟩; have hkeep2 := hu4.cell e1 (by simp); dsimp only))
                | ((refine step_app_of rfl (.tmp 41) (.tmp 45) rfl (.slice a1 k k1) (.slice (some ⟨w2.heap.size, 0, none⟩) 1 1) (by rfl) (by rfl) (HA2.out _ a1 k1 (w2.heap.size) ?_ ?_ ?_) ?_); (refine OwnN.upd (S := []) ho3 ?_ (by simp); (repeat (first | exact Upd.refl _ _ | apply Upd.drew | apply Upd.drewN | apply Upd.alloc))); (refine hu23.seq ?_; (repeat (first | exact Upd.refl _ _ | apply Upd.drew | apply Upd.drewN | apply Upd.alloc))); exact fun j u h => ((Upd.refl [] _).drew).cell (hcr j u h) (by simp); (rintro v2 w4 ⟨ho4, hu4, a2, k2, rfl⟩; have hkeep2 := hu4.cell e1 (by simp); dsimp only))
                | ((refine step_app_of rfl (.tmp 37) (.tmp 40) rfl (.slice (some ⟨w2.heap.size, 0, none⟩) 0 0) (.slice (some ⟨lb, loff, none⟩) k co) (by rfl) (by rfl) (HA1.out _ (w2.heap.size) (by omega) ?_ ?_) ?_); (repeat (first | exact Upd.refl _ _ | apply Upd.drew | apply Upd.drewN | apply Upd.alloc)); (refine Blk.fresh (w := w2) (C := #[]) (xs := []) rfl rfl ?_; (repeat (first | exact Upd.refl _ _ | apply Upd.drew | apply Upd.drewN | apply Upd.alloc))); (rintro v1 w3 ⟨ho3, hu3, hu23, a1, k1, rfl⟩; have hkeep := hu23.cell e1 (by simp); have hcr : ∀ j u, ([.string nm, .slice none 0 0] : List Value)[j]? = some u → w3.cell? ⟨w2.heap.size + 1, j, none⟩ = some u := fun j u h => hu3.cell (((Upd.refl [] _).drew).cell (cells_new (W := w2.alloc (Obj.cells #[] 132)) (by simp) rfl j u h) (by simp)) (by simp); dsimp only))
                | ((refine step_app_of rfl (.tmp 37) (.tmp 40) rfl (.slice (some ⟨w2.heap.size, 0, none⟩) 0 0) (.slice (some ⟨lb, loff, none⟩) k co) (by rfl) (by rfl) (HA1.out _ (w2.heap.size) (by omega) ?_ ?_) ?_); (repeat (first | exact Upd.refl _ _ | apply Upd.drew | apply Upd.drewN | apply Upd.alloc)); (refine Blk.fresh (w := w2) (C := #[]) (xs := []) rfl rfl ?_; (repeat (first | exact Upd.refl _ _ | apply Upd.drew | apply Upd.drewN | apply Upd.alloc))); (rintro v1 w3 ⟨ho3, hu3, hu23, a1, k1, rfl⟩; have hkeep := hu23.cell e1 (by simp); dsimp only))
                | ((refine step_app_of rfl (.tmp 37) (.tmp 40) rfl (.slice (some ⟨w2.heap.size + 1, 0, none⟩) 0 0) (.slice (some ⟨lb, loff, none⟩) k co) (by rfl) (by rfl) (HA1.out _ (w2.heap.size + 1) (by omega) ?_ ?_) ?_); (repeat (first | exact Upd.refl _ _ | apply Upd.drew | apply Upd.drewN | apply Upd.alloc)); (refine Blk.fresh (w := w2.alloc (Obj.cells #[.string nm, .slice none 0 0] 132)) (C := #[]) (xs := []) (by simp) rfl ?_; (repeat (first | exact Upd.refl _ _ | apply Upd.drew | apply Upd.drewN | apply Upd.alloc))); (rintro v1 w3 ⟨ho3, hu3, hu23, a1, k1, rfl⟩; have hkeep := hu23.cell e1 (by simp); have hcr : ∀ j u, ([.string nm, .slice none 0 0] : List Value)[j]? = some u → w3.cell? ⟨w2.heap.size, j, none⟩ = some u := fun j u h => hu3.cell ((((Upd.refl [] _).alloc _).drew).cell (cells_new (W := w2) rfl rfl j u h) (by simp)) (by simp); dsimp only)))
        all_goals
          have HO5 := Lib.hid ho5
          have HU5 := Lib.hid hu5
          clear ho5 hu5
          go_wp2_with fail
          go_ret
          have hset := set_no ((⟨none, 0, 0⟩ : Sl), ([] : List UInt8)) HIN.out
          rw [HAT.out] at hset
          refine RDoes.of H.out rfl HO5.out (by have := HU3.out.size; have := HSQ.out; omega) ((HUQ.out.seq HU3.out).seq HU5.out) ?_ ?_ ?_
          · rw [← hset, df_set]
          · rw [← hset]; exact H.out.ris.set_ strOrd _ _
          · intro c hc
            rw [← hset] at hc
            rcases tSet_mem l nm _ c hc with rfl | q
            · exact .inr ⟨Rd.nil _, fun x hx => by simp [blk] at hx, fun h => absurd rfl h⟩
            · exact .inl q
    · have HAT : Hid (below strLt l nm = k) := below_eq l nm k hk hlo.out (fun h => absurd h hlt)
      have hd : decide (k < l.length) = false := decide_eq_false hlt
      have hd2 : ¬ (k : Int) < l.length := by omega
      clear hlo hlt
      go_wp2_with fail
      go_quiet (fail)
      have HU3 := Lib.hid (hu.out.drewN nq)
      replace e1 := HU3.out.cell D1.out (by simp)
      generalize wr.drewN nq = w2 at *
      clear hu
      have hb : k ≤ l.length := by omega
      have HR2 := Lib.hid ((HOQ.out.upd HU3.out (by simp)).rd owCells_len)
      have HA1 : Hid (∀ (W : World) (G : Nat), w2.heap.size ≤ G → Upd [] w2 W → Blk W G 132 [] → ∃ v' w', (Builtin.append_ #[42, 42] 42 #[.slice (some ⟨G, 0, none⟩) 0 0, .slice ao k co]).run Tryz.prog W = .ok v' w' ∧ (OwnN 2 owCells w2.heap.size 132 w' v' (l.take k) ∧ Upd [G] W w' ∧ Upd [] w2 w' ∧ ∃ a1 k1, v' = .slice a1 k k1)) := by
        intro W G hG hU hB
        obtain ⟨v', w', h1, h2, h3, h4⟩ := run_appN (P := Tryz.prog) (ty := 42) (base := w2.heap.size) owCells_len (by decide) owCells_one undOW infoOW rfl _ (.slice ao k co) [] (l.take k) (ownN_emptyR 2 owCells _ _ W G hG hB) ((HR2.out.takeR k hb).upd0 owCells_len hU) (by simp; omega) (by unfold maxLen; simp; omega) hU.size
        rw [List.nil_append] at h2
        obtain ⟨a1, k1, h5, _⟩ := h2.rd owCells_len
        exact ⟨v', w', h1, h2, h3, hU.trans h3 (by simp) (fun y hy => .inr (by simp [blk] at hy; omega)), a1, k1, by rw [h5, List.length_take, Nat.min_eq_left hb]⟩
      have HA2 : Hid (∀ (W : World) (a1 : Option Addr) (k1 GR : Nat), OwnN 2 owCells w2.heap.size 132 W (.slice a1 k k1) (l.take k) → Upd [] w2 W → (∀ j u, ([.string nm, .slice none 0 0] : List Value)[j]? = some u → W.cell? ⟨GR, j, none⟩ = some u) → ∃ v' w', (Builtin.append_ #[42, 42] 42 #[.slice a1 k k1, .slice (some ⟨GR, 0, none⟩) 1 1]).run Tryz.prog W = .ok v' w' ∧ (OwnN 2 owCells w2.heap.size 132 w' v' (l.take k ++ [(nm, (⟨none, 0, 0⟩, []))]) ∧ Upd [] w2 w' ∧ ∃ a2 k2, v' = .slice a2 (k + 1) k2)) := by
        intro W a1 k1 GR hO hU hc
        have hr : RdN 2 owCells W (.slice (some ⟨GR, 0, none⟩) 1 1) [(nm, ((⟨none, 0, 0⟩ : Sl), ([] : List UInt8)))] := ⟨_, 1, rfl, by simp, by simp [maxLen], fun _ => ⟨GR, 0, rfl, fun j hj i hi => by
          simp at hj; subst hj
          have hi2 : i = 0 ∨ i = 1 := by omega
          rcases hi2 with rfl | rfl
          · simpa [nth_cons_zero] using hc 0 _ rfl
          · simpa [nth_cons_zero] using hc 1 _ rfl⟩⟩
        obtain ⟨v', w', h1, h2, h3, h4⟩ := run_appN (P := Tryz.prog) (ty := 42) (base := w2.heap.size) owCells_len (by decide) owCells_one undOW infoOW rfl _ _ (l.take k) [(nm, ((⟨none, 0, 0⟩ : Sl), ([] : List UInt8)))] hO hr (by simp; omega) (by unfold maxLen; simp; omega) hU.size
        obtain ⟨a2, k2, h5, _⟩ := h2.rd owCells_len
        exact ⟨v', w', h1, h2, hU.trans h3 (by simp) (fun y hy => .inr (hO.ge y hy).1), a2, k2, by rw [h5, List.length_append, List.length_take, Nat.min_eq_left hb]; rfl⟩
      obtain ⟨D, hD, hcutD⟩ : ∃ D : Option Addr, D = (if co = k then ao else (ao : Option Addr).map (·.add (k * 2))) ∧ ∀ W, (Instr.slice 42 (.slice ao l.length co) (some (.int .i64 ((k : Nat) : Int))) none none).run Tryz.prog W = .ok (.slice D (l.length - k) (co - k)) W := ⟨_, rfl, fun W => run_cut (P := Tryz.prog) undOW sizeOW ao l.length co k hb W⟩
      have HD : Hid (RdN 2 owCells w2 (.slice D (l.length - k) (co - k)) (l.drop k)) := by unfold Hid; rw [hD]; exact HR2.out.dropR k hb
      have HA3 : Hid (∀ (W : World) (a2 : Option Addr) (k2 : Nat), OwnN 2 owCells w2.heap.size 132 W (.slice a2 (k + 1) k2) (l.take k ++ [(nm, ((⟨none, 0, 0⟩ : Sl), ([] : List UInt8)))]) → Upd [] w2 W → ∃ v' w', (Builtin.append_ #[42, 42] 42 #[.slice a2 (k + 1) k2, (.slice D (l.length - k) (co - k))]).run Tryz.prog W = .ok v' w' ∧ (OwnN 2 owCells w2.heap.size 132 w' v' (l.take k ++ [(nm, ((⟨none, 0, 0⟩ : Sl), ([] : List UInt8)))] ++ l.drop k) ∧ Upd [] w2 w' ∧ ∃ a3 n3 k3, v' = .slice a3 n3 k3)) := by
        intro W a2 k2 hO hU
        obtain ⟨v', w', h1, h2, h3, h4⟩ := run_appN (P := Tryz.prog) (ty := 42) (base := w2.heap.size) owCells_len (by decide) owCells_one undOW infoOW rfl _ (.slice D (l.length - k) (co - k)) (l.take k ++ [(nm, ((⟨none, 0, 0⟩ : Sl), ([] : List UInt8)))]) (l.drop k) hO (HD.out.upd0 owCells_len hU) (by simp; omega) (by unfold maxLen; simp; omega) hU.size
        obtain ⟨a3, k3, h5, _⟩ := h2.rd owCells_len
        exact ⟨v', w', h1, h2, hU.trans h3 (by simp) (fun y hy => .inr (hO.ge y hy).1), a3, _, k3, h5⟩
      clear hD
      have hcutA : ∀ W, (Instr.slice 42 (.slice ao l.length co) none (some (.int .i64 ((k : Nat) : Int))) none).run Tryz.prog W = .ok (.slice ao k co) W := fun W => run_cut_h (P := Tryz.prog) undOW sizeOW ao l.length co k (by omega) W
      go_wp2_with fail
      go_region_held3 (fun w' => w'.cell? ⟨w.heap.size, 1, none⟩ = some (sv nm)) (first | go_keep | exact hkeep3 | exact hkeep2 | exact hkeep)
        (first
              | ((refine step_app_of rfl (.tmp 46) (.tmp 49) rfl (.slice a2 (k + 1) k2) (.slice D (l.length - k) (co - k)) (by rfl) (by rfl) (HA3.out _ a2 k2 ?_ ?_) ?_); (refine OwnN.upd (S := []) ho4 ?_ (by simp); (repeat (first | exact Upd.refl _ _ | apply Upd.drew | apply Upd.drewN | apply Upd.alloc))); (refine hu4.seq ?_; (repeat (first | exact Upd.refl _ _ | apply Upd.drew | apply Upd.drewN | apply Upd.alloc))); (rintro v3 w5 ⟨ho5, hu5, a3, n3, k3, rfl⟩; have hkeep3 := hu5.cell e1 (by simp); dsimp only))
              | ((refine step_app_of rfl (.tmp 41) (.tmp 45) rfl (.slice a1 k k1) (.slice (some ⟨w3.heap.size, 0, none⟩) 1 1) (by rfl) (by rfl) (HA2.out _ a1 k1 (w3.heap.size) ?_ ?_ ?_) ?_); (refine OwnN.upd (S := []) ho3 ?_ (by simp); (repeat (first | exact Upd.refl _ _ | apply Upd.drew | apply Upd.drewN | apply Upd.alloc))); (refine hu23.seq ?_; (repeat (first | exact Upd.refl _ _ | apply Upd.drew | apply Upd.drewN | apply Upd.alloc))); exact fun j u h => ((Upd.refl [] _).drew).cell (cells_new (W := w3) rfl rfl j u h) (by simp); (rintro v2 w4 ⟨ho4, hu4, a2, k2, rfl⟩; have hkeep2 := hu4.cell e1 (by simp); dsimp only))
              | ((refine step_app_of rfl (.tmp 41) (.tmp 45) rfl (.slice a1 k k1) (.slice (some ⟨w2.heap.size + 1, 0, none⟩) 1 1) (by rfl) (by rfl) (HA2.out _ a1 k1 (w2.heap.size + 1) ?_ ?_ ?_) ?_); (refine OwnN.upd (S := []) ho3 ?_ (by simp); (repeat (first | exact Upd.refl _ _ | apply Upd.drew | apply Upd.drewN | apply Upd.alloc))); (refine hu23.seq ?_; (repeat (first | exact Upd.refl _ _ | apply Upd.drew | apply Upd.drewN | apply Upd.alloc))); exact fun j u h => ((Upd.refl [] _).drew).cell (hcr j u h) (by simp); (rintro v2 w4 ⟨ho4, hu4, a2, k2, rfl⟩; have hkeep2 := hu4.cell e1 (by simp); dsimp only))
              | ((refine step_app_of rfl (.tmp 41) (.tmp 45) rfl (.slice a1 k k1) (.slice (some ⟨w2.heap.size, 0, none⟩) 1 1) (by rfl) (by rfl) (HA2.out _ a1 k1 (w2.heap.size) ?_ ?_ ?_) ?_); (refine OwnN.upd (S := []) ho3 ?_ (by simp); (repeat (first | exact Upd.refl _ _ | apply Upd.drew | apply Upd.drewN | apply Upd.alloc))); (refine hu23.seq ?_; (repeat (first | exact Upd.refl _ _ | apply Upd.drew | apply Upd.drewN | apply Upd.alloc))); exact fun j u h => ((Upd.refl [] _).drew).cell (hcr j u h) (by simp); (rintro v2 w4 ⟨ho4, hu4, a2, k2, rfl⟩; have hkeep2 := hu4.cell e1 (by simp); dsimp only))
              | ((refine step_app_of rfl (.tmp 37) (.tmp 40) rfl (.slice (some ⟨w2.heap.size, 0, none⟩) 0 0) (.slice ao k co) (by rfl) (by rfl) (HA1.out _ (w2.heap.size) (by omega) ?_ ?_) ?_); (repeat (first | exact Upd.refl _ _ | apply Upd.drew | apply Upd.drewN | apply Upd.alloc)); (refine Blk.fresh (w := w2) (C := #[]) (xs := []) rfl rfl ?_; (repeat (first | exact Upd.refl _ _ | apply Upd.drew | apply Upd.drewN | apply Upd.alloc))); (rintro v1 w3 ⟨ho3, hu3, hu23, a1, k1, rfl⟩; have hkeep := hu23.cell e1 (by simp); have hcr : ∀ j u, ([.string nm, .slice none 0 0] : List Value)[j]? = some u → w3.cell? ⟨w2.heap.size + 1, j, none⟩ = some u := fun j u h => hu3.cell (((Upd.refl [] _).drew).cell (cells_new (W := w2.alloc (Obj.cells #[] 132)) (by simp) rfl j u h) (by simp)) (by simp); dsimp only))
              | ((refine step_app_of rfl (.tmp 37) (.tmp 40) rfl (.slice (some ⟨w2.heap.size, 0, none⟩) 0 0) (.slice ao k co) (by rfl) (by rfl) (HA1.out _ (w2.heap.size) (by omega) ?_ ?_) ?_); (repeat (first | exact Upd.refl _ _ | apply Upd.drew | apply Upd.drewN | apply Upd.alloc)); (refine Blk.fresh (w := w2) (C := #[]) (xs := []) rfl rfl ?_; (repeat (first | exact Upd.refl _ _ | apply Upd.drew | apply Upd.drewN | apply Upd.alloc))); (rintro v1 w3 ⟨ho3, hu3, hu23, a1, k1, rfl⟩; have hkeep := hu23.cell e1 (by simp); dsimp only))
              | ((refine step_app_of rfl (.tmp 37) (.tmp 40) rfl (.slice (some ⟨w2.heap.size + 1, 0, none⟩) 0 0) (.slice ao k co) (by rfl) (by rfl) (HA1.out _ (w2.heap.size + 1) (by omega) ?_ ?_) ?_); (repeat (first | exact Upd.refl _ _ | apply Upd.drew | apply Upd.drewN | apply Upd.alloc)); (refine Blk.fresh (w := w2.alloc (Obj.cells #[.string nm, .slice none 0 0] 132)) (C := #[]) (xs := []) (by simp) rfl ?_; (repeat (first | exact Upd.refl _ _ | apply Upd.drew | apply Upd.drewN | apply Upd.alloc))); (rintro v1 w3 ⟨ho3, hu3, hu23, a1, k1, rfl⟩; have hkeep := hu23.cell e1 (by simp); have hcr : ∀ j u, ([.string nm, .slice none 0 0] : List Value)[j]? = some u → w3.cell? ⟨w2.heap.size, j, none⟩ = some u := fun j u h => hu3.cell ((((Upd.refl [] _).alloc _).drew).cell (cells_new (W := w2) rfl rfl j u h) (by simp)) (by simp); dsimp only)))
      all_goals
        have HO5 := Lib.hid ho5
        have HU5 := Lib.hid hu5
        clear ho5 hu5
        go_wp2_with fail
        go_ret
        have hset := set_no ((⟨none, 0, 0⟩ : Sl), ([] : List UInt8)) HIN.out
        rw [HAT.out] at hset
        refine RDoes.of H.out rfl HO5.out (by have := HU3.out.size; have := HSQ.out; omega) ((HUQ.out.seq HU3.out).seq HU5.out) ?_ ?_ ?_
        · rw [← hset, df_set]
        · rw [← hset]; exact H.out.ris.set_ strOrd _ _
        · intro c hc
          rw [← hset] at hc
          rcases tSet_mem l nm _ c hc with rfl | q
          · exact .inr ⟨Rd.nil _, fun x hx => by simp [blk] at hx, fun h => absurd rfl h⟩
          · exact .inl q
set_option maxRecDepth 20000 in
set_option maxHeartbeats 4000000 in
theorem rMade_5 (nm tn : ByteArray) (p : List UInt8) (n : Int) (pa : Option Addr) (pn pk : Nat) (h : RL w R v l) (hl : l.length ≤ 10000) (hin : isIn strLt l nm = true) :
    Calls Tryz.prog 80 #[v, wrv ⟨5, nm, tn, p, n⟩ ⟨pa, pn, pk⟩] w (RDoes w R (tDel strLt (dfOf l) nm)) := by
  obtain ⟨ao0, co0, rfl, hlc, hcm, -⟩ := h.row
  have hcap : co0 ≤ 9223372036854775807 := by unfold maxLen at hcm; omega
  have HB0 := Lib.hid (Blk.new w 119 [.int .i64 5, sv nm, sv tn, .slice pa pn pk, .int .i64 n])
  have HU0 := Lib.hid ((Upd.refl [] w).alloc (.cells #[.int .i64 5, sv nm, sv tn, .slice pa pn pk, .int .i64 n] 119))
  have H := Lib.hid h
  clear h hcm
  go_enter Tryz.func80, Tryz.ntmps80
  have hb0 : Blk (w.alloc (.cells #[.int .i64 5, sv nm, sv tn, .slice pa pn pk, .int .i64 n] 119)) w.heap.size 119 [.int .i64 5, sv nm, sv tn, .slice pa pn pk, .int .i64 n] := HB0.out
  have HRUN : Hid (∀ ty (W : World) (G : Nat), G = w.heap.size + 1 → W = (w.alloc (.cells #[.int .i64 5, sv nm, sv tn, .slice pa pn pk, .int .i64 n] 119)).alloc (.cells #[] 132) → ∃ v' w', (Builtin.append_ #[42, 42] ty #[.slice (some ⟨G, 0, none⟩) 0 0, .slice ao0 l.length co0]).run Tryz.prog W = .ok v' w' ∧ (OwnN 2 owCells (w.heap.size + 1) 132 w' v' l ∧ Upd [] (w.alloc (.cells #[.int .i64 5, sv nm, sv tn, .slice pa pn pk, .int .i64 n] 119)) w')) := by
    rintro ty W G rfl rfl
    have hs : (w.alloc (.cells #[.int .i64 5, sv nm, sv tn, .slice pa pn pk, .int .i64 n] 119)).heap.size = w.heap.size + 1 := by simp
    have hbk := Blk.new (w.alloc (.cells #[.int .i64 5, sv nm, sv tn, .slice pa pn pk, .int .i64 n] 119)) 132 []
    rw [hs] at hbk
    have hu := (Upd.refl [] (w.alloc (.cells #[.int .i64 5, sv nm, sv tn, .slice pa pn pk, .int .i64 n] 119))).alloc (.cells #[] 132)
    obtain ⟨v', w', h1, h2, h3, h4⟩ := run_appN (P := Tryz.prog) (ty := ty) (base := w.heap.size + 1) owCells_len (by decide) owCells_one undOW infoOW rfl _ (.slice ao0 l.length co0) [] l (ownN_emptyR 2 owCells (w.heap.size + 1) _ _ (w.heap.size + 1) (Nat.le_refl _) hbk) (H.out.row.upd0 owCells_len (HU0.out.seq hu)) (by simp; omega) (by unfold maxLen; simp; omega) (by simp)
    rw [List.nil_append] at h2
    exact ⟨v', w', h1, h2, hu.trans h3 (by simp) (fun y hy => .inr (by simp [blk] at hy; omega))⟩
  clear hb0
  go_wp2_with (at_builtin; go_must (refine wpList_app_of rfl _ _ rfl (.slice (some ⟨w.heap.size + 1, 0, none⟩) 0 0) (.slice ao0 l.length co0) rfl rfl (HRUN.out _ _ _ rfl rfl) ?_; rintro v1 w1 ⟨ho1, hu1⟩; have HO1 := Lib.hid ho1; have HU1 := Lib.hid hu1; obtain ⟨ao, co, rfl, -⟩ := ho1.rd owCells_len; have hb1 := HB0.out.upd hu1 (by simp); have d0 := hb1.cell 0; have d1 := hb1.cell 1; have d2 := hb1.cell 2; have d3 := hb1.cell 3; have d4 := hb1.cell 4; simp only [List.getElem?_cons_zero, List.getElem?_cons_succ] at d0 d1 d2 d3 d4; have HB1 := Lib.hid hb1; clear ho1 hu1 hb1 HRUN; dsimp only))
  (with_reducible refine (rdAt_any w1 _ l nm (HO1.out.rd owCells_len) H.out.ris (by omega)).mono ?_)
  rintro e wq ⟨rfl, huq⟩
  have D1 := Lib.hid (huq.cell d1 (by simp))
  have D2 := Lib.hid (huq.cell d2 (by simp))
  have D3 := Lib.hid (huq.cell d3 (by simp))
  have D4 := Lib.hid (huq.cell d4 (by simp))
  replace d0 := huq.cell d0 (by simp)
  have HOQ := Lib.hid (HO1.out.upd huq (by simp))
  have HUQ := Lib.hid ((HU0.out.seq HU1.out).seq huq)
  have hin' : isIn strLt l nm = true := hin
  unfold isIn at hin'
  obtain ⟨hkl, hkn⟩ := of_decide_eq_true hin'
  have hai : atI l nm = (below strLt l nm : Int) := by unfold atI; rw [hin]; rfl
  rw [hai]
  have HKN := Lib.hid hkn
  have HDEL : Hid (tDel strLt l nm = l.take (below strLt l nm) ++ l.drop (below strLt l nm + 1)) := by unfold Hid tDel; rw [hin]; rfl
  obtain ⟨k, hk⟩ : ∃ k, below strLt l nm = k := ⟨_, rfl⟩
  have HK := Lib.hid hk
  rw [hk] at hkl ⊢
  obtain ⟨hco, hlco⟩ : co ≤ 9223372036854775807 ∧ l.length ≤ co := by
    obtain ⟨a', k', he, h1, h2, -⟩ := HO1.out.rd owCells_len
    have := (Value.slice.inj he).2.2
    subst this; unfold maxLen at h2; exact ⟨by omega, h1⟩
  have HSQ : Hid (w.heap.size ≤ wq.heap.size) := HUQ.out.size
  have HIN := Lib.hid hin
  have p0 : (0 : Int) ≤ k := by omega
  have p1 : (k : Int) < l.length := by omega
  have p2 : (k : Int) + 1 ≤ l.length := by omega
  have p3 : (0 : Int) ≤ (k : Int) + 1 := by omega
  have hwr : IntKind.i64.wrap ((k : Int) + 1) = (k : Int) + 1 := by rw [IntKind.wrap_i64]; omega
  clear d1 d2 d3 d4 huq HO1 HU1 HB1 HB0 hin hin' hkn hai hk
  have HR2 := Lib.hid (HOQ.out.rd owCells_len)
  generalize wq = w2 at *
  have hb : k ≤ l.length := by omega
  have HA1 : Hid (∀ (W : World) (G : Nat), w2.heap.size ≤ G → Upd [] w2 W → Blk W G 132 [] → ∃ v' w', (Builtin.append_ #[42, 42] 42 #[.slice (some ⟨G, 0, none⟩) 0 0, .slice ao k co]).run Tryz.prog W = .ok v' w' ∧ (OwnN 2 owCells w2.heap.size 132 w' v' (l.take k) ∧ Upd [G] W w' ∧ Upd [] w2 w' ∧ ∃ a1 k1, v' = .slice a1 k k1)) := by
    intro W G hG hU hB
    obtain ⟨v', w', h1, h2, h3, h4⟩ := run_appN (P := Tryz.prog) (ty := 42) (base := w2.heap.size) owCells_len (by decide) owCells_one undOW infoOW rfl _ (.slice ao k co) [] (l.take k) (ownN_emptyR 2 owCells _ _ W G hG hB) ((HR2.out.takeR k hb).upd0 owCells_len hU) (by simp; omega) (by unfold maxLen; simp; omega) hU.size
    rw [List.nil_append] at h2
    obtain ⟨a1, k1, h5, _⟩ := h2.rd owCells_len
    exact ⟨v', w', h1, h2, h3, hU.trans h3 (by simp) (fun y hy => .inr (by simp [blk] at hy; omega)), a1, k1, by rw [h5, List.length_take, Nat.min_eq_left hb]⟩
  obtain ⟨D, hD, hcutD⟩ : ∃ D : Option Addr, D = (if co = k + 1 then ao else ao.map (·.add ((k + 1) * 2))) ∧ ∀ W, (Instr.slice 42 (.slice ao l.length co) (some (.int .i64 ((k : Int) + 1))) none none).run Tryz.prog W = .ok (.slice D (l.length - (k + 1)) (co - (k + 1))) W := ⟨_, rfl, fun W => by have h := run_cut (P := Tryz.prog) undOW sizeOW ao l.length co (k + 1) (by omega) W; simpa using h⟩
  have HD : Hid (RdN 2 owCells w2 (.slice D (l.length - (k + 1)) (co - (k + 1))) (l.drop (k + 1))) := by unfold Hid; rw [hD]; exact HR2.out.dropR (k + 1) (by omega)
  have HA3 : Hid (∀ (W : World) (a2 : Option Addr) (k2 : Nat), OwnN 2 owCells w2.heap.size 132 W (.slice a2 (k) k2) (l.take k) → Upd [] w2 W → ∃ v' w', (Builtin.append_ #[42, 42] 42 #[.slice a2 (k) k2, (.slice D (l.length - (k + 1)) (co - (k + 1)))]).run Tryz.prog W = .ok v' w' ∧ (OwnN 2 owCells w2.heap.size 132 w' v' (l.take k ++ l.drop (k + 1)) ∧ Upd [] w2 w' ∧ ∃ a3 n3 k3, v' = .slice a3 n3 k3)) := by
    intro W a2 k2 hO hU
    obtain ⟨v', w', h1, h2, h3, h4⟩ := run_appN (P := Tryz.prog) (ty := 42) (base := w2.heap.size) owCells_len (by decide) owCells_one undOW infoOW rfl _ (.slice D (l.length - (k + 1)) (co - (k + 1))) (l.take k) (l.drop (k + 1)) hO (HD.out.upd0 owCells_len hU) (by simp; omega) (by unfold maxLen; simp; omega) hU.size
    obtain ⟨a3, k3, h5, _⟩ := h2.rd owCells_len
    exact ⟨v', w', h1, h2, hU.trans h3 (by simp) (fun y hy => .inr (hO.ge y hy).1), a3, _, k3, h5⟩
  clear hD
  have hcutA : ∀ W, (Instr.slice 42 (.slice ao l.length co) none (some (.int .i64 (k : Int))) none).run Tryz.prog W = .ok (.slice ao k co) W := fun W => run_cut_h (P := Tryz.prog) undOW sizeOW ao l.length co k (by omega) W
  go_wp2_with fail
  go_region_held3 (fun w' => True) (trivial) (first
        | ((refine step_app_of rfl (.tmp 126) (.tmp 130) rfl (.slice a1 k k1) (.slice D (l.length - (k + 1)) (co - (k + 1))) (by rfl) (by rfl) (HA3.out _ a1 k1 ?_ ?_) ?_); (refine OwnN.upd (S := []) ho3 ?_ (by simp); (repeat (first | exact Upd.refl _ _ | apply Upd.drew | apply Upd.drewN | apply Upd.alloc))); (refine hu23.seq ?_; (repeat (first | exact Upd.refl _ _ | apply Upd.drew | apply Upd.drewN | apply Upd.alloc))); (rintro v3 w5 ⟨ho5, hu5, a3, n3, k3, rfl⟩; skip; dsimp only))
        | ((refine step_app_of rfl (.tmp 122) (.tmp 125) rfl (.slice (some ⟨w2.heap.size, 0, none⟩) 0 0) (.slice ao k co) (by rfl) (by rfl) (HA1.out _ (w2.heap.size) (by omega) ?_ ?_) ?_); (repeat (first | exact Upd.refl _ _ | apply Upd.drew | apply Upd.drewN | apply Upd.alloc)); (refine Blk.fresh (w := w2) (C := #[]) (xs := []) rfl rfl ?_; (repeat (first | exact Upd.refl _ _ | apply Upd.drew | apply Upd.drewN | apply Upd.alloc))); (rintro v1 w3 ⟨ho3, hu3, hu23, a1, k1, rfl⟩; skip; dsimp only)))
  have HO5 := Lib.hid ho5
  have HU5 := Lib.hid hu5
  clear ho5 hu5
  go_wp2_with fail
  go_ret
  have hset := HDEL.out
  rw [HK.out] at hset
  refine RDoes.of H.out rfl HO5.out HSQ.out (HUQ.out.seq HU5.out) ?_ ?_ ?_
  · rw [← hset, df_del]
  · rw [← hset]; exact H.out.ris.del strOrd _
  · intro c hc
    rw [← hset] at hc
    exact .inl (tDel_mem l nm c hc)
end
end Go.Proofs.YtmhojaiajhdlcaaGreat
namespace Go.Proofs.YtmhojaiajhdlcaaGreat
open Go.RowKit
set_option linter.unusedSimpArgs false
set_option linter.unusedVariables false
theorem OwnN.frozenR {α : Type} {sz : Nat} {c : α → List Value} {base : Nat} {e : TypeId} {w : World} {g n cap : Nat} {l : List α} (h : OwnN sz c base e w (.slice (some ⟨g, 0, none⟩) n cap) l) (k : Nat) : w.frozen? ⟨g, k, none⟩ = false := by
  obtain ⟨h1, h2⟩ := h
  rcases h2 with ⟨he, _⟩ | ⟨g', cap', cur, he, hb, hg, hc, hm, hs, ht⟩
  · simp at he
  · injection he with e1 e2 e3
    injection e1 with e1; injection e1 with e1
    subst e1
    exact frozen_of_row w g k cur e hg
theorem OwnN.cellR {α : Type} [Inhabited α] {sz : Nat} {c : α → List Value} {base : Nat} {e : TypeId} {w : World} {g n cap : Nat} {l : List α} (hsz : ∀ x, (c x).length = sz) (h : OwnN sz c base e w (.slice (some ⟨g, 0, none⟩) n cap) l) (j i : Nat) (hj : j < l.length) (hi : i < sz) : w.cell? ⟨g, j * sz + i, none⟩ = (c (nth l j))[i]? := by
  obtain ⟨a', cap', he, _, _, h3⟩ := h.rd hsz
  obtain ⟨b, off, hb, hc⟩ := h3 (fun q => by rw [q] at hj; simp at hj)
  have e1 : some (⟨g, 0, none⟩ : Addr) = a' := (Value.slice.inj he).1
  have e2 := Option.some.inj (e1.trans hb)
  injection e2 with e2 e3
  subst e2; subst e3
  have := hc j hj i hi
  rwa [Nat.zero_add] at this
theorem OwnN.addrR {α : Type} {sz : Nat} {c : α → List Value} {base : Nat} {e : TypeId} {w : World} {ao : Option Addr} {n cap : Nat} {l : List α} (h : OwnN sz c base e w (.slice ao n cap) l) (hne : 0 < l.length) (hn : n = l.length) : ∃ g, ao = some ⟨g, 0, none⟩ ∧ base ≤ g ∧ g < w.heap.size ∧ ∃ C f, w.heap[g]? = some (.cells C e f) := by
  rcases h.2 with ⟨he, h0⟩ | ⟨g, cap', cur, he, hb, hg, hc, hm, hs, ht⟩
  · omega
  · exact ⟨g, (Value.slice.inj he).1, hb, (Array.getElem?_eq_some_iff.1 hg).1, _, _, hg⟩
theorem own_emptyR (base : Nat) (W : World) (G : Nat) (h : base ≤ G) (hW : Blk W G 5 []) : Own bv base 5 W (.slice (some ⟨G, 0, none⟩) 0 0) [] :=
  ⟨by simp, .inr ⟨G, 0, #[], rfl, h, hW, Nat.le_refl _, Nat.zero_le _, by simp, by simp⟩⟩
theorem set_yes {l : List OW} {nm : ByteArray} (y : Sl × List UInt8) (k : Nat) (h : isIn strLt l nm = true) (hk : below strLt l nm = k) (hn : (nth l (below strLt l nm)).1 = nm) : tSet strLt l nm y = l.set k (nm, y) := by rw [tSet_in l nm y h, hn, hk]
section
variable {w : World} {R : List Nat} {v : Value} {l : List OW}
set_option maxRecDepth 20000 in
set_option maxHeartbeats 4000000 in
theorem rMade_4 (nm tn : ByteArray) (p : List UInt8) (m : Nat) (pa : Option Addr) (pn pk : Nat) (h : RL w R v l) (hl : l.length ≤ 10000) (hin : isIn strLt l nm = true) (old0 : List UInt8) (hold0 : (nth l (below strLt l nm)).2.2 = old0) (hm : m ≤ old0.length) (hsz : old0.length ≤ 100000000) :
    Calls Tryz.prog 80 #[v, wrv ⟨4, nm, tn, p, (m : Int)⟩ ⟨pa, pn, pk⟩] w (RDoes w R (tSet strLt (dfOf l) nm (old0.take m))) := by
  obtain ⟨ao0, co0, rfl, hlc, hcm, -⟩ := h.row
  have hcap : co0 ≤ 9223372036854775807 := by unfold maxLen at hcm; omega
  have HB0 := Lib.hid (Blk.new w 119 [.int .i64 4, sv nm, sv tn, .slice pa pn pk, .int .i64 (m : Int)])
  have HU0 := Lib.hid ((Upd.refl [] w).alloc (.cells #[.int .i64 4, sv nm, sv tn, .slice pa pn pk, .int .i64 (m : Int)] 119))
  have H := Lib.hid h
  clear h hcm
  go_enter Tryz.func80, Tryz.ntmps80
  have hb0 : Blk (w.alloc (.cells #[.int .i64 4, sv nm, sv tn, .slice pa pn pk, .int .i64 (m : Int)] 119)) w.heap.size 119 [.int .i64 4, sv nm, sv tn, .slice pa pn pk, .int .i64 (m : Int)] := HB0.out
  have HRUN : Hid (∀ ty (W : World) (G : Nat), G = w.heap.size + 1 → W = (w.alloc (.cells #[.int .i64 4, sv nm, sv tn, .slice pa pn pk, .int .i64 (m : Int)] 119)).alloc (.cells #[] 132) → ∃ v' w', (Builtin.append_ #[42, 42] ty #[.slice (some ⟨G, 0, none⟩) 0 0, .slice ao0 l.length co0]).run Tryz.prog W = .ok v' w' ∧ (OwnN 2 owCells (w.heap.size + 1) 132 w' v' l ∧ Upd [] (w.alloc (.cells #[.int .i64 4, sv nm, sv tn, .slice pa pn pk, .int .i64 (m : Int)] 119)) w')) := by
    rintro ty W G rfl rfl
    have hs : (w.alloc (.cells #[.int .i64 4, sv nm, sv tn, .slice pa pn pk, .int .i64 (m : Int)] 119)).heap.size = w.heap.size + 1 := by simp
    have hbk := Blk.new (w.alloc (.cells #[.int .i64 4, sv nm, sv tn, .slice pa pn pk, .int .i64 (m : Int)] 119)) 132 []
    rw [hs] at hbk
    have hu := (Upd.refl [] (w.alloc (.cells #[.int .i64 4, sv nm, sv tn, .slice pa pn pk, .int .i64 (m : Int)] 119))).alloc (.cells #[] 132)
    obtain ⟨v', w', h1, h2, h3, h4⟩ := run_appN (P := Tryz.prog) (ty := ty) (base := w.heap.size + 1) owCells_len (by decide) owCells_one undOW infoOW rfl _ (.slice ao0 l.length co0) [] l (ownN_emptyR 2 owCells (w.heap.size + 1) _ _ (w.heap.size + 1) (Nat.le_refl _) hbk) (H.out.row.upd0 owCells_len (HU0.out.seq hu)) (by simp; omega) (by unfold maxLen; simp; omega) (by simp)
    rw [List.nil_append] at h2
    exact ⟨v', w', h1, h2, hu.trans h3 (by simp) (fun y hy => .inr (by simp [blk] at hy; omega))⟩
  clear hb0
  go_wp2_with (at_builtin; go_must (refine wpList_app_of rfl _ _ rfl (.slice (some ⟨w.heap.size + 1, 0, none⟩) 0 0) (.slice ao0 l.length co0) rfl rfl (HRUN.out _ _ _ rfl rfl) ?_; rintro v1 w1 ⟨ho1, hu1⟩; have HO1 := Lib.hid ho1; have HU1 := Lib.hid hu1; obtain ⟨ao, co, rfl, -⟩ := ho1.rd owCells_len; have hb1 := HB0.out.upd hu1 (by simp); have d0 := hb1.cell 0; have d1 := hb1.cell 1; have d2 := hb1.cell 2; have d3 := hb1.cell 3; have d4 := hb1.cell 4; simp only [List.getElem?_cons_zero, List.getElem?_cons_succ] at d0 d1 d2 d3 d4; have HB1 := Lib.hid hb1; clear ho1 hu1 hb1 HRUN; dsimp only))
  (with_reducible refine (rdAt_any w1 _ l nm (HO1.out.rd owCells_len) H.out.ris (by omega)).mono ?_)
  rintro e wq ⟨rfl, huq⟩
  have D1 := Lib.hid (huq.cell d1 (by simp))
  have D2 := Lib.hid (huq.cell d2 (by simp))
  have D3 := Lib.hid (huq.cell d3 (by simp))
  have D4 := Lib.hid (huq.cell d4 (by simp))
  replace d0 := huq.cell d0 (by simp)
  have HOQ := Lib.hid (HO1.out.upd huq (by simp))
  have HUQ := Lib.hid ((HU0.out.seq HU1.out).seq huq)
  have hin' : isIn strLt l nm = true := hin
  unfold isIn at hin'
  obtain ⟨hkl, hkn⟩ := of_decide_eq_true hin'
  have hai : atI l nm = (below strLt l nm : Int) := by unfold atI; rw [hin]; rfl
  rw [hai]
  have HKN := Lib.hid hkn
  have HDEL : Hid (tDel strLt l nm = l.take (below strLt l nm) ++ l.drop (below strLt l nm + 1)) := by unfold Hid tDel; rw [hin]; rfl
  obtain ⟨k, hk⟩ : ∃ k, below strLt l nm = k := ⟨_, rfl⟩
  have HK := Lib.hid hk
  rw [hk] at hkl ⊢
  obtain ⟨hco, hlco⟩ : co ≤ 9223372036854775807 ∧ l.length ≤ co := by
    obtain ⟨a', k', he, h1, h2, -⟩ := HO1.out.rd owCells_len
    have := (Value.slice.inj he).2.2
    subst this; unfold maxLen at h2; exact ⟨by omega, h1⟩
  have HSQ : Hid (w.heap.size ≤ wq.heap.size) := HUQ.out.size
  have HIN := Lib.hid hin
  have p0 : (0 : Int) ≤ k := by omega
  have p1 : (k : Int) < l.length := by omega
  have p2 : (k : Int) + 1 ≤ l.length := by omega
  have p3 : (0 : Int) ≤ (k : Int) + 1 := by omega
  have hwr : IntKind.i64.wrap ((k : Int) + 1) = (k : Int) + 1 := by rw [IntKind.wrap_i64]; omega
  clear d1 d2 d3 d4 huq HO1 HU1 HB1 HB0 hin hin' hkn hai hk
  obtain ⟨g, rfl, hg1, hg2, Cg, fg, hgt⟩ := HOQ.out.addrR (by omega) rfl
  have hne2 : ¬ g = w.heap.size := by omega
  obtain ⟨⟨xn, ⟨oa, on, ok⟩, old⟩, hx⟩ : ∃ x, nth l k = x := ⟨_, rfl⟩
  have hxm : (xn, ((⟨oa, on, ok⟩ : Sl), old)) ∈ l := by rw [← hx, nth_get l k hkl]; exact List.getElem_mem _
  have hxn : xn = nm := by have := HKN.out; rw [HK.out, hx] at this; exact this
  subst hxn
  have HOLD : Hid (Bytes wq (.slice oa on ok) old) := (H.out.dat _ hxm).upd0 HUQ.out
  have hon : on = old.length := by
    obtain ⟨a', k', he, -⟩ := HOLD.out
    exact (Value.slice.inj he).2.1
  subst hon
  have hok : ok ≤ 9223372036854775807 ∧ old.length ≤ ok := by
    obtain ⟨a', k', he, h1, h2, -⟩ := HOLD.out
    have := (Value.slice.inj he).2.2
    subst this; unfold maxLen at h2; exact ⟨by omega, h1⟩
  obtain ⟨hok, hok2⟩ := hok
  have HX := Lib.hid hx
  have CR : Hid (wq.cell? ⟨g, k * 2 + 1, none⟩ = some (.slice oa old.length ok)) := by
    have := HOQ.out.cellR owCells_len k 1 hkl (by omega)
    rw [hx] at this; exact this
  have FR : Hid (∀ W, Upd [] wq W → W.frozen? ⟨g, k * 2 + 1, none⟩ = false) := fun W hW => (HOQ.out.upd hW (by simp)).frozenR _
  have HGT : Hid (∀ b, (∃ C f, wq.heap[b]? = some (.cells C 5 f)) → b ≠ g) := fun b hb he => by
    obtain ⟨C, f, hb⟩ := hb
    subst he
    exact absurd (ty_eq hb hgt) (by decide)
  have HG1 := Lib.hid hg1
  have HG2 := Lib.hid hg2
  have HXM := Lib.hid hxm
  clear hgt hg1 hx hxm hg2
  have HR1 : Hid (∀ (ty : TypeId) (W : World) (s : Option Addr) (m kk : Nat) (q : List UInt8), Upd [] wq W → Blk W wq.heap.size 5 [] → Bytes W (.slice s m kk) q → q.length ≤ 1000000000 → ∃ v' w', (Builtin.append_ #[28, 28] ty #[.slice (some ⟨wq.heap.size, 0, none⟩) 0 0, .slice s m kk]).run Tryz.prog W = .ok v' w' ∧ (Own bv wq.heap.size 5 w' v' q ∧ Upd [] wq w' ∧ ∃ a1 n1 k1, v' = .slice a1 n1 k1)) := by
    intro ty W s m kk q hU hB hq hql
    obtain ⟨v', w', h1, h2, h3, h4⟩ := run_app (P := Tryz.prog) (w := W) (ty := ty) bv_one Tryz.underlying28 infoB8 rfl _ (.slice s m kk) [] q (own_emptyR wq.heap.size W wq.heap.size (Nat.le_refl _) hB) hq (by simp; omega) (by simp [maxLen]; omega) hU.size
    rw [List.nil_append] at h2
    obtain ⟨a1, k1, h5, _⟩ := h2.rd
    exact ⟨v', w', h1, h2, hU.trans h3 (by simp) (fun y hy => .inr (by simp [blk] at hy; omega)), a1, _, k1, h5⟩
  obtain rfl : old = old0 := by rw [← hold0, HK.out, HX.out]
  clear hold0
  have hcutA : ∀ W, (Instr.slice 28 (.slice oa old.length ok) none (some (.int .i64 (m : Int))) none).run Tryz.prog W = .ok (.slice oa m ok) W := fun W => run_cut_h (P := Tryz.prog) (size := 1) Tryz.underlying28 (by kernel_rfl) oa old.length ok m (by omega) W
  have HCT : Hid (∀ W, Upd [] wq W → Bytes W (.slice oa m ok) (old.take m)) := fun W hW => (HOLD.out.upd0 hW).take m hm
  have HTL : Hid ((old.take m).length ≤ 1000000000) := by unfold Hid; rw [List.length_take]; omega
  have c1 := CR.out
  have c1' : (wq.alloc (Obj.cells #[] 5)).cell? ⟨g, k * 2 + 1, none⟩ = some (.slice oa old.length ok) := ((Upd.refl [] wq).alloc _).cell c1 (by simp)
  have d4 := D4.out
  have d4' : (wq.alloc (Obj.cells #[] 5)).cell? ⟨w.heap.size, 4, none⟩ = some (.int .i64 (m : Int)) := ((Upd.refl [] wq).alloc _).cell d4 (by simp)
  have m0 : (0 : Int) ≤ m := by omega
  have m1 : (m : Int) ≤ ok := by omega
  go_wp2_with fail
  go_region_law (first
    | ((refine step_app_of rfl (.tmp 108) (.tmp 116) rfl (.slice (some ⟨wq.heap.size, 0, none⟩) 0 0) (.slice oa m ok) (by rfl) (by rfl) (HR1.out _ _ oa m ok (old.take m) ?_ ?_ (HCT.out _ ?_) HTL.out) ?_); (repeat (first | exact Upd.refl _ _ | apply Upd.drew | apply Upd.drewN | apply Upd.alloc)); (refine Blk.fresh (w := wq) (C := #[]) (xs := []) rfl rfl ?_; (repeat (first | exact Upd.refl _ _ | apply Upd.drew | apply Upd.drewN | apply Upd.alloc))); (repeat (first | exact Upd.refl _ _ | apply Upd.drew | apply Upd.drewN | apply Upd.alloc)); (rintro v9 w9 ⟨ho9, hu9, a9, n9, k9, rfl⟩; have c9 := hu9.cell c1 (by simp); have f9 := FR.out w9 hu9; dsimp only)))
  all_goals
    have HO9 := Lib.hid ho9
    have HU9 := Lib.hid hu9
    clear ho9 hu9
    go_wp2_with fail
    go_ret
    have hset := set_yes (l := l) (nm := xn) ((⟨a9, n9, k9⟩ : Sl), old.take m) k HIN.out HK.out HKN.out
    have hst : Upd [g] w9 ((w9).setCell ⟨g, k * 2 + 1, none⟩ (.slice a9 n9 k9)) := (Upd.refl [g] _).setCell _ _ (.inl (by simp))
    have hrow := (HOQ.out.upd HU9.out (by simp)).set_ owCells_len k 1 hkl (by omega) (.slice a9 n9 k9) (xn, ((⟨a9, n9, k9⟩ : Sl), old.take m)) (by have := HX.out; rw [nth_get l k hkl] at this; rw [this]; rfl)
    rw [← hset] at hrow
    have hgw : w.heap.size ≤ g := by have := HG1.out; omega
    refine RDoes.of H.out rfl hrow (by omega) ((HUQ.out.seq HU9.out).trans hst (by simp) (fun y hy => .inr (by simp at hy; omega))) ?_ ?_ ?_
    · rw [df_set]
    · exact H.out.ris.set_ strOrd _ _
    · intro c hc
      rcases tSet_mem l xn _ c hc with rfl | q
      · refine .inr ⟨(HO9.out.upd hst (fun x hx hy => ?_)).rd, fun x hx => .inr ?_, fun _ x hx hy => ?_⟩
        · simp at hy; subst hy
          have h1 := (HO9.out.ge _ hx).1
          have h2 := HG2.out
          omega
        · have h1 := HO9.out.ge _ hx
          have h2 := HSQ.out
          exact ⟨by omega, by simpa using h1.2⟩
        · simp [blk] at hy; subst hy
          have h1 := (HO9.out.ge _ hx).1
          have h2 := HG2.out
          omega
      · exact .inl q
end
end Go.Proofs.YtmhojaiajhdlcaaGreat
