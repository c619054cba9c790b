/- Texts of the proof, joined: Chapter 25: a ledger is opened, the document's. -/
import Derived.Test.YtmhojaiajhdlcaaGreatMp13
namespace Go.Proofs.YtmhojaiajhdlcaaGreat
open Go.RowKit
set_option linter.unusedSimpArgs false
set_option linter.unusedVariables false
theorem rfGetO_c (w : World) (u : Value) (B : List UInt8) (ino gen at_ : Int) (rule : ByteArray) (kind c0 c1 c2 c3 c4 c5 c6 c7 c8 c9 : Int) (ok : Bool) (h : Bytes w u B) (hz : B.length ≤ 140737488351232) (hX : getRec B = (mkRec ino gen at_ rule kind c0 c1 c2 c3 c4 c5 c6 c7 c8 c9, ok)) :
    Calls Tryz.prog 11 #[u] w fun e w' => e = .returned (.tuple #[mkVal ino gen at_ rule kind c0 c1 c2 c3 c4 c5 c6 c7 c8 c9, .bool ok]) ∧ Upd [] w w' := by
  have h1 := rfGet_any w u B h hz
  rw [hX] at h1
  exact h1
section
variable {w0 w w' : World} {gr gk : Nat} {G : List Nat} {rl : List Rec} {s s' : DS}
theorem rkopen_done {lv : Value} {W W' : World} (h : RD w0 w gr G s) (hc : RK w W gk gr lv rl) (hd : ROut w0 W gr G s' W') (hG : ∀ x ∈ G, x < w.heap.size) : RKOut w0 w gr gk G rl s' W' := by
  obtain ⟨G', k1, k2, k3⟩ := hd
  have hge := hc.ge
  have hap : Ap (kfoot gk lv) G := fun x hx hg => by have := (hge x hx).1; have := hG x hg; omega
  have hl := (hc.rebase h.old).upd k2 hap (fun x hx => (h.ge x hx).1)
  have hs := hc.old.size
  refine ⟨kfoot gk lv, G', ⟨⟨lv, hl, rfl⟩, k1, fun x hx hg => ?_⟩, hc.old.trans k2 (by simp) (fun x hx => .inl hx), fun x hx => .inr (hge x hx).1, fun x hx => (k3 x hx).imp id (fun q => by omega)⟩
  rcases k3 x hg with q | q
  · exact hap x hx q
  · have := (hge x hx).2; omega
set_option maxRecDepth 20000 in
set_option maxHeartbeats 8000000 in
theorem rfOpen_any (h : RD w0 w gr G s) (hn : s.now.length ≤ 5000) (hl : s.log.length ≤ 1000000000) :
    Calls Tryz.prog 24 #[.pointer (some ⟨gr, 0, none⟩)] w fun e w' => ∃ gk, e = .returned (.pointer (some ⟨gk, 0, none⟩)) ∧ RKOut w0 w gr gk G (lOpen s).1 (lOpen s).2 w' := by
  have hG : ∀ x ∈ G, x < w.heap.size := fun x hx => (h.ge x hx).2
  have HG := Lib.hid hG
  have HD := Lib.hid h
  have HN := Lib.hid hn
  have HLG := Lib.hid hl
  have HL0 := Lib.hid (RK.new w gr)
  have htot := get_le_total s.now nmL
  have htot2 := h.ok.tot
  have hina : (dGet s.now nmL).2 = inD s.now nmL := dGet_in _ _
  clear h hG hn hl
  go_enter Tryz.func24, Tryz.ntmps24
  go_wp2_with fail
  have HLC0 := HL0
  generalize w.alloc (.cells #[.pointer (some ⟨gr, 0, none⟩), .slice none 0 0] 57) = w2 at *
  (with_reducible refine (rdRead_any nmL (HD.out.upd0 HL0.out.old) (by have := HN.out; omega)).mono ?_)
  rintro e w3 ⟨vb, rfl, hob, hapb, hu3⟩
  obtain ⟨b, hb⟩ : ∃ b, (dGet s.now nmL).1 = b := ⟨_, rfl⟩
  rw [hb] at hob htot
  have HB := Lib.hid hb
  have HL3 := Lib.hid (HL0.out.upd0 hu3)
  cases hin : inD s.now nmL with
  | false =>
    rw [hin] at hina
    have hbe : b = [] := by rw [← hb, dGet_no hin]
    have HEQ : Hid (lOpen s = ([], s)) := by
      unfold Hid lOpen; rw [hb, hbe]; rfl
    have HZ := Lib.hid (rkopen_done HD.out HL3.out ((HD.out.upd0 HL3.out.old).out0 (Upd.refl [] _)) HG.out)
    rw [hina]
    clear hob hapb hu3 hb hbe htot htot2 hin HB
    go_wp2_with fail
    go_ret
    exact ⟨w.heap.size, rfl, by rw [HEQ.out]; exact HZ.out⟩
  | true =>
  rw [hin] at hina
  rw [hina]
  have hbl : b.length ≤ 16777216 := by omega
  have HBL := Lib.hid hbl
  have HAB : Hid (∀ x ∈ blk vb, x ∉ kfoot w.heap.size (.slice none 0 0)) := fun x hx hf => by
    have h1 := hapb x hx
    have h2 := (HL0.out.ge x hf).1
    have := HG.out x h1
    omega
  have HRB : Hid (Bytes w3 vb b) := hob
  obtain ⟨ba, bk, rfl, hbk1, hbk2, -⟩ := id hob
  have hbk3 : bk ≤ 9223372036854775807 := by unfold maxLen at hbk2; omega
  generalize hgk : w.heap.size = gk at *
  have HGK := Lib.hid hgk
  clear hgk
  clear hob hapb hu3 hb htot htot2 hbk2 HL0 HLC0 hin hina
  go_wp2_with fail
  go_loopw [6] (fun i wr => ∃ (k : Nat) (rl : List Rec) (la : Option Addr) (ln lk : Nat), i = .int .i64 k ∧ Hid (RK w wr gk gr (.slice la ln lk) rl) ∧ k ≤ b.length ∧ Hid (rl.length ≤ k) ∧ Hid (scanL b (b.length + 1 - rl.length) k rl = lScan b) ∧ Hid (Bytes wr (.slice ba b.length bk) b) ∧ Hid (∀ x ∈ blk (.slice ba b.length bk), x ∉ kfoot gk (.slice la ln lk))) (fun i _ => b.length - (intOf i).toNat)
  case atStart => exact ⟨0, [], none, 0, 0, rfl, HL3.out, Nat.zero_le _, Nat.le_refl _, rfl, HRB.out, HAB.out⟩
  case round =>
    obtain ⟨k, rl, la, ln, lk, rfl, hlc, hk, hrk, hsc, hrb, hab⟩ := hrel
    clear HL3 HAB HRB
    obtain ⟨p, tn, er, hq⟩ : ∃ p t e, nextF b (k : Int) = (p, t, e) := ⟨_, _, _, rfl⟩
    have HQ := Lib.hid hq
    have HKI : Hid (I64 (k : Int)) := ⟨by omega, by omega⟩
    have HNS : Hid (∀ x, scanL b (b.length + 1 - rl.length) k rl = x ↔ (match nxt b k rl with | some q => scanL b (b.length - rl.length) q.2 (rl ++ [q.1]) | none => (rl, k)) = x) := by
      intro x
      have h1 := hrk.out
      obtain ⟨f, hf⟩ : ∃ f, b.length + 1 - rl.length = f + 1 := ⟨b.length - rl.length, by omega⟩
      have hf2 : b.length - rl.length = f := by omega
      rw [hf, hf2]; exact Iff.rfl
    go_wp2_with fail
    (with_reducible refine (rNext_any _ b (k : Int) wr hrb.out (by have := HBL.out; omega) HKI.out).mono ?_)
    unfold NextSaid
    rw [HQ.out]
    rintro e w4 ⟨vp, rfl, hop, hu4⟩
    have HC4 := Lib.hid (hlc.out.upd0 hu4)
    have HB4 := Lib.hid (hrb.out.upd0 hu4)
    have HP4 : Hid (Bytes w4 vp p) := hop.rd
    obtain ⟨pa, pk, rfl, -⟩ := hop.rd
    clear hop hu4 hlc hrb hq
    dsimp only
    by_cases he0 : er = 0
    · subst he0
      have hto := nextF_to b k hk (by rw [HQ.out])
      rw [HQ.out] at hto
      obtain ⟨m, hm1, hm2, hm3, hm4, hm5⟩ := hto
      dsimp only at hm4 hm5
      subst hm4
      have HPL : Hid (p.length ≤ 140737488351232) := by unfold Hid; omega
      have HM3 := Lib.hid hm3
      have HM1 := Lib.hid hm1
      have hto0 : ((k : Int) + 8 + (m : Int) = ((k + 8 + m : Nat) : Int)) := by omega
      have HTO := Lib.hid hto0
      clear hm1 hm2 hm3 hm5 hto0
      obtain ⟨ino, gen, at_, rule, kind, c0, c1, c2, c3, c4, c5, c6, c7, c8, c9, ok, hX⟩ := pair_rec (getRec p)
      have HX := Lib.hid hX
      go_wp2_with fail
      (with_reducible refine (rfGetO_c w4 _ p ino gen at_ rule kind c0 c1 c2 c3 c4 c5 c6 c7 c8 c9 ok HP4.out HPL.out HX.out).mono ?_)
      rintro e w5 ⟨rfl, hu5⟩
      have HC5 := Lib.hid (HC4.out.upd0 hu5)
      have HB5 := Lib.hid (HB4.out.upd0 hu5)
      clear hu5 HC4 HB4 HP4 hX
      have hu6 : Upd [] w5 (w5.alloc (.cells #[.int .i64 ino, .int .i64 gen, .int .i64 at_, .string rule, .int .i64 kind, .int .i64 c0, .int .i64 c1, .int .i64 c2, .int .i64 c3, .int .i64 c4, .int .i64 c5, .int .i64 c6, .int .i64 c7, .int .i64 c8, .int .i64 c9] 27)) := (Upd.refl [] w5).alloc _
      have HC6 := Lib.hid (HC5.out.upd0 hu6)
      have HB6 := Lib.hid (HB5.out.upd0 hu6)
      have hx6 : Blk (w5.alloc (.cells #[.int .i64 ino, .int .i64 gen, .int .i64 at_, .string rule, .int .i64 kind, .int .i64 c0, .int .i64 c1, .int .i64 c2, .int .i64 c3, .int .i64 c4, .int .i64 c5, .int .i64 c6, .int .i64 c7, .int .i64 c8, .int .i64 c9] 27)) w5.heap.size 27 [.int .i64 ino, .int .i64 gen, .int .i64 at_, .string rule, .int .i64 kind, .int .i64 c0, .int .i64 c1, .int .i64 c2, .int .i64 c3, .int .i64 c4, .int .i64 c5, .int .i64 c6, .int .i64 c7, .int .i64 c8, .int .i64 c9] := Blk.new w5 _ [.int .i64 ino, .int .i64 gen, .int .i64 at_, .string rule, .int .i64 kind, .int .i64 c0, .int .i64 c1, .int .i64 c2, .int .i64 c3, .int .i64 c4, .int .i64 c5, .int .i64 c6, .int .i64 c7, .int .i64 c8, .int .i64 c9]
      have HX6 := Lib.hid hx6
      cases ok with
      | false =>
        have HE : Hid (lScan b = (rl, k)) := by
          unfold Hid
          have h1 := hsc.out
          rw [HNS.out] at h1
          rw [← h1]
          have : nxt b k rl = none := by
            unfold nxt
            rw [HQ.out]; dsimp only
            rw [HX.out, if_neg (fun q => absurd q.2.1 (by simp))]
          simp only [this]
        clear hx6 hu6 HC5 HB5
        by_cases hlt : k < b.length
        · have q1 : (k : Int) < b.length := by omega
          have HEQ : Hid (lOpen s = (rl, (dCut s nmL (k : Int)).2)) := by unfold Hid lOpen; rw [HB.out, HE.out, if_pos hlt]
          go_wp2_with fail
          (with_reducible refine (rCut_any nmL (k : Int) HKI.out (HD.out.upd0 HC6.out.old) HN.out HLG.out).mono ?_)
          rintro e wz ⟨rfl, hdz⟩
          have HZ := Lib.hid (rkopen_done HD.out HC6.out hdz (by rw [HGK.out]; exact HG.out))
          clear hdz
          go_wp2_with fail
          go_ret
          exact ⟨gk, rfl, by rw [HEQ.out]; exact HZ.out⟩
        · have q1 : ¬ (k : Int) < b.length := by omega
          have HEQ : Hid (lOpen s = (rl, s)) := by unfold Hid lOpen; rw [HB.out, HE.out, if_neg hlt]
          have HZ := Lib.hid (rkopen_done HD.out HC6.out ((HD.out.upd0 HC6.out.old).out0 (Upd.refl [] _)) (by rw [HGK.out]; exact HG.out))
          go_wp2_with fail
          go_ret
          exact ⟨gk, rfl, by rw [HEQ.out]; exact HZ.out⟩
      | true =>
        have d0 := hx6.cell 0
        have d1 := hx6.cell 1
        have d2 := hx6.cell 2
        have d3 := hx6.cell 3
        simp only [List.getElem?_cons_zero, List.getElem?_cons_succ] at d0 d1 d2 d3
        clear hx6 hu6 HC5 HB5
        go_wp2_with fail
        generalize w5.alloc (.cells #[.int .i64 ino, .int .i64 gen, .int .i64 at_, .string rule, .int .i64 kind, .int .i64 c0, .int .i64 c1, .int .i64 c2, .int .i64 c3, .int .i64 c4, .int .i64 c5, .int .i64 c6, .int .i64 c7, .int .i64 c8, .int .i64 c9] 27) = w6 at *
        generalize w5.heap.size = gx at *
        (with_reducible refine (rfHas_c HC6.out ino gen at_ rule).mono ?_)
        rintro e w7 ⟨rfl, hu7⟩
        have HC7 := Lib.hid (HC6.out.upd0 hu7)
        have HB7 := Lib.hid (HB6.out.upd0 hu7)
        have hx7 := HX6.out.upd hu7 (by simp)
        cases hhas : hasK rl ⟨ino, gen, at_, rule⟩ with
        | true =>
          have HE : Hid (lScan b = (rl, k)) := by
            unfold Hid
            have h1 := hsc.out
            rw [HNS.out] at h1
            rw [← h1]
            have : nxt b k rl = none := by
              unfold nxt
              rw [HQ.out]; dsimp only
              rw [HX.out, if_neg (fun q => by have := q.2.2; dsimp only at this; rw [hhas] at this; exact absurd this (by simp))]
            simp only [this]
          clear hhas hx7 hu7 HC6 HB6 HX6 d0 d1 d2 d3
          by_cases hlt : k < b.length
          · have q1 : (k : Int) < b.length := by omega
            have HEQ : Hid (lOpen s = (rl, (dCut s nmL (k : Int)).2)) := by unfold Hid lOpen; rw [HB.out, HE.out, if_pos hlt]
            go_wp2_with fail
            (with_reducible refine (rCut_any nmL (k : Int) HKI.out (HD.out.upd0 HC7.out.old) HN.out HLG.out).mono ?_)
            rintro e wz ⟨rfl, hdz⟩
            have HZ := Lib.hid (rkopen_done HD.out HC7.out hdz (by rw [HGK.out]; exact HG.out))
            clear hdz
            go_wp2_with fail
            go_ret
            exact ⟨gk, rfl, by rw [HEQ.out]; exact HZ.out⟩
          · have q1 : ¬ (k : Int) < b.length := by omega
            have HEQ : Hid (lOpen s = (rl, s)) := by unfold Hid lOpen; rw [HB.out, HE.out, if_neg hlt]
            have HZ := Lib.hid (rkopen_done HD.out HC7.out ((HD.out.upd0 HC7.out.old).out0 (Upd.refl [] _)) (by rw [HGK.out]; exact HG.out))
            go_wp2_with fail
            go_ret
            exact ⟨gk, rfl, by rw [HEQ.out]; exact HZ.out⟩
        | false =>
          have HNX : Hid (scanL b (b.length + 1 - (rl ++ [mkRec ino gen at_ rule kind c0 c1 c2 c3 c4 c5 c6 c7 c8 c9]).length) (k + 8 + m) (rl ++ [mkRec ino gen at_ rule kind c0 c1 c2 c3 c4 c5 c6 c7 c8 c9]) = lScan b) := by
            have h1 := hsc.out
            rw [HNS.out] at h1
            have h2 : nxt b k rl = some (mkRec ino gen at_ rule kind c0 c1 c2 c3 c4 c5 c6 c7 c8 c9, k + 8 + m) := by
              unfold nxt
              rw [HQ.out]; dsimp only
              rw [HX.out, if_pos ⟨rfl, rfl, hhas⟩, Int.toNat_natCast]
            rw [h2] at h1
            have h3 : b.length + 1 - (rl ++ [mkRec ino gen at_ rule kind c0 c1 c2 c3 c4 c5 c6 c7 c8 c9]).length = b.length - rl.length := by rw [List.length_append, List.length_singleton]; omega
            unfold Hid
            rw [h3]; exact h1
          have HBX := Lib.hid hx7
          clear d0 d1 d2 d3
          have d0 := hx7.cell 0
          have d1 := hx7.cell 1
          have d2 := hx7.cell 2
          have d3 := hx7.cell 3
          have d4 := hx7.cell 4
          have d5 := hx7.cell 5
          have d6 := hx7.cell 6
          have d7 := hx7.cell 7
          have d8 := hx7.cell 8
          have d9 := hx7.cell 9
          have d10 := hx7.cell 10
          have d11 := hx7.cell 11
          have d12 := hx7.cell 12
          have d13 := hx7.cell 13
          have d14 := hx7.cell 14
          simp only [List.getElem?_cons_zero, List.getElem?_cons_succ] at d0 d1 d2 d3 d4 d5 d6 d7 d8 d9 d10 d11 d12 d13 d14
          have HRL : Hid (rl.length ≤ 100000000) := by have := hrk.out; have := HBL.out; unfold Hid; omega
          have hk1 := HC7.out
          clear hhas hx7 hu7 HC6 HB6 HX6 hsc HNS
          obtain rfl : ln = rl.length := by
            obtain ⟨a9, c9, he9, -⟩ := own_slice hk1.rows
            injection he9
          have HRK := Lib.hid hk1
          obtain ⟨a9, c9, hs9, hlc, hcm⟩ := own_slice hk1.rows
          injection hs9 with e1 e2 e3
          subst e1; subst e3
          have hco : lk ≤ 9223372036854775807 := by unfold maxLen at hcm; omega
          have gc1 : w7.cell? ⟨gk, 1, none⟩ = some (.slice la rl.length lk) := hk1.top.cell 1
          have f1 := hk1.top.frozen 1
          have hg1 : gk < w7.heap.size := hk1.top.lt
          have hx1 : gx < w7.heap.size := HBX.out.lt
          have hu2 : Upd [] w7 (w7.drew.alloc (.cells #[.int .i64 ino, .int .i64 gen, .int .i64 at_, .string rule, .int .i64 kind, .int .i64 c0, .int .i64 c1, .int .i64 c2, .int .i64 c3, .int .i64 c4, .int .i64 c5, .int .i64 c6, .int .i64 c7, .int .i64 c8, .int .i64 c9] 27)) := (Upd.refl [] w7).drew.alloc _
          have hnb : Blk (w7.drew.alloc (.cells #[.int .i64 ino, .int .i64 gen, .int .i64 at_, .string rule, .int .i64 kind, .int .i64 c0, .int .i64 c1, .int .i64 c2, .int .i64 c3, .int .i64 c4, .int .i64 c5, .int .i64 c6, .int .i64 c7, .int .i64 c8, .int .i64 c9] 27)) w7.heap.size 27 [.int .i64 ino, .int .i64 gen, .int .i64 at_, .string rule, .int .i64 kind, .int .i64 c0, .int .i64 c1, .int .i64 c2, .int .i64 c3, .int .i64 c4, .int .i64 c5, .int .i64 c6, .int .i64 c7, .int .i64 c8, .int .i64 c9] := Blk.new w7.drew _ _
          have HRD : RdN 15 recCells (w7.drew.alloc (.cells #[.int .i64 ino, .int .i64 gen, .int .i64 at_, .string rule, .int .i64 kind, .int .i64 c0, .int .i64 c1, .int .i64 c2, .int .i64 c3, .int .i64 c4, .int .i64 c5, .int .i64 c6, .int .i64 c7, .int .i64 c8, .int .i64 c9] 27)) (.slice (some ⟨w7.heap.size, 0, none⟩) 1 1) [mkRec ino gen at_ rule kind c0 c1 c2 c3 c4 c5 c6 c7 c8 c9] := by
            refine ⟨_, 1, rfl, by simp, by simp [maxLen], fun _ => ⟨w7.heap.size, 0, rfl, fun j hj i hi => ?_⟩⟩
            have hj0 : j = 0 := by simpa using hj
            subst hj0
            rw [Nat.zero_mul, Nat.zero_add, Nat.zero_add, hnb.cell]; rfl
          have HRUN := Lib.hid (fun ty => run_appN (P := Tryz.prog) (ty := ty) recCells_len (by decide) recCells_one undRec infoRec3 rfl _ _ rl [mkRec ino gen at_ rule kind c0 c1 c2 c3 c4 c5 c6 c7 c8 c9] (hk1.rows.upd hu2 (by simp)) HRD (by have := HRL.out; simp; omega) (by have := HRL.out; simp [maxLen]; omega) (hk1.old.seq hu2).size)
          have HTOP := Lib.hid (hk1.top.upd hu2 (by simp))
          have HGL := Lib.hid hk1.gll
          have HU2 := Lib.hid hu2
          clear hu2 hnb HRD hlc hcm hk1
          go_wp2_with fail
          go_region_law (first | ((with_reducible refine step_app_of rfl (.tmp 49) (.tmp 51) rfl (.slice la rl.length lk) (.slice (some ⟨w7.heap.size, 0, none⟩) 1 1) rfl rfl (HRUN.out _) ?_); (rintro v4 w4 ⟨ho4, hu4, hk4⟩; obtain ⟨a4, k4, rfl, -⟩ := own_slice ho4; have ht4 := HTOP.out.upd hu4 HGL.out; have gc4 := ht4.cell 1; have f4 := ht4.frozen 1; have HT4 := Lib.hid ht4; have HO4 := Lib.hid ho4; have HU4 := Lib.hid hu4; have HK4 := Lib.hid hk4; clear ho4 hu4 hk4 ht4; dsimp only)))
          all_goals
            have hset : Upd [gk] w4 (w4.setCell ⟨gk, 1, none⟩ (.slice a4 (rl.length + 1) k4)) := (Upd.refl [gk] w4).setCell _ _ (.inl (by simp))
            have hall4 : Upd (blk (Value.slice la rl.length lk)) w7 w4 := HU2.out.trans HU4.out (by simp) (fun x hx => .inl hx)
            have ht5 : Blk (w4.setCell ⟨gk, 1, none⟩ (.slice a4 (rl.length + 1) k4)) gk 57 [.pointer (some ⟨gr, 0, none⟩), .slice a4 (rl.length + 1) k4] := HT4.out.set_ 1 _
            have ho5 : OwnN 15 recCells w.heap.size 27 (w4.setCell ⟨gk, 1, none⟩ (.slice a4 (rl.length + 1) k4)) (.slice a4 (rl.length + 1) k4) (rl ++ [mkRec ino gen at_ rule kind c0 c1 c2 c3 c4 c5 c6 c7 c8 c9]) := by
              have ho4 := HO4.out
              rw [List.length_append, List.length_singleton] at ho4
              refine ho4.upd hset (fun x hx hx' => ?_)
              simp at hx'
              subst hx'
              obtain ⟨C, f, h1⟩ := ho4.typ x hx
              have h2 : w4.heap[x]? = some (.cells _ _ _) := HT4.out
              rw [h1] at h2
              injection h2 with h2; injection h2 with _ h2
              exact absurd h2 (by decide)
            have hu5 : Upd (kfoot gk (Value.slice la rl.length lk)) w7 (w4.setCell ⟨gk, 1, none⟩ (.slice a4 (rl.length + 1) k4)) := hall4.trans hset (T := kfoot gk (Value.slice la rl.length lk)) (fun x hx => kf_row hx) (fun x hx => .inl (by simp at hx; subst hx; exact kf_top _ _))
            have hold5 : Upd [] w (w4.setCell ⟨gk, 1, none⟩ (.slice a4 (rl.length + 1) k4)) := (HRK.out.old.trans (T := []) hall4 (by simp) (fun x hx => .inr (HRK.out.rows.ge x hx).1)).trans hset (by simp) (fun x hx => .inr (by simp at hx; subst hx; exact HRK.out.glb))
            have HK5 : Hid (∀ x ∈ blk (Value.slice a4 (rl.length + 1) k4), x ∈ blk (Value.slice la rl.length lk) ∨ w7.heap.size ≤ x) := fun x hx => by
              have hx' : x ∈ blk (Value.slice a4 (rl ++ [mkRec ino gen at_ rule kind c0 c1 c2 c3 c4 c5 c6 c7 c8 c9]).length k4) := by
                cases a4 with
                | none => simp [blk] at hx
                | some q => simpa [blk] using hx
              rcases HK4.out x hx' with q | q
              · exact .inl q
              · have := HU2.out.size; exact .inr (by omega)
            have HRK5 : Hid (RK w (w4.setCell ⟨gk, 1, none⟩ (.slice a4 (rl.length + 1) k4)) gk gr (.slice a4 (rl.length + 1) k4) (rl ++ [mkRec ino gen at_ rule kind c0 c1 c2 c3 c4 c5 c6 c7 c8 c9])) := ⟨ht5, ho5, HRK.out.glb, hold5⟩
            have HU5 := Lib.hid hu5
            clear hset hall4 ht5 ho5 hu5 hold5 HRUN HTOP HGL HU2 HT4 HO4 HU4 HK4 gc1 f1 gc4 f4
            generalize w4.setCell ⟨gk, 1, none⟩ (.slice a4 (rl.length + 1) k4) = w5 at *
            have HB8 := Lib.hid (HB7.out.upd HU5.out hab.out)
            have HA8 : Hid (∀ x ∈ blk (.slice ba b.length bk), x ∉ kfoot gk (.slice a4 (rl.length + 1) k4)) := fun x hx hf => by
              have h1 := hab.out x hx
              rcases List.mem_cons.1 hf with q | hf
              · exact h1 (by rw [q]; exact kf_top _ _)
              · rcases HK5.out x hf with q | q
                · exact h1 (kf_row q)
                · have hne : b ≠ [] := by intro q2; have hm3 := HM3.out; rw [q2] at hm3; simp at hm3
                  have := HB7.out.lt hne x hx
                  omega
            have HR8 : Hid (RK w w5 gk gr (.slice a4 (rl ++ [mkRec ino gen at_ rule kind c0 c1 c2 c3 c4 c5 c6 c7 c8 c9]).length k4) (rl ++ [mkRec ino gen at_ rule kind c0 c1 c2 c3 c4 c5 c6 c7 c8 c9])) := by
              have := HRK5.out
              unfold Hid; rw [List.length_append, List.length_singleton]; exact this
            have HA9 : Hid (∀ x ∈ blk (.slice ba b.length bk), x ∉ kfoot gk (.slice a4 (rl ++ [mkRec ino gen at_ rule kind c0 c1 c2 c3 c4 c5 c6 c7 c8 c9]).length k4)) := by
              have := HA8.out
              unfold Hid; rw [List.length_append, List.length_singleton]; exact this
            clear HK5 HRK5 HU5 HB7 HA8
            go_wp2_with fail
            go_roundw
            case rel => exact ⟨k + 8 + m, _, a4, _, k4, by first | rfl | (congr 1), HR8.out, HM3.out, by have := hrk.out; unfold Hid; rw [List.length_append, List.length_singleton]; omega, HNX.out, HB8.out, HA9.out⟩
            case measure => have := HM3.out; simp [intOf]; omega
    · have ez : (er != 0) = true := by rw [bne_iff_ne]; exact he0
      have HE : Hid (lScan b = (rl, k)) := by
        unfold Hid
        have h1 := hsc.out
        rw [HNS.out] at h1
        rw [← h1]
        have : nxt b k rl = none := by
          unfold nxt
          rw [HQ.out]; dsimp only
          rw [if_neg (fun q => he0 q.1)]
        simp only [this]
      clear he0 HB4 HP4
      by_cases hlt : k < b.length
      · have q1 : (k : Int) < b.length := by omega
        have HEQ : Hid (lOpen s = (rl, (dCut s nmL (k : Int)).2)) := by unfold Hid lOpen; rw [HB.out, HE.out, if_pos hlt]
        go_wp2_with fail
        (with_reducible refine (rCut_any nmL (k : Int) HKI.out (HD.out.upd0 HC4.out.old) HN.out HLG.out).mono ?_)
        rintro e wz ⟨rfl, hdz⟩
        have HZ := Lib.hid (rkopen_done HD.out HC4.out hdz (by rw [HGK.out]; exact HG.out))
        clear hdz
        go_wp2_with fail
        go_ret
        exact ⟨gk, rfl, by rw [HEQ.out]; exact HZ.out⟩
      · have q1 : ¬ (k : Int) < b.length := by omega
        have HEQ : Hid (lOpen s = (rl, s)) := by unfold Hid lOpen; rw [HB.out, HE.out, if_neg hlt]
        have HZ := Lib.hid (rkopen_done HD.out HC4.out ((HD.out.upd0 HC4.out.old).out0 (Upd.refl [] _)) (by rw [HGK.out]; exact HG.out))
        go_wp2_with fail
        go_ret
        exact ⟨gk, rfl, by rw [HEQ.out]; exact HZ.out⟩
end
end Go.Proofs.YtmhojaiajhdlcaaGreat
