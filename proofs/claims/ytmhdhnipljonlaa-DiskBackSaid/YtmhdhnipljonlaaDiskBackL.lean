/- The walk of the law DiskBack. -/
import Derived.Test.YtmhdhnipljonlaaDiskRuns
import Derived.Test.YtmhdhnipljonlaaDiskSteps
import Derived.Test.YtmhdhnipljonlaaWithin
namespace Go.Proofs.Ytmhdhnipljonlaa
open Go.RowKit
set_option linter.unusedSimpArgs false
set_option linter.unusedVariables false
/-- Two disks that share nothing. -/
structure Two (w0 w : World) (g1 : Nat) (G1 : List Nat) (s1 : DS) (g2 : Nat) (G2 : List Nat) (s2 : DS) : Prop where
  d1 : DD w0 w g1 G1 s1
  d2 : DD w0 w g2 G2 s2
  ap : Ap G1 G2
section
variable {w0 w w' : World} {g1 g2 : Nat} {G1 G2 : List Nat} {s1 s2 s' : DS}
theorem Two.upd0 (h : Two w0 w g1 G1 s1 g2 G2 s2) (hu : Upd [] w w') : Two w0 w' g1 G1 s1 g2 G2 s2 := ⟨h.d1.upd0 hu, h.d2.upd0 hu, h.ap⟩
theorem Two.symm (h : Two w0 w g1 G1 s1 g2 G2 s2) : Two w0 w g2 G2 s2 g1 G1 s1 := ⟨h.d2, h.d1, h.ap.symm⟩
/-- A call on the first. -/
theorem Two.step (h : Two w0 w g1 G1 s1 g2 G2 s2) (ho : DOut w0 w g1 G1 s' w') : ∃ G', Two w0 w' g1 G' s' g2 G2 s2 ∧ Upd G1 w w' ∧ (∀ x ∈ G', x ∈ G1 ∨ w.heap.size ≤ x) := by
  obtain ⟨G', h1, h2, h3⟩ := ho
  exact ⟨G', ⟨h1, h.d2.upd h2 h.ap.symm (fun x hx => (h.d1.ge x hx).1), h.ap.next h3 (fun x hx => (h.d2.ge x hx).2)⟩, h2, h3⟩
end
/-- The two disks and the list that names them, behind so many of the two calls. -/
def TwoAt (w0 w : World) (gd ge : Nat) (s s' : DS) (L j : Nat) : Prop :=
  ∃ G1 G2, Two w0 w gd G1 (if 1 ≤ j then s' else s) ge G2 (if 2 ≤ j then s' else s) ∧ Blk w L 49 [.pointer (some ⟨gd, 0, none⟩), .pointer (some ⟨ge, 0, none⟩)] ∧ L ∉ G1 ∧ L ∉ G2
theorem TwoAt.pick {w0 w : World} {gd ge : Nat} {s s' : DS} {L j : Nat} (h : TwoAt w0 w gd ge s s' L j) (hj : j < 2) :
    ∃ gx Gx, w.cell? ⟨L, j, none⟩ = some (.pointer (some ⟨gx, 0, none⟩)) ∧ DD w0 w gx Gx s ∧ ∀ w', DOut w0 w gx Gx s' w' → TwoAt w0 w' gd ge s s' L (j + 1) := by
  obtain ⟨G1, G2, ht, hb, h1, h2⟩ := h
  rcases (show j = 0 ∨ j = 1 by omega) with rfl | rfl
  · rw [if_neg (by omega), if_neg (by omega)] at ht
    refine ⟨gd, G1, hb.cell 0, ht.d1, fun w' ho => ?_⟩
    obtain ⟨G', k1, k2, k3⟩ := ht.step ho
    refine ⟨G', G2, by rw [if_pos (by omega), if_neg (by omega)]; exact k1, hb.upd k2 h1, fun hx => ?_, h2⟩
    rcases k3 _ hx with q | q
    · exact h1 q
    · have := hb.lt; omega
  · rw [if_pos (by omega), if_neg (by omega)] at ht
    refine ⟨ge, G2, hb.cell 1, ht.d2, fun w' ho => ?_⟩
    obtain ⟨G', k1, k2, k3⟩ := ht.symm.step ho
    refine ⟨G1, G', by rw [if_pos (by omega), if_pos (by omega)]; exact k1.symm, hb.upd k2 h2, h1, fun hx => ?_⟩
    rcases k3 _ hx with q | q
    · exact h2 q
    · have := hb.lt; omega
theorem TwoAt.old {w0 w : World} {gd ge : Nat} {s s' : DS} {L j : Nat} (h : TwoAt w0 w gd ge s s' L j) : Upd [] w0 w := by
  obtain ⟨G1, G2, ht, -⟩ := h
  exact ht.d1.old
theorem TwoAt.upd0 {w0 w w' : World} {gd ge : Nat} {s s' : DS} {L j : Nat} (h : TwoAt w0 w gd ge s s' L j) (hu : Upd [] w w') : TwoAt w0 w' gd ge s s' L j := by
  obtain ⟨G1, G2, ht, hb, h1, h2⟩ := h
  exact ⟨G1, G2, ht.upd0 hu, hb.upd hu (by simp), h1, h2⟩
theorem TwoAt.done {w0 w : World} {gd ge : Nat} {s s' : DS} {L : Nat} (h : TwoAt w0 w gd ge s s' L 2) : ∃ G1 G2, Two w0 w gd G1 s' ge G2 s' := by
  obtain ⟨G1, G2, ht, -⟩ := h
  rw [if_pos (by omega), if_pos (by omega)] at ht
  exact ⟨G1, G2, ht⟩
/-- A disk's state behind k calls. -/
structure Fine (k : Nat) (s : DS) : Prop where
  now : s.now.length ≤ k
  log : s.log.length ≤ 301 * k
  mark : s.mark = []
theorem Fine.step {k : Nat} {s : DS} (h : Fine k s) (ho : DOk s) (x : Ask22) (hx : x.d.length ≤ 300) (hk : k ≤ 40) : Fine (k + 1) (dStep x s) := by
  have g := grows_step ho x (by have := h.now; omega)
  exact ⟨by have := g.now; have := h.now; omega, by have := g.log; have := h.log; omega, g.mark.trans h.mark⟩
theorem Fine.up {k : Nat} {s : DS} (h : Fine k s) : Fine (k + 1) s := ⟨by have := h.now; omega, by have := h.log; omega, h.mark⟩
set_option maxRecDepth 20000 in
set_option maxHeartbeats 8000000 in
theorem diskBack_any (w : World) (vl : Value) (l : List Ask22) (hl : RdN 5 ask22Cells w vl l) (hg : ∀ x ∈ l, Ask22Good w x) (n : Int) (hn : I64 n) :
    Calls Try.prog 8 #[vl, .int .i64 n] w fun e w' => e = .returned (.bool true) ∧ Upd [] w w' := by
  obtain ⟨a1, cap1, rfl, hlc1, hcm1, hcell1⟩ := hl
  have hm1 : l.length ≤ 9223372036854775807 := by unfold maxLen at hcm1; omega
  have HC1 := Lib.hid hcell1
  have HG := Lib.hid hg
  have HN : Hid (-9223372036854775808 ≤ n ∧ n ≤ 9223372036854775807) := hn
  clear hlc1 hcm1 hcell1 hg hn
  go_enter Try.func8, Try.ntmps8
  go_wp2_with fail
  (with_reducible refine (dNew_any w w (Upd.refl [] w)).mono ?_)
  rintro e w1 ⟨gd, G1, rfl, h1, hu1, hf1⟩
  have H1 := Lib.hid h1
  have HU1 := Lib.hid hu1
  clear h1 hu1 hf1
  go_wp2_with fail
  (with_reducible refine (dNew_any w w1 HU1.out).mono ?_)
  rintro e w2 ⟨ge, G2, rfl, h2, hu2, hf2⟩
  have HT : Hid (Two w w2 gd G1 ⟨[], [], []⟩ ge G2 ⟨[], [], []⟩) := ⟨H1.out.upd0 hu2, h2, Ap.symm (Ap.new hf2 (fun x hx => (H1.out.ge x hx).2))⟩
  clear h2 hu2 hf2 H1 HU1
  go_wp2_with fail
  go_loopw [7] (fun vi wr => ∃ (k : Nat) (G1 G2 : List Nat) (s : DS), k ≤ 40 ∧ k ≤ l.length ∧ vi = .int .i64 k ∧ Hid (Two w wr gd G1 s ge G2 s) ∧ Hid (Fine k s)) (fun vi _ => 40 - (intOf vi).toNat)
  case atStart => exact ⟨0, G1, G2, _, by omega, by omega, rfl, HT, ⟨by simp, by simp, rfl⟩⟩
  case round =>
    clear HT
    obtain ⟨k, G1, G2, s, hk, hkl, rfl, hs, hF⟩ := hrel
    have hend : (k < l.length ∧ k < 40) ∨ (k = l.length ∧ Hid (k ≤ 40)) ∨ (k = 40 ∧ k < l.length) := by unfold Hid; omega
    rcases hend with ⟨hlt, h40⟩ | hend
    · obtain ⟨lb, loff, rfl, hca⟩ := HC1.out (by intro h; simp [h] at hlt)
      have q1 : (k : Int) < l.length := by omega
      have q2 : (k : Int) < 40 := by omega
      have q3 : (0 : Int) ≤ k := by omega
      have HD : Hid (∀ i, i < 5 → w.cell? ⟨lb, loff + (k * 5 + i), none⟩ = (ask22Cells (nth l k))[i]?) := hca k hlt
      have hgx := HG.out (nth l k) (by rw [nth_get _ _ hlt]; exact List.getElem_mem _)
      generalize nth l k = x at *
      obtain ⟨kd, n0, nm, tn, ⟨da, dn, dc⟩, d⟩ := x
      obtain ⟨-, hgn, hrd⟩ := hgx
      have HNI := Lib.hid hgn
      have HRD : Hid (Bytes w (.slice da dn dc) d) := hrd
      have hdn : dn = d.length := by
        obtain ⟨a', c', he, -⟩ := HRD.out
        injection he with e1 e2 e3
      subst hdn
      have hdm : d.length ≤ 9223372036854775807 := by
        obtain ⟨a', c', he, h1, h2, -⟩ := HRD.out
        unfold maxLen at h2; omega
      have D0 : Hid (w.cell? ⟨lb, loff + k * 5, none⟩ = some (.int .i64 kd)) := HD.out 0 (by omega)
      have D1 : Hid (w.cell? ⟨lb, loff + k * 5 + 1, none⟩ = some (.int .i64 n0)) := HD.out 1 (by omega)
      have D2 : Hid (w.cell? ⟨lb, loff + k * 5 + 2, none⟩ = some (.string nm)) := HD.out 2 (by omega)
      have D3 : Hid (w.cell? ⟨lb, loff + k * 5 + 3, none⟩ = some (.string tn)) := HD.out 3 (by omega)
      have D4 : Hid (w.cell? ⟨lb, loff + k * 5 + 4, none⟩ = some (.slice da d.length dc)) := HD.out 4 (by omega)
      have hold := hs.out.d1.old
      have d0 := hold.cell D0.out (by simp)
      have d4 := hold.cell D4.out (by simp)
      clear hca hrd HD hgn hold
      by_cases hbig : 300 < d.length
      · have t6 : (300 : Int) < d.length := by omega
        go_wp2_with fail
        go_roundw
        case rel => exact ⟨k + 1, G1, G2, s, by omega, by omega, by go_num, hs, hF.out.up⟩
        case measure => simp [intOf]; omega
      · have t6 : ¬ (300 : Int) < d.length := by omega
        by_cases hk4 : 4 < kd
        · have t7 : (4 : Int) < kd := hk4
          go_wp2_with fail
          go_roundw
          case rel => exact ⟨k + 1, G1, G2, s, by omega, by omega, by go_num, hs, hF.out.up⟩
          case measure => simp [intOf]; omega
        · have t7 : ¬ (4 : Int) < kd := hk4
          obtain ⟨s', hs'⟩ : ∃ s', dStep ⟨kd, n0, nm, tn, ⟨da, d.length, dc⟩, d⟩ s = s' := ⟨_, rfl⟩
          have HS' := Lib.hid hs'
          have HF' : Hid (Fine (k + 1) s') := by unfold Hid; rw [← hs']; exact hF.out.step hs.out.d1.ok _ (by show d.length ≤ 300; omega) (by omega)
          have HNOW : Hid (s.now.length ≤ 4999) := by have := hF.out.now; unfold Hid; omega
          have HLOG : Hid (s.log.length ≤ 500000000) := by have := hF.out.log; unfold Hid; omega
          have HTA : Hid (TwoAt w (wr.alloc (.cells #[.pointer (some ⟨gd, 0, none⟩), .pointer (some ⟨ge, 0, none⟩)] 49)) gd ge s s' wr.heap.size 0) :=
            ⟨G1, G2, by rw [if_neg (by omega), if_neg (by omega)]; exact hs.out.upd0 ((Upd.refl [] wr).alloc _), Blk.new wr _ [.pointer (some ⟨gd, 0, none⟩), .pointer (some ⟨ge, 0, none⟩)], fun hx => by have := (hs.out.d1.ge _ hx).2; omega, fun hx => by have := (hs.out.d2.ge _ hx).2; omega⟩
          have hdl : d.length ≤ 300 := by omega
          clear hs hF hs' hbig hk4
          go_wp2_with fail
          generalize hL : wr.heap.size = L at *
          clear hL d0 d4
          go_loopw [51] (fun vj wr => ∃ j : Nat, j ≤ 2 ∧ vj = .int .i64 j ∧ Hid (TwoAt w wr gd ge s s' L j)) (fun vj _ => 2 - (intOf vj).toNat)
          case atStart => exact ⟨0, by omega, rfl, HTA⟩
          case round =>
            clear HTA
            obtain ⟨j, hj, rfl, ht⟩ := hrel
            by_cases hj2 : j < 2
            · obtain ⟨gx, Gx, hcx, hdx, hback⟩ := ht.out.pick hj2
              have HDX := Lib.hid hdx
              have HBK := Lib.hid hback
              have hold := hdx.old
              have d0 := hold.cell D0.out (by simp)
              have d1 := hold.cell D1.out (by simp)
              have d2 := hold.cell D2.out (by simp)
              have d3 := hold.cell D3.out (by simp)
              have d4 := hold.cell D4.out (by simp)
              have j1 : (j : Int) < 2 := by omega
              have j0 : (0 : Int) ≤ j := by omega
              have HRX := Lib.hid (HRD.out.upd0 hold)
              have HAPX : Hid (∀ x ∈ blk (.slice da d.length dc), d ≠ [] → x ∉ Gx) := fun x hx hne hg => by
                have h1 := HRD.out.lt hne x hx
                have h2 := (hdx.ge x hg).1
                omega
              clear hold hdx hback ht
              by_cases k1 : kd = 1
              · subst k1
                have HE : Hid ((dAppend s nm d).2 = s') := by unfold Hid; rw [← HS'.out, dStep_1]
                go_wp2_with fail
                go_still_tail 11, (by kernel_rfl)
                change wpList _ _ _ _ _ wr.drew
                go_wp2_with fail
                (with_reducible refine (dAppend_any nm _ d HRX.out.drew (fun hne x hx => HAPX.out x hx hne) (HDX.out.upd0 (Upd.refl [] wr).drew) (by omega) HNOW.out HLOG.out).mono ?_)
                rintro e w3 ⟨rfl, ho⟩
                rw [HE.out] at ho
                have HBW := Lib.hid (HBK.out w3 (DOut.later (Upd.refl [] wr).drew ho))
                clear ho
                go_wp2_with fail
                go_roundw
                case rel => exact ⟨j + 1, by omega, by go_num, HBW⟩
                case measure => simp [intOf]; omega
              · by_cases k2 : kd = 2
                · subst k2
                  have HE : Hid ((dRename s nm tn).2 = s') := by unfold Hid; rw [← HS'.out, dStep_2]
                  go_wp2_with fail
                  go_still_tail 11, (by kernel_rfl)
                  change wpList _ _ _ _ _ wr.drew
                  go_wp2_with fail
                  (with_reducible refine (dRename_any nm tn (HDX.out.upd0 (Upd.refl [] wr).drew) (by have := HNOW.out; omega) (by have := HLOG.out; omega)).mono ?_)
                  rintro e w3 ⟨rfl, ho⟩
                  rw [HE.out] at ho
                  have HBW := Lib.hid (HBK.out w3 (DOut.later (Upd.refl [] wr).drew ho))
                  clear ho
                  go_wp2_with fail
                  go_roundw
                  case rel => exact ⟨j + 1, by omega, by go_num, HBW⟩
                  case measure => simp [intOf]; omega
                · by_cases k3 : kd = 3
                  · subst k3
                    have HE : Hid ((dCut s nm n0).2 = s') := by unfold Hid; rw [← HS'.out, dStep_3]
                    go_wp2_with fail
                    go_still_tail 11, (by kernel_rfl)
                    change wpList _ _ _ _ _ wr.drew
                    go_wp2_with fail
                    (with_reducible refine (dCut_any nm n0 HNI.out (HDX.out.upd0 (Upd.refl [] wr).drew) (by have := HNOW.out; omega) (by have := HLOG.out; omega)).mono ?_)
                    rintro e w3 ⟨rfl, ho⟩
                    rw [HE.out] at ho
                    have HBW := Lib.hid (HBK.out w3 (DOut.later (Upd.refl [] wr).drew ho))
                    clear ho
                    go_wp2_with fail
                    go_roundw
                    case rel => exact ⟨j + 1, by omega, by go_num, HBW⟩
                    case measure => simp [intOf]; omega
                  · by_cases k4 : kd = 4
                    · subst k4
                      have HE : Hid ((dRemove s nm).2 = s') := by unfold Hid; rw [← HS'.out, dStep_4]
                      go_wp2_with fail
                      (with_reducible refine (dRemove_any nm HDX.out (by have := HNOW.out; omega) (by have := HLOG.out; omega)).mono ?_)
                      rintro e w3 ⟨rfl, ho⟩
                      rw [HE.out] at ho
                      have HBW := Lib.hid (HBK.out w3 ho)
                      clear ho
                      go_wp2_with fail
                      go_roundw
                      case rel => exact ⟨j + 1, by omega, by go_num, HBW⟩
                      case measure => simp [intOf]; omega
                    · have HE : Hid (s = s') := by unfold Hid; rw [← HS'.out, dStep_no s kd n0 nm tn _ d k1 k2 k3 k4]
                      have t1 : (kd == 1) = false := by rw [beq_eq_false_iff_ne]; exact k1
                      have t2 : (kd == 2) = false := by rw [beq_eq_false_iff_ne]; exact k2
                      have t3 : (kd == 3) = false := by rw [beq_eq_false_iff_ne]; exact k3
                      have t4 : (kd == 4) = false := by rw [beq_eq_false_iff_ne]; exact k4
                      clear k1 k2 k3 k4
                      have HBW : Hid (TwoAt w wr gd ge s s' L (j + 1)) := HBK.out wr (by have := HDX.out.out0 (Upd.refl [] wr); rwa [HE.out] at this)
                      go_wp2_with fail
                      go_roundw
                      case rel => exact ⟨j + 1, by omega, by go_num, HBW⟩
                      case measure => simp [intOf]; omega
            · obtain rfl : j = 2 := by omega
              obtain ⟨G3, G4, h2⟩ := ht.out.done
              have H2 := Lib.hid h2
              clear h2 ht
              go_wp2_with fail
              go_roundw
              case rel => exact ⟨k + 1, G3, G4, s', by omega, by omega, by go_num, H2, HF'⟩
              case measure => simp [intOf]; omega
    · rcases hend with ⟨hke, h40⟩ | ⟨hke, hkn⟩
      · have q1 : ¬ (k : Int) < l.length := by omega
        clear h40
        have HNOW : Hid (s.now.length ≤ 100000) := by have := hF.out.now; unfold Hid; omega
        have hlg : s.log.length ≤ 12040 := by have := hF.out.log; omega
        have HMK := Lib.hid hF.out.mark
        have HMKL : Hid (s.mark.length ≤ 100000) := by unfold Hid; rw [HMK.out]; simp
        have HOK := Lib.hid hs.out.d1.ok
        obtain ⟨ns, hns⟩ : ∃ ns, s.now.map (·.1) = ns := ⟨_, rfl⟩
        obtain ⟨tt, htt⟩ : ∃ tt, dTotal s.now = tt := ⟨_, rfl⟩
        obtain ⟨cc, hcc⟩ : ∃ cc, s.log.length = cc := ⟨_, rfl⟩
        have HNS := Lib.hid hns
        have HTT := Lib.hid htt
        have HCC := Lib.hid hcc
        have hcl : cc ≤ 12040 := by omega
        clear HC1 HG hns htt hcc hlg hF
        go_wp2_with fail
        (with_reducible refine (dNames_any hs.out.d1 HNOW.out).mono ?_)
        rw [HNS.out]
        rintro e w3 ⟨v3, rfl, ho3, hu3⟩
        have HT3 := Lib.hid (hs.out.upd0 hu3)
        have HO3 := Lib.hid ho3
        have HAP3 : Hid (∀ x ∈ blk v3, x ∉ G1 ∧ x ∉ G2) := fun x hx => ⟨fun h => by have := (ho3.ge x hx).1; have := (hs.out.d1.ge x h).2; omega, fun h => by have := (ho3.ge x hx).1; have := (hs.out.d2.ge x h).2; omega⟩
        obtain ⟨a3, k3, rfl, -⟩ := ho3.rd
        clear ho3 hu3 hs
        go_wp2_with fail
        (with_reducible refine (dTotal_any HT3.out.d1 HNOW.out).mono ?_)
        rw [HTT.out]
        rintro e w4 ⟨rfl, hu4⟩
        have HT4 := Lib.hid (HT3.out.upd0 hu4)
        have HO4 := Lib.hid (HO3.out.upd hu4 (by simp))
        clear hu4 HT3 HO3
        go_wp2_with fail
        (with_reducible refine (dCount_any HT4.out.d1).mono ?_)
        rw [HCC.out]
        rintro e w5 ⟨rfl, rfl⟩
        go_wp2_with fail
        (with_reducible refine (dBack_any (cc : Int) (i64_d _ (by omega) (by omega)) HT4.out.d1 HMKL.out).mono ?_)
        rintro e w6 ⟨rfl, ho⟩
        obtain ⟨G6, h6, hu6, hf6⟩ := HT4.out.step ho
        have HT6 := Lib.hid h6
        have HO6 := Lib.hid (HO4.out.upd hu6 (fun x hx => (HAP3.out x hx).1))
        have HB6 : Hid ((dBack s (cc : Int)).now = s.now) := by unfold Hid; rw [← HCC.out]; exact back_all HOK.out
        have HN6 : Hid ((dBack s (cc : Int)).now.length ≤ 100000) := by unfold Hid; rw [HB6.out]; exact HNOW.out
        clear ho h6 hu6 hf6 HT4 HO4
        go_wp2_with fail
        (with_reducible refine (dNames_any HT6.out.d1 HN6.out).mono ?_)
        rw [show (dBack s (cc : Int)).now.map (·.1) = ns by rw [HB6.out]; exact HNS.out]
        rintro e w7 ⟨v7, rfl, ho7, hu7⟩
        have HT7 := Lib.hid (HT6.out.upd0 hu7)
        have HO7 := Lib.hid (HO6.out.upd hu7 (by simp))
        have HR7 := Lib.hid ho7.rd
        obtain ⟨a7, k7, rfl, -⟩ := ho7.rd
        clear ho7 hu7 HT6 HO6
        go_wp2_with fail
        (with_reducible refine (sameStr_yes _ _ ns _ HR7.out HO7.out.rd).mono ?_)
        rintro e w8 ⟨rfl, hu8⟩
        have HT8 := Lib.hid (HT7.out.upd0 hu8)
        have HO8 := Lib.hid (HO7.out.upd hu8 (by simp))
        clear hu8 HT7 HO7 HR7
        go_wp2_with fail
        (with_reducible refine (dTotal_any HT8.out.d1 HN6.out).mono ?_)
        rw [show dTotal (dBack s (cc : Int)).now = tt by rw [HB6.out]; exact HTT.out]
        rintro e w9 ⟨rfl, hu9⟩
        have HT9 := Lib.hid (HT8.out.upd0 hu9)
        have HO9 := Lib.hid (HO8.out.upd hu9 (by simp))
        clear hu9 HT8 HO8
        go_wp2_with fail
        (with_reducible refine (dCount_any HT9.out.d1).mono ?_)
        rw [show (((dBack s (cc : Int)).log.length : Nat) : Int) = 0 from rfl]
        rintro e w10 ⟨rfl, rfl⟩
        go_wp2_with fail
        (with_reducible refine (within_any n 0 (cc : Int) _ HN.out (by omega) (by omega) (by omega)).mono ?_)
        rintro e w10 ⟨rfl, rfl⟩
        have hwi := within_in n 0 (cc : Int) (by omega)
        obtain ⟨m, hm⟩ : ∃ m, within n 0 (cc : Int) = m := ⟨_, rfl⟩
        rw [hm] at hwi ⊢
        clear hm
        obtain ⟨hm0, hm1'⟩ := hwi
        go_wp2_with fail
        (with_reducible refine (dBack_any m (i64_d _ (by omega) (by omega)) HT9.out.d2 HMKL.out).mono ?_)
        rintro e w11 ⟨rfl, ho⟩
        obtain ⟨G11, h11, hu11, hf11⟩ := HT9.out.symm.step ho
        have HE11 := Lib.hid h11.d1
        have HO11 := Lib.hid (HO9.out.upd hu11 (fun x hx => (HAP3.out x hx).2))
        have HL11 := Lib.hid (back_nlen HOK.out HMK.out m)
        clear ho h11 hu11 hf11 HT9 HO9
        by_cases hmc : m = (cc : Int)
        · subst hmc
          have t9 : (((cc : Nat) : Int) == (cc : Int)) = true := by simp
          go_wp2_with fail
          (with_reducible refine (dNames_any HE11.out HL11.out).mono ?_)
          rw [show (dBack s (cc : Int)).now.map (·.1) = ns by rw [HB6.out]; exact HNS.out]
          rintro e w12 ⟨v12, rfl, ho12, hu12⟩
          have HE12 := Lib.hid (HE11.out.upd0 hu12)
          have HO12 := Lib.hid (HO11.out.upd hu12 (by simp))
          have HR12 := Lib.hid ho12.rd
          obtain ⟨a12, k12, rfl, -⟩ := ho12.rd
          clear ho12 hu12 HE11 HO11
          go_wp2_with fail
          (with_reducible refine (sameStr_yes _ _ ns _ HR12.out HO12.out.rd).mono ?_)
          rintro e w13 ⟨rfl, hu13⟩
          have HE13 := Lib.hid (HE12.out.upd0 hu13)
          clear hu13 HE12 HO12 HR12
          go_wp2_with fail
          (with_reducible refine (dTotal_any HE13.out HL11.out).mono ?_)
          rw [show dTotal (dBack s (cc : Int)).now = tt by rw [HB6.out]; exact HTT.out]
          rintro e w14 ⟨rfl, hu14⟩
          have HO14 := Lib.hid (HE13.out.upd0 hu14).old
          clear hu14 HE13
          go_wp2_with fail
          (with_reducible refine (diskRuns_any _).mono ?_)
          rintro e w15 ⟨rfl, hu15⟩
          go_wp2_with fail
          go_ret
          exact ⟨rfl, HO14.out.seq hu15⟩
        · have t9 : (m == (cc : Int)) = false := by rw [beq_eq_false_iff_ne]; exact hmc
          clear hmc
          by_cases hz : m = 0
          · subst hz
            have HZ : Hid ((dBack s 0).now.map (·.1) = []) := by unfold Hid; rw [back_zero HMK.out]; rfl
            go_wp2_with fail
            (with_reducible refine (dNames_any HE11.out HL11.out).mono ?_)
            rw [HZ.out]
            rintro e w12 ⟨v12, rfl, ho12, hu12⟩
            have HE12 := Lib.hid (HE11.out.upd0 hu12)
            obtain ⟨a12, k12, rfl, -⟩ := ho12.rd
            clear ho12 hu12 HE11
            go_wp2_with fail
            (with_reducible refine (dCount_any HE12.out).mono ?_)
            rw [show (((dBack s 0).log.length : Nat) : Int) = 0 from rfl]
            rintro e w13 ⟨rfl, rfl⟩
            have HO13 := Lib.hid HE12.out.old
            clear HE12
            go_wp2_with fail
            (with_reducible refine (diskRuns_any _).mono ?_)
            rintro e w15 ⟨rfl, hu15⟩
            go_wp2_with fail
            go_ret
            exact ⟨rfl, HO13.out.seq hu15⟩
          · have z : (0 : Int) < m := by omega
            clear hz
            go_wp2_with fail
            (with_reducible refine (dCount_any HE11.out).mono ?_)
            rw [show (((dBack s m).log.length : Nat) : Int) = 0 from rfl]
            rintro e w13 ⟨rfl, rfl⟩
            have HO13 := Lib.hid HE11.out.old
            clear HE11
            go_wp2_with fail
            (with_reducible refine (diskRuns_any _).mono ?_)
            rintro e w15 ⟨rfl, hu15⟩
            go_wp2_with fail
            go_ret
            exact ⟨rfl, HO13.out.seq hu15⟩
      · have q1 : (k : Int) < l.length := by omega
        have q2 : ¬ (k : Int) < 40 := by omega
        have HNOW : Hid (s.now.length ≤ 100000) := by have := hF.out.now; unfold Hid; omega
        have hlg : s.log.length ≤ 12040 := by have := hF.out.log; omega
        have HMK := Lib.hid hF.out.mark
        have HMKL : Hid (s.mark.length ≤ 100000) := by unfold Hid; rw [HMK.out]; simp
        have HOK := Lib.hid hs.out.d1.ok
        obtain ⟨ns, hns⟩ : ∃ ns, s.now.map (·.1) = ns := ⟨_, rfl⟩
        obtain ⟨tt, htt⟩ : ∃ tt, dTotal s.now = tt := ⟨_, rfl⟩
        obtain ⟨cc, hcc⟩ : ∃ cc, s.log.length = cc := ⟨_, rfl⟩
        have HNS := Lib.hid hns
        have HTT := Lib.hid htt
        have HCC := Lib.hid hcc
        have hcl : cc ≤ 12040 := by omega
        clear HC1 HG hns htt hcc hlg hF
        go_wp2_with fail
        (with_reducible refine (dNames_any hs.out.d1 HNOW.out).mono ?_)
        rw [HNS.out]
        rintro e w3 ⟨v3, rfl, ho3, hu3⟩
        have HT3 := Lib.hid (hs.out.upd0 hu3)
        have HO3 := Lib.hid ho3
        have HAP3 : Hid (∀ x ∈ blk v3, x ∉ G1 ∧ x ∉ G2) := fun x hx => ⟨fun h => by have := (ho3.ge x hx).1; have := (hs.out.d1.ge x h).2; omega, fun h => by have := (ho3.ge x hx).1; have := (hs.out.d2.ge x h).2; omega⟩
        obtain ⟨a3, k3, rfl, -⟩ := ho3.rd
        clear ho3 hu3 hs
        go_wp2_with fail
        (with_reducible refine (dTotal_any HT3.out.d1 HNOW.out).mono ?_)
        rw [HTT.out]
        rintro e w4 ⟨rfl, hu4⟩
        have HT4 := Lib.hid (HT3.out.upd0 hu4)
        have HO4 := Lib.hid (HO3.out.upd hu4 (by simp))
        clear hu4 HT3 HO3
        go_wp2_with fail
        (with_reducible refine (dCount_any HT4.out.d1).mono ?_)
        rw [HCC.out]
        rintro e w5 ⟨rfl, rfl⟩
        go_wp2_with fail
        (with_reducible refine (dBack_any (cc : Int) (i64_d _ (by omega) (by omega)) HT4.out.d1 HMKL.out).mono ?_)
        rintro e w6 ⟨rfl, ho⟩
        obtain ⟨G6, h6, hu6, hf6⟩ := HT4.out.step ho
        have HT6 := Lib.hid h6
        have HO6 := Lib.hid (HO4.out.upd hu6 (fun x hx => (HAP3.out x hx).1))
        have HB6 : Hid ((dBack s (cc : Int)).now = s.now) := by unfold Hid; rw [← HCC.out]; exact back_all HOK.out
        have HN6 : Hid ((dBack s (cc : Int)).now.length ≤ 100000) := by unfold Hid; rw [HB6.out]; exact HNOW.out
        clear ho h6 hu6 hf6 HT4 HO4
        go_wp2_with fail
        (with_reducible refine (dNames_any HT6.out.d1 HN6.out).mono ?_)
        rw [show (dBack s (cc : Int)).now.map (·.1) = ns by rw [HB6.out]; exact HNS.out]
        rintro e w7 ⟨v7, rfl, ho7, hu7⟩
        have HT7 := Lib.hid (HT6.out.upd0 hu7)
        have HO7 := Lib.hid (HO6.out.upd hu7 (by simp))
        have HR7 := Lib.hid ho7.rd
        obtain ⟨a7, k7, rfl, -⟩ := ho7.rd
        clear ho7 hu7 HT6 HO6
        go_wp2_with fail
        (with_reducible refine (sameStr_yes _ _ ns _ HR7.out HO7.out.rd).mono ?_)
        rintro e w8 ⟨rfl, hu8⟩
        have HT8 := Lib.hid (HT7.out.upd0 hu8)
        have HO8 := Lib.hid (HO7.out.upd hu8 (by simp))
        clear hu8 HT7 HO7 HR7
        go_wp2_with fail
        (with_reducible refine (dTotal_any HT8.out.d1 HN6.out).mono ?_)
        rw [show dTotal (dBack s (cc : Int)).now = tt by rw [HB6.out]; exact HTT.out]
        rintro e w9 ⟨rfl, hu9⟩
        have HT9 := Lib.hid (HT8.out.upd0 hu9)
        have HO9 := Lib.hid (HO8.out.upd hu9 (by simp))
        clear hu9 HT8 HO8
        go_wp2_with fail
        (with_reducible refine (dCount_any HT9.out.d1).mono ?_)
        rw [show (((dBack s (cc : Int)).log.length : Nat) : Int) = 0 from rfl]
        rintro e w10 ⟨rfl, rfl⟩
        go_wp2_with fail
        (with_reducible refine (within_any n 0 (cc : Int) _ HN.out (by omega) (by omega) (by omega)).mono ?_)
        rintro e w10 ⟨rfl, rfl⟩
        have hwi := within_in n 0 (cc : Int) (by omega)
        obtain ⟨m, hm⟩ : ∃ m, within n 0 (cc : Int) = m := ⟨_, rfl⟩
        rw [hm] at hwi ⊢
        clear hm
        obtain ⟨hm0, hm1'⟩ := hwi
        go_wp2_with fail
        (with_reducible refine (dBack_any m (i64_d _ (by omega) (by omega)) HT9.out.d2 HMKL.out).mono ?_)
        rintro e w11 ⟨rfl, ho⟩
        obtain ⟨G11, h11, hu11, hf11⟩ := HT9.out.symm.step ho
        have HE11 := Lib.hid h11.d1
        have HO11 := Lib.hid (HO9.out.upd hu11 (fun x hx => (HAP3.out x hx).2))
        have HL11 := Lib.hid (back_nlen HOK.out HMK.out m)
        clear ho h11 hu11 hf11 HT9 HO9
        by_cases hmc : m = (cc : Int)
        · subst hmc
          have t9 : (((cc : Nat) : Int) == (cc : Int)) = true := by simp
          go_wp2_with fail
          (with_reducible refine (dNames_any HE11.out HL11.out).mono ?_)
          rw [show (dBack s (cc : Int)).now.map (·.1) = ns by rw [HB6.out]; exact HNS.out]
          rintro e w12 ⟨v12, rfl, ho12, hu12⟩
          have HE12 := Lib.hid (HE11.out.upd0 hu12)
          have HO12 := Lib.hid (HO11.out.upd hu12 (by simp))
          have HR12 := Lib.hid ho12.rd
          obtain ⟨a12, k12, rfl, -⟩ := ho12.rd
          clear ho12 hu12 HE11 HO11
          go_wp2_with fail
          (with_reducible refine (sameStr_yes _ _ ns _ HR12.out HO12.out.rd).mono ?_)
          rintro e w13 ⟨rfl, hu13⟩
          have HE13 := Lib.hid (HE12.out.upd0 hu13)
          clear hu13 HE12 HO12 HR12
          go_wp2_with fail
          (with_reducible refine (dTotal_any HE13.out HL11.out).mono ?_)
          rw [show dTotal (dBack s (cc : Int)).now = tt by rw [HB6.out]; exact HTT.out]
          rintro e w14 ⟨rfl, hu14⟩
          have HO14 := Lib.hid (HE13.out.upd0 hu14).old
          clear hu14 HE13
          go_wp2_with fail
          (with_reducible refine (diskRuns_any _).mono ?_)
          rintro e w15 ⟨rfl, hu15⟩
          go_wp2_with fail
          go_ret
          exact ⟨rfl, HO14.out.seq hu15⟩
        · have t9 : (m == (cc : Int)) = false := by rw [beq_eq_false_iff_ne]; exact hmc
          clear hmc
          by_cases hz : m = 0
          · subst hz
            have HZ : Hid ((dBack s 0).now.map (·.1) = []) := by unfold Hid; rw [back_zero HMK.out]; rfl
            go_wp2_with fail
            (with_reducible refine (dNames_any HE11.out HL11.out).mono ?_)
            rw [HZ.out]
            rintro e w12 ⟨v12, rfl, ho12, hu12⟩
            have HE12 := Lib.hid (HE11.out.upd0 hu12)
            obtain ⟨a12, k12, rfl, -⟩ := ho12.rd
            clear ho12 hu12 HE11
            go_wp2_with fail
            (with_reducible refine (dCount_any HE12.out).mono ?_)
            rw [show (((dBack s 0).log.length : Nat) : Int) = 0 from rfl]
            rintro e w13 ⟨rfl, rfl⟩
            have HO13 := Lib.hid HE12.out.old
            clear HE12
            go_wp2_with fail
            (with_reducible refine (diskRuns_any _).mono ?_)
            rintro e w15 ⟨rfl, hu15⟩
            go_wp2_with fail
            go_ret
            exact ⟨rfl, HO13.out.seq hu15⟩
          · have z : (0 : Int) < m := by omega
            clear hz
            go_wp2_with fail
            (with_reducible refine (dCount_any HE11.out).mono ?_)
            rw [show (((dBack s m).log.length : Nat) : Int) = 0 from rfl]
            rintro e w13 ⟨rfl, rfl⟩
            have HO13 := Lib.hid HE11.out.old
            clear HE11
            go_wp2_with fail
            (with_reducible refine (diskRuns_any _).mono ?_)
            rintro e w15 ⟨rfl, hu15⟩
            go_wp2_with fail
            go_ret
            exact ⟨rfl, HO13.out.seq hu15⟩
end Go.Proofs.Ytmhdhnipljonlaa
