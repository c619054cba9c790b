/- YardInos: the law returns true, whatever it is given. -/
import Derived.Test.YtmhdhnipljonlaaMA5
import Derived.Test.YtmhdhnipljonlaaMA1
namespace Go.Proofs.Ytmhdhnipljonlaa
open Go.RowKit
set_option linter.unusedSimpArgs false
set_option linter.unusedVariables false
theorem str_neI {a b : ByteArray} (h : a ≠ b) : (a.toList == b.toList) = false := by rw [beq_eq_false_iff_ne]; exact fun q => h (str_inj _ _ q)
theorem nth_in {α : Type} [Inhabited α] (l : List α) (k : Nat) (h : k < l.length) : nth l k ∈ l := by rw [nth_get _ _ h]; exact List.getElem_mem _
theorem yFiles_len (fl : FL) : (yFiles fl).length = fl.length := by unfold yFiles; simp
theorem yFiles_nth (fl : FL) (i : Nat) (hi : i < fl.length) : nth (yFiles fl) i = tellF (nth fl i) := by
  rw [nth_get _ i (by rw [yFiles_len]; exact hi), nth_get fl i hi]
  unfold yFiles; simp
set_option maxRecDepth 20000 in
set_option maxHeartbeats 8000000 in
theorem yardInos_any (w : World) (vl : Value) (l : List Ask21) (hl : RdN 7 ask21Cells w vl l) (hg : ∀ x ∈ l, Ask21Good w x) (s : ByteArray) (_ : s.size ≤ maxLen) :
    Calls Try.prog 13 #[vl, .string s] w fun e w' => e = .returned (.bool true) ∧ Upd [] w w' := by
  obtain ⟨a1, cap1, rfl, hlc1, hcm1, hcell1⟩ := hl
  have hm1 : l.length ≤ 9223372036854775807 := by unfold maxLen at hcm1; omega
  have HC1 := Lib.hid hcell1
  have HG := Lib.hid hg
  clear hlc1 hcm1 hcell1 hg
  go_enter Try.func13, Try.ntmps13
  go_wp2_with fail
  (with_reducible refine (yNew_any w _ (Upd.refl [] w)).mono ?_)
  rintro e w1 ⟨gy, rfl, ⟨G1, h1, -⟩, -⟩
  have H1 := Lib.hid h1
  clear h1
  go_wp2_with fail
  go_loopw [6] (fun vi wr => ∃ (k : Nat) (G : List Nat) (fl : FL), k ≤ 100 ∧ k ≤ l.length ∧ vi = .int .i64 k ∧ Hid (YD w wr gy G fl []) ∧ Hid (UN fl)) (fun vi _ => 100 - (intOf vi).toNat)
  case atStart => exact ⟨0, G1, [], by omega, by omega, rfl, H1, UN.nil⟩
  case round =>
    clear H1
    obtain ⟨k, G, fl, hk, hkl, rfl, hs, hU⟩ := hrel
    have hend : (k < l.length ∧ k < 100) ∨ (k = l.length ∧ Hid (k ≤ 100)) ∨ (k = 100 ∧ k < l.length) := by unfold Hid; omega
    rcases hend with ⟨hlt, h100⟩ | hend
    · obtain ⟨lb, loff, rfl, hca⟩ := HC1.out (by intro h; simp [h] at hlt)
      have q1 : (k : Int) < l.length := by omega
      have q2 : (k : Int) < 100 := by omega
      have q3 : (0 : Int) ≤ k := by omega
      have d0 : wr.cell? ⟨lb, loff + k * 7, none⟩ = some (.int .i64 (nth l k).kd) := hs.out.old.cell (hca k hlt 0 (by omega)) (by simp)
      have d1 : wr.cell? ⟨lb, loff + k * 7 + 1, none⟩ = some (.int .i64 (nth l k).n) := hs.out.old.cell (hca k hlt 1 (by omega)) (by simp)
      have d2 : wr.cell? ⟨lb, loff + k * 7 + 2, none⟩ = some (.int .i64 (nth l k).pos) := hs.out.old.cell (hca k hlt 2 (by omega)) (by simp)
      have d3 : wr.cell? ⟨lb, loff + k * 7 + 3, none⟩ = some (.int .i64 (nth l k).ino) := hs.out.old.cell (hca k hlt 3 (by omega)) (by simp)
      have d4 : wr.cell? ⟨lb, loff + k * 7 + 4, none⟩ = some (.string (nth l k).nm) := hs.out.old.cell (hca k hlt 4 (by omega)) (by simp)
      have d5 : wr.cell? ⟨lb, loff + k * 7 + 5, none⟩ = some (.string (nth l k).tn) := hs.out.old.cell (hca k hlt 5 (by omega)) (by simp)
      have d6 : wr.cell? ⟨lb, loff + k * 7 + 6, none⟩ = some (slv (nth l k).dv) := hs.out.old.cell (hca k hlt 6 (by omega)) (by simp)
      have hgx := HG.out (nth l k) (by rw [nth_get _ _ hlt]; exact List.getElem_mem _)
      generalize nth l k = x at *
      obtain ⟨kd, n0, pos, ino, nm, tn, ⟨da, dn, dc⟩, d⟩ := x
      obtain ⟨-, -, -, -, hrd⟩ := hgx
      have HRD : Hid (Bytes w (.slice da dn dc) d) := hrd
      have hdn : dn = d.length := by
        obtain ⟨a', c', he, -⟩ := HRD.out
        injection he with e1 e2 e3
      subst hdn
      have hdm : d.length ≤ 9223372036854775807 := by
        obtain ⟨a', c', he, h1, h2, -⟩ := HRD.out
        unfold maxLen at h2; omega
      simp only [slv] at d0 d1 d2 d3 d4 d5 d6
      have HSA := Lib.hid (hs.out.upd0 ((Upd.refl [] wr).alloc (.cells #[.int .i64 kd, .int .i64 n0, .int .i64 pos, .int .i64 ino, .string nm, .string tn, .slice da d.length dc] 81)))
      clear hca hrd
      by_cases hbig : 2000 < d.length
      · have t6 : (2000 : Int) < d.length := by omega
        go_wp2_with fail
        go_roundw
        case rel => exact ⟨k + 1, G, fl, by omega, by omega, by go_num, HSA, hU⟩
        case measure => simp [intOf]; omega
      · have t6 : ¬ (2000 : Int) < d.length := by omega
        by_cases k1 : kd = 1
        · subst k1
          go_wp2_with fail
          (with_reducible refine (yCreate_any nm HSA.out).mono ?_)
          rintro e wr' ⟨rfl, G', h', -, -⟩
          have hU' := Lib.hid (hU.out.create hs.out.ris.1 nm)
          clear HSA hs hU
          generalize hfl' : Prod.snd _ = fl' at h' hU'
          clear hfl'
          go_wp2_with fail
          go_roundw
          case rel => exact ⟨k + 1, G', fl', by omega, by omega, by go_num, h', hU'⟩
          case measure => simp [intOf]; omega
        · by_cases k2 : kd = 2
          · subst k2
            go_wp2_with fail
            (with_reducible refine (yAppend_any nm _ d (HRD.out.upd0 HSA.out.old) (by omega) HSA.out).mono ?_)
            rintro e wr' ⟨rfl, G', h', -, -⟩
            have hU' := Lib.hid (hU.out.append hs.out.ris.1 nm d)
            clear HSA hs hU
            generalize hfl' : Prod.snd _ = fl' at h' hU'
            clear hfl'
            go_wp2_with fail
            go_roundw
            case rel => exact ⟨k + 1, G', fl', by omega, by omega, by go_num, h', hU'⟩
            case measure => simp [intOf]; omega
          · by_cases k3 : kd = 3
            · subst k3
              go_wp2_with fail
              (with_reducible refine (yRename_any nm tn HSA.out).mono ?_)
              rintro e wr' ⟨rfl, G', h', -, -⟩
              have hU' := Lib.hid (hU.out.rename hs.out.ris.1 nm tn)
              clear HSA hs hU
              generalize hfl' : Prod.snd _ = fl' at h' hU'
              clear hfl'
              go_wp2_with fail
              go_roundw
              case rel => exact ⟨k + 1, G', fl', by omega, by omega, by go_num, h', hU'⟩
              case measure => simp [intOf]; omega
            · by_cases k5 : kd = 5
              · subst k5
                go_wp2_with fail
                (with_reducible refine (yRemove_any nm HSA.out).mono ?_)
                rintro e wr' ⟨rfl, G', h', -, -⟩
                have hU' := Lib.hid (hU.out.remove nm)
                clear HSA hs hU
                generalize hfl' : Prod.snd _ = fl' at h' hU'
                clear hfl'
                go_wp2_with fail
                go_roundw
                case rel => exact ⟨k + 1, G', fl', by omega, by omega, by go_num, h', hU'⟩
                case measure => simp [intOf]; omega
              · have t1 : (kd == 1) = false := by rw [beq_eq_false_iff_ne]; exact k1
                have t2 : (kd == 2) = false := by rw [beq_eq_false_iff_ne]; exact k2
                have t3 : (kd == 3) = false := by rw [beq_eq_false_iff_ne]; exact k3
                have t5 : (kd == 5) = false := by rw [beq_eq_false_iff_ne]; exact k5
                clear k1 k2 k3 k5
                go_wp2_with fail
                go_roundw
                case rel => exact ⟨k + 1, G, fl, by omega, by omega, by go_num, HSA, hU⟩
                case measure => simp [intOf]; omega
    · rcases hend with ⟨hke, h100⟩ | ⟨hke, hkn⟩
      · have q1 : ¬ (k : Int) < l.length := by omega
        clear h100
        have HR := Lib.hid hs.out.ris.1
        have HR12 := Lib.hid hs.out.ris.2.1
        have HRI := Lib.hid hs.out.ris.2.2
        clear HC1 HG
        go_wp2_with fail
        (with_reducible refine (yFiles_any hs.out).mono ?_)
        rintro e w2 ⟨vf, rfl, ho2, hu2⟩
        have HS2 := Lib.hid (hs.out.upd0 hu2)
        have HO2 := Lib.hid ho2
        have HAP2 : Hid (∀ x ∈ blk vf, x ∉ G) := fun x hx hg => by have := (ho2.ge x hx).1; have := (hs.out.ge x hg).2; omega
        have HYL := Lib.hid (yFiles_len fl)
        obtain ⟨fa, fc, rfl, hfc, hfm, hfcell⟩ := ho2.rd (by intro x; rfl)
        rw [HYL.out] at hfc HO2 hfcell HAP2
        have HFC := Lib.hid hfcell
        have hfm' : fl.length ≤ 12 := HR12.out
        clear hu2 hs ho2 hfcell hfm
        rw [HYL.out]
        go_wp2_with fail
        go_loopw [9, 10] (fun vf vi wr => ∃ i m : Nat, i ≤ fl.length ∧ vf = .int .i64 ((m : Int) + 1) ∧ vi = .int .i64 i ∧ FreeTo fl i m ∧ Hid (Upd [] w2 wr)) (fun _ vi _ => fl.length - (intOf vi).toNat)
        case atStart => exact ⟨0, 0, Nat.zero_le _, by go_num, rfl, FreeTo.zero, Upd.refl _ _⟩
        case round =>
          obtain ⟨i, m, hi, rfl, rfl, hF, hu⟩ := hrel
          by_cases hil : i < fl.length
          · obtain ⟨fb, foff, rfl, hfc'⟩ := HFC.out (by intro h; have := HYL.out; rw [h] at this; simp at this; omega)
            have HC0 : Hid (∀ k, k < fl.length → w2.cell? ⟨fb, foff + k * 3, none⟩ = some (.int .i64 (nth fl k).1)) := fun k hk => by have := hfc' k hk 0 (by omega); rw [yFiles_nth fl k hk] at this; exact this
            have HCN : Hid (∀ k, k < fl.length → w2.cell? ⟨fb, foff + k * 3 + 1, none⟩ = some (.string (nth fl k).2.1)) := fun k hk => by have := hfc' k hk 1 (by omega); rw [yFiles_nth fl k hk] at this; exact this
            obtain ⟨x, hx⟩ : ∃ x, (nth fl i).1 = x := ⟨_, rfl⟩
            obtain ⟨nm, hnm⟩ : ∃ nm, (nth fl i).2.1 = nm := ⟨_, rfl⟩
            have c0 : wr.cell? ⟨fb, foff + i * 3, none⟩ = some (.int .i64 x) := hu.out.cell (by rw [← hx]; exact HC0.out i hil) (by simp)
            have HXC : Hid (w2.cell? ⟨fb, foff + i * 3, none⟩ = some (.int .i64 x)) := by unfold Hid; rw [← hx]; exact HC0.out i hil
            have HNC : Hid (w2.cell? ⟨fb, foff + i * 3 + 1, none⟩ = some (.string nm)) := by unfold Hid; rw [← hnm]; exact HCN.out i hil
            have HNE : Hid (∀ k, k < i → (nth fl k).2.1 ≠ nm) := fun k hk he => by
              have e1 := hU.out _ (nth_in fl k (by omega)) _ (nth_in fl i hil) (he.trans hnm.symm)
              have e2 := of_decide_eq_true (HR.out k i hk hil)
              rw [e1] at e2; omega
            have hxb := HRI.out _ (nth_in fl i hil)
            rw [hx] at hxb
            obtain ⟨x1, x2, -⟩ := hxb
            have x3 : decide (x < 1) = false := by rw [decide_eq_false_iff_not]; omega
            have x4 : decide ((12 : Int) < x) = false := by rw [decide_eq_false_iff_not]; omega
            have p0 : (0 : Int) ≤ i := by omega
            have p1 : (i : Int) < fl.length := by omega
            have HF := Lib.hid hF
            have HXI := Lib.hid hx
            have hbnd : i ≤ 12 := by omega
            have hml := hF.le
            clear hF hfc' hnm
            by_cases hi0 : i = 0
            · have z : ¬ (0 : Int) < i := by omega
              have z1 : decide (0 < i) = false := by rw [decide_eq_false_iff_not]; omega
              have z2 : decide ((0 : Int) < i) = false := by rw [decide_eq_false_iff_not]; omega
              clear hi0 hx
              go_wp2_with fail
              go_quiet (fail)
              go_wp2_with fail
              go_loopw [11] (fun vk wr' => ∃ k : Nat, k ≤ i ∧ vk = .int .i64 k ∧ Hid (Upd [] w2 wr')) (fun vk _ => i - (intOf vk).toNat)
              case atStart => exact ⟨0, Nat.zero_le _, rfl, by first | exact hu.out.drewN _ | exact hu.out.drew⟩
              case round =>
                obtain ⟨k, hk2, rfl, hu'⟩ := hrel
                clear hu c0
                by_cases hki : k < i
                · have e1 : wr.cell? ⟨fb, foff + k * 3 + 1, none⟩ = some (.string (nth fl k).2.1) := hu'.out.cell (HCN.out k (by omega)) (by simp)
                  have e2 : wr.cell? ⟨fb, foff + i * 3 + 1, none⟩ = some (.string nm) := hu'.out.cell HNC.out (by simp)
                  have t1 := str_neI (HNE.out k hki)
                  have g1 : (k : Int) < i := by omega
                  have g2 : (0 : Int) ≤ k := by omega
                  have g3 : (k : Int) < fl.length := by omega
                  generalize (nth fl k).2.1 = nk at *
                  go_wp2_with fail
                  go_quiet (fail)
                  go_wp2_with fail
                  go_roundw
                  case rel => exact ⟨k + 1, by omega, by go_num, by first | exact hu'.out.drewN _ | exact hu'.out.drew⟩
                  case measure => simp [intOf]; omega
                · have g1 : ¬ (k : Int) < i := by omega
                  have c0 : wr.cell? ⟨fb, foff + i * 3, none⟩ = some (.int .i64 x) := hu'.out.cell HXC.out (by simp)
                  by_cases hxm : x = (m : Int) + 1
                  · have t1 : (x == (m : Int) + 1) = true := by rw [hxm]; simp
                    have HXM := Lib.hid hxm
                    clear hxm
                    go_wp2_with fail
                    go_roundw
                    case rel => exact ⟨i + 1, m + 1, by omega, by go_num, by go_num, HF.out.yes HR.out hil (HXI.out.trans HXM.out), hu'⟩
                    case measure => simp [intOf]; omega
                  · have t1 : (x == (m : Int) + 1) = false := by rw [beq_eq_false_iff_ne]; exact hxm
                    have HXM := Lib.hid hxm
                    clear hxm
                    go_wp2_with fail
                    go_roundw
                    case rel => exact ⟨i + 1, m, by omega, rfl, by go_num, HF.out.no' (by rw [HXI.out]; exact HXM.out), hu'⟩
                    case measure => simp [intOf]; omega
            · have z : (0 : Int) < i := by omega
              have z1 : decide (0 < i) = true := by rw [decide_eq_true_iff]; omega
              have z2 : decide ((0 : Int) < i) = true := by rw [decide_eq_true_iff]; omega
              obtain ⟨y, hy⟩ : ∃ y, (nth fl (i - 1)).1 = y := ⟨_, rfl⟩
              have cp : wr.cell? ⟨fb, foff + (i - 1) * 3, none⟩ = some (.int .i64 y) := hu.out.cell (by rw [← hy]; exact HC0.out (i - 1) (by omega)) (by simp)
              have hyx : decide (x ≤ y) = false := by
                have := of_decide_eq_true (HR.out (i - 1) i (by omega) hil)
                rw [hx, hy] at this; rw [decide_eq_false_iff_not]; omega
              have p2 : (0 : Int) ≤ (i : Int) - 1 := by omega
              have p3 : (i : Int) - 1 < fl.length := by omega
              clear hi0 hx hy
              go_wp2_with fail
              go_quiet (fail)
              go_wp2_with fail
              go_loopw [11] (fun vk wr' => ∃ k : Nat, k ≤ i ∧ vk = .int .i64 k ∧ Hid (Upd [] w2 wr')) (fun vk _ => i - (intOf vk).toNat)
              case atStart => exact ⟨0, Nat.zero_le _, rfl, by first | exact hu.out.drewN _ | exact hu.out.drew⟩
              case round =>
                obtain ⟨k, hk2, rfl, hu'⟩ := hrel
                clear hu c0
                by_cases hki : k < i
                · have e1 : wr.cell? ⟨fb, foff + k * 3 + 1, none⟩ = some (.string (nth fl k).2.1) := hu'.out.cell (HCN.out k (by omega)) (by simp)
                  have e2 : wr.cell? ⟨fb, foff + i * 3 + 1, none⟩ = some (.string nm) := hu'.out.cell HNC.out (by simp)
                  have t1 := str_neI (HNE.out k hki)
                  have g1 : (k : Int) < i := by omega
                  have g2 : (0 : Int) ≤ k := by omega
                  have g3 : (k : Int) < fl.length := by omega
                  generalize (nth fl k).2.1 = nk at *
                  go_wp2_with fail
                  go_quiet (fail)
                  go_wp2_with fail
                  go_roundw
                  case rel => exact ⟨k + 1, by omega, by go_num, by first | exact hu'.out.drewN _ | exact hu'.out.drew⟩
                  case measure => simp [intOf]; omega
                · have g1 : ¬ (k : Int) < i := by omega
                  have c0 : wr.cell? ⟨fb, foff + i * 3, none⟩ = some (.int .i64 x) := hu'.out.cell HXC.out (by simp)
                  by_cases hxm : x = (m : Int) + 1
                  · have t1 : (x == (m : Int) + 1) = true := by rw [hxm]; simp
                    have HXM := Lib.hid hxm
                    clear hxm
                    go_wp2_with fail
                    go_roundw
                    case rel => exact ⟨i + 1, m + 1, by omega, by go_num, by go_num, HF.out.yes HR.out hil (HXI.out.trans HXM.out), hu'⟩
                    case measure => simp [intOf]; omega
                  · have t1 : (x == (m : Int) + 1) = false := by rw [beq_eq_false_iff_ne]; exact hxm
                    have HXM := Lib.hid hxm
                    clear hxm
                    go_wp2_with fail
                    go_roundw
                    case rel => exact ⟨i + 1, m, by omega, rfl, by go_num, HF.out.no' (by rw [HXI.out]; exact HXM.out), hu'⟩
                    case measure => simp [intOf]; omega
          · obtain rfl : i = fl.length := by omega
            have hfree := hF.done HR.out
            have q9 : ¬ ((fl.length : Nat) : Int) < fl.length := by omega
            have HSr := Lib.hid (HS2.out.upd0 hu.out)
            have HOr := Lib.hid (HO2.out.upd hu.out (by simp))
            have hlaw := Lib.hid (create_law hU.out HR.out HR12.out s)
            clear HO2 HS2 hF hi hil HFC HYL HRI hu
            rcases hlaw.out with ⟨e1, e2, e3, e4⟩ | ⟨e1, e2, e3⟩
            · have hf0 : yFindF fl s = ((0, ⟨#[]⟩, 0), false) := by unfold yFindF; rw [e2]; rfl
              have HF0 := Lib.hid hf0
              have HE1 := Lib.hid e1
              have HE3 := Lib.hid e3
              have HE4 := Lib.hid e4
              have HFR := Lib.hid hfree
              clear hlaw e1 e2 e3 e4 hf0 hfree
              go_wp2_with fail
              (with_reducible refine (yFindF_any s HSr.out).mono ?_)
              rw [HF0.out]
              rintro e w3 ⟨rfl, hu3⟩
              have H3 := Lib.hid ((HSr.out.upd0 hu3).upd0 ((Upd.refl [] w3).alloc (.cells #[.int .i64 0, .string ⟨#[]⟩, .int .i64 0] 31)))
              clear hu3 HSr HOr
              go_wp2_with fail
              (with_reducible refine (yCreate_any s H3.out).mono ?_)
              rintro e w4 ⟨rfl, G4, h4, -, -⟩
              have H4 := Lib.hid h4
              clear h4 H3
              rw [HE1.out]
              go_wp2_with fail
              (with_reducible refine (yFindF_any s H4.out).mono ?_)
              rw [HE3.out, HFR.out]
              rintro e w5 ⟨rfl, hu5⟩
              have H5 := Lib.hid ((H4.out.upd0 hu5).upd0 ((Upd.refl [] w5).alloc (.cells #[.int .i64 ((m : Int) + 1), sv s, .int .i64 0] 31)))
              have hB5 := Blk.new w5 31 [.int .i64 ((m : Int) + 1), sv s, .int .i64 0]
              have D0 := Lib.hid (hB5.cell 0)
              have D2 := Lib.hid (hB5.cell 2)
              clear hu5 H4 hB5
              have hfl := HR12.out
              go_wp2_with fail
              (with_reducible refine (yFiles_any H5.out).mono ?_)
              rintro e w6 ⟨v6, rfl, ho6, hu6⟩
              obtain ⟨a6, c6, rfl, -⟩ := ho6.rd afCells_len
              rw [yFiles_len, HE4.out]
              have H6 := Lib.hid ((H5.out.upd0 hu6).old)
              clear hu6 ho6 H5
              go_wp2_with fail
              (with_reducible refine (yardRuns_any _).mono ?_)
              rintro e w9 ⟨rfl, hu9⟩
              go_wp2_with fail
              go_ret
              exact ⟨rfl, H6.out.seq hu9⟩
            · have HE2 := Lib.hid e2
              have hn0 : ((yCreate fl s).1 == 0) = false := by rw [beq_eq_false_iff_ne]; exact e1
              have h9 : fl.length = 12 ∨ (fl.length ≠ 12 ∧ ((yCreate fl s).1 == 9) = false) := by
                by_cases h : fl.length = 12
                · exact .inl h
                · exact .inr ⟨h, by rw [beq_eq_false_iff_ne]; exact fun h' => h (e3 h')⟩
              obtain ⟨r, hr⟩ : ∃ r, (yCreate fl s).1 = r := ⟨_, rfl⟩
              rw [hr] at hn0 h9
              have HR1 := Lib.hid hr
              obtain ⟨⟨⟨x, nm, z⟩, b⟩, hy⟩ : ∃ y, yFindF fl s = y := ⟨_, rfl⟩
              have HY := Lib.hid hy
              clear hlaw e1 e2 e3 hr hy hfree
              go_wp2_with fail
              (with_reducible refine (yFindF_any s HSr.out).mono ?_)
              rw [HY.out]
              rintro e w3 ⟨rfl, hu3⟩
              have H3 := Lib.hid ((HSr.out.upd0 hu3).upd0 ((Upd.refl [] w3).alloc (.cells #[.int .i64 x, .string nm, .int .i64 z] 31)))
              have HO3 := Lib.hid ((HOr.out.upd hu3 (by simp)).upd ((Upd.refl [] w3).alloc (.cells #[.int .i64 x, .string nm, .int .i64 z] 31)) (by simp))
              clear hu3 HSr HOr
              go_wp2_with fail
              (with_reducible refine (yCreate_any s H3.out).mono ?_)
              rintro e w4 ⟨rfl, G4, h4, hu4, -⟩
              rw [HE2.out] at h4
              rw [HR1.out]
              have H4 := Lib.hid h4
              have HO4 := Lib.hid (HO3.out.upd hu4 HAP2.out)
              clear h4 hu4 H3 HO3
              go_wp2_with fail
              (with_reducible refine (yFindF_any s H4.out).mono ?_)
              rw [HY.out]
              rintro e w5 ⟨rfl, hu5⟩
              have H5 := Lib.hid ((H4.out.upd0 hu5).upd0 ((Upd.refl [] w5).alloc (.cells #[.int .i64 x, sv nm, .int .i64 z] 31)))
              have HO5 := Lib.hid ((HO4.out.upd hu5 (by simp)).upd ((Upd.refl [] w5).alloc (.cells #[.int .i64 x, sv nm, .int .i64 z] 31)) (by simp))
              clear hu5 H4 HO4
              have hbb : (b == b) = true := by simp
              rcases h9 with h9 | ⟨h9, h9'⟩
              · have hl : (((fl.length : Nat) : Int) == 12) = true := by rw [h9]; rfl
                clear h9
                go_wp2_with fail
                (with_reducible refine (yFiles_any H5.out).mono ?_)
                rintro e w6 ⟨v6, rfl, ho6, hu6⟩
                have HRD6 := Lib.hid (ho6.rd afCells_len)
                have HRF6 := Lib.hid ((HO5.out.upd hu6 (by simp)).rd afCells_len)
                have H6 := Lib.hid ((H5.out.upd0 hu6).old)
                obtain ⟨a6, c6, rfl, -⟩ := ho6.rd afCells_len
                clear hu6 ho6 H5 HO5
                go_wp2_with fail
                (with_reducible refine (sameAF_ok _ _ (yFiles fl) _ HRD6.out HRF6.out).mono ?_)
                rintro e w7 ⟨rfl, hu7⟩
                have H7 := Lib.hid (H6.out.seq hu7)
                clear hu7 H6
                go_wp2_with fail
                (with_reducible refine (yardRuns_any _).mono ?_)
                rintro e w9 ⟨rfl, hu9⟩
                go_wp2_with fail
                go_ret
                exact ⟨rfl, H7.out.seq hu9⟩
              · have hl : (((fl.length : Nat) : Int) == 12) = false := by rw [beq_eq_false_iff_ne]; omega
                have h10 : (r != 9) = true := by simp [bne, h9']
                have h11 : ¬ r = 9 := beq_eq_false_iff_ne.1 h9'
                clear h9
                go_wp2_with fail
                (with_reducible refine (yFiles_any H5.out).mono ?_)
                rintro e w6 ⟨v6, rfl, ho6, hu6⟩
                have HRD6 := Lib.hid (ho6.rd afCells_len)
                have HRF6 := Lib.hid ((HO5.out.upd hu6 (by simp)).rd afCells_len)
                have H6 := Lib.hid ((H5.out.upd0 hu6).old)
                obtain ⟨a6, c6, rfl, -⟩ := ho6.rd afCells_len
                clear hu6 ho6 H5 HO5
                go_wp2_with fail
                (with_reducible refine (sameAF_ok _ _ (yFiles fl) _ HRD6.out HRF6.out).mono ?_)
                rintro e w7 ⟨rfl, hu7⟩
                have H7 := Lib.hid (H6.out.seq hu7)
                clear hu7 H6
                go_wp2_with fail
                (with_reducible refine (yardRuns_any _).mono ?_)
                rintro e w9 ⟨rfl, hu9⟩
                go_wp2_with fail
                go_ret
                exact ⟨rfl, H7.out.seq hu9⟩
      · have q1 : (k : Int) < l.length := by omega
        have q2 : ¬ (k : Int) < 100 := by omega
        have HR := Lib.hid hs.out.ris.1
        have HR12 := Lib.hid hs.out.ris.2.1
        have HRI := Lib.hid hs.out.ris.2.2
        clear HC1 HG
        go_wp2_with fail
        (with_reducible refine (yFiles_any hs.out).mono ?_)
        rintro e w2 ⟨vf, rfl, ho2, hu2⟩
        have HS2 := Lib.hid (hs.out.upd0 hu2)
        have HO2 := Lib.hid ho2
        have HAP2 : Hid (∀ x ∈ blk vf, x ∉ G) := fun x hx hg => by have := (ho2.ge x hx).1; have := (hs.out.ge x hg).2; omega
        have HYL := Lib.hid (yFiles_len fl)
        obtain ⟨fa, fc, rfl, hfc, hfm, hfcell⟩ := ho2.rd (by intro x; rfl)
        rw [HYL.out] at hfc HO2 hfcell HAP2
        have HFC := Lib.hid hfcell
        have hfm' : fl.length ≤ 12 := HR12.out
        clear hu2 hs ho2 hfcell hfm
        rw [HYL.out]
        go_wp2_with fail
        go_loopw [9, 10] (fun vf vi wr => ∃ i m : Nat, i ≤ fl.length ∧ vf = .int .i64 ((m : Int) + 1) ∧ vi = .int .i64 i ∧ FreeTo fl i m ∧ Hid (Upd [] w2 wr)) (fun _ vi _ => fl.length - (intOf vi).toNat)
        case atStart => exact ⟨0, 0, Nat.zero_le _, by go_num, rfl, FreeTo.zero, Upd.refl _ _⟩
        case round =>
          obtain ⟨i, m, hi, rfl, rfl, hF, hu⟩ := hrel
          by_cases hil : i < fl.length
          · obtain ⟨fb, foff, rfl, hfc'⟩ := HFC.out (by intro h; have := HYL.out; rw [h] at this; simp at this; omega)
            have HC0 : Hid (∀ k, k < fl.length → w2.cell? ⟨fb, foff + k * 3, none⟩ = some (.int .i64 (nth fl k).1)) := fun k hk => by have := hfc' k hk 0 (by omega); rw [yFiles_nth fl k hk] at this; exact this
            have HCN : Hid (∀ k, k < fl.length → w2.cell? ⟨fb, foff + k * 3 + 1, none⟩ = some (.string (nth fl k).2.1)) := fun k hk => by have := hfc' k hk 1 (by omega); rw [yFiles_nth fl k hk] at this; exact this
            obtain ⟨x, hx⟩ : ∃ x, (nth fl i).1 = x := ⟨_, rfl⟩
            obtain ⟨nm, hnm⟩ : ∃ nm, (nth fl i).2.1 = nm := ⟨_, rfl⟩
            have c0 : wr.cell? ⟨fb, foff + i * 3, none⟩ = some (.int .i64 x) := hu.out.cell (by rw [← hx]; exact HC0.out i hil) (by simp)
            have HXC : Hid (w2.cell? ⟨fb, foff + i * 3, none⟩ = some (.int .i64 x)) := by unfold Hid; rw [← hx]; exact HC0.out i hil
            have HNC : Hid (w2.cell? ⟨fb, foff + i * 3 + 1, none⟩ = some (.string nm)) := by unfold Hid; rw [← hnm]; exact HCN.out i hil
            have HNE : Hid (∀ k, k < i → (nth fl k).2.1 ≠ nm) := fun k hk he => by
              have e1 := hU.out _ (nth_in fl k (by omega)) _ (nth_in fl i hil) (he.trans hnm.symm)
              have e2 := of_decide_eq_true (HR.out k i hk hil)
              rw [e1] at e2; omega
            have hxb := HRI.out _ (nth_in fl i hil)
            rw [hx] at hxb
            obtain ⟨x1, x2, -⟩ := hxb
            have x3 : decide (x < 1) = false := by rw [decide_eq_false_iff_not]; omega
            have x4 : decide ((12 : Int) < x) = false := by rw [decide_eq_false_iff_not]; omega
            have p0 : (0 : Int) ≤ i := by omega
            have p1 : (i : Int) < fl.length := by omega
            have HF := Lib.hid hF
            have HXI := Lib.hid hx
            have hbnd : i ≤ 12 := by omega
            have hml := hF.le
            clear hF hfc' hnm
            by_cases hi0 : i = 0
            · have z : ¬ (0 : Int) < i := by omega
              have z1 : decide (0 < i) = false := by rw [decide_eq_false_iff_not]; omega
              have z2 : decide ((0 : Int) < i) = false := by rw [decide_eq_false_iff_not]; omega
              clear hi0 hx
              go_wp2_with fail
              go_quiet (fail)
              go_wp2_with fail
              go_loopw [11] (fun vk wr' => ∃ k : Nat, k ≤ i ∧ vk = .int .i64 k ∧ Hid (Upd [] w2 wr')) (fun vk _ => i - (intOf vk).toNat)
              case atStart => exact ⟨0, Nat.zero_le _, rfl, by first | exact hu.out.drewN _ | exact hu.out.drew⟩
              case round =>
                obtain ⟨k, hk2, rfl, hu'⟩ := hrel
                clear hu c0
                by_cases hki : k < i
                · have e1 : wr.cell? ⟨fb, foff + k * 3 + 1, none⟩ = some (.string (nth fl k).2.1) := hu'.out.cell (HCN.out k (by omega)) (by simp)
                  have e2 : wr.cell? ⟨fb, foff + i * 3 + 1, none⟩ = some (.string nm) := hu'.out.cell HNC.out (by simp)
                  have t1 := str_neI (HNE.out k hki)
                  have g1 : (k : Int) < i := by omega
                  have g2 : (0 : Int) ≤ k := by omega
                  have g3 : (k : Int) < fl.length := by omega
                  generalize (nth fl k).2.1 = nk at *
                  go_wp2_with fail
                  go_quiet (fail)
                  go_wp2_with fail
                  go_roundw
                  case rel => exact ⟨k + 1, by omega, by go_num, by first | exact hu'.out.drewN _ | exact hu'.out.drew⟩
                  case measure => simp [intOf]; omega
                · have g1 : ¬ (k : Int) < i := by omega
                  have c0 : wr.cell? ⟨fb, foff + i * 3, none⟩ = some (.int .i64 x) := hu'.out.cell HXC.out (by simp)
                  by_cases hxm : x = (m : Int) + 1
                  · have t1 : (x == (m : Int) + 1) = true := by rw [hxm]; simp
                    have HXM := Lib.hid hxm
                    clear hxm
                    go_wp2_with fail
                    go_roundw
                    case rel => exact ⟨i + 1, m + 1, by omega, by go_num, by go_num, HF.out.yes HR.out hil (HXI.out.trans HXM.out), hu'⟩
                    case measure => simp [intOf]; omega
                  · have t1 : (x == (m : Int) + 1) = false := by rw [beq_eq_false_iff_ne]; exact hxm
                    have HXM := Lib.hid hxm
                    clear hxm
                    go_wp2_with fail
                    go_roundw
                    case rel => exact ⟨i + 1, m, by omega, rfl, by go_num, HF.out.no' (by rw [HXI.out]; exact HXM.out), hu'⟩
                    case measure => simp [intOf]; omega
            · have z : (0 : Int) < i := by omega
              have z1 : decide (0 < i) = true := by rw [decide_eq_true_iff]; omega
              have z2 : decide ((0 : Int) < i) = true := by rw [decide_eq_true_iff]; omega
              obtain ⟨y, hy⟩ : ∃ y, (nth fl (i - 1)).1 = y := ⟨_, rfl⟩
              have cp : wr.cell? ⟨fb, foff + (i - 1) * 3, none⟩ = some (.int .i64 y) := hu.out.cell (by rw [← hy]; exact HC0.out (i - 1) (by omega)) (by simp)
              have hyx : decide (x ≤ y) = false := by
                have := of_decide_eq_true (HR.out (i - 1) i (by omega) hil)
                rw [hx, hy] at this; rw [decide_eq_false_iff_not]; omega
              have p2 : (0 : Int) ≤ (i : Int) - 1 := by omega
              have p3 : (i : Int) - 1 < fl.length := by omega
              clear hi0 hx hy
              go_wp2_with fail
              go_quiet (fail)
              go_wp2_with fail
              go_loopw [11] (fun vk wr' => ∃ k : Nat, k ≤ i ∧ vk = .int .i64 k ∧ Hid (Upd [] w2 wr')) (fun vk _ => i - (intOf vk).toNat)
              case atStart => exact ⟨0, Nat.zero_le _, rfl, by first | exact hu.out.drewN _ | exact hu.out.drew⟩
              case round =>
                obtain ⟨k, hk2, rfl, hu'⟩ := hrel
                clear hu c0
                by_cases hki : k < i
                · have e1 : wr.cell? ⟨fb, foff + k * 3 + 1, none⟩ = some (.string (nth fl k).2.1) := hu'.out.cell (HCN.out k (by omega)) (by simp)
                  have e2 : wr.cell? ⟨fb, foff + i * 3 + 1, none⟩ = some (.string nm) := hu'.out.cell HNC.out (by simp)
                  have t1 := str_neI (HNE.out k hki)
                  have g1 : (k : Int) < i := by omega
                  have g2 : (0 : Int) ≤ k := by omega
                  have g3 : (k : Int) < fl.length := by omega
                  generalize (nth fl k).2.1 = nk at *
                  go_wp2_with fail
                  go_quiet (fail)
                  go_wp2_with fail
                  go_roundw
                  case rel => exact ⟨k + 1, by omega, by go_num, by first | exact hu'.out.drewN _ | exact hu'.out.drew⟩
                  case measure => simp [intOf]; omega
                · have g1 : ¬ (k : Int) < i := by omega
                  have c0 : wr.cell? ⟨fb, foff + i * 3, none⟩ = some (.int .i64 x) := hu'.out.cell HXC.out (by simp)
                  by_cases hxm : x = (m : Int) + 1
                  · have t1 : (x == (m : Int) + 1) = true := by rw [hxm]; simp
                    have HXM := Lib.hid hxm
                    clear hxm
                    go_wp2_with fail
                    go_roundw
                    case rel => exact ⟨i + 1, m + 1, by omega, by go_num, by go_num, HF.out.yes HR.out hil (HXI.out.trans HXM.out), hu'⟩
                    case measure => simp [intOf]; omega
                  · have t1 : (x == (m : Int) + 1) = false := by rw [beq_eq_false_iff_ne]; exact hxm
                    have HXM := Lib.hid hxm
                    clear hxm
                    go_wp2_with fail
                    go_roundw
                    case rel => exact ⟨i + 1, m, by omega, rfl, by go_num, HF.out.no' (by rw [HXI.out]; exact HXM.out), hu'⟩
                    case measure => simp [intOf]; omega
          · obtain rfl : i = fl.length := by omega
            have hfree := hF.done HR.out
            have q9 : ¬ ((fl.length : Nat) : Int) < fl.length := by omega
            have HSr := Lib.hid (HS2.out.upd0 hu.out)
            have HOr := Lib.hid (HO2.out.upd hu.out (by simp))
            have hlaw := Lib.hid (create_law hU.out HR.out HR12.out s)
            clear HO2 HS2 hF hi hil HFC HYL HRI hu
            rcases hlaw.out with ⟨e1, e2, e3, e4⟩ | ⟨e1, e2, e3⟩
            · have hf0 : yFindF fl s = ((0, ⟨#[]⟩, 0), false) := by unfold yFindF; rw [e2]; rfl
              have HF0 := Lib.hid hf0
              have HE1 := Lib.hid e1
              have HE3 := Lib.hid e3
              have HE4 := Lib.hid e4
              have HFR := Lib.hid hfree
              clear hlaw e1 e2 e3 e4 hf0 hfree
              go_wp2_with fail
              (with_reducible refine (yFindF_any s HSr.out).mono ?_)
              rw [HF0.out]
              rintro e w3 ⟨rfl, hu3⟩
              have H3 := Lib.hid ((HSr.out.upd0 hu3).upd0 ((Upd.refl [] w3).alloc (.cells #[.int .i64 0, .string ⟨#[]⟩, .int .i64 0] 31)))
              clear hu3 HSr HOr
              go_wp2_with fail
              (with_reducible refine (yCreate_any s H3.out).mono ?_)
              rintro e w4 ⟨rfl, G4, h4, -, -⟩
              have H4 := Lib.hid h4
              clear h4 H3
              rw [HE1.out]
              go_wp2_with fail
              (with_reducible refine (yFindF_any s H4.out).mono ?_)
              rw [HE3.out, HFR.out]
              rintro e w5 ⟨rfl, hu5⟩
              have H5 := Lib.hid ((H4.out.upd0 hu5).upd0 ((Upd.refl [] w5).alloc (.cells #[.int .i64 ((m : Int) + 1), sv s, .int .i64 0] 31)))
              have hB5 := Blk.new w5 31 [.int .i64 ((m : Int) + 1), sv s, .int .i64 0]
              have D0 := Lib.hid (hB5.cell 0)
              have D2 := Lib.hid (hB5.cell 2)
              clear hu5 H4 hB5
              have hfl := HR12.out
              go_wp2_with fail
              (with_reducible refine (yFiles_any H5.out).mono ?_)
              rintro e w6 ⟨v6, rfl, ho6, hu6⟩
              obtain ⟨a6, c6, rfl, -⟩ := ho6.rd afCells_len
              rw [yFiles_len, HE4.out]
              have H6 := Lib.hid ((H5.out.upd0 hu6).old)
              clear hu6 ho6 H5
              go_wp2_with fail
              (with_reducible refine (yardRuns_any _).mono ?_)
              rintro e w9 ⟨rfl, hu9⟩
              go_wp2_with fail
              go_ret
              exact ⟨rfl, H6.out.seq hu9⟩
            · have HE2 := Lib.hid e2
              have hn0 : ((yCreate fl s).1 == 0) = false := by rw [beq_eq_false_iff_ne]; exact e1
              have h9 : fl.length = 12 ∨ (fl.length ≠ 12 ∧ ((yCreate fl s).1 == 9) = false) := by
                by_cases h : fl.length = 12
                · exact .inl h
                · exact .inr ⟨h, by rw [beq_eq_false_iff_ne]; exact fun h' => h (e3 h')⟩
              obtain ⟨r, hr⟩ : ∃ r, (yCreate fl s).1 = r := ⟨_, rfl⟩
              rw [hr] at hn0 h9
              have HR1 := Lib.hid hr
              obtain ⟨⟨⟨x, nm, z⟩, b⟩, hy⟩ : ∃ y, yFindF fl s = y := ⟨_, rfl⟩
              have HY := Lib.hid hy
              clear hlaw e1 e2 e3 hr hy hfree
              go_wp2_with fail
              (with_reducible refine (yFindF_any s HSr.out).mono ?_)
              rw [HY.out]
              rintro e w3 ⟨rfl, hu3⟩
              have H3 := Lib.hid ((HSr.out.upd0 hu3).upd0 ((Upd.refl [] w3).alloc (.cells #[.int .i64 x, .string nm, .int .i64 z] 31)))
              have HO3 := Lib.hid ((HOr.out.upd hu3 (by simp)).upd ((Upd.refl [] w3).alloc (.cells #[.int .i64 x, .string nm, .int .i64 z] 31)) (by simp))
              clear hu3 HSr HOr
              go_wp2_with fail
              (with_reducible refine (yCreate_any s H3.out).mono ?_)
              rintro e w4 ⟨rfl, G4, h4, hu4, -⟩
              rw [HE2.out] at h4
              rw [HR1.out]
              have H4 := Lib.hid h4
              have HO4 := Lib.hid (HO3.out.upd hu4 HAP2.out)
              clear h4 hu4 H3 HO3
              go_wp2_with fail
              (with_reducible refine (yFindF_any s H4.out).mono ?_)
              rw [HY.out]
              rintro e w5 ⟨rfl, hu5⟩
              have H5 := Lib.hid ((H4.out.upd0 hu5).upd0 ((Upd.refl [] w5).alloc (.cells #[.int .i64 x, sv nm, .int .i64 z] 31)))
              have HO5 := Lib.hid ((HO4.out.upd hu5 (by simp)).upd ((Upd.refl [] w5).alloc (.cells #[.int .i64 x, sv nm, .int .i64 z] 31)) (by simp))
              clear hu5 H4 HO4
              have hbb : (b == b) = true := by simp
              rcases h9 with h9 | ⟨h9, h9'⟩
              · have hl : (((fl.length : Nat) : Int) == 12) = true := by rw [h9]; rfl
                clear h9
                go_wp2_with fail
                (with_reducible refine (yFiles_any H5.out).mono ?_)
                rintro e w6 ⟨v6, rfl, ho6, hu6⟩
                have HRD6 := Lib.hid (ho6.rd afCells_len)
                have HRF6 := Lib.hid ((HO5.out.upd hu6 (by simp)).rd afCells_len)
                have H6 := Lib.hid ((H5.out.upd0 hu6).old)
                obtain ⟨a6, c6, rfl, -⟩ := ho6.rd afCells_len
                clear hu6 ho6 H5 HO5
                go_wp2_with fail
                (with_reducible refine (sameAF_ok _ _ (yFiles fl) _ HRD6.out HRF6.out).mono ?_)
                rintro e w7 ⟨rfl, hu7⟩
                have H7 := Lib.hid (H6.out.seq hu7)
                clear hu7 H6
                go_wp2_with fail
                (with_reducible refine (yardRuns_any _).mono ?_)
                rintro e w9 ⟨rfl, hu9⟩
                go_wp2_with fail
                go_ret
                exact ⟨rfl, H7.out.seq hu9⟩
              · have hl : (((fl.length : Nat) : Int) == 12) = false := by rw [beq_eq_false_iff_ne]; omega
                have h10 : (r != 9) = true := by simp [bne, h9']
                have h11 : ¬ r = 9 := beq_eq_false_iff_ne.1 h9'
                clear h9
                go_wp2_with fail
                (with_reducible refine (yFiles_any H5.out).mono ?_)
                rintro e w6 ⟨v6, rfl, ho6, hu6⟩
                have HRD6 := Lib.hid (ho6.rd afCells_len)
                have HRF6 := Lib.hid ((HO5.out.upd hu6 (by simp)).rd afCells_len)
                have H6 := Lib.hid ((H5.out.upd0 hu6).old)
                obtain ⟨a6, c6, rfl, -⟩ := ho6.rd afCells_len
                clear hu6 ho6 H5 HO5
                go_wp2_with fail
                (with_reducible refine (sameAF_ok _ _ (yFiles fl) _ HRD6.out HRF6.out).mono ?_)
                rintro e w7 ⟨rfl, hu7⟩
                have H7 := Lib.hid (H6.out.seq hu7)
                clear hu7 H6
                go_wp2_with fail
                (with_reducible refine (yardRuns_any _).mono ?_)
                rintro e w9 ⟨rfl, hu9⟩
                go_wp2_with fail
                go_ret
                exact ⟨rfl, H7.out.seq hu9⟩
end Go.Proofs.Ytmhdhnipljonlaa
namespace Go.Proofs.Ytmhdhnipljonlaa.lYardInos
open Go.ChangeShapes Go.WideShapes Go.ChangeAt Go.RowKit Go.Deep
open Go.ChangeMaps (open_string shut_string)
set_option linter.unusedSimpArgs false
set_option linter.unusedVariables false
theorem own : ownKnob Try.prog.godebug = none := by kernel_rfl
theorem laidOut : laidOutB Try.prog = true := by kernel_rfl
set_option maxRecDepth 100000 in
theorem walk (H : Type) (enc : TypeId × Value → H) : LawCalls Try.prog 13 Try.f13 H enc (fun ds => True) := by
  intro W base args ds ps hval hA hsz hk
  rw [Try.params13] at hA hval hsz
  obtain ⟨v0, vs0, d0, ds0, p0, q0, hargs, rfl, rfl, h0, r0⟩ := trodAll_cons hA
  obtain ⟨v1, vs1, d1, ds1, p1, q1, rfl, rfl, rfl, h1, r1⟩ := trodAll_cons r0
  obtain ⟨rfl, rfl, rfl⟩ := trodAll_nil r1
  obtain rfl : args = #[v0, v1] := by cases args; simp_all
  obtain ⟨l0, w0, g0⟩ := open_asks21 (hval 0 _ v0 rfl rfl) h0
  obtain ⟨a1, rfl, rfl, rfl, w1⟩ := open_string Try.underlying9 (hval 1 _ v1 rfl rfl) h1
  exact yardInos_any W v0 l0 w0 g0 a1 w1
set_option maxRecDepth 100000 in
theorem lifted (os : Os) (started : os.Started) (H : Type) (enc : TypeId × Value → H) :
    ReturnsInHanded {} Try.checked os 13 .any (Rows.yardInosSpec.pre6 enc Try.prog Try.f13 Rows.yardInosRow.domain false) (Rows.yardInosSpec.post enc Try.prog Try.f13 false true false false) :=
  law_said (C := Try.checked) own started (by kernel_rfl) Try.func13
    (ChangeSpec.witness6 (enc := enc) (C := Try.checked) false ⟨#[], #[.slice none 0 0, .string .empty], []⟩ 8 (by kernel_rfl) (by kernel_rfl) (by kernel_rfl) (by kernel_rfl))
    laidOut (by rw [Try.params13]; intro t ht; simp only [List.mem_cons, List.not_mem_nil, or_false] at ht; rcases ht with rfl | rfl <;> exact ⟨by kernel_rfl, of_decide_eq_true (by kernel_rfl)⟩) rfl 4 (by kernel_rfl) Try.underlying4 (by intro ds h; match ds, h with | [d0, d1], _ => exact ⟨rfl, rfl, rfl⟩) (walk H enc)
theorem proved : Rows.YardInosSaid :=
  OpenClaim.holds_of_wide 13 Try.f13 rfl rfl rfl rfl rfl rfl rfl ⟨rfl, rfl, rfl, rfl, rfl⟩ rfl rfl rfl rfl rfl (by kernel_rfl) Try.func13 (by kernel_rfl)
    (of_decide_eq_true (by kernel_rfl)) (by unfold Func.isWrapper; rw [if_neg (of_decide_eq_false (by kernel_rfl))]; exact ⟨rfl, rfl⟩)
    (fun os started H enc _ => lifted os started H enc)
end Go.Proofs.Ytmhdhnipljonlaa.lYardInos
