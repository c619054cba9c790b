/- Texts of the proof, joined: The document's disk: Append. Chapter 23's Next, the document's. The document's Parse of the empty text. The document's trees of the empty node. The document's Compile of the empty node. A rule's name: the document's look at it. -/
import Derived.Test.YtmhojaiajhdlcaaGreatMp8
import Derived.Test.YtmhojaiajhdlcaaGreatMp6
import Derived.Test.YtmhojaiajhdlcaaGreatMp2
import Derived.Test.YtmhojaiajhdlcaaGreatMp4
import Derived.Test.YtmhojaiajhdlcaaGreatRows
import Derived.Test.YtmhojaiajhdlcaaGreatMp3
import Derived.Deep.RegionLaw
import Derived.Laws.IdiomStrings
import Derived.Deep.CutBlock
import Derived.Deep.DeepCutAuto
namespace Go.Proofs.YtmhojaiajhdlcaaGreat
open Go.RowKit
set_option linter.unusedSimpArgs false
set_option linter.unusedVariables false
section
variable {w0 w w' : World} {gr : Nat} {G : List Nat} {s : DS}
set_option maxRecDepth 20000 in
set_option maxHeartbeats 4000000 in
theorem rAppend_any (nm : ByteArray) (v : Value) (p : List UInt8) (hp : Bytes w v p) (hap : p ≠ [] → ∀ x ∈ blk v, x ∉ G) (h : RD w0 w gr G s) (hpl : p.length ≤ 100000000) (hn : s.now.length ≤ 4999) (hl : s.log.length ≤ 500000000) :
    Calls Tryz.prog 20 #[.pointer (some ⟨gr, 0, none⟩), sv nm, v] w (RAns w0 w gr G (dAppend s nm p)) := by
  have HP := Lib.hid hp
  have HLT : Hid (p ≠ [] → ∀ x ∈ blk v, x < w.heap.size) := fun hne => hp.lt hne
  obtain ⟨ap, cp, rfl, hp1, hp2, -⟩ := hp
  have hcp : cp ≤ 9223372036854775807 := by unfold maxLen at hp2; omega
  obtain ⟨na, nn, nk, ln, R, c0, -, -, hget⟩ := h.look nm (by omega)
  have HGET := Lib.hid hget
  have C0 := Lib.hid c0
  have HD := Lib.hid h
  have HL := Lib.hid hl
  have HNL := Lib.hid hn
  have HAP := Lib.hid hap
  have htot := h.ok.tot
  clear hget h hl hn hp2 c0 hap
  cases hok : nameOk nm with
  | false =>
    have HR : Hid (dAppend s nm p = (14, s)) := by unfold Hid dAppend; rw [hok]; rfl
    have HOK := Lib.hid hok
    clear hok
    go_enter Tryz.func20, Tryz.ntmps20
    go_wp2_with fail
    (with_reducible refine (rName_any w nm).mono ?_)
    rw [HOK.out]
    rintro e w1 ⟨rfl, rfl⟩
    go_wp2_with fail
    go_ret
    exact ⟨by rw [HR.out]; rfl, by rw [HR.out]; exact HD.out.out0 (Upd.refl _ _)⟩
  | true =>
    have HOK := Lib.hid hok
    have HTOT : Hid (s.now.length ≤ 100000) := by have := HNL.out; unfold Hid; omega
    have hwr0 : IntKind.i64.wrap ((dTotal s.now : Int) + p.length) = (dTotal s.now : Int) + p.length := by rw [IntKind.wrap_i64]; omega
    by_cases hfull : 16777216 < dTotal s.now + p.length
    · have HR : Hid (dAppend s nm p = (9, s)) := by unfold Hid dAppend; rw [hok, if_pos rfl, if_pos hfull]
      have q : (16777216 : Int) < (dTotal s.now : Int) + p.length := by omega
      clear hok
      go_enter Tryz.func20, Tryz.ntmps20
      go_wp2_with fail
      (with_reducible refine (rName_any w nm).mono ?_)
      rw [HOK.out]
      rintro e w1 ⟨rfl, rfl⟩
      go_wp2_with fail
      (with_reducible refine (rTotal_any HD.out HTOT.out).mono ?_)
      rintro e w2 ⟨rfl, hu2⟩
      have HU2 := Lib.hid hu2
      clear hu2
      go_wp2_with fail
      go_ret
      exact ⟨by rw [HR.out]; rfl, by rw [HR.out]; exact HD.out.out0 HU2.out⟩
    · have q : ¬ (16777216 : Int) < (dTotal s.now : Int) + p.length := by omega
      have HT : Hid (dTotal s.now + p.length ≤ 16777216) := by unfold Hid; omega
      cases hin : inD s.now nm with
      | true =>
        have HR : Hid (dAppend s nm p = (0, dPut nm s (chunks p))) := by unfold Hid dAppend; rw [hok, if_pos rfl, if_neg hfull, hin, if_pos rfl]
        rw [hin, if_pos rfl] at HGET
        have HIN1 := Lib.hid hin
        have z : ¬ ((below strLt ln nm : Nat) : Int) < 0 := by omega
        generalize below strLt ln nm = kk at *
        clear hok hin hfull
        go_enter Tryz.func20, Tryz.ntmps20
        go_wp2_with fail
        (with_reducible refine (rName_any w nm).mono ?_)
        rw [HOK.out]
        rintro e w1 ⟨rfl, rfl⟩
        go_wp2_with fail
        (with_reducible refine (rTotal_any HD.out HTOT.out).mono ?_)
        rintro e w2 ⟨rfl, hu2⟩
        have HU2 := Lib.hid hu2
        have c0 := hu2.cell C0.out (by simp)
        clear hu2
        go_wp2_with fail
        (with_reducible refine (HGET.out w2 HU2.out).mono ?_)
        rintro e w3 ⟨rfl, hu3⟩
        have HU3 := Lib.hid (HU2.out.seq hu3)
        have D1 := Lib.hid (HD.out.upd0 HU3.out)
        have HP1 := Lib.hid (HP.out.upd0 HU3.out)
        have HAP1 := Lib.hid HAP.out
        have HLN1 : Hid (s.now.length ≤ 5000) := by have := HNL.out; unfold Hid; omega
        have HTT1 : Hid (dTotal s.now + p.length ≤ 16777216) := HT.out
        have HLG1 : Hid (s.log.length ≤ 500000001) := by have := HL.out; unfold Hid; omega
        clear hu3 c0 q hwr0 htot
        go_wp2_with fail
        go_loopw [7] (fun v wr => ∃ (k J : Nat) (G' : List Nat), k ≤ (chunks p).length ∧ Hid (J = 32 * k) ∧ v = .int .i64 (J : Int) ∧ Hid (RD w0 wr gr G' (dPut nm s ((chunks p).take k))) ∧ Hid (Upd G w3 wr) ∧ Hid (∀ x ∈ G', x ∈ G ∨ (w3.heap).size ≤ x)) (fun v _ => p.length - (intOf v).toNat)
        case atStart => exact ⟨0, 0, G, Nat.zero_le _, rfl, rfl, D1.out, Upd.refl _ _, fun x hx => .inl hx⟩
        case round =>
          obtain ⟨k, J, G', hk, HJ, rfl, hd, hu, hg⟩ := hrel
          have hcl := chunks_len p
          by_cases hpos : J < p.length
          · have hlt : k < (chunks p).length := by have := HJ.out; omega
            obtain ⟨hw0, hstep⟩ : WrOk (wPut nm ((p.drop (32 * k)).take 32)) (dPut nm s ((chunks p).take k)).now ∧ (dPut nm s ((chunks p).take k)).log.length ≤ 1000000000 := by
              have ih := PutOk.all p D1.out.ok HIN1.out HLN1.out HTT1.out k hk
              have hcl2 : ((p.drop (32 * k)).take 32).length = min 32 (p.length - 32 * k) := by rw [List.length_take, List.length_drop]
              have htt := HTT1.out
              have := HJ.out
              refine ⟨(ih.step ((p.drop (32 * k)).take 32) (fun q => by rw [q] at hcl2; simp at hcl2; omega) HLN1.out (by rw [hcl2]; omega)).1, ?_⟩
              have := ih.log
              have := HLG1.out
              omega
            have HWO := Lib.hid hw0
            have HLO := Lib.hid hstep
            have HDT := Lib.hid (dPut_take nm s p k hlt)
            have q0 : (0 : Int) ≤ J := by omega
            have q1 : (J : Int) < p.length := by omega
            have hwr : IntKind.i64.wrap ((J : Int) + 32) = (J : Int) + 32 := by rw [IntKind.wrap_i64]; omega
            clear hw0 hstep hcl
            rcases Nat.lt_or_ge p.length (J + 32) with q | q
            · obtain ⟨M, hM⟩ : ∃ M, M = p.length := ⟨_, rfl⟩
              have q2 : (p.length : Int) < (J : Int) + 32 := by omega
              obtain ⟨Ln, hLn⟩ : ∃ Ln, M - J = Ln := ⟨_, rfl⟩
              obtain ⟨A, hA, hcut⟩ : ∃ A : Option Addr, A = (if cp = J then ap else ap.map (·.add J)) ∧ ∀ W, (Instr.slice 28 (.slice ap p.length cp) (some (.int .i64 (J : Int))) (some (.int .i64 (p.length : Int))) none).run Tryz.prog W = .ok (.slice A Ln (cp - J)) W :=
                ⟨_, rfl, fun W => by have h := run_cut_lh (P := Tryz.prog) (size := 1) Tryz.underlying28 (by kernel_rfl) ap p.length cp J M (by omega) (by omega) W (J : Int) (p.length : Int) rfl (by omega); rw [hLn] at h; simpa using h⟩
              have HRDC : Hid (Bytes wr (.slice A Ln (cp - J)) ((p.drop J).take Ln)) := by
                have h := (bytes_upd HP1.out hu.out HAP1.out).sub J M (by omega) (by omega)
                rw [hLn] at h
                unfold Hid; rw [hA]; exact h
              have hce : (p.drop (32 * k)).take 32 = (p.drop J).take Ln := by
                have := HJ.out
                subst this
                rcases Nat.lt_or_ge p.length (32 * k + 32) with q | q
                · rw [List.take_of_length_le (by rw [List.length_drop]; omega), List.take_of_length_le (by rw [List.length_drop]; omega)]
                · rw [show Ln = 32 by omega]
              rw [hce] at HDT HWO
              have hclen : ((p.drop J).take Ln).length = Ln := by rw [List.length_take, List.length_drop]; omega
              have HCL := Lib.hid hclen
              have HLB : Hid (Ln ≤ p.length) := by unfold Hid; omega
              clear hce hclen hA hLn hM
              obtain ⟨c, hc⟩ : ∃ c, (p.drop J).take Ln = c := ⟨_, rfl⟩
              rw [hc] at HDT HWO HRDC HCL
              clear hc
              have hu1 : Upd [] wr (wr.alloc (.cells #[] 5)) := (Upd.refl [] wr).alloc _
              have HRUN := Lib.hid (fun ty => run_app (P := Tryz.prog) (w := wr.alloc (.cells #[] 5)) (ty := ty) (base := wr.heap.size) bv_one Tryz.underlying28 infoB8 rfl (.slice (some ⟨wr.heap.size, 0, none⟩) 0 0) (.slice A Ln (cp - J)) [] c (own_emptyR wr.heap.size _ wr.heap.size (Nat.le_refl _) (Blk.new wr 5 [])) (HRDC.out.upd0 hu1) (by have := HLB.out; rw [HCL.out]; simp; omega) (by have := HLB.out; rw [HCL.out]; simp [maxLen]; omega) (by simp))
              have HU1 := Lib.hid hu1
              clear hu1
              go_wp2_with (at_builtin; go_must (refine wpList_app_of rfl _ _ rfl (.slice (some ⟨wr.heap.size, 0, none⟩) 0 0) (.slice A Ln (cp - J)) rfl rfl (HRUN.out _) ?_; rintro v2 w2 ⟨ho2, hu2, hk2⟩; have HU2 : Hid (Upd [] wr w2) := (HU1.out.trans hu2 (by simp) (fun y hy => .inr (by simp [blk] at hy; omega))); rw [List.nil_append] at ho2; obtain ⟨a2, k2, rfl, -⟩ := ho2.rd; have HO2 : Hid (Own bv wr.heap.size 5 w2 (slv ⟨a2, c.length, k2⟩) c) := ho2; clear ho2 hu2 hk2 HRUN HRDC HU1; dsimp only))
              (with_reducible refine (rPut_any nm c ⟨a2, c.length, k2⟩ hd.out HO2.out HU2.out HWO.out HLO.out).mono ?_)
              rintro e w4 ⟨rfl, G4, h4, hu4, hg4⟩
              have H4 : Hid (RD w0 w4 gr G4 (dPut nm s ((chunks p).take (k + 1)))) := by unfold Hid; rw [HDT.out]; exact h4
              have HU4 : Hid (Upd G w3 w4) := hu.out.trans hu4 (fun x hx => hx) hg.out
              have HG4 : Hid (∀ x ∈ G4, x ∈ G ∨ (w3.heap).size ≤ x) := fun x hx => by
                have := hu.out.size
                rcases hg4 x hx with r | r
                · exact hg.out x r
                · exact .inr (by omega)
              clear h4 hu4 hg4
              go_wp2_with fail
              go_roundw
              case rel => exact ⟨k + 1, J + 32, G4, by omega, by have := HJ.out; unfold Hid; omega, by go_num, H4, HU4, HG4⟩
              case measure => simp [intOf]; omega
            · obtain ⟨M, hM⟩ : ∃ M, M = J + 32 := ⟨_, rfl⟩
              have q2 : ¬ (p.length : Int) < (J : Int) + 32 := by omega
              obtain ⟨Ln, hLn⟩ : ∃ Ln, M - J = Ln := ⟨_, rfl⟩
              obtain ⟨A, hA, hcut⟩ : ∃ A : Option Addr, A = (if cp = J then ap else ap.map (·.add J)) ∧ ∀ W, (Instr.slice 28 (.slice ap p.length cp) (some (.int .i64 (J : Int))) (some (.int .i64 ((J : Int) + 32))) none).run Tryz.prog W = .ok (.slice A Ln (cp - J)) W :=
                ⟨_, rfl, fun W => by have h := run_cut_lh (P := Tryz.prog) (size := 1) Tryz.underlying28 (by kernel_rfl) ap p.length cp J M (by omega) (by omega) W (J : Int) ((J : Int) + 32) rfl (by omega); rw [hLn] at h; simpa using h⟩
              have HRDC : Hid (Bytes wr (.slice A Ln (cp - J)) ((p.drop J).take Ln)) := by
                have h := (bytes_upd HP1.out hu.out HAP1.out).sub J M (by omega) (by omega)
                rw [hLn] at h
                unfold Hid; rw [hA]; exact h
              have hce : (p.drop (32 * k)).take 32 = (p.drop J).take Ln := by
                have := HJ.out
                subst this
                rcases Nat.lt_or_ge p.length (32 * k + 32) with q | q
                · rw [List.take_of_length_le (by rw [List.length_drop]; omega), List.take_of_length_le (by rw [List.length_drop]; omega)]
                · rw [show Ln = 32 by omega]
              rw [hce] at HDT HWO
              have hclen : ((p.drop J).take Ln).length = Ln := by rw [List.length_take, List.length_drop]; omega
              have HCL := Lib.hid hclen
              have HLB : Hid (Ln ≤ p.length) := by unfold Hid; omega
              clear hce hclen hA hLn hM
              obtain ⟨c, hc⟩ : ∃ c, (p.drop J).take Ln = c := ⟨_, rfl⟩
              rw [hc] at HDT HWO HRDC HCL
              clear hc
              have hu1 : Upd [] wr (wr.alloc (.cells #[] 5)) := (Upd.refl [] wr).alloc _
              have HRUN := Lib.hid (fun ty => run_app (P := Tryz.prog) (w := wr.alloc (.cells #[] 5)) (ty := ty) (base := wr.heap.size) bv_one Tryz.underlying28 infoB8 rfl (.slice (some ⟨wr.heap.size, 0, none⟩) 0 0) (.slice A Ln (cp - J)) [] c (own_emptyR wr.heap.size _ wr.heap.size (Nat.le_refl _) (Blk.new wr 5 [])) (HRDC.out.upd0 hu1) (by have := HLB.out; rw [HCL.out]; simp; omega) (by have := HLB.out; rw [HCL.out]; simp [maxLen]; omega) (by simp))
              have HU1 := Lib.hid hu1
              clear hu1
              go_wp2_with (at_builtin; go_must (refine wpList_app_of rfl _ _ rfl (.slice (some ⟨wr.heap.size, 0, none⟩) 0 0) (.slice A Ln (cp - J)) rfl rfl (HRUN.out _) ?_; rintro v2 w2 ⟨ho2, hu2, hk2⟩; have HU2 : Hid (Upd [] wr w2) := (HU1.out.trans hu2 (by simp) (fun y hy => .inr (by simp [blk] at hy; omega))); rw [List.nil_append] at ho2; obtain ⟨a2, k2, rfl, -⟩ := ho2.rd; have HO2 : Hid (Own bv wr.heap.size 5 w2 (slv ⟨a2, c.length, k2⟩) c) := ho2; clear ho2 hu2 hk2 HRUN HRDC HU1; dsimp only))
              (with_reducible refine (rPut_any nm c ⟨a2, c.length, k2⟩ hd.out HO2.out HU2.out HWO.out HLO.out).mono ?_)
              rintro e w4 ⟨rfl, G4, h4, hu4, hg4⟩
              have H4 : Hid (RD w0 w4 gr G4 (dPut nm s ((chunks p).take (k + 1)))) := by unfold Hid; rw [HDT.out]; exact h4
              have HU4 : Hid (Upd G w3 w4) := hu.out.trans hu4 (fun x hx => hx) hg.out
              have HG4 : Hid (∀ x ∈ G4, x ∈ G ∨ (w3.heap).size ≤ x) := fun x hx => by
                have := hu.out.size
                rcases hg4 x hx with r | r
                · exact hg.out x r
                · exact .inr (by omega)
              clear h4 hu4 hg4
              go_wp2_with fail
              go_roundw
              case rel => exact ⟨k + 1, J + 32, G4, by omega, by have := HJ.out; unfold Hid; omega, by go_num, H4, HU4, HG4⟩
              case measure => simp [intOf]; omega
          · have q1 : ¬ (J : Int) < p.length := by omega
            have hke : k = (chunks p).length := by have := HJ.out; omega
            have HF : Hid (RD w0 wr gr G' (dPut nm s (chunks p))) := by have := hd.out; rwa [hke, List.take_length] at this
            clear hd hcl hke
            go_wp2_with fail
            go_ret
            exact ⟨by rw [HR.out]; rfl, by rw [HR.out]; exact ⟨G', HF.out, (HU3.out.mono (by simp)).trans hu.out (fun x hx => hx) (fun x hx => .inl hx), fun x hx => (hg.out x hx).imp id (fun q => by have := HU3.out.size; omega)⟩⟩
      | false =>
        have HR : Hid (dAppend s nm p = (0, dPut nm (dDo (wMake nm) s) (chunks p))) := by unfold Hid dAppend; rw [hok, if_pos rfl, if_neg hfull, hin, if_neg (by simp)]
        rw [hin, if_neg (by simp)] at HGET
        obtain ⟨hw, hk1, hk2, hk3, hk4⟩ := HD.out.ok.make nm hin (by have := HNL.out; omega)
        have HW := Lib.hid hw
        have HIN1 := Lib.hid hk2
        have HLN1 : Hid ((dDo (wMake nm) s).now.length ≤ 5000) := by have := HNL.out; unfold Hid; omega
        have HTT1 : Hid (dTotal (dDo (wMake nm) s).now + p.length ≤ 16777216) := by unfold Hid; rw [hk3]; exact HT.out
        have HLG1 : Hid ((dDo (wMake nm) s).log.length ≤ 500000001) := by have := HL.out; unfold Hid dDo; simp; omega
        have HLL : Hid (s.log.length ≤ 1000000000) := by have := HL.out; unfold Hid; omega
        clear hok hin hfull hw hk1 hk2 hk3 hk4
        go_enter Tryz.func20, Tryz.ntmps20
        go_wp2_with fail
        (with_reducible refine (rName_any w nm).mono ?_)
        rw [HOK.out]
        rintro e w1 ⟨rfl, rfl⟩
        go_wp2_with fail
        (with_reducible refine (rTotal_any HD.out HTOT.out).mono ?_)
        rintro e w2 ⟨rfl, hu2⟩
        have HU2 := Lib.hid hu2
        have c0 := hu2.cell C0.out (by simp)
        clear hu2
        go_wp2_with fail
        (with_reducible refine (HGET.out w2 HU2.out).mono ?_)
        rintro e w3 ⟨rfl, hu3⟩
        have HU3 := Lib.hid (HU2.out.seq hu3)
        clear hu3 c0 q hwr0 htot
        go_wp2_with fail
        (with_reducible refine (rDo_any (wMake nm) (HD.out.upd0 HU3.out) HW.out rfl HLL.out).mono ?_)
        rintro e w5 ⟨rfl, ho5⟩
        have HO5 := Lib.hid (ho5.later HU3.out)
        obtain ⟨G5, hd5, hu5, hg5⟩ := HO5.out
        have D1 := Lib.hid hd5
        have HU5 := Lib.hid hu5
        have HG5 := Lib.hid hg5
        have HP1 := Lib.hid (bytes_upd HP.out hu5 HAP.out)
        have HAP1 : Hid (p ≠ [] → ∀ x ∈ blk (.slice ap p.length cp), x ∉ G5) := fun hne x hx hg => by
          rcases hg5 x hg with q | q
          · exact HAP.out hne x hx q
          · have := HLT.out hne x hx; omega
        clear ho5 hd5 hu5 hg5 HO5
        go_wp2_with fail
        go_loopw [7] (fun v wr => ∃ (k J : Nat) (G' : List Nat), k ≤ (chunks p).length ∧ Hid (J = 32 * k) ∧ v = .int .i64 (J : Int) ∧ Hid (RD w0 wr gr G' (dPut nm (dDo (wMake nm) s) ((chunks p).take k))) ∧ Hid (Upd G5 w5 wr) ∧ Hid (∀ x ∈ G', x ∈ G5 ∨ (w5.heap).size ≤ x)) (fun v _ => p.length - (intOf v).toNat)
        case atStart => exact ⟨0, 0, G5, Nat.zero_le _, rfl, rfl, D1.out, Upd.refl _ _, fun x hx => .inl hx⟩
        case round =>
          obtain ⟨k, J, G', hk, HJ, rfl, hd, hu, hg⟩ := hrel
          have hcl := chunks_len p
          by_cases hpos : J < p.length
          · have hlt : k < (chunks p).length := by have := HJ.out; omega
            obtain ⟨hw0, hstep⟩ : WrOk (wPut nm ((p.drop (32 * k)).take 32)) (dPut nm (dDo (wMake nm) s) ((chunks p).take k)).now ∧ (dPut nm (dDo (wMake nm) s) ((chunks p).take k)).log.length ≤ 1000000000 := by
              have ih := PutOk.all p D1.out.ok HIN1.out HLN1.out HTT1.out k hk
              have hcl2 : ((p.drop (32 * k)).take 32).length = min 32 (p.length - 32 * k) := by rw [List.length_take, List.length_drop]
              have htt := HTT1.out
              have := HJ.out
              refine ⟨(ih.step ((p.drop (32 * k)).take 32) (fun q => by rw [q] at hcl2; simp at hcl2; omega) HLN1.out (by rw [hcl2]; omega)).1, ?_⟩
              have := ih.log
              have := HLG1.out
              omega
            have HWO := Lib.hid hw0
            have HLO := Lib.hid hstep
            have HDT := Lib.hid (dPut_take nm (dDo (wMake nm) s) p k hlt)
            have q0 : (0 : Int) ≤ J := by omega
            have q1 : (J : Int) < p.length := by omega
            have hwr : IntKind.i64.wrap ((J : Int) + 32) = (J : Int) + 32 := by rw [IntKind.wrap_i64]; omega
            clear hw0 hstep hcl
            rcases Nat.lt_or_ge p.length (J + 32) with q | q
            · obtain ⟨M, hM⟩ : ∃ M, M = p.length := ⟨_, rfl⟩
              have q2 : (p.length : Int) < (J : Int) + 32 := by omega
              obtain ⟨Ln, hLn⟩ : ∃ Ln, M - J = Ln := ⟨_, rfl⟩
              obtain ⟨A, hA, hcut⟩ : ∃ A : Option Addr, A = (if cp = J then ap else ap.map (·.add J)) ∧ ∀ W, (Instr.slice 28 (.slice ap p.length cp) (some (.int .i64 (J : Int))) (some (.int .i64 (p.length : Int))) none).run Tryz.prog W = .ok (.slice A Ln (cp - J)) W :=
                ⟨_, rfl, fun W => by have h := run_cut_lh (P := Tryz.prog) (size := 1) Tryz.underlying28 (by kernel_rfl) ap p.length cp J M (by omega) (by omega) W (J : Int) (p.length : Int) rfl (by omega); rw [hLn] at h; simpa using h⟩
              have HRDC : Hid (Bytes wr (.slice A Ln (cp - J)) ((p.drop J).take Ln)) := by
                have h := (bytes_upd HP1.out hu.out HAP1.out).sub J M (by omega) (by omega)
                rw [hLn] at h
                unfold Hid; rw [hA]; exact h
              have hce : (p.drop (32 * k)).take 32 = (p.drop J).take Ln := by
                have := HJ.out
                subst this
                rcases Nat.lt_or_ge p.length (32 * k + 32) with q | q
                · rw [List.take_of_length_le (by rw [List.length_drop]; omega), List.take_of_length_le (by rw [List.length_drop]; omega)]
                · rw [show Ln = 32 by omega]
              rw [hce] at HDT HWO
              have hclen : ((p.drop J).take Ln).length = Ln := by rw [List.length_take, List.length_drop]; omega
              have HCL := Lib.hid hclen
              have HLB : Hid (Ln ≤ p.length) := by unfold Hid; omega
              clear hce hclen hA hLn hM
              obtain ⟨c, hc⟩ : ∃ c, (p.drop J).take Ln = c := ⟨_, rfl⟩
              rw [hc] at HDT HWO HRDC HCL
              clear hc
              have hu1 : Upd [] wr (wr.alloc (.cells #[] 5)) := (Upd.refl [] wr).alloc _
              have HRUN := Lib.hid (fun ty => run_app (P := Tryz.prog) (w := wr.alloc (.cells #[] 5)) (ty := ty) (base := wr.heap.size) bv_one Tryz.underlying28 infoB8 rfl (.slice (some ⟨wr.heap.size, 0, none⟩) 0 0) (.slice A Ln (cp - J)) [] c (own_emptyR wr.heap.size _ wr.heap.size (Nat.le_refl _) (Blk.new wr 5 [])) (HRDC.out.upd0 hu1) (by have := HLB.out; rw [HCL.out]; simp; omega) (by have := HLB.out; rw [HCL.out]; simp [maxLen]; omega) (by simp))
              have HU1 := Lib.hid hu1
              clear hu1
              go_wp2_with (at_builtin; go_must (refine wpList_app_of rfl _ _ rfl (.slice (some ⟨wr.heap.size, 0, none⟩) 0 0) (.slice A Ln (cp - J)) rfl rfl (HRUN.out _) ?_; rintro v2 w2 ⟨ho2, hu2, hk2⟩; have HU2 : Hid (Upd [] wr w2) := (HU1.out.trans hu2 (by simp) (fun y hy => .inr (by simp [blk] at hy; omega))); rw [List.nil_append] at ho2; obtain ⟨a2, k2, rfl, -⟩ := ho2.rd; have HO2 : Hid (Own bv wr.heap.size 5 w2 (slv ⟨a2, c.length, k2⟩) c) := ho2; clear ho2 hu2 hk2 HRUN HRDC HU1; dsimp only))
              (with_reducible refine (rPut_any nm c ⟨a2, c.length, k2⟩ hd.out HO2.out HU2.out HWO.out HLO.out).mono ?_)
              rintro e w4 ⟨rfl, G4, h4, hu4, hg4⟩
              have H4 : Hid (RD w0 w4 gr G4 (dPut nm (dDo (wMake nm) s) ((chunks p).take (k + 1)))) := by unfold Hid; rw [HDT.out]; exact h4
              have HU4 : Hid (Upd G5 w5 w4) := hu.out.trans hu4 (fun x hx => hx) hg.out
              have HG4 : Hid (∀ x ∈ G4, x ∈ G5 ∨ (w5.heap).size ≤ x) := fun x hx => by
                have := hu.out.size
                rcases hg4 x hx with r | r
                · exact hg.out x r
                · exact .inr (by omega)
              clear h4 hu4 hg4
              go_wp2_with fail
              go_roundw
              case rel => exact ⟨k + 1, J + 32, G4, by omega, by have := HJ.out; unfold Hid; omega, by go_num, H4, HU4, HG4⟩
              case measure => simp [intOf]; omega
            · obtain ⟨M, hM⟩ : ∃ M, M = J + 32 := ⟨_, rfl⟩
              have q2 : ¬ (p.length : Int) < (J : Int) + 32 := by omega
              obtain ⟨Ln, hLn⟩ : ∃ Ln, M - J = Ln := ⟨_, rfl⟩
              obtain ⟨A, hA, hcut⟩ : ∃ A : Option Addr, A = (if cp = J then ap else ap.map (·.add J)) ∧ ∀ W, (Instr.slice 28 (.slice ap p.length cp) (some (.int .i64 (J : Int))) (some (.int .i64 ((J : Int) + 32))) none).run Tryz.prog W = .ok (.slice A Ln (cp - J)) W :=
                ⟨_, rfl, fun W => by have h := run_cut_lh (P := Tryz.prog) (size := 1) Tryz.underlying28 (by kernel_rfl) ap p.length cp J M (by omega) (by omega) W (J : Int) ((J : Int) + 32) rfl (by omega); rw [hLn] at h; simpa using h⟩
              have HRDC : Hid (Bytes wr (.slice A Ln (cp - J)) ((p.drop J).take Ln)) := by
                have h := (bytes_upd HP1.out hu.out HAP1.out).sub J M (by omega) (by omega)
                rw [hLn] at h
                unfold Hid; rw [hA]; exact h
              have hce : (p.drop (32 * k)).take 32 = (p.drop J).take Ln := by
                have := HJ.out
                subst this
                rcases Nat.lt_or_ge p.length (32 * k + 32) with q | q
                · rw [List.take_of_length_le (by rw [List.length_drop]; omega), List.take_of_length_le (by rw [List.length_drop]; omega)]
                · rw [show Ln = 32 by omega]
              rw [hce] at HDT HWO
              have hclen : ((p.drop J).take Ln).length = Ln := by rw [List.length_take, List.length_drop]; omega
              have HCL := Lib.hid hclen
              have HLB : Hid (Ln ≤ p.length) := by unfold Hid; omega
              clear hce hclen hA hLn hM
              obtain ⟨c, hc⟩ : ∃ c, (p.drop J).take Ln = c := ⟨_, rfl⟩
              rw [hc] at HDT HWO HRDC HCL
              clear hc
              have hu1 : Upd [] wr (wr.alloc (.cells #[] 5)) := (Upd.refl [] wr).alloc _
              have HRUN := Lib.hid (fun ty => run_app (P := Tryz.prog) (w := wr.alloc (.cells #[] 5)) (ty := ty) (base := wr.heap.size) bv_one Tryz.underlying28 infoB8 rfl (.slice (some ⟨wr.heap.size, 0, none⟩) 0 0) (.slice A Ln (cp - J)) [] c (own_emptyR wr.heap.size _ wr.heap.size (Nat.le_refl _) (Blk.new wr 5 [])) (HRDC.out.upd0 hu1) (by have := HLB.out; rw [HCL.out]; simp; omega) (by have := HLB.out; rw [HCL.out]; simp [maxLen]; omega) (by simp))
              have HU1 := Lib.hid hu1
              clear hu1
              go_wp2_with (at_builtin; go_must (refine wpList_app_of rfl _ _ rfl (.slice (some ⟨wr.heap.size, 0, none⟩) 0 0) (.slice A Ln (cp - J)) rfl rfl (HRUN.out _) ?_; rintro v2 w2 ⟨ho2, hu2, hk2⟩; have HU2 : Hid (Upd [] wr w2) := (HU1.out.trans hu2 (by simp) (fun y hy => .inr (by simp [blk] at hy; omega))); rw [List.nil_append] at ho2; obtain ⟨a2, k2, rfl, -⟩ := ho2.rd; have HO2 : Hid (Own bv wr.heap.size 5 w2 (slv ⟨a2, c.length, k2⟩) c) := ho2; clear ho2 hu2 hk2 HRUN HRDC HU1; dsimp only))
              (with_reducible refine (rPut_any nm c ⟨a2, c.length, k2⟩ hd.out HO2.out HU2.out HWO.out HLO.out).mono ?_)
              rintro e w4 ⟨rfl, G4, h4, hu4, hg4⟩
              have H4 : Hid (RD w0 w4 gr G4 (dPut nm (dDo (wMake nm) s) ((chunks p).take (k + 1)))) := by unfold Hid; rw [HDT.out]; exact h4
              have HU4 : Hid (Upd G5 w5 w4) := hu.out.trans hu4 (fun x hx => hx) hg.out
              have HG4 : Hid (∀ x ∈ G4, x ∈ G5 ∨ (w5.heap).size ≤ x) := fun x hx => by
                have := hu.out.size
                rcases hg4 x hx with r | r
                · exact hg.out x r
                · exact .inr (by omega)
              clear h4 hu4 hg4
              go_wp2_with fail
              go_roundw
              case rel => exact ⟨k + 1, J + 32, G4, by omega, by have := HJ.out; unfold Hid; omega, by go_num, H4, HU4, HG4⟩
              case measure => simp [intOf]; omega
          · have q1 : ¬ (J : Int) < p.length := by omega
            have hke : k = (chunks p).length := by have := HJ.out; omega
            have HF : Hid (RD w0 wr gr G' (dPut nm (dDo (wMake nm) s) (chunks p))) := by have := hd.out; rwa [hke, List.take_length] at this
            clear hd hcl hke
            go_wp2_with fail
            go_ret
            exact ⟨by rw [HR.out]; rfl, by rw [HR.out]; exact ⟨G', HF.out, HU5.out.trans hu.out (fun x hx => hx) HG5.out, fun x hx => by
              rcases hg.out x hx with q | q
              · exact HG5.out x q
              · exact .inr (by have := HU5.out.size; omega)⟩⟩
end
end Go.Proofs.YtmhojaiajhdlcaaGreat
namespace Go.Proofs.YtmhojaiajhdlcaaGreat
open Go.RowKit
set_option linter.unusedSimpArgs false
set_option linter.unusedVariables false
set_option maxHeartbeats 8000000 in
theorem rNext_any (v : Value) (l : List UInt8) (at_ : Int) (w : World) (h : Bytes w v l) (hz : l.length ≤ 1000000000) (hat : I64 at_) :
    Calls Tryz.prog 76 #[v, .int .i64 at_] w fun e w' => NextSaid w (nextF l at_) e w' := by
  have H := Lib.hid h
  obtain ⟨a, cap, rfl, hlc, hcm, hcell⟩ := h
  obtain ⟨ha1, ha2⟩ := hat
  by_cases hp : at_ < 0 ∨ (l.length : Int) < at_
  · have HF : Hid (nextF l at_ = ([], 0, 1)) := if_pos hp
    generalize nextF l at_ = r at *
    clear hcell
    go_enter Tryz.func76, Tryz.ntmps76
    rcases hp with hp | hp
    all_goals go_wp2_with fail
    all_goals go_ret3
    all_goals exact ⟨_, by rw [HF.out]; rfl, by rw [HF.out]; exact Own.nil _ _ _, Upd.refl _ _⟩
  · obtain ⟨k, rfl⟩ := Int.eq_ofNat_of_zero_le (show 0 ≤ at_ by omega)
    have HN : Hid (nextF l (k : Int) = nextR (l.drop k) k) := by unfold Hid nextF; rw [if_neg hp]; rfl
    have hk : k ≤ l.length := by omega
    have hk1 : (k : Int) ≤ l.length := by omega
    have hk2 : (l.length : Int) ≤ cap := by omega
    have hk3 : (k : Int) ≤ cap := by omega
    have HR := Lib.hid (H.out.drop k hk)
    have hrl : (l.drop k).length = l.length - k := List.length_drop
    clear hp
    have q0 : ¬ (k : Int) < 0 := by omega
    have q1 : ¬ (l.length : Int) < k := by omega
    have hnum : num4 (l.drop k) = (nth l k).toNat * 16777216 + (nth l (k + 1)).toNat * 65536 + (nth l (k + 2)).toNat * 256 + (nth l (k + 3)).toNat := by
      simp only [num4, nth_drop, Nat.add_zero]
    have hnum2 : num4 ((l.drop k).drop 4) = (nth l (k + 4)).toNat * 16777216 + (nth l (k + 5)).toNat * 65536 + (nth l (k + 6)).toNat * 256 + (nth l (k + 7)).toNat := by
      simp only [num4, nth_drop, Nat.add_zero, Nat.add_assoc]
    generalize nextF l (k : Int) = r at *
    generalize hrd : l.drop k = rl at *
    by_cases hs : rl.length < 8
    · have HG : Hid (r = ([], 0, 3)) := HN.out.trans (if_pos (by omega))
      have q2 : (l.length : Int) - k < 8 := by omega
      clear HN hrl hcell
      go_enter Tryz.func76, Tryz.ntmps76
      go_wp2_with fail
      go_ret3
      exact ⟨_, by rw [HG.out]; rfl, by rw [HG.out]; exact Own.nil _ _ _, Upd.refl _ _⟩
    · have HN := Lib.hid (HN.out.trans (if_neg (by omega)))
      have q2 : ¬ (l.length : Int) - k < 8 := by omega
      have hne : l ≠ [] := by rintro rfl; simp at hrd; subst hrd; simp at hs
      obtain ⟨b, off, rfl, hc⟩ := hcell hne
      have c0 := hc k (by omega)
      have c1 : w.cell? ⟨b, off + (k + 1), none⟩ = some (bv (nth l (k + 1))) := hc (k + 1) (by omega)
      have c2 : w.cell? ⟨b, off + (k + 2), none⟩ = some (bv (nth l (k + 2))) := hc (k + 2) (by omega)
      have c3 : w.cell? ⟨b, off + (k + 3), none⟩ = some (bv (nth l (k + 3))) := hc (k + 3) (by omega)
      have C4 := Lib.hid (show w.cell? ⟨b, off + (k + 4), none⟩ = some (bv (nth l (k + 4))) from hc (k + 4) (by omega))
      have C5 := Lib.hid (show w.cell? ⟨b, off + (k + 5), none⟩ = some (bv (nth l (k + 5))) from hc (k + 5) (by omega))
      have C6 := Lib.hid (show w.cell? ⟨b, off + (k + 6), none⟩ = some (bv (nth l (k + 6))) from hc (k + 6) (by omega))
      have C7 := Lib.hid (show w.cell? ⟨b, off + (k + 7), none⟩ = some (bv (nth l (k + 7))) from hc (k + 7) (by omega))
      have d0 : (k : Int) < l.length := by omega
      have d1 : (k : Int) + 1 < l.length := by omega
      have d2 : (k : Int) + 2 < l.length := by omega
      have d3 : (k : Int) + 3 < l.length := by omega
      have d4 : (k : Int) + 4 < l.length := by omega
      have d5 : (k : Int) + 5 < l.length := by omega
      have d6 : (k : Int) + 6 < l.length := by omega
      have d7 : (k : Int) + 7 < l.length := by omega
      have HW1 : Hid (_ = _) := num4_walk64 (nth l k) (nth l (k + 1)) (nth l (k + 2)) (nth l (k + 3))
      rw [← hnum] at HW1
      have HW2 : Hid (_ = _) := num4_walk (nth l (k + 4)) (nth l (k + 5)) (nth l (k + 6)) (nth l (k + 7))
      rw [← hnum2] at HW2
      have HT := Lib.hid (HR.out.take 4 (by omega))
      have hnd : ((l.drop k).drop 4) = rl.drop 4 := by rw [hrd]
      have hrb : rl.length ≤ 1000000000 := by omega
      have hrl2 : (rl.length : Int) = (l.length : Int) - k := by omega
      have hc4 : ∀ W, (Instr.slice 28 (.slice (some ⟨b, off, none⟩) l.length cap) (some (.int .i64 (k : Int))) (some (.int .i64 ((k : Int) + 4))) none).run Tryz.prog W = .ok (.slice (if cap = k then (some ⟨b, off, none⟩) else (some ⟨b, off, none⟩ : Option Addr).map (·.add (k * 1))) (k + 4 - k) (cap - k)) W := fun W => run_cut_lh (P := Tryz.prog) Tryz.underlying28 sizeByte (some ⟨b, off, none⟩) l.length cap k (k + 4) (by omega) (by omega) W (k : Int) ((k : Int) + 4) rfl (by omega)
      simp only [Nat.mul_one, Nat.add_sub_cancel_left] at hc4
      have HPN := fun (n : Nat) (hn : k + 8 + n ≤ l.length) => Lib.hid (H.out.sub (k + 8) (k + 8 + n) (by omega) hn)
      have HPE : Hid (∀ n, (l.drop (k + 8)).take n = (rl.drop 8).take n) := by intro n; rw [← hrd, List.drop_drop]
      have hc2 := fun (n : Nat) (hn : k + 8 + n ≤ l.length) (W : World) => run_cut_lh (P := Tryz.prog) Tryz.underlying28 sizeByte (some ⟨b, off, none⟩) l.length cap (k + 8) (k + 8 + n) (by omega) (by omega) W ((k : Int) + 8) ((k : Int) + 8 + (n : Int)) (by omega) (by omega)
      simp only [Nat.mul_one, Nat.add_sub_cancel_left] at hc2 HPN
      generalize (if cap = k then (some ⟨b, off, none⟩) else (some ⟨b, off, none⟩ : Option Addr).map (·.add k)) = ak at *
      generalize (if cap = k + 8 then (some ⟨b, off, none⟩) else (some ⟨b, off, none⟩ : Option Addr).map (·.add (k + 8))) = a8 at *
      generalize nth l k = x0 at *
      generalize nth l (k + 1) = x1 at *
      generalize nth l (k + 2) = x2 at *
      generalize nth l (k + 3) = x3 at *
      generalize nth l (k + 4) = x4 at *
      generalize nth l (k + 5) = x5 at *
      generalize nth l (k + 6) = x6 at *
      generalize nth l (k + 7) = x7 at *
      have hNL := num4_lt rl
      have HPE2 := Lib.hid (HPE.out (num4 rl))
      generalize num4 rl = n at *
      generalize num4 (rl.drop 4) = m at *
      have HRL := Lib.hid hrl
      clear hc hcell HPE hnum hnum2 hrd hnd hrl hcm hlc
      by_cases hf : n = 0 ∨ 262144 < n
      · have HG : Hid (r = ([], 0, 4)) := HN.out.trans (if_pos hf)
        clear HN hc2 hc4 hrl2
        go_enter Tryz.func76, Tryz.ntmps76
        go_wp2_with fail
        go_quiet (fail)
        rw [HW1.out]
        rcases hf with rfl | hf
        · go_wp2_with fail
          go_ret3
          exact ⟨_, by rw [HG.out]; rfl, by rw [HG.out]; exact Own.nil _ _ _, by first | exact (Upd.refl [] _).drewN _ | exact (Upd.refl [] _).drew⟩
        · have hf2 : ((n : Int) == 0) = false := by rw [beq_eq_false_iff_ne]; omega
          have hf3 : (262144 : Int) < n := by omega
          go_wp2_with fail
          go_ret3
          exact ⟨_, by rw [HG.out]; rfl, by rw [HG.out]; exact Own.nil _ _ _, by first | exact (Upd.refl [] _).drewN _ | exact (Upd.refl [] _).drew⟩
      · have HN := Lib.hid (HN.out.trans (if_neg hf))
        have hf2 : ((n : Int) == 0) = false := by rw [beq_eq_false_iff_ne]; omega
        have hf3 : ¬ (262144 : Int) < n := by omega
        by_cases hb : rl.length - 8 < n
        · have HG : Hid (r = ([], 0, 3)) := HN.out.trans (if_pos hb)
          have hb2 : (l.length : Int) - k - 8 < n := by omega
          clear HN hc2 hc4 hrl2
          go_enter Tryz.func76, Tryz.ntmps76
          go_wp2_with fail
          go_quiet (fail)
          rw [HW1.out]
          go_wp2_with fail
          go_ret3
          exact ⟨_, by rw [HG.out]; rfl, by rw [HG.out]; exact Own.nil _ _ _, by first | exact (Upd.refl [] _).drewN _ | exact (Upd.refl [] _).drew⟩
        · have HN := Lib.hid (HN.out.trans (if_neg hb))
          have hb2 : ¬ (l.length : Int) - k - 8 < n := by omega
          have hcut := hc2 n (by have := HRL.out; omega)
          have HP := HPN n (by have := HRL.out; omega)
          rw [HPE2.out] at HP
          clear hc2 HPN HPE2 hrl2
          go_enter Tryz.func76, Tryz.ntmps76
          go_wp2_with fail
          go_quiet (fail)
          rw [HW1.out]
          have HU0 := Lib.hid ((Upd.refl [] w).drewN nq)
          generalize w.drewN nq = w0 at *
          have c4 := HU0.out.cell C4.out (by simp)
          have c5 := HU0.out.cell C5.out (by simp)
          have c6 := HU0.out.cell C6.out (by simp)
          have c7 := HU0.out.cell C7.out (by simp)
          go_wp2_with fail
          go_quiet (fail)
          rw [HW2.out]
          have HU1 := Lib.hid (HU0.out.drewN nq)
          generalize w0.drewN nq = w1 at *
          clear c4 c5 c6 c7 C4 C5 C6 C7 HW1 HW2 HU0
          have HT1 := Lib.hid (HT.out.upd0 HU1.out)
          have HP1 := Lib.hid (HP.out.upd0 HU1.out)
          have HSE : Hid (sumOf [rl.take 4, (rl.drop 8).take n] = sumOn (sumOn 0#32 (rl.take 4)) ((rl.drop 8).take n)) := rfl
          have hpl : ((rl.drop 8).take n).length ≤ 262144 := by rw [List.length_take]; omega
          generalize (rl.drop 8).take n = pl at *
          generalize rl.take 4 = r4 at *
          by_cases hsm : (sumOf [r4, pl]).toNat = m
          · have HG : Hid (r = (pl, ((k + 8 + n : Nat) : Int), 0)) := HN.out.trans (if_neg (fun h => h hsm))
            rw [HSE.out] at hsm
            have hm2 : (((sumOn (sumOn 0#32 r4) pl).toNat : Int) != (m : Int)) = false := by rw [bne_eq_false_iff_eq]; omega
            clear HN hsm
            go_wp2_with fail
            refine (refOn_any 0#32 _ r4 _ HT1.out).mono ?_
            rintro e w2 ⟨rfl, rfl⟩
            go_wp2_with fail
            refine (refOn_any (sumOn 0#32 r4) _ pl _ HP1.out).mono ?_
            rintro e w2 ⟨rfl, rfl⟩
            have HU2 := Lib.hid (HU1.out.alloc (.cells #[] 5))
            have HP2 := Lib.hid (HP1.out.alloc (.cells #[] 5))
            have hs2 := HU1.out.size
            go_wp2_with (at_builtin; refine wpList_app bv_one rfl (.tmp 113) (.tmp 114) rfl Tryz.underlying28 infoByte rfl (.slice (some ⟨w1.heap.size, 0, none⟩) 0 0) _ [] pl rfl rfl (Own.room (base := w.heap.size) hs2 rfl rfl (Nat.zero_le _)) HP2.out (by simp; omega) (by unfold maxLen; simp; omega) HU2.out.size ?_; intro v3 w3 ho hu hbk; rw [List.nil_append] at ho; have HU3 : Hid (Upd [] w w3) := HU2.out.trans hu (by simp) (by simp [blk]; exact hs2); have HO3 := Lib.hid ho; clear ho hu hbk)
            go_ret3
            exact ⟨_, by rw [HG.out]; simp only [Int.natCast_add]; rfl, by rw [HG.out]; exact HO3.out, HU3.out⟩
          · have HG : Hid (r = ([], 0, 6)) := HN.out.trans (if_pos hsm)
            rw [HSE.out] at hsm
            have hm2 : (((sumOn (sumOn 0#32 r4) pl).toNat : Int) != (m : Int)) = true := by rw [bne_iff_ne]; omega
            clear HN hsm
            go_wp2_with fail
            refine (refOn_any 0#32 _ r4 _ HT1.out).mono ?_
            rintro e w2 ⟨rfl, rfl⟩
            go_wp2_with fail
            refine (refOn_any (sumOn 0#32 r4) _ pl _ HP1.out).mono ?_
            rintro e w2 ⟨rfl, rfl⟩
            go_wp2_with fail
            go_ret3
            exact ⟨_, by rw [HG.out]; rfl, by rw [HG.out]; exact Own.nil _ _ _, HU1.out⟩
end Go.Proofs.YtmhojaiajhdlcaaGreat
namespace Go.Proofs.YtmhojaiajhdlcaaGreat
open Go.RowKit
set_option linter.unusedSimpArgs false
set_option linter.unusedVariables false
/-- A slice that has one node: the empty one. -/
structure N1 (w : World) (g : Nat) : Prop where
  b : Blk w g 233 [.int .i64 1, .slice none 0 0, .int .i64 0, .int .i64 0, .bool false, .int .i64 0, .int .i64 0]
theorem N1.upd0 {w w' : World} {g : Nat} (h : N1 w g) (hu : Upd [] w w') : N1 w' g := ⟨h.b.upd hu (by simp)⟩
/-- The parser, at the empty text. -/
structure PZ (w : World) (g : Nat) (av : Value) : Prop where
  b : Blk w g 223 [.slice none 0 0, av, .int .i64 0, .int .i64 0, .int .i64 0, .int .i64 0]
theorem PZ.upd0 {w w' : World} {g : Nat} {av : Value} (h : PZ w g av) (hu : Upd [] w w') : PZ w' g av := ⟨h.b.upd hu (by simp)⟩
set_option maxRecDepth 20000 in
set_option maxHeartbeats 2000000 in
theorem rfIs_any {w : World} {g : Nat} {av : Value} (h : PZ w g av) (c : Int) : Calls Tryz.prog 152 #[.pointer (some ⟨g, 0, none⟩), .int .i32 c] w fun e w' => e = .returned (.bool false) ∧ Upd [] w w' := by
  have c0 : w.cell? ⟨g, 0, none⟩ = some (.slice none 0 0) := h.b.cell 0
  have c2 : w.cell? ⟨g, 2, none⟩ = some (.int .i64 0) := h.b.cell 2
  clear h
  go_enter Tryz.func152, Tryz.ntmps152
  go_wp2_with fail
  go_quiet (fail)
  go_wp2_with fail
  go_ret
  exact ⟨rfl, by repeat (first | exact Upd.refl _ _ | apply Upd.drew | apply Upd.drewN)⟩
set_option maxRecDepth 20000 in
set_option maxHeartbeats 2000000 in
theorem rfJoin0_any (w : World) (op : Int) : Calls Tryz.prog 153 #[.int .i64 op, .slice none 0 0] w fun e w' => ∃ g, e = .returned (.slice (some ⟨g, 0, none⟩) 1 1) ∧ N1 w' g ∧ Upd [] w w' := by
  have hb := Blk.new w 233 [.int .i64 1, .slice none 0 0, .int .i64 0, .int .i64 0, .bool false, .int .i64 0, .int .i64 0]
  have hu : Upd [] w (w.alloc (.cells #[.int .i64 1, .slice none 0 0, .int .i64 0, .int .i64 0, .bool false, .int .i64 0, .int .i64 0] 233)) := (Upd.refl [] w).alloc _
  have HB := Lib.hid hb
  have HU := Lib.hid hu
  clear hb hu
  go_enter Tryz.func153, Tryz.ntmps153
  go_wp2_with fail
  go_ret
  exact ⟨_, rfl, ⟨HB.out⟩, HU.out⟩
set_option maxRecDepth 20000 in
set_option maxHeartbeats 2000000 in
theorem rfJoin1_any (w : World) (op : Int) (v : Value) (g k : Nat) (h : w.cell? ⟨g, 0, none⟩ = some v) : Calls Tryz.prog 153 #[.int .i64 op, .slice (some ⟨g, 0, none⟩) 1 k] w fun e w' => e = .returned v ∧ w = w' := by
  go_enter Tryz.func153, Tryz.ntmps153
  go_wp2_with fail
  go_ret
  exact ⟨rfl, rfl⟩
set_option maxRecDepth 20000 in
set_option maxHeartbeats 2000000 in
theorem rfCat_any {w : World} {g : Nat} {av : Value} (h : PZ w g av) (d : Int) : Calls Tryz.prog 151 #[.pointer (some ⟨g, 0, none⟩), .int .i64 d] w fun e w' => ∃ g', e = .returned (.slice (some ⟨g', 0, none⟩) 1 1) ∧ N1 w' g' ∧ Upd [] w w' := by
  have c0 : w.cell? ⟨g, 0, none⟩ = some (.slice none 0 0) := h.b.cell 0
  have c2 : w.cell? ⟨g, 2, none⟩ = some (.int .i64 0) := h.b.cell 2
  have c4 : w.cell? ⟨g, 4, none⟩ = some (.int .i64 0) := h.b.cell 4
  clear h
  go_enter Tryz.func151, Tryz.ntmps151
  go_wp2_with fail
  go_loopw [5] (fun v wr => v = .slice none 0 0 ∧ Hid (Upd [] w wr)) (fun _ _ => 1)
  case atStart => exact ⟨rfl, Upd.refl _ _⟩
  case round =>
    obtain ⟨rfl, hu⟩ := hrel
    have d0 : wr.cell? ⟨g, 0, none⟩ = some (.slice none 0 0) := hu.out.cell c0 (by simp)
    have d2 : wr.cell? ⟨g, 2, none⟩ = some (.int .i64 0) := hu.out.cell c2 (by simp)
    have d4 : wr.cell? ⟨g, 4, none⟩ = some (.int .i64 0) := hu.out.cell c4 (by simp)
    go_wp2_with fail
    go_quiet (fail)
    go_wp2_with fail
    (with_reducible refine (rfJoin0_any _ 3).mono ?_)
    rintro e w2 ⟨g2, rfl, hn, hu2⟩
    have HN := Lib.hid hn
    have HU2 : Hid (Upd [] w w2) := hu.out.seq (Upd.seq (by repeat (first | exact Upd.refl _ _ | apply Upd.drew | apply Upd.drewN)) hu2)
    clear hn hu2 hu d0 d2 d4
    go_wp2_with fail
    go_ret
    exact ⟨_, rfl, HN.out, HU2.out⟩
set_option maxRecDepth 20000 in
set_option maxHeartbeats 2000000 in
theorem rfAlt_any {w : World} {g : Nat} {av : Value} (h : PZ w g av) (d : Int) : Calls Tryz.prog 137 #[.pointer (some ⟨g, 0, none⟩), .int .i64 d] w fun e w' => ∃ g', e = .returned (.slice (some ⟨g', 0, none⟩) 1 1) ∧ N1 w' g' ∧ Upd [] w w' := by
  have H := Lib.hid h
  clear h
  go_enter Tryz.func137, Tryz.ntmps137
  go_wp2_with fail
  (with_reducible refine (rfCat_any H.out d).mono ?_)
  rintro e w1 ⟨g1, rfl, hn, hu1⟩
  have hu2 : Upd [] w1 (w1.alloc (.cells #[.slice (some ⟨g1, 0, none⟩) 1 1] 203)) := (Upd.refl [] w1).alloc _
  have HB : Hid (Blk (w1.alloc (.cells #[.slice (some ⟨g1, 0, none⟩) 1 1] 203)) w1.heap.size 203 [.slice (some ⟨g1, 0, none⟩) 1 1]) := Blk.new w1 _ [.slice (some ⟨g1, 0, none⟩) 1 1]
  have HN := Lib.hid (hn.upd0 hu2)
  have HU := Lib.hid (Upd.seq hu1 hu2)
  clear hn hu1 hu2
  go_wp2_with fail
  generalize w1.alloc (.cells #[.slice (some ⟨g1, 0, none⟩) 1 1] 203) = w2 at *
  generalize w1.heap.size = g2 at *
  go_loopw [5] (fun v wr => v = .slice (some ⟨g2, 0, none⟩) 1 1 ∧ Hid (Upd [] w2 wr)) (fun _ _ => 1)
  case atStart => exact ⟨rfl, Upd.refl _ _⟩
  case round =>
    obtain ⟨rfl, hu⟩ := hrel
    have HP : Hid (PZ wr g av) := H.out.upd0 (Upd.seq HU.out hu.out)
    have d4 : wr.cell? ⟨g, 4, none⟩ = some (.int .i64 0) := HP.out.b.cell 4
    go_wp2_with fail
    (with_reducible refine (rfIs_any HP.out 124).mono ?_)
    rintro e w3 ⟨rfl, hu3⟩
    have e2 : w3.cell? ⟨g2, 0, none⟩ = some (.slice (some ⟨g1, 0, none⟩) 1 1) := (Upd.seq hu.out hu3).cell (HB.out.cell 0) (by simp)
    have HN3 := Lib.hid (HN.out.upd0 (Upd.seq hu.out hu3))
    have HU3 := Lib.hid (Upd.seq HU.out (Upd.seq hu.out hu3))
    clear hu hu3 HP d4
    go_wp2_with fail
    (with_reducible refine (rfJoin1_any _ 4 _ g2 1 e2).mono ?_)
    rintro e w4 ⟨rfl, rfl⟩
    go_wp2_with fail
    go_ret
    exact ⟨_, rfl, HN3.out, HU3.out⟩
theorem undIntsP : Tryz.prog.underlying 90 = some (.slice 3) := by kernel_rfl
theorem infoIntP : (Tryz.prog.info? 3).map (fun i => (i.zero, i.size, i.bytes)) = some (some (.int .i64 0), 1, 8) := by kernel_rfl
abbrev ivs (x : Int) : List Value := [.int .i64 x]
theorem app_int0 (W : World) (g : Nat) (hg : W.cell? ⟨g, 0, none⟩ = some (.int .i64 0)) : ∃ v' w', (Builtin.append_ #[90, 90] 90 #[.slice none 0 0, .slice (some ⟨g, 0, none⟩) 1 1]).run Tryz.prog W = .ok v' w' ∧ (∃ a k, v' = .slice a 1 k) ∧ Upd [] W w' := by
  obtain ⟨v', w', h1, h2, h3, h4⟩ := run_appN (P := Tryz.prog) (c := ivs) (sz := 1) (w := W) (ty := 90) (base := W.heap.size) (fun x => rfl) (by omega) (fun x u hu => by simp [ivs] at hu; rw [hu]; rfl) undIntsP infoIntP rfl (.slice none 0 0) (.slice (some ⟨g, 0, none⟩) 1 1) [] [0] (OwnN.nil _ _ _)
    ⟨_, 1, rfl, by simp, by simp [maxLen], fun _ => ⟨g, 0, rfl, fun j hj i hi => by
      have hj0 : j = 0 := by simpa using hj
      have hi0 : i = 0 := by omega
      subst hj0; subst hi0
      exact hg⟩⟩ (by simp) (by simp [maxLen]) (Nat.le_refl _)
  obtain ⟨a, k, rfl, -⟩ := OwnN.rd (c := ivs) (sz := 1) (fun x => rfl) h2
  exact ⟨_, w', h1, ⟨a, k, rfl⟩, h3⟩
set_option maxRecDepth 20000 in
theorem rfAll_any (w : World) (a : Option Addr) (k : Nat) : Calls Tryz.prog 136 #[.slice a 0 k] w fun e w' => e = .returned (.slice none 0 0) ∧ w = w' := by
  go_enter Tryz.func136, Tryz.ntmps136
  go_wp2_with fail
  go_loopw [0, 3] (fun b v wr => b = .slice a 0 k ∧ v = .slice none 0 0 ∧ w = wr) (fun _ _ _ => 1)
  case atStart => exact ⟨rfl, rfl, rfl⟩
  case round =>
    obtain ⟨rfl, rfl, rfl⟩ := hrel
    go_wp2_with fail
    first | go_ret | go_ret2
    exact ⟨rfl, rfl⟩
theorem conv_empty : ∃ (f : World → Nat) (F : World → World), (∀ W, (convert 9 28 (.string ⟨#[]⟩)).run Tryz.prog W = .ok (.slice (some ⟨W.heap.size, 0, none⟩) 0 (f W)) (F W)) ∧ ∀ W, Upd [] W (F W) :=
  ⟨_, _, fun W => run_bytes_of_string W 9 28 5 ⟨#[]⟩ Tryz.underlying9 Tryz.underlying28 Tryz.underlying5, fun W => ((Upd.refl [] W).drew).alloc _⟩
set_option maxRecDepth 20000 in
set_option maxHeartbeats 2000000 in
theorem rfParse_any (w : World) : Calls Tryz.prog 126 #[.string ⟨#[]⟩] w fun e w' => ∃ g, e = .returned (.tuple #[.slice (some ⟨g, 0, none⟩) 1 1, .int .i64 0, .int .i64 0]) ∧ N1 w' g ∧ Upd [] w w' := by
  obtain ⟨f, F, hcv, hF⟩ := conv_empty
  have HF := Lib.hid hF
  clear hF
  go_enter Tryz.func126, Tryz.ntmps126
  go_wp2_with fail
  (with_reducible refine (rfAll_any _ _ _).mono ?_)
  rintro e w1 ⟨rfl, rfl⟩
  have HP0 : Hid (PZ (w.alloc (.cells #[.slice none 0 0, .slice none 0 0, .int .i64 0, .int .i64 0, .int .i64 0, .int .i64 0] 223)) w.heap.size (.slice none 0 0)) := ⟨Blk.new w 223 [.slice none 0 0, .slice none 0 0, .int .i64 0, .int .i64 0, .int .i64 0, .int .i64 0]⟩
  have HP1 := Lib.hid (HP0.out.upd0 (HF.out _))
  have HU1 : Hid (Upd [] w (F (w.alloc (.cells #[.slice none 0 0, .slice none 0 0, .int .i64 0, .int .i64 0, .int .i64 0, .int .i64 0] 223)))) := ((Upd.refl [] w).alloc _).seq (HF.out _)
  have HGE : Hid (w.heap.size ≤ w.heap.size) := Nat.le_refl _
  clear HP0 hcv HF
  generalize F (w.alloc (.cells #[.slice none 0 0, .slice none 0 0, .int .i64 0, .int .i64 0, .int .i64 0, .int .i64 0] 223)) = w2 at *
  obtain ⟨gp, hgp⟩ : ∃ g, w.heap.size = g := ⟨_, rfl⟩
  have HGE : Hid (w.heap.size ≤ gp) := by unfold Hid; omega
  rw [hgp] at HP1 ⊢
  clear hgp
  go_wp2_with fail
  go_loopw [6, 8] (fun va vi wr => va = .int .i64 0 ∧ vi = .int .i64 0 ∧ w2 = wr) (fun _ _ _ => 1)
  case atStart => exact ⟨rfl, rfl, rfl⟩
  case round =>
    obtain ⟨rfl, rfl, rfl⟩ := hrel
    have c1 : w2.cell? ⟨gp, 1, none⟩ = some (.slice none 0 0) := HP1.out.b.cell 1
    have hu3 : Upd [] w2 (w2.alloc (.cells #[.int .i64 0] 3)) := (Upd.refl [] w2).alloc _
    have HA := Lib.hid (app_int0 (w2.alloc (.cells #[.int .i64 0] 3)) w2.heap.size (by simp))
    have HP3 := Lib.hid (HP1.out.upd0 hu3)
    have HU3 := Lib.hid (HU1.out.seq hu3)
    clear hu3 HP1 HU1
    go_wp2_with (at_builtin; go_must (refine wpList_app_of rfl _ _ rfl (.slice none 0 0) (.slice (some ⟨w2.heap.size, 0, none⟩) 1 1) rfl rfl HA.out ?_; rintro v4 w4 ⟨⟨a4, k4, rfl⟩, hu4⟩; have HU4 := Lib.hid hu4; have HP4 := Lib.hid (HP3.out.upd0 hu4); have c4 := HP4.out.b.cell 1; have f4 := HP4.out.b.frozen 1; clear hu4 HP3 c1; dsimp only))
    have hst := HP4.out.b.set_ 1 (.slice a4 1 k4)
    have HP5 : Hid (PZ (w4.setCell ⟨gp, 1, none⟩ (.slice a4 1 k4)) gp (.slice a4 1 k4)) := ⟨hst⟩
    have HU5 : Hid (Upd [] w (w4.setCell ⟨gp, 1, none⟩ (.slice a4 1 k4))) := (HU3.out.seq HU4.out).setCell _ _ (.inr HGE.out)
    clear hst HP4 HU3 HU4 HA c4 f4
    generalize w4.setCell ⟨gp, 1, none⟩ (.slice a4 1 k4) = w5 at *
    (with_reducible refine (rfAlt_any HP5.out 0).mono ?_)
    rintro e w6 ⟨g6, rfl, hn6, hu6⟩
    have HN6 := Lib.hid hn6
    have HU6 := Lib.hid (HU5.out.seq hu6)
    have HP6 := Lib.hid (HP5.out.upd0 hu6)
    have c0 : w6.cell? ⟨gp, 0, none⟩ = some (.slice none 0 0) := HP6.out.b.cell 0
    have c2 : w6.cell? ⟨gp, 2, none⟩ = some (.int .i64 0) := HP6.out.b.cell 2
    have c4 : w6.cell? ⟨gp, 4, none⟩ = some (.int .i64 0) := HP6.out.b.cell 4
    clear hn6 hu6 HP5 HU5 HP6
    go_wp2_with fail
    go_quiet (fail)
    go_wp2_with fail
    go_ret3
    exact ⟨_, rfl, HN6.out.upd0 (by repeat (first | exact Upd.refl _ _ | apply Upd.drew | apply Upd.drewN)), HU6.out.seq (by repeat (first | exact Upd.refl _ _ | apply Upd.drew | apply Upd.drewN))⟩
end Go.Proofs.YtmhojaiajhdlcaaGreat
namespace Go.Proofs.YtmhojaiajhdlcaaGreat
open Go.RowKit
set_option linter.unusedSimpArgs false
set_option linter.unusedVariables false
theorem infoTree : (Tryz.prog.info? 236).map (·.size) = some 8 := by kernel_rfl
set_option maxRecDepth 20000 in
set_option maxHeartbeats 4000000 in
theorem rfWalk_any {w : World} {g : Nat} (h : N1 w g) : Calls Tryz.prog 164 #[.slice (some ⟨g, 0, none⟩) 1 1, .int .i64 0, .int .i64 0] w fun e w' => e = .returned (.int .i64 1) ∧ Upd [] w w' := by
  have c0 : w.cell? ⟨g, 0, none⟩ = some (.int .i64 1) := h.b.cell 0
  have c1 : w.cell? ⟨g, 1, none⟩ = some (.slice none 0 0) := h.b.cell 1
  have c2 : w.cell? ⟨g, 2, none⟩ = some (.int .i64 0) := h.b.cell 2
  have c3 : w.cell? ⟨g, 3, none⟩ = some (.int .i64 0) := h.b.cell 3
  have c4 : w.cell? ⟨g, 4, none⟩ = some (.bool false) := h.b.cell 4
  have c5 : w.cell? ⟨g, 5, none⟩ = some (.int .i64 0) := h.b.cell 5
  have c6 : w.cell? ⟨g, 6, none⟩ = some (.int .i64 0) := h.b.cell 6
  clear h
  go_enter Tryz.func164, Tryz.ntmps164
  go_wp2_with fail
  go_loopw [1, 10] (fun a i wr => a = .int .i64 1 ∧ i = .int .i64 0 ∧ Hid (Upd [] w wr)) (fun _ _ _ => 1)
  case atStart => exact ⟨rfl, rfl, by (repeat (first | exact Upd.refl _ _ | apply Upd.drew | apply Upd.drewN | apply Upd.alloc))⟩
  case round =>
    obtain ⟨rfl, rfl, hu⟩ := hrel
    go_wp2_with fail
    go_ret
    exact ⟨rfl, hu.out⟩
set_option maxRecDepth 20000 in
theorem rfEnd_any {w : World} {g : Nat} (h : N1 w g) : Calls Tryz.prog 154 #[.slice (some ⟨g, 0, none⟩) 1 1, .int .i64 0] w fun e w' => e = .returned (.int .i64 1) ∧ Upd [] w w' := by
  have H := Lib.hid h
  clear h
  go_enter Tryz.func154, Tryz.ntmps154
  go_wp2_with fail
  (with_reducible refine (rfWalk_any H.out).mono ?_)
  rintro e w1 ⟨rfl, hu1⟩
  have HU := Lib.hid hu1
  clear hu1
  go_wp2_with fail
  go_ret
  exact ⟨rfl, HU.out⟩
set_option maxRecDepth 20000 in
set_option maxHeartbeats 4000000 in
theorem rfRight_any {w : World} {g : Nat} (h : N1 w g) : Calls Tryz.prog 140 #[.slice (some ⟨g, 0, none⟩) 1 1] w fun e w' => e = .returned (.bool true) ∧ Upd [] w w' := by
  have H := Lib.hid h
  clear h
  go_enter Tryz.func140, Tryz.ntmps140
  go_wp2_with fail
  (with_reducible refine (rfEnd_any H.out).mono ?_)
  rintro e w1 ⟨rfl, hu1⟩
  have HU := Lib.hid hu1
  have c0 : w1.cell? ⟨g, 0, none⟩ = some (.int .i64 1) := (H.out.upd0 hu1).b.cell 0
  clear hu1
  go_wp2_with fail
  go_loopw [3, 4] (fun n i wr => ∃ k : Nat, k ≤ 1 ∧ n = .int .i64 1 ∧ i = .int .i64 k ∧ Hid (Upd [] w1 wr)) (fun _ i _ => 1 - (intOf i).toNat)
  case atStart => exact ⟨0, by omega, rfl, rfl, Upd.refl _ _⟩
  case round =>
    obtain ⟨k, hk, rfl, rfl, hu⟩ := hrel
    have d0 : wr.cell? ⟨g, 0, none⟩ = some (.int .i64 1) := hu.out.cell c0 (by simp)
    by_cases hk0 : k = 0
    · subst hk0
      go_wp2_with fail
      go_roundw
      case rel => exact ⟨1, by omega, rfl, by go_num, hu⟩
      case measure => simp [intOf]
    · obtain rfl : k = 1 := by omega
      go_wp2_with fail
      go_ret
      exact ⟨rfl, HU.out.seq hu.out⟩
set_option maxRecDepth 20000 in
set_option maxHeartbeats 4000000 in
theorem rfRead_any {w : World} {g : Nat} (h : N1 w g) : Calls Tryz.prog 141 #[.slice (some ⟨g, 0, none⟩) 1 1, .int .i64 0] w fun e w' => e = .returned (.tuple #[.agg #[.int .i64 1, .slice none 0 0, .int .i64 0, .int .i64 0, .bool false, .int .i64 0, .int .i64 0, .slice none 0 0], .int .i64 1]) ∧ Upd [] w w' := by
  have c0 : w.cell? ⟨g, 0, none⟩ = some (.int .i64 1) := h.b.cell 0
  have c1 : w.cell? ⟨g, 1, none⟩ = some (.slice none 0 0) := h.b.cell 1
  have c2 : w.cell? ⟨g, 2, none⟩ = some (.int .i64 0) := h.b.cell 2
  have c3 : w.cell? ⟨g, 3, none⟩ = some (.int .i64 0) := h.b.cell 3
  have c4 : w.cell? ⟨g, 4, none⟩ = some (.bool false) := h.b.cell 4
  have c5 : w.cell? ⟨g, 5, none⟩ = some (.int .i64 0) := h.b.cell 5
  have c6 : w.cell? ⟨g, 6, none⟩ = some (.int .i64 0) := h.b.cell 6
  have hg : g < w.heap.size := h.b.lt
  clear h
  have hb6 : Blk ((w.alloc (.cells #[.int .i64 0, .slice none 0 0, .int .i64 0, .int .i64 0, .bool false, .int .i64 0, .int .i64 0, .slice none 0 0] 236)).alloc (.cells #[.int .i64 1, .slice none 0 0, .int .i64 0, .int .i64 0, .bool false, .int .i64 0, .int .i64 0, .slice none 0 0] 236)) (w.heap.size + 1) 236 [.int .i64 1, .slice none 0 0, .int .i64 0, .int .i64 0, .bool false, .int .i64 0, .int .i64 0, .slice none 0 0] := by
    have := Blk.new (w.alloc (.cells #[.int .i64 0, .slice none 0 0, .int .i64 0, .int .i64 0, .bool false, .int .i64 0, .int .i64 0, .slice none 0 0] 236)) 236 [.int .i64 1, .slice none 0 0, .int .i64 0, .int .i64 0, .bool false, .int .i64 0, .int .i64 0, .slice none 0 0]
    simpa using this
  have HB6 := Lib.hid hb6
  have hb4 : Blk ((w.alloc (.cells #[.int .i64 0, .slice none 0 0, .int .i64 0, .int .i64 0, .bool false, .int .i64 0, .int .i64 0, .slice none 0 0] 236)).alloc (.cells #[.int .i64 1, .slice none 0 0, .int .i64 0, .int .i64 0, .bool false, .int .i64 0, .int .i64 0, .slice none 0 0] 236)) w.heap.size 236 [.int .i64 0, .slice none 0 0, .int .i64 0, .int .i64 0, .bool false, .int .i64 0, .int .i64 0, .slice none 0 0] := (Blk.new w 236 [.int .i64 0, .slice none 0 0, .int .i64 0, .int .i64 0, .bool false, .int .i64 0, .int .i64 0, .slice none 0 0]).upd ((Upd.refl [] _).alloc _) (by simp)
  have HB4 := Lib.hid hb4
  have HU0 : Hid (Upd [] w ((w.alloc (.cells #[.int .i64 0, .slice none 0 0, .int .i64 0, .int .i64 0, .bool false, .int .i64 0, .int .i64 0, .slice none 0 0] 236)).alloc (.cells #[.int .i64 1, .slice none 0 0, .int .i64 0, .int .i64 0, .bool false, .int .i64 0, .int .i64 0, .slice none 0 0] 236))) := ((Upd.refl [] w).alloc _).alloc _
  clear hb6 hb4
  go_enter Tryz.func141, Tryz.ntmps141
  go_wp2_with fail
  obtain ⟨gR, hgR⟩ : ∃ x, w.heap.size = x := ⟨_, rfl⟩
  obtain ⟨gT, hgT⟩ : ∃ x, gR + 1 = x := ⟨_, rfl⟩
  have HGR : Hid (w.heap.size ≤ gR ∧ gR ≠ gT) := by unfold Hid; omega
  rw [hgR, hgT] at HB6
  rw [hgR] at HB4
  rw [hgR, hgT]
  clear hgR hgT hg c0 c1 c2 c3 c4 c5 c6
  generalize (w.alloc (.cells #[.int .i64 0, .slice none 0 0, .int .i64 0, .int .i64 0, .bool false, .int .i64 0, .int .i64 0, .slice none 0 0] 236)).alloc (.cells #[.int .i64 1, .slice none 0 0, .int .i64 0, .int .i64 0, .bool false, .int .i64 0, .int .i64 0, .slice none 0 0] 236) = W at *
  go_loopw [1, 7] (fun a i wr => a = .int .i64 1 ∧ i = .int .i64 0 ∧ W = wr) (fun _ _ _ => 1)
  case atStart => exact ⟨rfl, rfl, rfl⟩
  case round =>
    obtain ⟨rfl, rfl, rfl⟩ := hrel
    have t0 : W.cell? ⟨gT, 0, none⟩ = some (.int .i64 1) := HB6.out.cell 0
    have t1 : W.cell? ⟨gT, 1, none⟩ = some (.slice none 0 0) := HB6.out.cell 1
    have t2 : W.cell? ⟨gT, 2, none⟩ = some (.int .i64 0) := HB6.out.cell 2
    have t3 : W.cell? ⟨gT, 3, none⟩ = some (.int .i64 0) := HB6.out.cell 3
    have t4 : W.cell? ⟨gT, 4, none⟩ = some (.bool false) := HB6.out.cell 4
    have t5 : W.cell? ⟨gT, 5, none⟩ = some (.int .i64 0) := HB6.out.cell 5
    have t6 : W.cell? ⟨gT, 6, none⟩ = some (.int .i64 0) := HB6.out.cell 6
    have t7 : W.cell? ⟨gT, 7, none⟩ = some (.slice none 0 0) := HB6.out.cell 7
    go_wp2_with (first | ((refine wpList_store_row rfl 236 (.tmp 4) (.tmp 37) rfl gR #[.int .i64 1, .slice none 0 0, .int .i64 0, .int .i64 0, .bool false, .int .i64 0, .int .i64 0, .slice none 0 0] rfl rfl 236 #[.int .i64 0, .slice none 0 0, .int .i64 0, .int .i64 0, .bool false, .int .i64 0, .int .i64 0, .slice none 0 0] HB4.out (by show _ = some 8; exact infoTree) rfl (by simp [Value.oneCell']) ?_)) | fail)
    have hU := HU0.out.trans (T := []) (upd_row _ gR #[.int .i64 1, .slice none 0 0, .int .i64 0, .int .i64 0, .bool false, .int .i64 0, .int .i64 0, .slice none 0 0]) (by simp) (fun y hy => .inr (by simp at hy; have := HGR.out.1; omega))
    have HB := Lib.hid (blk_row HB4.out [.int .i64 1, .slice none 0 0, .int .i64 0, .int .i64 0, .bool false, .int .i64 0, .int .i64 0, .slice none 0 0])
    have e0 : (World.setRow W gR #[.int .i64 1, .slice none 0 0, .int .i64 0, .int .i64 0, .bool false, .int .i64 0, .int .i64 0, .slice none 0 0]).cell? ⟨gR, 0, none⟩ = some (.int .i64 1) := HB.out.cell 0
    have e1 : (World.setRow W gR #[.int .i64 1, .slice none 0 0, .int .i64 0, .int .i64 0, .bool false, .int .i64 0, .int .i64 0, .slice none 0 0]).cell? ⟨gR, 1, none⟩ = some (.slice none 0 0) := HB.out.cell 1
    have e2 : (World.setRow W gR #[.int .i64 1, .slice none 0 0, .int .i64 0, .int .i64 0, .bool false, .int .i64 0, .int .i64 0, .slice none 0 0]).cell? ⟨gR, 2, none⟩ = some (.int .i64 0) := HB.out.cell 2
    have e3 : (World.setRow W gR #[.int .i64 1, .slice none 0 0, .int .i64 0, .int .i64 0, .bool false, .int .i64 0, .int .i64 0, .slice none 0 0]).cell? ⟨gR, 3, none⟩ = some (.int .i64 0) := HB.out.cell 3
    have e4 : (World.setRow W gR #[.int .i64 1, .slice none 0 0, .int .i64 0, .int .i64 0, .bool false, .int .i64 0, .int .i64 0, .slice none 0 0]).cell? ⟨gR, 4, none⟩ = some (.bool false) := HB.out.cell 4
    have e5 : (World.setRow W gR #[.int .i64 1, .slice none 0 0, .int .i64 0, .int .i64 0, .bool false, .int .i64 0, .int .i64 0, .slice none 0 0]).cell? ⟨gR, 5, none⟩ = some (.int .i64 0) := HB.out.cell 5
    have e6 : (World.setRow W gR #[.int .i64 1, .slice none 0 0, .int .i64 0, .int .i64 0, .bool false, .int .i64 0, .int .i64 0, .slice none 0 0]).cell? ⟨gR, 6, none⟩ = some (.int .i64 0) := HB.out.cell 6
    have e7 : (World.setRow W gR #[.int .i64 1, .slice none 0 0, .int .i64 0, .int .i64 0, .bool false, .int .i64 0, .int .i64 0, .slice none 0 0]).cell? ⟨gR, 7, none⟩ = some (.slice none 0 0) := HB.out.cell 7
    clear HB HB4 HU0
    generalize World.setRow _ _ _ = W2 at *
    exact bodyPost_ret (v := .tuple #[.agg #[.int .i64 1, .slice none 0 0, .int .i64 0, .int .i64 0, .bool false, .int .i64 0, .int .i64 0, .slice none 0 0], .int .i64 1]) (by simp [results, Tryz.results141, go_sem, e0, e1, e2, e3, e4, e5, e6, e7]; try rfl) rfl ⟨rfl, hU⟩
set_option maxRecDepth 20000 in
set_option maxHeartbeats 4000000 in
theorem rfSimple0_any (w : World) : Calls Tryz.prog 143 #[.agg #[.int .i64 1, .slice none 0 0, .int .i64 0, .int .i64 0, .bool false, .int .i64 0, .int .i64 0, .slice none 0 0]] w fun e w' => e = .returned (.agg #[.int .i64 1, .slice none 0 0, .int .i64 0, .int .i64 0, .bool false, .int .i64 0, .int .i64 0, .slice none 0 0]) ∧ Upd [] w w' := by
  have hb1 : Blk ((w.alloc (.cells #[.int .i64 1, .slice none 0 0, .int .i64 0, .int .i64 0, .bool false, .int .i64 0, .int .i64 0, .slice none 0 0] 236)).alloc (.cells #[.int .i64 0, .slice none 0 0, .int .i64 0, .int .i64 0, .bool false, .int .i64 0, .int .i64 0, .slice none 0 0] 236)) w.heap.size 236 [.int .i64 1, .slice none 0 0, .int .i64 0, .int .i64 0, .bool false, .int .i64 0, .int .i64 0, .slice none 0 0] := (Blk.new w 236 [.int .i64 1, .slice none 0 0, .int .i64 0, .int .i64 0, .bool false, .int .i64 0, .int .i64 0, .slice none 0 0]).upd ((Upd.refl [] _).alloc _) (by simp)
  have hb2 : Blk ((w.alloc (.cells #[.int .i64 1, .slice none 0 0, .int .i64 0, .int .i64 0, .bool false, .int .i64 0, .int .i64 0, .slice none 0 0] 236)).alloc (.cells #[.int .i64 0, .slice none 0 0, .int .i64 0, .int .i64 0, .bool false, .int .i64 0, .int .i64 0, .slice none 0 0] 236)) (w.heap.size + 1) 236 [.int .i64 0, .slice none 0 0, .int .i64 0, .int .i64 0, .bool false, .int .i64 0, .int .i64 0, .slice none 0 0] := by
    have := Blk.new (w.alloc (.cells #[.int .i64 1, .slice none 0 0, .int .i64 0, .int .i64 0, .bool false, .int .i64 0, .int .i64 0, .slice none 0 0] 236)) 236 [.int .i64 0, .slice none 0 0, .int .i64 0, .int .i64 0, .bool false, .int .i64 0, .int .i64 0, .slice none 0 0]
    simpa using this
  have HB1 := Lib.hid hb1
  have HB2 := Lib.hid hb2
  have HU0 : Hid (Upd [] w ((w.alloc (.cells #[.int .i64 1, .slice none 0 0, .int .i64 0, .int .i64 0, .bool false, .int .i64 0, .int .i64 0, .slice none 0 0] 236)).alloc (.cells #[.int .i64 0, .slice none 0 0, .int .i64 0, .int .i64 0, .bool false, .int .i64 0, .int .i64 0, .slice none 0 0] 236))) := ((Upd.refl [] w).alloc _).alloc _
  clear hb1 hb2
  go_enter Tryz.func143, Tryz.ntmps143
  go_wp2_with fail
  obtain ⟨gT, hgT⟩ : ∃ x, w.heap.size = x := ⟨_, rfl⟩
  obtain ⟨gR, hgR⟩ : ∃ x, gT + 1 = x := ⟨_, rfl⟩
  have HGR : Hid (w.heap.size ≤ gR) := by unfold Hid; omega
  rw [hgT] at HB1
  rw [hgT, hgR] at HB2
  rw [hgT, hgR]
  clear hgR hgT
  generalize (w.alloc (.cells #[.int .i64 1, .slice none 0 0, .int .i64 0, .int .i64 0, .bool false, .int .i64 0, .int .i64 0, .slice none 0 0] 236)).alloc (.cells #[.int .i64 0, .slice none 0 0, .int .i64 0, .int .i64 0, .bool false, .int .i64 0, .int .i64 0, .slice none 0 0] 236) = W at *
  go_loopw [3] (fun i wr => i = .int .i64 0 ∧ W = wr) (fun _ _ => 1)
  case atStart => exact ⟨rfl, rfl⟩
  case round =>
    obtain ⟨rfl, rfl⟩ := hrel
    have t0 : W.cell? ⟨gT, 0, none⟩ = some (.int .i64 1) := HB1.out.cell 0
    have t1 : W.cell? ⟨gT, 1, none⟩ = some (.slice none 0 0) := HB1.out.cell 1
    have t2 : W.cell? ⟨gT, 2, none⟩ = some (.int .i64 0) := HB1.out.cell 2
    have t3 : W.cell? ⟨gT, 3, none⟩ = some (.int .i64 0) := HB1.out.cell 3
    have t4 : W.cell? ⟨gT, 4, none⟩ = some (.bool false) := HB1.out.cell 4
    have t5 : W.cell? ⟨gT, 5, none⟩ = some (.int .i64 0) := HB1.out.cell 5
    have t6 : W.cell? ⟨gT, 6, none⟩ = some (.int .i64 0) := HB1.out.cell 6
    have t7 : W.cell? ⟨gT, 7, none⟩ = some (.slice none 0 0) := HB1.out.cell 7
    go_wp2_with (first | ((refine wpList_store_row rfl 236 (.tmp 2) (.tmp 36) rfl gR #[.int .i64 1, .slice none 0 0, .int .i64 0, .int .i64 0, .bool false, .int .i64 0, .int .i64 0, .slice none 0 0] rfl rfl 236 #[.int .i64 0, .slice none 0 0, .int .i64 0, .int .i64 0, .bool false, .int .i64 0, .int .i64 0, .slice none 0 0] HB2.out (by show _ = some 8; exact infoTree) rfl (by simp [Value.oneCell']) ?_)) | fail)
    have hU := HU0.out.trans (T := []) (upd_row _ gR #[.int .i64 1, .slice none 0 0, .int .i64 0, .int .i64 0, .bool false, .int .i64 0, .int .i64 0, .slice none 0 0]) (by simp) (fun y hy => .inr (by simp at hy; have := HGR.out; omega))
    have HB := Lib.hid (blk_row HB2.out [.int .i64 1, .slice none 0 0, .int .i64 0, .int .i64 0, .bool false, .int .i64 0, .int .i64 0, .slice none 0 0])
    have e0 : (World.setRow W gR #[.int .i64 1, .slice none 0 0, .int .i64 0, .int .i64 0, .bool false, .int .i64 0, .int .i64 0, .slice none 0 0]).cell? ⟨gR, 0, none⟩ = some (.int .i64 1) := HB.out.cell 0
    have e1 : (World.setRow W gR #[.int .i64 1, .slice none 0 0, .int .i64 0, .int .i64 0, .bool false, .int .i64 0, .int .i64 0, .slice none 0 0]).cell? ⟨gR, 1, none⟩ = some (.slice none 0 0) := HB.out.cell 1
    have e2 : (World.setRow W gR #[.int .i64 1, .slice none 0 0, .int .i64 0, .int .i64 0, .bool false, .int .i64 0, .int .i64 0, .slice none 0 0]).cell? ⟨gR, 2, none⟩ = some (.int .i64 0) := HB.out.cell 2
    have e3 : (World.setRow W gR #[.int .i64 1, .slice none 0 0, .int .i64 0, .int .i64 0, .bool false, .int .i64 0, .int .i64 0, .slice none 0 0]).cell? ⟨gR, 3, none⟩ = some (.int .i64 0) := HB.out.cell 3
    have e4 : (World.setRow W gR #[.int .i64 1, .slice none 0 0, .int .i64 0, .int .i64 0, .bool false, .int .i64 0, .int .i64 0, .slice none 0 0]).cell? ⟨gR, 4, none⟩ = some (.bool false) := HB.out.cell 4
    have e5 : (World.setRow W gR #[.int .i64 1, .slice none 0 0, .int .i64 0, .int .i64 0, .bool false, .int .i64 0, .int .i64 0, .slice none 0 0]).cell? ⟨gR, 5, none⟩ = some (.int .i64 0) := HB.out.cell 5
    have e6 : (World.setRow W gR #[.int .i64 1, .slice none 0 0, .int .i64 0, .int .i64 0, .bool false, .int .i64 0, .int .i64 0, .slice none 0 0]).cell? ⟨gR, 6, none⟩ = some (.int .i64 0) := HB.out.cell 6
    have e7 : (World.setRow W gR #[.int .i64 1, .slice none 0 0, .int .i64 0, .int .i64 0, .bool false, .int .i64 0, .int .i64 0, .slice none 0 0]).cell? ⟨gR, 7, none⟩ = some (.slice none 0 0) := HB.out.cell 7
    clear HB HB2 HU0
    generalize World.setRow _ _ _ = W2 at *
    exact bodyPost_ret (v := .agg #[.int .i64 1, .slice none 0 0, .int .i64 0, .int .i64 0, .bool false, .int .i64 0, .int .i64 0, .slice none 0 0]) (by simp [results, Tryz.results143, go_sem, e0, e1, e2, e3, e4, e5, e6, e7]; try rfl) rfl ⟨rfl, hU⟩
set_option maxRecDepth 20000 in
set_option maxHeartbeats 4000000 in
theorem rfList_any (w : World) : Calls Tryz.prog 142 #[.agg #[.int .i64 1, .slice none 0 0, .int .i64 0, .int .i64 0, .bool false, .int .i64 0, .int .i64 0, .slice none 0 0]] w fun e w' => ∃ g, e = .returned (.slice (some ⟨g, 0, none⟩) 1 1) ∧ N1 w' g ∧ Upd [] w w' := by
  have hb1 : Blk (w.alloc (.cells #[.int .i64 1, .slice none 0 0, .int .i64 0, .int .i64 0, .bool false, .int .i64 0, .int .i64 0, .slice none 0 0] 236)) w.heap.size 236 [.int .i64 1, .slice none 0 0, .int .i64 0, .int .i64 0, .bool false, .int .i64 0, .int .i64 0, .slice none 0 0] := Blk.new w 236 [.int .i64 1, .slice none 0 0, .int .i64 0, .int .i64 0, .bool false, .int .i64 0, .int .i64 0, .slice none 0 0]
  have HB1 := Lib.hid hb1
  have HU0 : Hid (Upd [] w (w.alloc (.cells #[.int .i64 1, .slice none 0 0, .int .i64 0, .int .i64 0, .bool false, .int .i64 0, .int .i64 0, .slice none 0 0] 236))) := (Upd.refl [] w).alloc _
  clear hb1
  go_enter Tryz.func142, Tryz.ntmps142
  have HB2 : Hid (Blk ((w.alloc (.cells #[.int .i64 1, .slice none 0 0, .int .i64 0, .int .i64 0, .bool false, .int .i64 0, .int .i64 0, .slice none 0 0] 236)).alloc (.cells #[.int .i64 1, .slice none 0 0, .int .i64 0, .int .i64 0, .bool false, .int .i64 0, .int .i64 0] 233)) (w.heap.size + 1) 233 [.int .i64 1, .slice none 0 0, .int .i64 0, .int .i64 0, .bool false, .int .i64 0, .int .i64 0]) := by
    have := Blk.new (w.alloc (.cells #[.int .i64 1, .slice none 0 0, .int .i64 0, .int .i64 0, .bool false, .int .i64 0, .int .i64 0, .slice none 0 0] 236)) 233 [.int .i64 1, .slice none 0 0, .int .i64 0, .int .i64 0, .bool false, .int .i64 0, .int .i64 0]
    unfold Hid
    simpa using this
  have HB3 : Hid (Blk ((w.alloc (.cells #[.int .i64 1, .slice none 0 0, .int .i64 0, .int .i64 0, .bool false, .int .i64 0, .int .i64 0, .slice none 0 0] 236)).alloc (.cells #[.int .i64 1, .slice none 0 0, .int .i64 0, .int .i64 0, .bool false, .int .i64 0, .int .i64 0] 233)) w.heap.size 236 [.int .i64 1, .slice none 0 0, .int .i64 0, .int .i64 0, .bool false, .int .i64 0, .int .i64 0, .slice none 0 0]) := HB1.out.upd ((Upd.refl [] _).alloc _) (by simp)
  have HU2 : Hid (Upd [] w ((w.alloc (.cells #[.int .i64 1, .slice none 0 0, .int .i64 0, .int .i64 0, .bool false, .int .i64 0, .int .i64 0, .slice none 0 0] 236)).alloc (.cells #[.int .i64 1, .slice none 0 0, .int .i64 0, .int .i64 0, .bool false, .int .i64 0, .int .i64 0] 233))) := HU0.out.alloc _
  clear HB1 HU0
  go_wp2_with fail
  obtain ⟨gT, hgT⟩ : ∃ x, w.heap.size = x := ⟨_, rfl⟩
  obtain ⟨gR, hgR⟩ : ∃ x, gT + 1 = x := ⟨_, rfl⟩
  rw [hgT] at HB3
  rw [hgT, hgR] at HB2
  rw [hgT, hgR]
  clear hgR hgT
  generalize (w.alloc (.cells #[.int .i64 1, .slice none 0 0, .int .i64 0, .int .i64 0, .bool false, .int .i64 0, .int .i64 0, .slice none 0 0] 236)).alloc (.cells #[.int .i64 1, .slice none 0 0, .int .i64 0, .int .i64 0, .bool false, .int .i64 0, .int .i64 0] 233) = W at *
  go_loopw [3, 4] (fun v i wr => v = .slice (some ⟨gR, 0, none⟩) 1 1 ∧ i = .int .i64 0 ∧ W = wr) (fun _ _ _ => 1)
  case atStart => exact ⟨rfl, rfl, rfl⟩
  case round =>
    obtain ⟨rfl, rfl, rfl⟩ := hrel
    have t0 : W.cell? ⟨gT, 0, none⟩ = some (.int .i64 1) := HB3.out.cell 0
    have t1 : W.cell? ⟨gT, 1, none⟩ = some (.slice none 0 0) := HB3.out.cell 1
    have t2 : W.cell? ⟨gT, 2, none⟩ = some (.int .i64 0) := HB3.out.cell 2
    have t3 : W.cell? ⟨gT, 3, none⟩ = some (.int .i64 0) := HB3.out.cell 3
    have t4 : W.cell? ⟨gT, 4, none⟩ = some (.bool false) := HB3.out.cell 4
    have t5 : W.cell? ⟨gT, 5, none⟩ = some (.int .i64 0) := HB3.out.cell 5
    have t6 : W.cell? ⟨gT, 6, none⟩ = some (.int .i64 0) := HB3.out.cell 6
    have t7 : W.cell? ⟨gT, 7, none⟩ = some (.slice none 0 0) := HB3.out.cell 7
    go_wp2_with fail
    go_ret
    exact ⟨_, rfl, ⟨HB2.out⟩, HU2.out⟩
set_option maxRecDepth 20000 in
set_option maxHeartbeats 4000000 in
theorem rfSimple_any {w : World} {g : Nat} (h : N1 w g) : Calls Tryz.prog 127 #[.slice (some ⟨g, 0, none⟩) 1 1] w fun e w' => ∃ g', e = .returned (.slice (some ⟨g', 0, none⟩) 1 1) ∧ N1 w' g' ∧ Upd [] w w' := by
  have H := Lib.hid h
  clear h
  go_enter Tryz.func127, Tryz.ntmps127
  go_wp2_with fail
  (with_reducible refine (rfRight_any H.out).mono ?_)
  rintro e w1 ⟨rfl, hu1⟩
  have H1 := Lib.hid (H.out.upd0 hu1)
  have HU1 := Lib.hid hu1
  clear hu1 H
  go_wp2_with fail
  (with_reducible refine (rfRead_any H1.out).mono ?_)
  rintro e w2 ⟨rfl, hu2⟩
  have HU2 := Lib.hid (HU1.out.seq hu2)
  clear hu2 H1 HU1
  go_wp2_with fail
  (with_reducible refine (rfSimple0_any _).mono ?_)
  rintro e w3 ⟨rfl, hu3⟩
  have HU3 := Lib.hid ((HU2.out.alloc (.cells #[.int .i64 1, .slice none 0 0, .int .i64 0, .int .i64 0, .bool false, .int .i64 0, .int .i64 0, .slice none 0 0] 236)).seq hu3)
  clear hu3 HU2
  go_wp2_with fail
  (with_reducible refine (rfList_any _).mono ?_)
  rintro e w4 ⟨g4, rfl, hn4, hu4⟩
  have HN4 := Lib.hid hn4
  have HU4 := Lib.hid (HU3.out.seq hu4)
  clear hn4 hu4 HU3
  go_wp2_with fail
  go_ret
  exact ⟨_, rfl, HN4.out, HU4.out⟩
end Go.Proofs.YtmhojaiajhdlcaaGreat
namespace Go.Proofs.YtmhojaiajhdlcaaGreat
open Go.RowKit
set_option linter.unusedSimpArgs false
set_option linter.unusedVariables false
abbrev insCells (p : Int × Int) : List Value := [.int .i64 p.1, .int .i64 p.2, .int .i64 0, .slice none 0 0]
theorem infoIns : (Tryz.prog.info? 246).map (fun i => (i.zero, i.size, i.bytes)) = some (some (.agg #[.int .i64 0, .int .i64 0, .int .i64 0, .slice none 0 0]), 4, 48) := by kernel_rfl
theorem infoProg : (Tryz.prog.info? 209).map (·.size) = some 2 := by kernel_rfl
theorem undIns : Tryz.prog.underlying 207 = some (.slice 246) := by kernel_rfl
theorem insCells_len (p : Int × Int) : (insCells p).length = 4 := rfl
theorem insCells_one : ∀ p, ∀ u ∈ insCells p, u.oneCell' = true := by
  intro p u hu
  simp only [List.mem_cons, List.not_mem_nil, or_false] at hu
  rcases hu with rfl | rfl | rfl | rfl <;> rfl
/-- The coder: its code. -/
structure CZ (w0 w : World) (gc : Nat) (v : Value) (l : List (Int × Int)) : Prop where
  b : Blk w gc 243 [v, .bool false]
  row : OwnN 4 insCells w0.heap.size 246 w v l
  ge : w0.heap.size ≤ gc
  old : Upd [] w0 w
section
variable {w0 w w' : World} {gc : Nat} {v : Value} {l : List (Int × Int)}
theorem CZ.gcv (h : CZ w0 w gc v l) : gc ∉ blk v := fun hx => by
  obtain ⟨C, f, h1⟩ := h.row.typ gc hx
  have h2 : w.heap[gc]? = some (.cells _ _ _) := h.b
  rw [h1] at h2
  injection h2 with h2; injection h2 with _ h2
  exact absurd h2 (by decide)
theorem CZ.upd0 (h : CZ w0 w gc v l) (hu : Upd [] w w') : CZ w0 w' gc v l := ⟨h.b.upd hu (by simp), h.row.upd hu (by simp), h.ge, h.old.seq hu⟩
theorem CZ.upd1 (h : CZ w0 w gc v l) {g : Nat} {t : TypeId} {xs : List Value} (hb : Blk w g t xs) (h1 : t ≠ 243) (h2 : t ≠ 246) (hg : w0.heap.size ≤ g) (hu : Upd [g] w w') : CZ w0 w' gc v l :=
  ⟨h.b.upd hu (fun q => by
      simp at q; subst q
      have e1 : w.heap[gc]? = some (.cells _ _ _) := h.b
      have e2 : w.heap[gc]? = some (.cells _ _ _) := hb
      rw [e1] at e2
      injection e2 with e2; injection e2 with _ e2
      exact h1 e2.symm),
    h.row.upd hu (fun x hx q => by
      simp at q; subst q
      obtain ⟨C, f, e1⟩ := h.row.typ x hx
      have e2 : w.heap[x]? = some (.cells _ _ _) := hb
      rw [e1] at e2
      injection e2 with e2; injection e2 with _ e2
      exact h2 e2.symm), h.ge, h.old.trans hu (by simp) (fun x hx => .inr (by simp at hx; subst hx; exact hg))⟩
/-- A block of another type stands by. -/
theorem CZ.ap (h : CZ w0 w gc v l) {g : Nat} {t : TypeId} {xs : List Value} (hb : Blk w g t xs) (h1 : t ≠ 243) (h2 : t ≠ 246) : g ∉ gc :: blk v := fun q => by
  rcases List.mem_cons.1 q with rfl | q
  · have e1 : w.heap[g]? = some (.cells _ _ _) := h.b
    have e2 : w.heap[g]? = some (.cells _ _ _) := hb
    rw [e1] at e2
    injection e2 with e2; injection e2 with _ e2
    exact h1 e2.symm
  · obtain ⟨C, f, e1⟩ := h.row.typ g q
    have e2 : w.heap[g]? = some (.cells _ _ _) := hb
    rw [e1] at e2
    injection e2 with e2; injection e2 with _ e2
    exact h2 e2.symm
set_option maxRecDepth 20000 in
set_option maxHeartbeats 4000000 in
theorem rfPut_any (h : CZ w0 w gc v l) (hl : l.length ≤ 100) (op x : Int) : Calls Tryz.prog 144 #[.pointer (some ⟨gc, 0, none⟩), .agg #[.int .i64 op, .int .i64 x, .int .i64 0, .slice none 0 0]] w fun e w' => e = .returned (.int .i64 (l.length : Int)) ∧ ∃ v', CZ w0 w' gc v' (l ++ [(op, x)]) ∧ Upd (gc :: blk v) w w' := by
  obtain ⟨ao, co, rfl, hlc, hcm, -⟩ := h.row.rd insCells_len
  have hu1 : Upd [] w (w.alloc (.cells #[.int .i64 op, .int .i64 x, .int .i64 0, .slice none 0 0] 246)) := (Upd.refl [] w).alloc _
  have HB1 : Hid (Blk (w.alloc (.cells #[.int .i64 op, .int .i64 x, .int .i64 0, .slice none 0 0] 246)) w.heap.size 246 [.int .i64 op, .int .i64 x, .int .i64 0, .slice none 0 0]) := Blk.new w _ [.int .i64 op, .int .i64 x, .int .i64 0, .slice none 0 0]
  have H1 := Lib.hid (h.upd0 hu1)
  have HU1 := Lib.hid hu1
  have HL := Lib.hid hl
  have hco : co ≤ 9223372036854775807 := by unfold maxLen at hcm; omega
  have p1 : ¬ (400 : Int) ≤ l.length := by omega
  have HGC : Hid (gc < w.heap.size) := h.b.lt
  clear h hu1 hcm
  have gc0 : (w.alloc (.cells #[.int .i64 op, .int .i64 x, .int .i64 0, .slice none 0 0] 246)).cell? ⟨gc, 0, none⟩ = some (.slice ao l.length co) := H1.out.b.cell 0
  have gw0 : w.cell? ⟨gc, 0, none⟩ = some (.slice ao l.length co) := by rw [← gc0]; exact (World.cell?_alloc_lt _ _ _ HGC.out).symm
  have hgc : gc < w.heap.size := HGC.out
  go_enter Tryz.func144, Tryz.ntmps144
  go_wp2_with fail
  have HSZ : Hid (w.heap.size + 1 = (w.alloc (.cells #[.int .i64 op, .int .i64 x, .int .i64 0, .slice none 0 0] 246)).heap.size) := by unfold Hid; simp
  have hx1 : w.heap.size < (w.alloc (.cells #[.int .i64 op, .int .i64 x, .int .i64 0, .slice none 0 0] 246)).heap.size := HB1.out.lt
  clear gw0
  generalize w.alloc (.cells #[.int .i64 op, .int .i64 x, .int .i64 0, .slice none 0 0] 246) = w1 at *
  have f0 := H1.out.b.frozen 0
  have hg1 : gc < w1.heap.size := H1.out.b.lt
  have e0 : w1.cell? ⟨w.heap.size, 0, none⟩ = some (.int .i64 op) := HB1.out.cell 0
  have e1 : w1.cell? ⟨w.heap.size, 1, none⟩ = some (.int .i64 x) := HB1.out.cell 1
  have e2 : w1.cell? ⟨w.heap.size, 2, none⟩ = some (.int .i64 0) := HB1.out.cell 2
  have e3 : w1.cell? ⟨w.heap.size, 3, none⟩ = some (.slice none 0 0) := HB1.out.cell 3
  have hu2 : Upd [] w1 (w1.drew.alloc (.cells #[.int .i64 op, .int .i64 x, .int .i64 0, .slice none 0 0] 246)) := (Upd.refl [] w1).drew.alloc _
  have hnb : Blk (w1.drew.alloc (.cells #[.int .i64 op, .int .i64 x, .int .i64 0, .slice none 0 0] 246)) w1.heap.size 246 [.int .i64 op, .int .i64 x, .int .i64 0, .slice none 0 0] := Blk.new w1.drew _ _
  have HRD : RdN 4 insCells (w1.drew.alloc (.cells #[.int .i64 op, .int .i64 x, .int .i64 0, .slice none 0 0] 246)) (.slice (some ⟨w1.heap.size, 0, none⟩) 1 1) [(op, x)] := by
    refine ⟨_, 1, rfl, by simp, by simp [maxLen], fun _ => ⟨w1.heap.size, 0, rfl, fun j hj i hi => ?_⟩⟩
    have hj0 : j = 0 := by simpa using hj
    subst hj0
    rw [Nat.zero_mul, Nat.zero_add, Nat.zero_add, hnb.cell]; rfl
  have HRUN := Lib.hid (fun ty => run_appN (P := Tryz.prog) (ty := ty) insCells_len (by decide) insCells_one undIns infoIns rfl _ _ l [(op, x)] (H1.out.row.upd hu2 (by simp)) HRD (by have := HL.out; simp; omega) (by have := HL.out; simp [maxLen]; omega) (H1.out.old.seq hu2).size)
  have HC2 := Lib.hid (H1.out.upd0 hu2)
  have HU2 := Lib.hid hu2
  clear hu2 hnb HRD
  go_region_law (first | ((with_reducible refine step_app_of rfl (.tmp 18) (.tmp 20) rfl (.slice ao l.length co) (.slice (some ⟨w1.heap.size, 0, none⟩) 1 1) rfl rfl (HRUN.out _) ?_); (rintro v4 w4 ⟨ho4, hu4, hk4⟩; obtain ⟨a4, k4, rfl, -⟩ := OwnN.rd insCells_len ho4; have ht4 := HC2.out.b.upd hu4 HC2.out.gcv; have gc4 := ht4.cell 0; have f4 := ht4.frozen 0; have HT4 := Lib.hid ht4; have HO4 := Lib.hid ho4; have HU4 := Lib.hid hu4; have HK4 := Lib.hid hk4; clear ho4 hu4 hk4 ht4; dsimp only)))
  all_goals
    have hset : Upd [gc] w4 (w4.setCell ⟨gc, 0, none⟩ (.slice a4 (l.length + 1) k4)) := (Upd.refl [gc] w4).setCell _ _ (.inl (by simp))
    have hall4 : Upd (blk (Value.slice ao l.length co)) w1 w4 := HU2.out.trans HU4.out (by simp) (fun x hx => .inl hx)
    have ht5 : Blk (w4.setCell ⟨gc, 0, none⟩ (.slice a4 (l.length + 1) k4)) gc 243 [.slice a4 (l.length + 1) k4, .bool false] := HT4.out.set_ 0 _
    have ho5 : OwnN 4 insCells w0.heap.size 246 (w4.setCell ⟨gc, 0, none⟩ (.slice a4 (l.length + 1) k4)) (.slice a4 (l.length + 1) k4) (l ++ [(op, x)]) := by
      have ho4 := HO4.out
      rw [List.length_append, List.length_singleton] at ho4
      refine ho4.upd hset (fun x hx hx' => ?_)
      simp at hx'
      subst hx'
      obtain ⟨C, f, h1⟩ := ho4.typ x hx
      have h2 : w4.heap[x]? = some (.cells _ _ _) := HT4.out
      rw [h1] at h2
      injection h2 with h2; injection h2 with _ h2
      exact absurd h2 (by decide)
    have hu5 : Upd (gc :: blk (Value.slice ao l.length co)) w (w4.setCell ⟨gc, 0, none⟩ (.slice a4 (l.length + 1) k4)) := (HU1.out.mono (by simp)).trans (hall4.trans hset (T := gc :: blk (Value.slice ao l.length co)) (fun x hx => List.mem_cons_of_mem _ hx) (fun x hx => .inl (by simp at hx; subst hx; exact List.mem_cons_self))) (fun x hx => hx) (fun x hx => .inl hx)
    have hold5 : Upd [] w0 (w4.setCell ⟨gc, 0, none⟩ (.slice a4 (l.length + 1) k4)) := (H1.out.old.trans (T := []) hall4 (by simp) (fun x hx => .inr (H1.out.row.ge x hx).1)).trans hset (by simp) (fun x hx => .inr (by simp at hx; subst hx; exact H1.out.ge))
    have HCZ : Hid (CZ w0 (w4.setCell ⟨gc, 0, none⟩ (.slice a4 (l.length + 1) k4)) gc (.slice a4 (l.length + 1) k4) (l ++ [(op, x)])) := ⟨ht5, ho5, H1.out.ge, hold5⟩
    have HU5 := Lib.hid hu5
    have c5 : (w4.setCell ⟨gc, 0, none⟩ (.slice a4 (l.length + 1) k4)).cell? ⟨gc, 0, none⟩ = some (.slice a4 (l.length + 1) k4) := ht5.cell 0
    have hm5 : (-9223372036854775808 : Int) ≤ (l.length : Int) ∧ (l.length : Int) < 1000 := by have := HL.out; omega
    clear hset hall4 ht5 ho5 hu5 hold5 HT4 HO4 HU4 HK4 gc4 f4 HC2 HU2 HRUN H1 HU1 HB1 e0 e1 e2 e3 f0 gc0 hg1 hx1 HSZ
    generalize w4.setCell ⟨gc, 0, none⟩ (.slice a4 (l.length + 1) k4) = w5 at *
    go_wp2_with fail
    go_ret
    exact ⟨by simp, _, HCZ.out, HU5.out⟩
set_option maxRecDepth 20000 in
set_option maxHeartbeats 4000000 in
theorem rfNode_any (h : CZ w0 w gc v l) : Calls Tryz.prog 145 #[.pointer (some ⟨gc, 0, none⟩), .agg #[.int .i64 1, .slice none 0 0, .int .i64 0, .int .i64 0, .bool false, .int .i64 0, .int .i64 0, .slice none 0 0]] w fun e w' => e = .returned (.tuple #[]) ∧ Upd [] w w' := by
  have hu1 : Upd [] w (w.alloc (.cells #[.int .i64 1, .slice none 0 0, .int .i64 0, .int .i64 0, .bool false, .int .i64 0, .int .i64 0, .slice none 0 0] 236)) := (Upd.refl [] w).alloc _
  have HU1 := Lib.hid hu1
  have b1 : w.cell? ⟨gc, 1, none⟩ = some (.bool false) := h.b.cell 1
  have hgc : gc < w.heap.size := h.b.lt
  clear h hu1
  go_enter Tryz.func145, Tryz.ntmps145
  go_wp2_with fail
  go_end0
  exact ⟨rfl, HU1.out⟩
structure CS (w wr : World) (gR gc gp : Nat) (sv cv : Value) (l : List (Int × Int)) : Prop where
  r : Blk wr gR 209 [.slice none 0 0, .slice none 0 0]
  p : Blk wr gp 209 [.slice none 0 0, sv]
  c : CZ w wr gc cv l
  geR : w.heap.size ≤ gR
  geP : w.heap.size ≤ gp
  ne : gR ≠ gp
theorem CS.upd0 {wr wr' : World} {gR gp : Nat} {sv cv : Value} (h : CS w wr gR gc gp sv cv l) (hu : Upd [] wr wr') : CS w wr' gR gc gp sv cv l := ⟨h.r.upd hu (by simp), h.p.upd hu (by simp), h.c.upd0 hu, h.geR, h.geP, h.ne⟩
theorem CS.put {wr wr' : World} {gR gp : Nat} {sv cv cv' : Value} {l' : List (Int × Int)} (h : CS w wr gR gc gp sv cv l) (hc : CZ w wr' gc cv' l') (hu : Upd (gc :: blk cv) wr wr') : CS w wr' gR gc gp sv cv' l' :=
  ⟨h.r.upd hu (h.c.ap h.r (by decide) (by decide)), h.p.upd hu (h.c.ap h.p (by decide) (by decide)), hc, h.geR, h.geP, h.ne⟩
set_option maxRecDepth 20000 in
set_option maxHeartbeats 8000000 in
theorem rfCompile_any {gk gn kk : Nat} (hk : w.cell? ⟨gk, 0, none⟩ = some (.slice (some ⟨gn, 0, none⟩) 1 1)) (hn : N1 w gn) : Calls Tryz.prog 128 #[.slice (some ⟨gk, 0, none⟩) 1 kk] w fun e w' => (∃ a n c b m d, e = .returned (.tuple #[.agg #[.slice a n c, .slice b m d], .int .i64 0, .int .i64 0])) ∧ Upd [] w w' := by
  have HK : Hid (∀ W, Upd [] w W → W.cell? ⟨gk, 0, none⟩ = some (.slice (some ⟨gn, 0, none⟩) 1 1)) := fun W hu => hu.cell hk (by simp)
  have HN := Lib.hid hn
  have HS : Hid (CS w (((w.alloc (.cells #[.slice none 0 0, .slice none 0 0] 209)).alloc (.cells #[.slice none 0 0, .bool false] 243)).alloc (.cells #[.slice none 0 0, .slice none 0 0] 209)) w.heap.size (w.heap.size + 1) (w.heap.size + 1 + 1) (.slice none 0 0) (.slice none 0 0) []) := by
    have u1 : Upd [] w (w.alloc (.cells #[.slice none 0 0, .slice none 0 0] 209)) := (Upd.refl [] w).alloc _
    have u2 : Upd [] (w.alloc (.cells #[.slice none 0 0, .slice none 0 0] 209)) ((w.alloc (.cells #[.slice none 0 0, .slice none 0 0] 209)).alloc (.cells #[.slice none 0 0, .bool false] 243)) := (Upd.refl [] _).alloc _
    have u3 : Upd [] ((w.alloc (.cells #[.slice none 0 0, .slice none 0 0] 209)).alloc (.cells #[.slice none 0 0, .bool false] 243)) (((w.alloc (.cells #[.slice none 0 0, .slice none 0 0] 209)).alloc (.cells #[.slice none 0 0, .bool false] 243)).alloc (.cells #[.slice none 0 0, .slice none 0 0] 209)) := (Upd.refl [] _).alloc _
    have b1 : Blk (w.alloc (.cells #[.slice none 0 0, .slice none 0 0] 209)) w.heap.size 209 [.slice none 0 0, .slice none 0 0] := Blk.new w _ [.slice none 0 0, .slice none 0 0]
    have b2 : Blk ((w.alloc (.cells #[.slice none 0 0, .slice none 0 0] 209)).alloc (.cells #[.slice none 0 0, .bool false] 243)) (w.heap.size + 1) 243 [.slice none 0 0, .bool false] := by
      have := Blk.new (w.alloc (.cells #[.slice none 0 0, .slice none 0 0] 209)) 243 [.slice none 0 0, .bool false]
      simpa using this
    have b3 : Blk (((w.alloc (.cells #[.slice none 0 0, .slice none 0 0] 209)).alloc (.cells #[.slice none 0 0, .bool false] 243)).alloc (.cells #[.slice none 0 0, .slice none 0 0] 209)) (w.heap.size + 1 + 1) 209 [.slice none 0 0, .slice none 0 0] := by
      have := Blk.new ((w.alloc (.cells #[.slice none 0 0, .slice none 0 0] 209)).alloc (.cells #[.slice none 0 0, .bool false] 243)) 209 [.slice none 0 0, .slice none 0 0]
      simpa using this
    exact ⟨b1.upd (u2.seq u3) (by simp), b3, ⟨b2.upd u3 (by simp), OwnN.nil _ _ _, by omega, u1.seq (u2.seq u3)⟩, Nat.le_refl _, by omega, by omega⟩
  clear hk hn
  go_enter Tryz.func128, Tryz.ntmps128
  go_wp2_with fail
  obtain ⟨gR, hgR⟩ : ∃ g, w.heap.size = g := ⟨_, rfl⟩
  obtain ⟨gc, hgc⟩ : ∃ g, gR + 1 = g := ⟨_, rfl⟩
  obtain ⟨gp, hgp⟩ : ∃ g, gc + 1 = g := ⟨_, rfl⟩
  rw [hgR, hgc, hgp] at HS
  rw [hgR, hgc, hgp]
  clear hgR hgc hgp
  generalize ((w.alloc (.cells #[.slice none 0 0, .slice none 0 0] 209)).alloc (.cells #[.slice none 0 0, .bool false] 243)).alloc (.cells #[.slice none 0 0, .slice none 0 0] 209) = w3 at *
  go_loopw [7] (fun i wr => ∃ (k : Nat) (sa : Option Addr) (sn sk : Nat) (ca : Option Addr) (cn ck : Nat) (l : List (Int × Int)), k ≤ 1 ∧ i = .int .i64 k ∧ Hid (k = 0 → sa = none ∧ sn = 0 ∧ sk = 0 ∧ ca = none ∧ cn = 0 ∧ ck = 0 ∧ l = []) ∧ Hid (CS w wr gR gc gp (.slice sa sn sk) (.slice ca cn ck) l)) (fun i _ => 1 - (intOf i).toNat)
  case atStart => exact ⟨0, none, 0, 0, none, 0, 0, [], by omega, rfl, fun _ => ⟨rfl, rfl, rfl, rfl, rfl, rfl, rfl⟩, HS⟩
  case round =>
    clear HS
    obtain ⟨k, sa, sn, sk, ca, cn, ck, l, hk, rfl, hz, hs⟩ := hrel
    by_cases hk0 : k = 0
    · obtain ⟨rfl, rfl, rfl, rfl, rfl, rfl, rfl⟩ := hz.out hk0
      subst hk0
      have ck0 := HK.out wr hs.out.c.old
      have HN1 := Lib.hid (HN.out.upd0 hs.out.c.old)
      go_wp2_with fail
      (with_reducible refine (rfRight_any HN1.out).mono ?_)
      rintro e w4 ⟨rfl, hu4⟩
      have HS4 := Lib.hid (hs.out.upd0 hu4)
      have HN4 := Lib.hid (HN1.out.upd0 hu4)
      clear hs hu4 HN1 ck0
      have cp1 : w4.cell? ⟨gp, 1, none⟩ = some (.slice none 0 0) := HS4.out.p.cell 1
      have cc0 : w4.cell? ⟨gc, 0, none⟩ = some (.slice none 0 0) := HS4.out.c.b.cell 0
      have fp1 := HS4.out.p.frozen 1
      have hgp4 : gp < w4.heap.size := HS4.out.p.lt
      have hgc4 : gc < w4.heap.size := HS4.out.c.b.lt
      have hu5 : Upd [] w4 (w4.alloc (.cells #[.int .i64 0] 3)).drew := ((Upd.refl [] w4).alloc _).drew
      have HA := Lib.hid (app_int0 (w4.alloc (.cells #[.int .i64 0] 3)).drew w4.heap.size (((Blk.new w4 3 [.int .i64 0]).upd (Upd.refl [] _).drew (by simp)).cell 0))
      have HS5 := Lib.hid (HS4.out.upd0 hu5)
      clear hu5
      go_wp2_with fail
      go_region_law (first | ((with_reducible refine step_app_of rfl (.tmp 31) (.tmp 37) rfl (.slice none 0 0) (.slice (some ⟨w4.heap.size, 0, none⟩) 1 1) rfl rfl HA.out ?_); (rintro v6 w6 ⟨⟨a6, k6, rfl⟩, hu6⟩; have hs6 := HS5.out.upd0 hu6; have cp6 := hs6.p.cell 1; have fp6 := hs6.p.frozen 1; have HS6 := Lib.hid hs6; clear hu6 hs6; dsimp only)))
      all_goals
        have hset : Upd [gp] w6 (w6.setCell ⟨gp, 1, none⟩ (.slice a6 1 k6)) := (Upd.refl [gp] w6).setCell _ _ (.inl (by simp))
        have hs7 : CS w (w6.setCell ⟨gp, 1, none⟩ (.slice a6 1 k6)) gR gc gp (.slice a6 1 k6) (.slice none 0 0) [] :=
          ⟨HS6.out.r.upd hset (by simp; exact HS6.out.ne), HS6.out.p.set_ 1 _, HS6.out.c.upd1 HS6.out.p (by decide) (by decide) HS6.out.geP hset, HS6.out.geR, HS6.out.geP, HS6.out.ne⟩
        have HS7 := Lib.hid hs7
        have ck7 := HK.out _ hs7.c.old
        have HN7 := Lib.hid (HN.out.upd0 hs7.c.old)
        clear hset hs7 HS6 HS5 HS4 HA cp6 fp6 cp1 cc0 fp1 hgp4 hgc4 HN4
        generalize w6.setCell ⟨gp, 1, none⟩ (.slice a6 1 k6) = w7 at *
        go_wp2_with fail
        (with_reducible refine (rfRead_any HN7.out).mono ?_)
        rintro e w8 ⟨rfl, hu8⟩
        have hu9 : Upd [] w8 (w8.alloc (.cells #[.int .i64 1, .slice none 0 0, .int .i64 0, .int .i64 0, .bool false, .int .i64 0, .int .i64 0, .slice none 0 0] 236)) := (Upd.refl [] w8).alloc _
        have HT9 : Hid (Blk (w8.alloc (.cells #[.int .i64 1, .slice none 0 0, .int .i64 0, .int .i64 0, .bool false, .int .i64 0, .int .i64 0, .slice none 0 0] 236)) w8.heap.size 236 [.int .i64 1, .slice none 0 0, .int .i64 0, .int .i64 0, .bool false, .int .i64 0, .int .i64 0, .slice none 0 0]) := Blk.new w8 _ [.int .i64 1, .slice none 0 0, .int .i64 0, .int .i64 0, .bool false, .int .i64 0, .int .i64 0, .slice none 0 0]
        have HS9 := Lib.hid (HS7.out.upd0 (Upd.seq hu8 hu9))
        clear hu8 hu9 HS7 HN7 ck7
        go_wp2_with fail
        generalize w8.alloc (.cells #[.int .i64 1, .slice none 0 0, .int .i64 0, .int .i64 0, .bool false, .int .i64 0, .int .i64 0, .slice none 0 0] 236) = w9 at *
        generalize w8.heap.size = gt at *
        (with_reducible refine (rfPut_any HS9.out.c (by simp) 4 0).mono ?_)
        rintro e w10 ⟨rfl, cv10, hc10, hu10⟩
        have HS10 := Lib.hid (HS9.out.put hc10 hu10)
        have HT10 := Lib.hid (HT9.out.upd hu10 (HS9.out.c.ap HT9.out (by decide) (by decide)))
        have d0 : w10.cell? ⟨gt, 0, none⟩ = some (.int .i64 1) := HT10.out.cell 0
        have d1 : w10.cell? ⟨gt, 1, none⟩ = some (.slice none 0 0) := HT10.out.cell 1
        have d2 : w10.cell? ⟨gt, 2, none⟩ = some (.int .i64 0) := HT10.out.cell 2
        have d3 : w10.cell? ⟨gt, 3, none⟩ = some (.int .i64 0) := HT10.out.cell 3
        have d4 : w10.cell? ⟨gt, 4, none⟩ = some (.bool false) := HT10.out.cell 4
        have d5 : w10.cell? ⟨gt, 5, none⟩ = some (.int .i64 0) := HT10.out.cell 5
        have d6 : w10.cell? ⟨gt, 6, none⟩ = some (.int .i64 0) := HT10.out.cell 6
        have d7 : w10.cell? ⟨gt, 7, none⟩ = some (.slice none 0 0) := HT10.out.cell 7
        clear hc10 hu10 HS9 HT9
        go_wp2_with fail
        (with_reducible refine (rfNode_any HS10.out.c).mono ?_)
        rintro e w11 ⟨rfl, hu11⟩
        have HS11 := Lib.hid (HS10.out.upd0 hu11)
        clear hu11 HS10 HT10 d0 d1 d2 d3 d4 d5 d6 d7
        go_wp2_with fail
        (with_reducible refine (rfPut_any HS11.out.c (by simp) 4 1).mono ?_)
        rintro e w12 ⟨rfl, cv12, hc12, hu12⟩
        have HS12 := Lib.hid (HS11.out.put hc12 hu12)
        clear hc12 hu12 HS11
        go_wp2_with fail
        (with_reducible refine (rfPut_any HS12.out.c (by simp) 7 0).mono ?_)
        rintro e w13 ⟨rfl, cv13, hc13, hu13⟩
        obtain ⟨a13, k13, rfl, -⟩ := hc13.row.rd insCells_len
        have hs13 := HS12.out.put hc13 hu13
        have big : w13.cell? ⟨gc, 1, none⟩ = some (.bool false) := hs13.c.b.cell 1
        have HS13 := Lib.hid hs13
        clear hc13 hu13 HS12 hs13
        go_wp2_with fail
        go_roundw
        case rel => exact ⟨1, a6, 1, k6, _, _, _, _, by omega, by go_num, fun q => absurd q (by omega), HS13⟩
        case measure => simp [intOf]
    · obtain rfl : k = 1 := by omega
      have cc0 : wr.cell? ⟨gc, 0, none⟩ = some (.slice ca cn ck) := hs.out.c.b.cell 0
      have cp0 : wr.cell? ⟨gp, 0, none⟩ = some (.slice none 0 0) := hs.out.p.cell 0
      have fp0 := hs.out.p.frozen 0
      go_upto_region 19 with fail
      have hset : Upd [gp] wr (wr.setCell ⟨gp, 0, none⟩ (.slice ca cn ck)) := (Upd.refl [gp] wr).setCell _ _ (.inl (by simp))
      have HP8 : Hid (Blk (wr.setCell ⟨gp, 0, none⟩ (.slice ca cn ck)) gp 209 [.slice ca cn ck, .slice sa sn sk]) := hs.out.p.set_ 0 _
      have HR8 : Hid (Blk (wr.setCell ⟨gp, 0, none⟩ (.slice ca cn ck)) gR 209 [.slice none 0 0, .slice none 0 0]) := hs.out.r.upd hset (by simp; exact hs.out.ne)
      have HU8 : Hid (Upd [] w (wr.setCell ⟨gp, 0, none⟩ (.slice ca cn ck))) := hs.out.c.old.trans hset (by simp) (fun x hx => .inr (by simp at hx; subst hx; exact hs.out.geP))
      have HGR := Lib.hid hs.out.geR
      clear hset hs cc0 cp0 fp0 hz
      generalize wr.setCell ⟨gp, 0, none⟩ (.slice ca cn ck) = w18 at *
      have d0 : w18.cell? ⟨gp, 0, none⟩ = some (.slice ca cn ck) := HP8.out.cell 0
      have d1 : w18.cell? ⟨gp, 1, none⟩ = some (.slice sa sn sk) := HP8.out.cell 1
      go_wp2_with (first | ((refine wpList_store_row rfl 209 (.tmp 2) (.tmp 72) rfl gR #[.slice ca cn ck, .slice sa sn sk] rfl rfl 209 #[.slice none 0 0, .slice none 0 0] HR8.out (by show _ = some 2; exact infoProg) rfl (by simp [Value.oneCell']) ?_)) | fail)
      have hU := HU8.out.trans (T := []) (upd_row _ gR #[.slice ca cn ck, .slice sa sn sk]) (by simp) (fun y hy => .inr (by simp at hy; have := HGR.out; omega))
      have HB := Lib.hid (blk_row HR8.out [.slice ca cn ck, .slice sa sn sk])
      have e0 : (World.setRow w18 gR #[.slice ca cn ck, .slice sa sn sk]).cell? ⟨gR, 0, none⟩ = some (.slice ca cn ck) := HB.out.cell 0
      have e1 : (World.setRow w18 gR #[.slice ca cn ck, .slice sa sn sk]).cell? ⟨gR, 1, none⟩ = some (.slice sa sn sk) := HB.out.cell 1
      clear HB HR8 HU8 HP8
      generalize World.setRow _ _ _ = W2 at *
      exact bodyPost_ret (v := .tuple #[.agg #[.slice ca cn ck, .slice sa sn sk], .int .i64 0, .int .i64 0]) (by simp [results, Tryz.results128, go_sem, e0, e1]; try rfl) rfl ⟨⟨_, _, _, _, _, _, rfl⟩, hU⟩
end
end Go.Proofs.YtmhojaiajhdlcaaGreat
namespace Go.Proofs.YtmhojaiajhdlcaaGreat
open Go.RowKit
set_option linter.unusedSimpArgs false
set_option linter.unusedVariables false
set_option maxRecDepth 20000 in
set_option maxHeartbeats 2000000 in
theorem rfName_any (w : World) (s : ByteArray) :
    Calls Tryz.prog 125 #[sv s] w fun e w' => e = .returned (.bool (ruleOk s)) ∧ w = w' := by
  by_cases h1 : s.size < 1
  · have HN : Hid (ruleOk s = false) := by unfold Hid ruleOk; simp; omega
    obtain rfl : s = ⟨#[]⟩ := str_inj _ _ (by rw [strList_eq, strList_eq]; exact List.eq_nil_of_length_eq_zero (by rw [Array.length_toList]; show s.size = 0; omega))
    go_enter Tryz.func125, Tryz.ntmps125
    go_wp2_with fail
    go_ret
    exact ⟨by rw [HN.out]; rfl, rfl⟩
  · have q : (s.toList == ([] : List UInt8)) = false := by
      rw [beq_eq_false_iff_ne, strList_eq]
      intro q
      have := congrArg List.length q
      rw [Array.length_toList] at this
      have : s.size = 0 := this
      omega
    by_cases h2 : s.size ≤ 32
    · have q' : ¬ (32 : Int) < s.size := by omega
      go_enter Tryz.func125, Tryz.ntmps125
      go_wp2_with fail
      go_loopw [3] (fun i wr => ∃ k : Nat, k ≤ s.size ∧ i = .int .i64 k ∧ w = wr ∧ Hid (∀ j (h : j < s.size), j < k → ruleCh s[j] = true)) (fun i _ => s.size - (intOf i).toNat)
      case atStart => exact ⟨0, Nat.zero_le _, rfl, rfl, fun j _ h => absurd h (by omega)⟩
      case round =>
        obtain ⟨k, hk, rfl, rfl, hh⟩ := hrel
        by_cases hlt : k < s.size
        · have q0 : (0 : Int) ≤ k := by omega
          have q1 : (k : Int) < s.size := by omega
          have HT : Hid (ruleCh s[k] = true → ∀ j (h : j < s.size), j < k + 1 → ruleCh s[j] = true) := fun hb j hj hjk => by
            rcases Nat.lt_or_eq_of_le (Nat.le_of_lt_succ hjk) with h | h
            · exact hh.out j hj h
            · subst h; exact hb
          have HF : Hid (ruleCh s[k] = false → ruleOk s = false) := fun hb => by
            unfold ruleOk
            exact decide_eq_false (fun h => by have := h.2.2 k hlt; rw [hb] at this; exact absurd this (by simp))
          obtain ⟨d, hd⟩ : ∃ d : Int, ((s[k]).toNat : Int) = d := ⟨_, rfl⟩
          have HC : Hid (ruleCh s[k] = decide ((97 ≤ d ∧ d ≤ 122) ∨ (65 ≤ d ∧ d ≤ 90) ∨ (48 ≤ d ∧ d ≤ 57) ∨ d = 45 ∨ d = 95 ∨ d = 46)) := by
            unfold Hid ruleCh
            rw [← hd]
            exact decide_eq_decide.2 (by omega)
          have hd0 : 0 ≤ d := by omega
          rcases (show (97 ≤ d ∧ d ≤ 122) ∨ (122 < d) ∨ (65 ≤ d ∧ d ≤ 90) ∨ (d = 95) ∨ ((90 < d ∧ d < 97) ∧ d ≠ 95) ∨ (48 ≤ d ∧ d ≤ 57) ∨ (57 < d ∧ d < 65) ∨ (d = 45) ∨ (d = 46) ∨ (d < 48 ∧ d ≠ 45 ∧ d ≠ 46) by omega) with hc | hc | hc | hc | hc | hc | hc | hc | hc | hc
          · have f0 : ¬ d < (97 : Int) := by omega
            have f1 : ¬ d < (65 : Int) := by omega
            have f2 : ¬ d < (48 : Int) := by omega
            have f3 : ¬ (122 : Int) < d := by omega
            have f4 : (90 : Int) < d := by omega
            have f5 : (57 : Int) < d := by omega
            have f6 : (d != (45 : Int)) = true := by rw [bne_iff_ne]; omega
            have f7 : (d != (95 : Int)) = true := by rw [bne_iff_ne]; omega
            have f8 : (d != (46 : Int)) = true := by rw [bne_iff_ne]; omega
            have HO := Lib.hid (HT.out (by rw [HC.out]; exact decide_eq_true (by omega)))
            clear hc HT HF hh
            go_wp2_with fail
            go_roundw
            case rel => exact ⟨k + 1, by omega, by go_num, by first | trivial | rfl, HO⟩
            case measure => simp [intOf]; omega
          · have f0 : ¬ d < (97 : Int) := by omega
            have f1 : ¬ d < (65 : Int) := by omega
            have f2 : ¬ d < (48 : Int) := by omega
            have f3 : (122 : Int) < d := by omega
            have f4 : (90 : Int) < d := by omega
            have f5 : (57 : Int) < d := by omega
            have f6 : (d != (45 : Int)) = true := by rw [bne_iff_ne]; omega
            have f7 : (d != (95 : Int)) = true := by rw [bne_iff_ne]; omega
            have f8 : (d != (46 : Int)) = true := by rw [bne_iff_ne]; omega
            have HO := Lib.hid (HF.out (by rw [HC.out]; exact decide_eq_false (by omega)))
            clear hc HT HF hh
            go_wp2_with fail
            go_ret
            exact ⟨by rw [HO.out]; rfl, rfl⟩
          · have f0 : d < (97 : Int) := by omega
            have f1 : ¬ d < (65 : Int) := by omega
            have f2 : ¬ d < (48 : Int) := by omega
            have f3 : ¬ (122 : Int) < d := by omega
            have f4 : ¬ (90 : Int) < d := by omega
            have f5 : (57 : Int) < d := by omega
            have f6 : (d != (45 : Int)) = true := by rw [bne_iff_ne]; omega
            have f7 : (d != (95 : Int)) = true := by rw [bne_iff_ne]; omega
            have f8 : (d != (46 : Int)) = true := by rw [bne_iff_ne]; omega
            have HO := Lib.hid (HT.out (by rw [HC.out]; exact decide_eq_true (by omega)))
            clear hc HT HF hh
            go_wp2_with fail
            go_roundw
            case rel => exact ⟨k + 1, by omega, by go_num, by first | trivial | rfl, HO⟩
            case measure => simp [intOf]; omega
          · have f0 : d < (97 : Int) := by omega
            have f1 : ¬ d < (65 : Int) := by omega
            have f2 : ¬ d < (48 : Int) := by omega
            have f3 : ¬ (122 : Int) < d := by omega
            have f4 : (90 : Int) < d := by omega
            have f5 : (57 : Int) < d := by omega
            have f6 : (d != (45 : Int)) = true := by rw [bne_iff_ne]; omega
            have f7 : (d != (95 : Int)) = false := by rw [bne_eq_false_iff_eq]; omega
            have f8 : (d != (46 : Int)) = true := by rw [bne_iff_ne]; omega
            have HO := Lib.hid (HT.out (by rw [HC.out]; exact decide_eq_true (by omega)))
            clear hc HT HF hh
            go_wp2_with fail
            go_roundw
            case rel => exact ⟨k + 1, by omega, by go_num, by first | trivial | rfl, HO⟩
            case measure => simp [intOf]; omega
          · have f0 : d < (97 : Int) := by omega
            have f1 : ¬ d < (65 : Int) := by omega
            have f2 : ¬ d < (48 : Int) := by omega
            have f3 : ¬ (122 : Int) < d := by omega
            have f4 : (90 : Int) < d := by omega
            have f5 : (57 : Int) < d := by omega
            have f6 : (d != (45 : Int)) = true := by rw [bne_iff_ne]; omega
            have f7 : (d != (95 : Int)) = true := by rw [bne_iff_ne]; omega
            have f8 : (d != (46 : Int)) = true := by rw [bne_iff_ne]; omega
            have HO := Lib.hid (HF.out (by rw [HC.out]; exact decide_eq_false (by omega)))
            clear hc HT HF hh
            go_wp2_with fail
            go_ret
            exact ⟨by rw [HO.out]; rfl, rfl⟩
          · have f0 : d < (97 : Int) := by omega
            have f1 : d < (65 : Int) := by omega
            have f2 : ¬ d < (48 : Int) := by omega
            have f3 : ¬ (122 : Int) < d := by omega
            have f4 : ¬ (90 : Int) < d := by omega
            have f5 : ¬ (57 : Int) < d := by omega
            have f6 : (d != (45 : Int)) = true := by rw [bne_iff_ne]; omega
            have f7 : (d != (95 : Int)) = true := by rw [bne_iff_ne]; omega
            have f8 : (d != (46 : Int)) = true := by rw [bne_iff_ne]; omega
            have HO := Lib.hid (HT.out (by rw [HC.out]; exact decide_eq_true (by omega)))
            clear hc HT HF hh
            go_wp2_with fail
            go_roundw
            case rel => exact ⟨k + 1, by omega, by go_num, by first | trivial | rfl, HO⟩
            case measure => simp [intOf]; omega
          · have f0 : d < (97 : Int) := by omega
            have f1 : d < (65 : Int) := by omega
            have f2 : ¬ d < (48 : Int) := by omega
            have f3 : ¬ (122 : Int) < d := by omega
            have f4 : ¬ (90 : Int) < d := by omega
            have f5 : (57 : Int) < d := by omega
            have f6 : (d != (45 : Int)) = true := by rw [bne_iff_ne]; omega
            have f7 : (d != (95 : Int)) = true := by rw [bne_iff_ne]; omega
            have f8 : (d != (46 : Int)) = true := by rw [bne_iff_ne]; omega
            have HO := Lib.hid (HF.out (by rw [HC.out]; exact decide_eq_false (by omega)))
            clear hc HT HF hh
            go_wp2_with fail
            go_ret
            exact ⟨by rw [HO.out]; rfl, rfl⟩
          · have f0 : d < (97 : Int) := by omega
            have f1 : d < (65 : Int) := by omega
            have f2 : d < (48 : Int) := by omega
            have f3 : ¬ (122 : Int) < d := by omega
            have f4 : ¬ (90 : Int) < d := by omega
            have f5 : ¬ (57 : Int) < d := by omega
            have f6 : (d != (45 : Int)) = false := by rw [bne_eq_false_iff_eq]; omega
            have f7 : (d != (95 : Int)) = true := by rw [bne_iff_ne]; omega
            have f8 : (d != (46 : Int)) = true := by rw [bne_iff_ne]; omega
            have HO := Lib.hid (HT.out (by rw [HC.out]; exact decide_eq_true (by omega)))
            clear hc HT HF hh
            go_wp2_with fail
            go_roundw
            case rel => exact ⟨k + 1, by omega, by go_num, by first | trivial | rfl, HO⟩
            case measure => simp [intOf]; omega
          · have f0 : d < (97 : Int) := by omega
            have f1 : d < (65 : Int) := by omega
            have f2 : d < (48 : Int) := by omega
            have f3 : ¬ (122 : Int) < d := by omega
            have f4 : ¬ (90 : Int) < d := by omega
            have f5 : ¬ (57 : Int) < d := by omega
            have f6 : (d != (45 : Int)) = true := by rw [bne_iff_ne]; omega
            have f7 : (d != (95 : Int)) = true := by rw [bne_iff_ne]; omega
            have f8 : (d != (46 : Int)) = false := by rw [bne_eq_false_iff_eq]; omega
            have HO := Lib.hid (HT.out (by rw [HC.out]; exact decide_eq_true (by omega)))
            clear hc HT HF hh
            go_wp2_with fail
            go_roundw
            case rel => exact ⟨k + 1, by omega, by go_num, by first | trivial | rfl, HO⟩
            case measure => simp [intOf]; omega
          · have f0 : d < (97 : Int) := by omega
            have f1 : d < (65 : Int) := by omega
            have f2 : d < (48 : Int) := by omega
            have f3 : ¬ (122 : Int) < d := by omega
            have f4 : ¬ (90 : Int) < d := by omega
            have f5 : ¬ (57 : Int) < d := by omega
            have f6 : (d != (45 : Int)) = true := by rw [bne_iff_ne]; omega
            have f7 : (d != (95 : Int)) = true := by rw [bne_iff_ne]; omega
            have f8 : (d != (46 : Int)) = true := by rw [bne_iff_ne]; omega
            have HO := Lib.hid (HF.out (by rw [HC.out]; exact decide_eq_false (by omega)))
            clear hc HT HF hh
            go_wp2_with fail
            go_ret
            exact ⟨by rw [HO.out]; rfl, rfl⟩
        · obtain rfl : k = s.size := by omega
          have HN : Hid (ruleOk s = true) := by
            unfold Hid ruleOk
            exact decide_eq_true ⟨by omega, by omega, fun j hj => hh.out j hj hj⟩
          go_wp2_with fail
          go_ret
          exact ⟨by rw [HN.out]; rfl, rfl⟩
    · have HN : Hid (ruleOk s = false) := by unfold Hid ruleOk; exact decide_eq_false (fun h => h2 h.2.1)
      have q' : (32 : Int) < s.size := by omega
      go_enter Tryz.func125, Tryz.ntmps125
      go_wp2_with fail
      go_ret
      exact ⟨by rw [HN.out]; rfl, rfl⟩
end Go.Proofs.YtmhojaiajhdlcaaGreat
