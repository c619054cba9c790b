/- The walk of LineCuts. -/
import Derived.Test.YtfpibngdpooedaaLineRuns
import Derived.Test.YtfpibngdpooedaaCutLaw
import Derived.Test.YtfpibngdpooedaaStrApp
import Derived.Test.YtfpibngdpooedaaRoomed
import Derived.Test.YtfpibngdpooedaaRdN
import Derived.Deep.DeepCutAuto
namespace Go.Proofs.Ytfpibngdpooedaa
open Go.RowKit
set_option linter.unusedSimpArgs false
set_option linter.unusedVariables false
theorem textOf_list (s : ByteArray) : textOf s.data.toList = s := by cases s; simp [textOf]
theorem textOf_size (L : List UInt8) : (textOf L).size = L.length := by simp [textOf, ByteArray.size]
theorem textOf_get (L : List UInt8) (j : Nat) (h : j < (textOf L).size) (h2 : j < L.length) : (textOf L)[j]'h = L[j] := by
  show L.toArray[j] = L[j]
  simp
theorem ext_size (S : ByteArray) (n : Nat) (h : n ≤ S.size) : (S.extract 0 n).data.toList.length = n := by simp [ByteArray.size_extract]; omega
theorem textOf_data (L : List UInt8) : (textOf L).data.toList = L := rfl

set_option maxRecDepth 20000 in
set_option maxHeartbeats 4000000 in
theorem lineCuts_any (w : World) (v : Value) (l : List ByteArray) (h : Rd sv w v l) (hz : ∀ s ∈ l, s.size ≤ maxLen) (tail : ByteArray) (ht : tail.size ≤ maxLen) :
    Calls Try.prog 10 #[v, .string tail] w fun e w' => e = .returned (.bool true) ∧ Upd [] w w' := by
  have hlen : ∃ a cap, v = .slice a l.length cap := by obtain ⟨a, cap, h, _⟩ := h; exact ⟨a, cap, h⟩
  obtain ⟨a, cap, rfl⟩ := hlen
  have H := Lib.hid h
  have HZ := Lib.hid hz
  obtain ⟨T, rfl⟩ : ∃ T, tail = textOf T := ⟨_, (textOf_list _).symm⟩
  rw [textOf_size] at ht
  have ht' : T.length ≤ 9223372036854775807 := by unfold maxLen at ht; omega
  have hts := textOf_size T
  clear h hz ht
  go_enter Try.func10, Try.ntmps10
  go_wp2_with fail
  go_loopw [5, 6, 7] (fun bb ww i wr => ∃ (k : Nat) (bL : List UInt8) (wl : List ByteArray), k ≤ 30 ∧ i = .int .i64 k ∧ bL.length ≤ 401 * k ∧ wl.length ≤ k ∧ Hid (Own bv w.heap.size 5 wr bb bL) ∧ Hid (Own sv w.heap.size 9 wr ww wl) ∧ Hid (cutTo bL bL.length = ⟨wl, 0, false, bL.length⟩) ∧ Hid (Upd [] w wr)) (fun _ _ i _ => 30 - (intOf i).toNat)
  case atStart => exact ⟨0, [], [], by omega, rfl, by simp, by simp, World.ownsRow_nil _ _ _ _, World.ownsRow_nil _ _ _ _, rfl, Upd.refl _ _⟩
  case round =>
    obtain ⟨k, bL, wl, hk, rfl, hb1, hw1, hob, how, hct, hu⟩ := hrel
    by_cases hlt : k < l.length ∧ k < 30
    · obtain ⟨hlt, hk30⟩ := hlt
      obtain ⟨b, off, rfl, hcell⟩ := (H.out.upd0 hu.out).at_ k hlt
      have q1 : (k : Int) < l.length := by omega
      have q2 : (k : Int) < 30 := by omega
      have hsz : (nth l k).size ≤ 9223372036854775807 := by
        have := HZ.out (nth l k) (by rw [nth_get l k hlt]; exact List.getElem_mem _)
        unfold maxLen at this; omega
      generalize nth l k = S at hcell hsz
      go_upto_if 29 with fail
      go_cut [8] (fun s8 wx => ∃ L, s8 = .string (textOf L) ∧ L.length ≤ 400 ∧ wx = wr)
      case first =>
        by_cases h4 : 400 < S.size
        · have q3 : (400 : Int) < S.size := by omega
          clear h4
          go_wp2_with fail
          go_meet
          exact ⟨(S.extract 0 400).data.toList, by rw [textOf_list], Nat.le_of_eq (ext_size S 400 (by omega)), rfl⟩
        · have q3 : (S.size : Int) ≤ 400 := by omega
          go_wp2_with fail
          go_meet
          exact ⟨S.data.toList, by rw [textOf_list], by simp; exact Nat.le_of_not_lt h4, rfl⟩
      case rest =>
        obtain ⟨L, rfl, hL, rfl⟩ := hcut
        have hls := textOf_size L
        clear hcell hsz
        go_wp2_with fail
        go_loopw [9, 10] (fun cl i wx => ∃ (j : Nat) (cb : Bool), j ≤ L.length ∧ i = .int .i64 j ∧ cl = .bool cb ∧ Hid (cb = true ↔ ∀ x ∈ L.take j, x ≠ 10) ∧ wx = wc) (fun _ i _ => L.length - (intOf i).toNat)
        case atStart => exact ⟨0, true, by omega, rfl, rfl, by unfold Hid; simp, rfl⟩
        case round =>
          obtain ⟨j, cb, hj, rfl, rfl, hcb, rfl⟩ := hrel
          by_cases hlj : j < L.length
          · have q3 : (j : Int) < L.length := by omega
            have hix : ∀ u, (Instr.index 9 (.string (textOf L)) (.int .i64 (j : Int))).run Try.prog u = .ok (bv (nth L j)) u := by
              intro u
              rw [run_index_string u 9 (textOf L) .i64 (j : Int) Try.underlying9, dif_pos ⟨by omega, by rw [hls]; omega⟩, nth_get L j hlj]
              have hg := textOf_get L j (by rw [hls]; exact hlj) hlj
              simp only [Int.toNat_natCast, hg]
            have HTK : Hid (L.take (j + 1) = L.take j ++ [nth L j]) := by
              unfold Hid; rw [nth_get L j hlj]; simp
            generalize nth L j = ch at hix HTK
            cases cb
            · go_wp2_with fail
              go_roundw
              case rel => exact ⟨j + 1, _, by omega, by go_num, rfl, by
                unfold Hid; rw [HTK.out]
                constructor
                · intro h; cases h
                · intro h; exact hcb.out.2 (fun x hx => h x (by simp [hx])), trivial⟩
              case measure => simp [intOf]; omega
            · by_cases h10 : ch = 10
              · have t1 : ((ch.toNat : Int) != 10) = false := by rw [h10]; decide
                go_wp2_with fail
                go_roundw
                case rel => exact ⟨j + 1, false, by omega, by go_num, rfl, by
                  unfold Hid; rw [HTK.out]
                  constructor
                  · intro h; cases h
                  · intro h; exact absurd h10 (h ch (by simp)), trivial⟩
                case measure => simp [intOf]; omega
              · have t1 : ((ch.toNat : Int) != 10) = true := by
                  rw [bne_iff_ne]; intro e; exact h10 (UInt8.toNat_inj.1 (by show ch.toNat = 10; omega))
                go_wp2_with fail
                go_roundw
                case rel => exact ⟨j + 1, true, by omega, by go_num, rfl, by
                  unfold Hid; rw [HTK.out]
                  constructor
                  · intro _ x hx
                    rw [List.mem_append] at hx
                    rcases hx with hx | hx
                    · exact hcb.out.1 rfl x hx
                    · simp at hx; rw [hx]; exact h10
                  · intro _; rfl, trivial⟩
                case measure => simp [intOf]; omega
          · obtain rfl : j = L.length := by omega
            rw [List.take_length] at hcb
            cases cb
            · go_wp2_with fail
              go_roundw
              case rel => exact ⟨k + 1, bL, wl, by omega, by go_num, by omega, by omega, hob, how, hct, hu⟩
              case measure => simp [intOf]; omega
            · have hgood := Lib.hid (hcb.out.1 rfl)
              have HCT := Lib.hid (cutTo_line bL L hgood.out wl hct.out)
              clear hcb hlj hj
              have hbk : bL.length ≤ 11629 := by omega
              have hwb := hu.out.size
              have HLS := Lib.hid hls
              have q6 : (L.length : Int) < ((textOf L).size : Int) ↔ False := by rw [hls]; simp
              clear hls
              by_cases h200 : L.length ≤ 200
              · have q5 : ((textOf L).size : Int) ≤ 200 := by rw [HLS.out]; omega
                go_wp2_with (first
                  | (at_builtin; refine wpList_app_str rfl _ _ rfl Try.underlying52 Try.underlying9 infoByte _ (textOf L) bL rfl rfl hob.out (by rw [HLS.out]; omega) (by rw [HLS.out]; unfold maxLen; omega) hwb ?_; intro v1 w1 ho1 hu1; have HO1 := Lib.hid (show Own bv w.heap.size 5 w1 v1 (bL ++ L) from ho1); have HW1 := Lib.hid (how.out.upd hu1 (fun x hx hy => Own.ne hob.out how.out (by decide) x hy hx)); have HU1 := Lib.hid (show Upd [] w w1 from hu.out.trans hu1 (by simp) (fun x hx => .inr (hob.out.ge x hx).1)); have hw1b := hu1.size; have hm1 : (bL ++ L).length ≤ 12029 := (by rw [List.length_append]; omega); have HM1 : Hid (bL ++ L ++ [10] = bL ++ L ++ [10]) := rfl; generalize hg1 : bL ++ L = m1 at ho1 HO1 hm1; have HG1 := Lib.hid hg1; clear ho1 hu1 hg1 HM1)
                  | (at_builtin; refine wpList_app bv_one rfl _ _ rfl Try.underlying52 infoByte rfl _ (.slice (some ⟨w1.heap.size, 0, none⟩) 1 1) m1 [10] rfl rfl (HO1.out.upd ((Upd.refl [] _).alloc _) (by simp)) (Rd.lit [10] rfl rfl rfl (by decide) (by decide)) (by simp <;> omega) (by unfold maxLen; simp <;> omega) (by simp <;> omega) ?_; intro v2 w2 ho2 hu2 hbk2; have hw2b := hu2.size; have HU2 := Lib.hid (show Upd [] w w2 from (HU1.out.alloc _).trans hu2 (by simp) (fun x hx => .inr (HO1.out.ge x hx).1)); have HW2 := Lib.hid ((HW1.out.upd ((Upd.refl [] _).alloc _) (by simp)).upd hu2 (fun x hx hy => Own.ne HO1.out HW1.out (by decide) x hy hx)); have HO2 := Lib.hid ho2; clear ho2 hu2 hbk2)
                  | (at_builtin; refine wpList_app sv_one rfl _ _ rfl Try.underlying60 infoStr rfl _ (.slice (some ⟨w2.heap.size, 0, none⟩) 1 1) wl [textOf L] rfl rfl (HW2.out.upd ((Upd.refl [] _).alloc _) (by simp)) (Rd.lit [textOf L] rfl rfl rfl (by decide) (by decide)) (by simp <;> omega) (by unfold maxLen; simp <;> omega) (by simp at hw2b ⊢ <;> omega) ?_; intro v3 w3 ho3 hu3 hbk3; have HU3 := Lib.hid (show Upd [] w w3 from (HU2.out.alloc _).trans hu3 (by simp) (fun x hx => .inr (HW2.out.ge x hx).1)); have HB3 := Lib.hid ((HO2.out.upd ((Upd.refl [] _).alloc _) (by simp)).upd hu3 (fun x hx hy => Own.ne HO2.out HW2.out (by decide) x hx hy)); have HW3 := Lib.hid ho3; clear ho3 hu3 hbk3))
                go_roundw
                case rel => exact ⟨k + 1, m1 ++ [10], wl ++ [textOf L], by omega, by go_num, by rw [List.length_append, ← HG1.out, List.length_append]; simp; omega, by simp; omega, HB3, HW3, by rw [← HG1.out]; unfold Hid; rw [HCT.out, if_pos h200], HU3⟩
                case measure => simp [intOf]; omega
              · have q5 : (200 : Int) < (textOf L).size := by rw [HLS.out]; omega
                go_wp2_with (first
                  | (at_builtin; refine wpList_app_str rfl _ _ rfl Try.underlying52 Try.underlying9 infoByte _ (textOf L) bL rfl rfl hob.out (by rw [HLS.out]; omega) (by rw [HLS.out]; unfold maxLen; omega) hwb ?_; intro v1 w1 ho1 hu1; have HO1 := Lib.hid (show Own bv w.heap.size 5 w1 v1 (bL ++ L) from ho1); have HW1 := Lib.hid (how.out.upd hu1 (fun x hx hy => Own.ne hob.out how.out (by decide) x hy hx)); have HU1 := Lib.hid (show Upd [] w w1 from hu.out.trans hu1 (by simp) (fun x hx => .inr (hob.out.ge x hx).1)); have hw1b := hu1.size; have hm1 : (bL ++ L).length ≤ 12029 := (by rw [List.length_append]; omega); have HM1 : Hid (bL ++ L ++ [10] = bL ++ L ++ [10]) := rfl; generalize hg1 : bL ++ L = m1 at ho1 HO1 hm1; have HG1 := Lib.hid hg1; clear ho1 hu1 hg1 HM1)
                  | (at_builtin; refine wpList_app bv_one rfl _ _ rfl Try.underlying52 infoByte rfl _ (.slice (some ⟨w1.heap.size, 0, none⟩) 1 1) m1 [10] rfl rfl (HO1.out.upd ((Upd.refl [] _).alloc _) (by simp)) (Rd.lit [10] rfl rfl rfl (by decide) (by decide)) (by simp <;> omega) (by unfold maxLen; simp <;> omega) (by simp <;> omega) ?_; intro v2 w2 ho2 hu2 hbk2; have hw2b := hu2.size; have HU2 := Lib.hid (show Upd [] w w2 from (HU1.out.alloc _).trans hu2 (by simp) (fun x hx => .inr (HO1.out.ge x hx).1)); have HW2 := Lib.hid ((HW1.out.upd ((Upd.refl [] _).alloc _) (by simp)).upd hu2 (fun x hx hy => Own.ne HO1.out HW1.out (by decide) x hy hx)); have HO2 := Lib.hid ho2; clear ho2 hu2 hbk2))
                go_roundw
                case rel => exact ⟨k + 1, m1 ++ [10], wl, by omega, by go_num, by rw [List.length_append, ← HG1.out, List.length_append]; simp; omega, by omega, HO2, HW2, by rw [← HG1.out]; unfold Hid; rw [HCT.out, if_neg h200], HU2⟩
                case measure => simp [intOf]; omega
    · have HC := Lib.hid (cutLines_of hct.out)
      have hb12 : bL.length ≤ 12030 := by omega
      have hwl : wl.length ≤ 30 := by omega
      clear hct hb1
      by_cases hkl : k < l.length
      · have q1 : (k : Int) < l.length := by omega
        have q2 : (30 : Int) ≤ k := by omega
        clear hlt
        go_wp2_with fail
        go_loopw [5, 11] (fun bb i wx => ∃ (j : Nat) (b2 : List UInt8), j ≤ T.length ∧ j ≤ 300 ∧ i = .int .i64 j ∧ b2.length ≤ 12030 + j ∧ Hid (Own bv w.heap.size 5 wx bb b2) ∧ Hid (Own sv w.heap.size 9 wx u6 wl) ∧ Hid (cutLines b2 = wl) ∧ Hid (Upd [] w wx)) (fun _ i _ => T.length - (intOf i).toNat)
        case atStart => exact ⟨0, bL, by omega, by omega, rfl, by omega, hob, how, HC, hu⟩
        case round =>
          obtain ⟨j, b2, hj, hj3, rfl, hb2, hob, how, hct, hu⟩ := hrel
          by_cases hlt : j < T.length ∧ j < 300
          · obtain ⟨hlt, hj4⟩ := hlt
            have z1 : (j : Int) < (T.length : Int) := by omega
            have z2 : (j : Int) < 300 := by omega
            have hix : ∀ u, (Instr.index 9 (.string (textOf T)) (.int .i64 (j : Int))).run Try.prog u = .ok (bv (nth T j)) u := by
              intro u
              rw [run_index_string u 9 (textOf T) .i64 (j : Int) Try.underlying9, dif_pos ⟨by omega, by rw [hts]; omega⟩, nth_get T j hlt]
              have hg := textOf_get T j (by rw [hts]; exact hlt) hlt
              simp only [Int.toNat_natCast, hg]
            generalize nth T j = ch at hix
            by_cases h10 : ch = 10
            · have t1 : ((ch.toNat : Int) != 10) = false := by rw [h10]; decide
              go_wp2_with fail
              go_roundw
              case rel => exact ⟨j + 1, b2, by omega, by omega, by go_num, by omega, hob, how, hct, hu⟩
              case measure => simp [intOf]; omega
            · have t1 : ((ch.toNat : Int) != 10) = true := by
                rw [bne_iff_ne]; intro e; exact h10 (UInt8.toNat_inj.1 (by show ch.toNat = 10; omega))
              have hwb := hu.out.size
              go_wp2_with (at_builtin; refine wpList_app bv_one rfl _ _ rfl Try.underlying52 infoByte rfl _ (.slice (some ⟨_, 0, none⟩) 1 1) b2 [ch] rfl rfl (hob.out.upd ((Upd.refl [] _).alloc _) (by simp)) (Rd.lit [ch] rfl rfl rfl (by decide) (by decide)) (by simp <;> omega) (by unfold maxLen; simp <;> omega) (by simp <;> omega) ?_; intro v2 w2 ho2 hu2 hbk2; have HU2 := Lib.hid (show Upd [] w w2 from (hu.out.alloc _).trans hu2 (by simp) (fun x hx => .inr (hob.out.ge x hx).1)); have HW2 := Lib.hid ((how.out.upd ((Upd.refl [] _).alloc _) (by simp)).upd hu2 (fun x hx hy => Own.ne hob.out how.out (by decide) x hy hx)); have HO2 := Lib.hid ho2; clear ho2 hu2 hbk2)
              go_roundw
              case rel => exact ⟨j + 1, b2 ++ [ch], by omega, by omega, by go_num, by simp; omega, HO2, HW2, by unfold Hid; rw [cutLines_snoc b2 ch h10, hct.out], HU2⟩
              case measure => simp [intOf]; omega
          · have HT := Lib.hid hlt
            clear HC hlt
            by_cases hjt : j < T.length
            · have z1 : (j : Int) < (T.length : Int) := by omega
              have z2 : (300 : Int) ≤ j := by have := HT.out; omega
              go_wp2_with fail
              refine (roomyByte_any _ b2 10 _ hob.out.rd (by omega)).mono ?_
              rintro e w2 ⟨u, rfl, hR⟩
              have hRd := Lib.hid (hR.rd (by unfold maxLen; omega))
              have hPre := Lib.hid (hR.pre (by unfold maxLen; omega))
              have hRu := Lib.hid hR.2.2
              have hBr := Lib.hid (hob.out.rd.upd0 hR.2.2)
              have hWr := Lib.hid (how.out.rd.upd0 hR.2.2)
              obtain ⟨rfl, _, _⟩ := hR
              have HU2 := Lib.hid (hu.out.seq hRu.out)
              obtain ⟨ao, co, rfl, hco, hcm, hbc⟩ := hBr.out
              clear hob how hu hRu hbc
              have z3 : (b2.length : Int) ≤ (b2.length : Int) + 80 := by omega
              go_wp2_with fail
              refine (cut_any _ _ b2 hPre.out (by omega)).mono ?_
              rintro e w3 ⟨u, rfl, ho, hu3⟩
              rw [hct.out] at ho
              have hB3 := Lib.hid (hBr.out.upd0 hu3)
              have hW3 := Lib.hid (hWr.out.upd0 hu3)
              have hF3 := Lib.hid (hRd.out.upd0 hu3)
              have HU3 := Lib.hid (HU2.out.seq hu3)
              have HO3 := Lib.hid ho.rd
              clear ho hu3 hPre hRd hBr hWr HU2
              go_wp2_with fail
              refine (sameStr_ok _ _ wl _ HO3.out hW3.out).mono ?_
              rintro e w' ⟨rfl, n3, rfl⟩
              go_wp2_with fail
              refine (intactByte_ok _ _ b2 10 _ (hF3.out.drewN _) (hB3.out.drewN _) (by omega)).mono ?_
              rintro e w' ⟨rfl, n4, rfl⟩
              go_wp2_with fail
              refine (lineRuns_any _).mono ?_
              rintro e w9 ⟨rfl, hu9⟩
              have HU9 := Lib.hid ((HU3.out.drewN (n3 + n4)).seq hu9)
              clear hu9
              go_wp2_with fail
              go_ret
              exact ⟨rfl, HU9.out⟩
            · have z1 : (T.length : Int) ≤ (j : Int) := by omega
              go_wp2_with fail
              refine (roomyByte_any _ b2 10 _ hob.out.rd (by omega)).mono ?_
              rintro e w2 ⟨u, rfl, hR⟩
              have hRd := Lib.hid (hR.rd (by unfold maxLen; omega))
              have hPre := Lib.hid (hR.pre (by unfold maxLen; omega))
              have hRu := Lib.hid hR.2.2
              have hBr := Lib.hid (hob.out.rd.upd0 hR.2.2)
              have hWr := Lib.hid (how.out.rd.upd0 hR.2.2)
              obtain ⟨rfl, _, _⟩ := hR
              have HU2 := Lib.hid (hu.out.seq hRu.out)
              obtain ⟨ao, co, rfl, hco, hcm, hbc⟩ := hBr.out
              clear hob how hu hRu hbc
              have z3 : (b2.length : Int) ≤ (b2.length : Int) + 80 := by omega
              go_wp2_with fail
              refine (cut_any _ _ b2 hPre.out (by omega)).mono ?_
              rintro e w3 ⟨u, rfl, ho, hu3⟩
              rw [hct.out] at ho
              have hB3 := Lib.hid (hBr.out.upd0 hu3)
              have hW3 := Lib.hid (hWr.out.upd0 hu3)
              have hF3 := Lib.hid (hRd.out.upd0 hu3)
              have HU3 := Lib.hid (HU2.out.seq hu3)
              have HO3 := Lib.hid ho.rd
              clear ho hu3 hPre hRd hBr hWr HU2
              go_wp2_with fail
              refine (sameStr_ok _ _ wl _ HO3.out hW3.out).mono ?_
              rintro e w' ⟨rfl, n3, rfl⟩
              go_wp2_with fail
              refine (intactByte_ok _ _ b2 10 _ (hF3.out.drewN _) (hB3.out.drewN _) (by omega)).mono ?_
              rintro e w' ⟨rfl, n4, rfl⟩
              go_wp2_with fail
              refine (lineRuns_any _).mono ?_
              rintro e w9 ⟨rfl, hu9⟩
              have HU9 := Lib.hid ((HU3.out.drewN (n3 + n4)).seq hu9)
              clear hu9
              go_wp2_with fail
              go_ret
              exact ⟨rfl, HU9.out⟩
      · have q1 : (l.length : Int) ≤ k := by omega
        clear hlt
        go_wp2_with fail
        go_loopw [5, 11] (fun bb i wx => ∃ (j : Nat) (b2 : List UInt8), j ≤ T.length ∧ j ≤ 300 ∧ i = .int .i64 j ∧ b2.length ≤ 12030 + j ∧ Hid (Own bv w.heap.size 5 wx bb b2) ∧ Hid (Own sv w.heap.size 9 wx u6 wl) ∧ Hid (cutLines b2 = wl) ∧ Hid (Upd [] w wx)) (fun _ i _ => T.length - (intOf i).toNat)
        case atStart => exact ⟨0, bL, by omega, by omega, rfl, by omega, hob, how, HC, hu⟩
        case round =>
          obtain ⟨j, b2, hj, hj3, rfl, hb2, hob, how, hct, hu⟩ := hrel
          by_cases hlt : j < T.length ∧ j < 300
          · obtain ⟨hlt, hj4⟩ := hlt
            have z1 : (j : Int) < (T.length : Int) := by omega
            have z2 : (j : Int) < 300 := by omega
            have hix : ∀ u, (Instr.index 9 (.string (textOf T)) (.int .i64 (j : Int))).run Try.prog u = .ok (bv (nth T j)) u := by
              intro u
              rw [run_index_string u 9 (textOf T) .i64 (j : Int) Try.underlying9, dif_pos ⟨by omega, by rw [hts]; omega⟩, nth_get T j hlt]
              have hg := textOf_get T j (by rw [hts]; exact hlt) hlt
              simp only [Int.toNat_natCast, hg]
            generalize nth T j = ch at hix
            by_cases h10 : ch = 10
            · have t1 : ((ch.toNat : Int) != 10) = false := by rw [h10]; decide
              go_wp2_with fail
              go_roundw
              case rel => exact ⟨j + 1, b2, by omega, by omega, by go_num, by omega, hob, how, hct, hu⟩
              case measure => simp [intOf]; omega
            · have t1 : ((ch.toNat : Int) != 10) = true := by
                rw [bne_iff_ne]; intro e; exact h10 (UInt8.toNat_inj.1 (by show ch.toNat = 10; omega))
              have hwb := hu.out.size
              go_wp2_with (at_builtin; refine wpList_app bv_one rfl _ _ rfl Try.underlying52 infoByte rfl _ (.slice (some ⟨_, 0, none⟩) 1 1) b2 [ch] rfl rfl (hob.out.upd ((Upd.refl [] _).alloc _) (by simp)) (Rd.lit [ch] rfl rfl rfl (by decide) (by decide)) (by simp <;> omega) (by unfold maxLen; simp <;> omega) (by simp <;> omega) ?_; intro v2 w2 ho2 hu2 hbk2; have HU2 := Lib.hid (show Upd [] w w2 from (hu.out.alloc _).trans hu2 (by simp) (fun x hx => .inr (hob.out.ge x hx).1)); have HW2 := Lib.hid ((how.out.upd ((Upd.refl [] _).alloc _) (by simp)).upd hu2 (fun x hx hy => Own.ne hob.out how.out (by decide) x hy hx)); have HO2 := Lib.hid ho2; clear ho2 hu2 hbk2)
              go_roundw
              case rel => exact ⟨j + 1, b2 ++ [ch], by omega, by omega, by go_num, by simp; omega, HO2, HW2, by unfold Hid; rw [cutLines_snoc b2 ch h10, hct.out], HU2⟩
              case measure => simp [intOf]; omega
          · have HT := Lib.hid hlt
            clear HC hlt
            by_cases hjt : j < T.length
            · have z1 : (j : Int) < (T.length : Int) := by omega
              have z2 : (300 : Int) ≤ j := by have := HT.out; omega
              go_wp2_with fail
              refine (roomyByte_any _ b2 10 _ hob.out.rd (by omega)).mono ?_
              rintro e w2 ⟨u, rfl, hR⟩
              have hRd := Lib.hid (hR.rd (by unfold maxLen; omega))
              have hPre := Lib.hid (hR.pre (by unfold maxLen; omega))
              have hRu := Lib.hid hR.2.2
              have hBr := Lib.hid (hob.out.rd.upd0 hR.2.2)
              have hWr := Lib.hid (how.out.rd.upd0 hR.2.2)
              obtain ⟨rfl, _, _⟩ := hR
              have HU2 := Lib.hid (hu.out.seq hRu.out)
              obtain ⟨ao, co, rfl, hco, hcm, hbc⟩ := hBr.out
              clear hob how hu hRu hbc
              have z3 : (b2.length : Int) ≤ (b2.length : Int) + 80 := by omega
              go_wp2_with fail
              refine (cut_any _ _ b2 hPre.out (by omega)).mono ?_
              rintro e w3 ⟨u, rfl, ho, hu3⟩
              rw [hct.out] at ho
              have hB3 := Lib.hid (hBr.out.upd0 hu3)
              have hW3 := Lib.hid (hWr.out.upd0 hu3)
              have hF3 := Lib.hid (hRd.out.upd0 hu3)
              have HU3 := Lib.hid (HU2.out.seq hu3)
              have HO3 := Lib.hid ho.rd
              clear ho hu3 hPre hRd hBr hWr HU2
              go_wp2_with fail
              refine (sameStr_ok _ _ wl _ HO3.out hW3.out).mono ?_
              rintro e w' ⟨rfl, n3, rfl⟩
              go_wp2_with fail
              refine (intactByte_ok _ _ b2 10 _ (hF3.out.drewN _) (hB3.out.drewN _) (by omega)).mono ?_
              rintro e w' ⟨rfl, n4, rfl⟩
              go_wp2_with fail
              refine (lineRuns_any _).mono ?_
              rintro e w9 ⟨rfl, hu9⟩
              have HU9 := Lib.hid ((HU3.out.drewN (n3 + n4)).seq hu9)
              clear hu9
              go_wp2_with fail
              go_ret
              exact ⟨rfl, HU9.out⟩
            · have z1 : (T.length : Int) ≤ (j : Int) := by omega
              go_wp2_with fail
              refine (roomyByte_any _ b2 10 _ hob.out.rd (by omega)).mono ?_
              rintro e w2 ⟨u, rfl, hR⟩
              have hRd := Lib.hid (hR.rd (by unfold maxLen; omega))
              have hPre := Lib.hid (hR.pre (by unfold maxLen; omega))
              have hRu := Lib.hid hR.2.2
              have hBr := Lib.hid (hob.out.rd.upd0 hR.2.2)
              have hWr := Lib.hid (how.out.rd.upd0 hR.2.2)
              obtain ⟨rfl, _, _⟩ := hR
              have HU2 := Lib.hid (hu.out.seq hRu.out)
              obtain ⟨ao, co, rfl, hco, hcm, hbc⟩ := hBr.out
              clear hob how hu hRu hbc
              have z3 : (b2.length : Int) ≤ (b2.length : Int) + 80 := by omega
              go_wp2_with fail
              refine (cut_any _ _ b2 hPre.out (by omega)).mono ?_
              rintro e w3 ⟨u, rfl, ho, hu3⟩
              rw [hct.out] at ho
              have hB3 := Lib.hid (hBr.out.upd0 hu3)
              have hW3 := Lib.hid (hWr.out.upd0 hu3)
              have hF3 := Lib.hid (hRd.out.upd0 hu3)
              have HU3 := Lib.hid (HU2.out.seq hu3)
              have HO3 := Lib.hid ho.rd
              clear ho hu3 hPre hRd hBr hWr HU2
              go_wp2_with fail
              refine (sameStr_ok _ _ wl _ HO3.out hW3.out).mono ?_
              rintro e w' ⟨rfl, n3, rfl⟩
              go_wp2_with fail
              refine (intactByte_ok _ _ b2 10 _ (hF3.out.drewN _) (hB3.out.drewN _) (by omega)).mono ?_
              rintro e w' ⟨rfl, n4, rfl⟩
              go_wp2_with fail
              refine (lineRuns_any _).mono ?_
              rintro e w9 ⟨rfl, hu9⟩
              have HU9 := Lib.hid ((HU3.out.drewN (n3 + n4)).seq hu9)
              clear hu9
              go_wp2_with fail
              go_ret
              exact ⟨rfl, HU9.out⟩
end Go.Proofs.Ytfpibngdpooedaa
