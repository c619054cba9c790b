/- Chapter 21: New and Create. -/
import Derived.Test.YtmhdhnipljonlaaYardStep
namespace Go.Proofs.Ytmhdhnipljonlaa
open Go.RowKit
set_option linter.unusedSimpArgs false
set_option linter.unusedVariables false
theorem yNew_any (w0 w : World) (hu : Upd [] w0 w) :
    Calls Try.prog 14 #[] w fun e w' => ∃ gy, e = .returned (.pointer (some ⟨gy, 0, none⟩)) ∧ (∃ G, YD w0 w' gy G [] [] ∧ (∀ x ∈ G, w.heap.size ≤ x)) ∧ Upd [] w w' := by
  have HU := Lib.hid hu
  go_enter Try.func14, Try.ntmps14
  go_wp2_with fail
  (with_reducible refine (txIF_New w0 _ HU.out).mono ?_)
  rintro e w1 ⟨gf, F, rfl, hf, hu1, hF⟩
  have HF := Lib.hid hf
  have HFR := Lib.hid hF
  have HUa := Lib.hid hu1
  have HU1 := Lib.hid (HU.out.seq hu1)
  clear hf hu1 hF
  go_wp2_with fail
  (with_reducible refine (txIJ_New w0 _ HU1.out).mono ?_)
  rintro e w2 ⟨gt, T, rfl, ht, hu2, hT⟩
  have HT := Lib.hid ht
  have HTR := Lib.hid hT
  have HUb := Lib.hid (HUa.out.seq hu2)
  have HF2 := Lib.hid (HF.out.upd0 hu2)
  have hsz := (HU1.out.seq hu2).size
  clear ht hu2 hT
  go_wp2_with fail
  go_ret
  have hua := (Upd.refl [] w2).alloc (.cells #[.pointer (some ⟨gf, 0, none⟩), .pointer (some ⟨gt, 0, none⟩)] 95)
  refine ⟨_, rfl, ⟨_, ⟨gf, gt, F, T, [], ⟨Blk.new w2 _ [_, _], hsz, HF2.out.upd0 hua, HT.out.upd0 hua, by simp, by simp⟩, rfl, by simp, by simp, rfl⟩, fun x hx => ?_⟩, HUb.out.seq hua⟩
  have h1 := HUa.out.size
  have h2 := HUb.out.size
  rcases (foot_mem _ _ _ _ _).1 hx with rfl | hx | hx | ⟨c, hc, hx⟩
  · exact h2
  · exact HFR.out x hx
  · have := HTR.out x hx; omega
  · simp at hc
section
variable {w0 w : World} {gy : Nat} {G : List Nat} {fl : FL} {tk : List (Int × Int)}
/-- What a call on a yard does: it answers c, and the files are fl'. -/
def YDoes (w0 w : World) (gy : Nat) (G : List Nat) (tk : List (Int × Int)) (r : Int × FL) (e : Ending) (w' : World) : Prop := e = .returned (.int .i64 r.1) ∧ YOut w0 w gy G r.2 tk w'
set_option maxRecDepth 20000 in
set_option maxHeartbeats 1000000 in
theorem yCreate_any (s : ByteArray) (h : YD w0 w gy G fl tk) :
    Calls Try.prog 15 #[.pointer (some ⟨gy, 0, none⟩), sv s] w (YDoes w0 w gy G tk (yCreate fl s)) := by
  obtain ⟨gf, gt, F, T, cs, hc, rfl, hlen, hin, rfl⟩ := h.ex
  have HC := Lib.hid hc
  have hlen1 : cs.length ≤ 1000 := by omega
  have HIN := Lib.hid hin
  have HLC : Hid (((rowsOf cs).length : Int) = (cs.length : Int)) := by unfold Hid; rw [rows_len]
  have HD := Lib.hid h
  clear hc h hin
  cases hn : nameOk s with
  | false =>
    have HY : Hid (yCreate (filesOf cs) s = (14, filesOf cs)) := by unfold Hid yCreate; rw [hn]; rfl
    have HN := Lib.hid (named_any w s)
    rw [hn] at HN
    go_enter Try.func15, Try.ntmps15
    go_wp2_with fail
    (with_reducible refine HN.out.mono ?_)
    rintro e w' ⟨rfl, rfl⟩
    go_wp2_with fail
    go_ret
    exact ⟨by rw [HY.out]; rfl, by rw [HY.out]; exact HD.out.out0 (Upd.refl _ _)⟩
  | true =>
    have HN := Lib.hid (named_any w s)
    rw [hn] at HN
    cases hh : hasN (filesOf cs) s with
    | true =>
      have HY : Hid (yCreate (filesOf cs) s = (8, filesOf cs)) := by unfold Hid yCreate; rw [hn, hh]; rfl
      have HF := Lib.hid (yFind_yes s _ HC.out hlen1 hh rfl)
      unfold hasN at hh
      have hlt := of_decide_eq_true hh
      rw [files_len] at hlt
      have hpos := (HIN.out _ (by have := nth_mem (l := cs) _ hlt; exact this)).1
      generalize (nth cs (findN (filesOf cs) s)).2.1 = v at *
      generalize (nth cs (findN (filesOf cs) s)).1 = x at *
      have hpos' : (0 : Int) < x := by omega
      obtain ⟨nm, sl⟩ := v
      clear hh hlt hn
      go_enter Try.func15, Try.ntmps15
      go_wp2_with fail
      (with_reducible refine HN.out.mono ?_)
      rintro e w' ⟨rfl, rfl⟩
      go_wp2_with fail
      (with_reducible refine HF.out.mono ?_)
      rintro e w1 ⟨rfl, hu1⟩
      have HU1 := Lib.hid hu1
      clear hu1
      go_wp2_with fail
      go_ret
      exact ⟨by rw [HY.out]; rfl, by rw [HY.out]; exact HD.out.out0 (HU1.out.alloc _)⟩
    | false =>
      have HF := Lib.hid (yFind_no s HC.out hlen1 hh)
      by_cases hfull : 12 ≤ cs.length
      · have HY : Hid (yCreate (filesOf cs) s = (9, filesOf cs)) := by unfold Hid yCreate; rw [hn, hh, files_len]; simp [hfull]
        have q : (12 : Int) ≤ cs.length := by omega
        clear hh hn
        go_enter Try.func15, Try.ntmps15
        go_wp2_with fail
        (with_reducible refine HN.out.mono ?_)
        rintro e w' ⟨rfl, rfl⟩
        go_wp2_with fail
        (with_reducible refine HF.out.mono ?_)
        rintro e w1 ⟨rfl, hu1⟩
        have HU1 := Lib.hid (hu1.alloc (.cells #[.string ⟨#[]⟩, .slice none 0 0] 91))
        have y0 := (HC.out.upd0 HU1.out).p0
        clear hu1
        go_wp2_with fail
        (with_reducible refine (txIF_Len _ ((HC.out.upd0 HU1.out).files) HLC.out).mono ?_)
        rintro e w' ⟨rfl, rfl⟩
        go_wp2_with fail
        go_ret
        exact ⟨by rw [HY.out]; rfl, by rw [HY.out]; exact HD.out.out0 HU1.out⟩
      · have q : ¬ (12 : Int) ≤ cs.length := by omega
        have HY : Hid (yCreate (filesOf cs) s = (0, tSet ltY (filesOf cs) (freeIno (filesOf cs)) (s, []))) := by unfold Hid yCreate; rw [hn, hh, files_len]; simp [hfull]
        clear hh hn
        go_enter Try.func15, Try.ntmps15
        go_wp2_with fail
        (with_reducible refine HN.out.mono ?_)
        rintro e w' ⟨rfl, rfl⟩
        go_wp2_with fail
        (with_reducible refine HF.out.mono ?_)
        rintro e w1 ⟨rfl, hu1⟩
        have HU1 := Lib.hid (hu1.alloc (.cells #[.string ⟨#[]⟩, .slice none 0 0] 91))
        have y0 := (HC.out.upd0 HU1.out).p0
        clear hu1
        go_wp2_with fail
        (with_reducible refine (txIF_Len _ ((HC.out.upd0 HU1.out).files) HLC.out).mono ?_)
        rintro e w' ⟨rfl, rfl⟩
        go_wp2_with fail
        clear y0
        go_loopw [7] (fun x wr => ∃ k : Nat, x = .int .i64 ((k : Int) + 1) ∧ Hid (∀ j : Nat, j < k → isIn ltY cs ((j : Int) + 1) = true) ∧ Hid (Upd [] w wr)) (fun x _ => cs.length + 2 - (intOf x).toNat)
        case atStart => exact ⟨0, rfl, fun j hj => absurd hj (by omega), HU1⟩
        case round =>
          clear HU1
          obtain ⟨k, rfl, hall, hu⟩ := hrel
          have hkl := many_le HC.out.ris k hall.out
          have y1 := (HC.out.upd0 hu.out).p0
          have HK : Hid (I64 ((k : Int) + 1)) := ⟨by omega, by omega⟩
          have HRL : Hid ((rowsOf cs).length ≤ 100000) := by unfold Hid; rw [rows_len]; omega
          cases hin : isIn ltY cs ((k : Int) + 1) with
          | true =>
            have HG : Hid (∃ v, tGet ltIF zF (rowsOf cs) ((k : Int) + 1) = (v, true)) := by
              refine ⟨(nth (rowsOf cs) (below ltIF (rowsOf cs) ((k : Int) + 1))).2, ?_⟩
              unfold tGet
              have : isIn ltIF (rowsOf cs) ((k : Int) + 1) = true := (mapY_isIn (·.1) cs ((k : Int) + 1)).trans hin
              rw [this]; rfl
            obtain ⟨⟨nm, sl⟩, hv⟩ := HG.out
            have HV := Lib.hid hv
            have HALL : Hid (∀ j : Nat, j < k + 1 → isIn ltY cs ((j : Int) + 1) = true) := fun j hj => by
              rcases Nat.lt_or_eq_of_le (Nat.le_of_lt_succ hj) with h | h
              · exact hall.out j h
              · rw [h]; exact hin
            have hkl2 := many_le HC.out.ris (k + 1) HALL.out
            clear hv hin
            go_wp2_with fail
            (with_reducible refine (txIF_Get ((k : Int) + 1) (nm, sl) true ((HC.out.upd0 hu.out).files) HRL.out HK.out HV.out).mono ?_)
            rintro e w2 ⟨rfl, hu2⟩
            have HU2 := Lib.hid (hu.out.seq hu2)
            clear hu2 y1
            go_wp2_with fail
            go_roundw
            case rel => exact ⟨k + 1, by go_num, HALL, HU2.out.alloc _⟩
            case measure => simp [intOf]; omega
          | false =>
            have HV : Hid (tGet ltIF zF (rowsOf cs) ((k : Int) + 1) = (zF, false)) := by
              unfold Hid tGet
              have : isIn ltIF (rowsOf cs) ((k : Int) + 1) = false := (mapY_isIn (·.1) cs ((k : Int) + 1)).trans hin
              rw [this]; rfl
            have hfr := freeIno_eq HC.out.ris k hall.out hin
            have HFL : Hid (tSet ltY (filesOf cs) (freeIno (filesOf cs)) (s, []) = filesOf (tSet ltY cs ((k : Int) + 1) ((s, ⟨none, 0, 0⟩), []))) := by
              unfold Hid
              rw [mapY_free, hfr]
              exact mapY_set (fun v : (ByteArray × Sl) × List UInt8 => (v.1.1, v.2)) cs ((k : Int) + 1) ((s, ⟨none, 0, 0⟩), [])
            clear hin hfr
            go_wp2_with fail
            (with_reducible refine (txIF_Get ((k : Int) + 1) zF false ((HC.out.upd0 hu.out).files) HRL.out HK.out HV.out).mono ?_)
            rintro e w2 ⟨rfl, hu2⟩
            have HU2 := Lib.hid ((hu.out.seq hu2).alloc (.cells #[.string ⟨#[]⟩, .slice none 0 0] 91))
            clear hu2 y1
            have y2 := (HC.out.upd0 HU2.out).p0
            go_wp2_with fail
            (with_reducible refine ((HC.out.upd0 HU2.out).set hlen1 ((k : Int) + 1) HK.out s ⟨none, 0, 0⟩ [] (own_nil _ _ _) (fun d _ _ => ap_none _)).mono ?_)
            rintro e w3 ⟨⟨r, rfl⟩, F', hc3, hu3, hf3⟩
            have HC3 := Lib.hid hc3
            have HU3 := Lib.hid hu3
            have HF3 := Lib.hid hf3
            clear hc3 hu3 hf3
            go_wp2_with fail
            go_ret
            refine ⟨by rw [HY.out]; rfl, ?_⟩
            rw [HY.out]
            have hsz := HU2.out.size
            refine YOut.of HC3.out HFL.out.symm ?_ ?_ (HU2.out.trans HU3.out (by simp) (fun x hx => .inl (foot_F hx))) (fun x hx => (HF3.out x hx).imp foot_F (fun q => by omega)) (fun x hx => .inl (foot_T hx)) ?_
            · have := tSet_len (lt := ltY) cs ((k : Int) + 1) ((s, ⟨none, 0, 0⟩), []); omega
            · intro c hcm
              rcases tSet_mem cs _ _ c hcm with rfl | q
              · exact ⟨by simp; omega, by simp; omega, by simp⟩
              · exact HIN.out c q
            · intro c hcm x hx
              rcases tSet_mem cs _ _ c hcm with rfl | q
              · exact absurd hx (by simp [blk])
              · exact .inl (foot_c q hx)
end
end Go.Proofs.Ytmhdhnipljonlaa
