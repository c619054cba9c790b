/- Chapter 22: Rename, Cut, Remove. -/
import Derived.Test.YtmhdhnipljonlaaDiskBack
import Derived.Test.YtmhdhnipljonlaaDiskName
namespace Go.Proofs.Ytmhdhnipljonlaa
open Go.RowKit
set_option linter.unusedSimpArgs false
set_option linter.unusedVariables false
section
variable {w0 w w' : World} {gd : Nat} {G : List Nat} {s : DS}
/-- What a call on a disk answers, and the disk behind it. -/
def DDoes (w0 w : World) (gd : Nat) (G : List Nat) (r : Int × DS) (e : Ending) (w' : World) : Prop := e = .returned (.int .i64 r.1) ∧ DOut w0 w gd G r.2 w'
theorem DOut.later {w1 : World} (hu : Upd [] w w1) (h : DOut w0 w1 gd G s w') : DOut w0 w gd G s w' := by
  obtain ⟨G', h1, h2, h3⟩ := h
  exact ⟨G', h1, hu.trans h2 (by simp) (fun x hx => .inl hx), fun x hx => (h3 x hx).imp id (fun q => by have := hu.size; omega)⟩
/-- A raw write, as the laws see it. -/
theorem dDo_any (x : Wr) (h : DD w0 w gd G s) (hx : WrOk x s.now) (hp : x.p = []) (hl : s.log.length ≤ 1000000000) :
    Calls Try.prog 61 #[.pointer (some ⟨gd, 0, none⟩), wrv x ⟨none, 0, 0⟩] w fun e w' => e = .returned (.tuple #[]) ∧ DOut w0 w gd G (dDo x s) w' := by
  obtain ⟨gn, gm, Fn, Fm, B, K, cn, cm, lv, lg, hc, rfl, ho, rfl⟩ := h.ex
  refine (do_any x ⟨none, 0, 0⟩ hc hx (by rw [hp]; exact Sh.nil) (by simpa using hl)).mono ?_
  rintro e w' ⟨rfl, Fn', B', K', cn', lv', h1, h2, h3, h4, h5⟩
  exact ⟨rfl, _, ⟨gn, gm, Fn', Fm, B', K', cn', cm, lv', _, h1, by unfold dDo; rw [h3]; simp, ho.do_ hx, rfl⟩, h4, h5⟩
theorem DD.p0 (h : DD w0 w gd G s) : ∃ gn Fn B K cn, w.cell? ⟨gd, 0, none⟩ = some (.pointer (some ⟨gn, 0, none⟩)) ∧ TD w0 w gn Fn B K cn ∧ dfOf cn = s.now := by
  obtain ⟨gn, gm, Fn, Fm, B, K, cn, cm, lv, lg, hc, rfl, ho, rfl⟩ := h.ex
  exact ⟨gn, Fn, B, K, cn, hc.dk.cell 0, hc.now, rfl⟩
/-- The look for a name, as the calls begin. -/
theorem DD.look (h : DD w0 w gd G s) (nm : ByteArray) (hl : s.now.length ≤ 5000) : ∃ gn oa on ok, w.cell? ⟨gd, 0, none⟩ = some (.pointer (some ⟨gn, 0, none⟩)) ∧ on = (dGet s.now nm).1.length ∧
    ∀ W, Upd [] w W → Calls Try.prog 60 #[.pointer (some ⟨gn, 0, none⟩), sv nm] W fun e w' => e = .returned (.tuple #[.slice oa on ok, .bool (inD s.now nm)]) ∧ Upd [] W w' := by
  obtain ⟨gn, Fn, B, K, cn, h0, ht, he⟩ := h.p0
  obtain ⟨⟨oa, on, ok⟩, old, b, hget, hdg, hin, hsh, hgr, hoth⟩ := ht.found nm
  rw [he] at hdg hin
  refine ⟨gn, oa, on, ok, h0, by rw [hdg]; exact hsh.n, fun W hW => ?_⟩
  rw [hin]
  exact txSL_Get nm ⟨oa, on, ok⟩ b (ht.tab.upd0 hW) (by rw [rowsF_len]; rw [← he, df_len] at hl; omega) trivial hget
set_option maxRecDepth 20000 in
set_option maxHeartbeats 1000000 in
theorem dRename_any (nm tn : ByteArray) (h : DD w0 w gd G s) (hn : s.now.length ≤ 5000) (hl : s.log.length ≤ 1000000000) :
    Calls Try.prog 31 #[.pointer (some ⟨gd, 0, none⟩), sv nm, sv tn] w (DDoes w0 w gd G (dRename s nm tn)) := by
  obtain ⟨gn, oa, on, ok, c0, -, hget⟩ := h.look nm hn
  have HG := Lib.hid (hget w (Upd.refl _ _))
  have HD := Lib.hid h
  have HL := Lib.hid hl
  have HNL := Lib.hid hn
  clear hget h hl hn
  cases hok : nameOk tn with
  | false =>
    have HR : Hid (dRename s nm tn = (14, s)) := by unfold Hid dRename; rw [hok]; rfl
    have HOK := Lib.hid hok
    clear hok
    go_enter Try.func31, Try.ntmps31
    go_wp2_with fail
    (with_reducible refine (dnamed_any w tn).mono ?_)
    rw [HOK.out]
    rintro e w1 ⟨rfl, rfl⟩
    go_wp2_with fail
    go_ret
    exact ⟨by rw [HR.out]; rfl, by rw [HR.out]; exact HD.out.out0 (Upd.refl _ _)⟩
  | true =>
    have HOK := Lib.hid hok
    cases hin : inD s.now nm with
    | false =>
      have HR : Hid (dRename s nm tn = (7, s)) := by unfold Hid dRename; rw [hok, hin]; rfl
      rw [hin] at HG
      clear hok hin
      go_enter Try.func31, Try.ntmps31
      go_wp2_with fail
      (with_reducible refine (dnamed_any w tn).mono ?_)
      rw [HOK.out]
      rintro e w1 ⟨rfl, rfl⟩
      go_wp2_with fail
      (with_reducible refine HG.out.mono ?_)
      rintro e w2 ⟨rfl, hu2⟩
      have HU2 := Lib.hid hu2
      clear hu2
      go_wp2_with fail
      go_ret
      exact ⟨by rw [HR.out]; rfl, by rw [HR.out]; exact HD.out.out0 HU2.out⟩
    | true =>
      have HR : Hid (dRename s nm tn = (0, dDo (wRen nm tn) s)) := by unfold Hid dRename; rw [hok, hin]; rfl
      have HW := Lib.hid (HD.out.ok.ren nm tn hin HNL.out).1
      rw [hin] at HG
      clear hok hin
      go_enter Try.func31, Try.ntmps31
      go_wp2_with fail
      (with_reducible refine (dnamed_any w tn).mono ?_)
      rw [HOK.out]
      rintro e w1 ⟨rfl, rfl⟩
      go_wp2_with fail
      (with_reducible refine HG.out.mono ?_)
      rintro e w2 ⟨rfl, hu2⟩
      have HU2 := Lib.hid hu2
      clear hu2
      go_wp2_with fail
      (with_reducible refine (dDo_any (wRen nm tn) (HD.out.upd0 HU2.out) HW.out rfl HL.out).mono ?_)
      rintro e w3 ⟨rfl, ho⟩
      have HO := Lib.hid ho
      clear ho
      go_wp2_with fail
      go_ret
      exact ⟨by rw [HR.out]; rfl, by rw [HR.out]; exact HO.out.later HU2.out⟩
set_option maxRecDepth 20000 in
set_option maxHeartbeats 1000000 in
theorem dRemove_any (nm : ByteArray) (h : DD w0 w gd G s) (hn : s.now.length ≤ 5000) (hl : s.log.length ≤ 1000000000) :
    Calls Try.prog 38 #[.pointer (some ⟨gd, 0, none⟩), sv nm] w (DDoes w0 w gd G (dRemove s nm)) := by
  obtain ⟨gn, oa, on, ok, c0, -, hget⟩ := h.look nm hn
  have HG := Lib.hid (hget w (Upd.refl _ _))
  have HD := Lib.hid h
  have HL := Lib.hid hl
  have HNL := Lib.hid hn
  clear hget h hl hn
  cases hin : inD s.now nm with
  | false =>
    have HR : Hid (dRemove s nm = (7, s)) := by unfold Hid dRemove; rw [hin]; rfl
    rw [hin] at HG
    clear hin
    go_enter Try.func38, Try.ntmps38
    go_wp2_with fail
    (with_reducible refine HG.out.mono ?_)
    rintro e w2 ⟨rfl, hu2⟩
    have HU2 := Lib.hid hu2
    clear hu2
    go_wp2_with fail
    go_ret
    exact ⟨by rw [HR.out]; rfl, by rw [HR.out]; exact HD.out.out0 HU2.out⟩
  | true =>
    have HR : Hid (dRemove s nm = (0, dDo (wRem nm) s)) := by unfold Hid dRemove; rw [hin]; rfl
    have HW := Lib.hid (HD.out.ok.rem nm hin HNL.out).1
    rw [hin] at HG
    clear hin
    go_enter Try.func38, Try.ntmps38
    go_wp2_with fail
    (with_reducible refine HG.out.mono ?_)
    rintro e w2 ⟨rfl, hu2⟩
    have HU2 := Lib.hid hu2
    clear hu2
    go_wp2_with fail
    (with_reducible refine (dDo_any (wRem nm) (HD.out.upd0 HU2.out) HW.out rfl HL.out).mono ?_)
    rintro e w3 ⟨rfl, ho⟩
    have HO := Lib.hid ho
    clear ho
    go_wp2_with fail
    go_ret
    exact ⟨by rw [HR.out]; rfl, by rw [HR.out]; exact HO.out.later HU2.out⟩
set_option maxRecDepth 20000 in
set_option maxHeartbeats 1000000 in
theorem dCut_any (nm : ByteArray) (n : Int) (hi : I64 n) (h : DD w0 w gd G s) (hn : s.now.length ≤ 5000) (hl : s.log.length ≤ 1000000000) :
    Calls Try.prog 37 #[.pointer (some ⟨gd, 0, none⟩), sv nm, .int .i64 n] w (DDoes w0 w gd G (dCut s nm n)) := by
  obtain ⟨gn, oa, on, ok, c0, hon, hget⟩ := h.look nm hn
  have HG := Lib.hid (hget w (Upd.refl _ _))
  have HD := Lib.hid h
  have HL := Lib.hid hl
  have HNL := Lib.hid hn
  have HON := Lib.hid hon
  clear hget h hl hn hon
  cases hin : inD s.now nm with
  | false =>
    have HR : Hid (dCut s nm n = (7, s)) := by unfold Hid dCut; rw [hin]; rfl
    rw [hin] at HG
    clear hin
    go_enter Try.func37, Try.ntmps37
    go_wp2_with fail
    (with_reducible refine HG.out.mono ?_)
    rintro e w2 ⟨rfl, hu2⟩
    have HU2 := Lib.hid hu2
    clear hu2
    go_wp2_with fail
    go_ret
    exact ⟨by rw [HR.out]; rfl, by rw [HR.out]; exact HD.out.out0 HU2.out⟩
  | true =>
    rw [hin] at HG
    by_cases hbad : n < 0 ∨ (on : Int) < n
    · have HR : Hid (dCut s nm n = (1, s)) := by unfold Hid dCut; rw [hin, ← HON.out, if_pos rfl, if_pos hbad]
      clear hin
      rcases (show n < 0 ∨ (¬ n < 0 ∧ (on : Int) < n) by omega) with q | ⟨q, q2⟩
      all_goals
        clear hbad
        go_enter Try.func37, Try.ntmps37
        go_wp2_with fail
        (with_reducible refine HG.out.mono ?_)
        rintro e w2 ⟨rfl, hu2⟩
        have HU2 := Lib.hid hu2
        clear hu2
        go_wp2_with fail
        go_ret
        exact ⟨by rw [HR.out]; rfl, by rw [HR.out]; exact HD.out.out0 HU2.out⟩
    · have HR : Hid (dCut s nm n = (0, dDo (wCut nm n) s)) := by unfold Hid dCut; rw [hin, ← HON.out, if_pos rfl, if_neg hbad]
      have HW := Lib.hid (HD.out.ok.cut nm n hin (by omega) (by rw [← HON.out]; omega) HNL.out).1
      have q : ¬ n < 0 := by omega
      have q2 : ¬ (on : Int) < n := by omega
      clear hin hbad
      go_enter Try.func37, Try.ntmps37
      go_wp2_with fail
      (with_reducible refine HG.out.mono ?_)
      rintro e w2 ⟨rfl, hu2⟩
      have HU2 := Lib.hid hu2
      clear hu2
      go_wp2_with fail
      (with_reducible refine (dDo_any (wCut nm n) (HD.out.upd0 HU2.out) HW.out rfl HL.out).mono ?_)
      rintro e w3 ⟨rfl, ho⟩
      have HO := Lib.hid ho
      clear ho
      go_wp2_with fail
      go_ret
      exact ⟨by rw [HR.out]; rfl, by rw [HR.out]; exact HO.out.later HU2.out⟩
end
end Go.Proofs.Ytmhdhnipljonlaa
