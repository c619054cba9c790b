/- Texts of the proof, joined: Chapter 22: Rename, Cut, Remove. Chapter 22: Append. Chapter 25: a ledger is opened. Chapter 25: a record is added; how many there are. Chapter 25: how many records there are; the records from a number on; records held against each other. The book's Same at records. Chapter 25 as plain law: a disk that has the ledger's file alone, wherever the power fails. -/
import Derived.Test.YtmhojaiajhdlcaaGreatMb9
import Derived.Test.YtmhojaiajhdlcaaGreatMb8
import Derived.Test.YtmhojaiajhdlcaaGreatMb3
import Derived.Deep.RegionHeld3
import Derived.Test.YtmhojaiajhdlcaaGreatMb2
import Derived.Test.YtmhojaiajhdlcaaGreatMb1
namespace Go.Proofs.YtmhojaiajhdlcaaGreat
open Go.RowKit
set_option linter.unusedSimpArgs false
set_option linter.unusedVariables false
section
variable {w0 w w' : World} {gd : Nat} {G : List Nat} {s : DS}
/-- What a call on a disk answers, and the disk behind it. -/
def DDoes (w0 w : World) (gd : Nat) (G : List Nat) (r : Int × DS) (e : Ending) (w' : World) : Prop := e = .returned (.int .i64 r.1) ∧ DOut w0 w gd G r.2 w'
theorem DOut.later {w1 : World} (hu : Upd [] w w1) (h : DOut w0 w1 gd G s w') : DOut w0 w gd G s w' := by
  obtain ⟨G', h1, h2, h3⟩ := h
  exact ⟨G', h1, hu.trans h2 (by simp) (fun x hx => .inl hx), fun x hx => (h3 x hx).imp id (fun q => by have := hu.size; omega)⟩
/-- A raw write, as the laws see it. -/
theorem dDo_any (x : Wr) (h : DD w0 w gd G s) (hx : WrOk x s.now) (hp : x.p = []) (hl : s.log.length ≤ 1000000000) :
    Calls Tryz.prog 67 #[.pointer (some ⟨gd, 0, none⟩), wrv x ⟨none, 0, 0⟩] w fun e w' => e = .returned (.tuple #[]) ∧ DOut w0 w gd G (dDo x s) w' := by
  obtain ⟨gn, gm, Fn, Fm, B, K, cn, cm, lv, lg, hc, rfl, ho, rfl⟩ := h.ex
  refine (do_any x ⟨none, 0, 0⟩ hc hx (by rw [hp]; exact Sh.nil) (by simpa using hl)).mono ?_
  rintro e w' ⟨rfl, Fn', B', K', cn', lv', h1, h2, h3, h4, h5⟩
  exact ⟨rfl, _, ⟨gn, gm, Fn', Fm, B', K', cn', cm, lv', _, h1, by unfold dDo; rw [h3]; simp, ho.do_ hx, rfl⟩, h4, h5⟩
theorem DD.p0 (h : DD w0 w gd G s) : ∃ gn Fn B K cn, w.cell? ⟨gd, 0, none⟩ = some (.pointer (some ⟨gn, 0, none⟩)) ∧ TD w0 w gn Fn B K cn ∧ dfOf cn = s.now := by
  obtain ⟨gn, gm, Fn, Fm, B, K, cn, cm, lv, lg, hc, rfl, ho, rfl⟩ := h.ex
  exact ⟨gn, Fn, B, K, cn, hc.dk.cell 0, hc.now, rfl⟩
/-- The look for a name, as the calls begin. -/
theorem DD.look (h : DD w0 w gd G s) (nm : ByteArray) (hl : s.now.length ≤ 5000) : ∃ gn oa on ok, w.cell? ⟨gd, 0, none⟩ = some (.pointer (some ⟨gn, 0, none⟩)) ∧ on = (dGet s.now nm).1.length ∧
    ∀ W, Upd [] w W → Calls Tryz.prog 66 #[.pointer (some ⟨gn, 0, none⟩), sv nm] W fun e w' => e = .returned (.tuple #[.slice oa on ok, .bool (inD s.now nm)]) ∧ Upd [] W w' := by
  obtain ⟨gn, Fn, B, K, cn, h0, ht, he⟩ := h.p0
  obtain ⟨⟨oa, on, ok⟩, old, b, hget, hdg, hin, hsh, hgr, hoth⟩ := ht.found nm
  rw [he] at hdg hin
  refine ⟨gn, oa, on, ok, h0, by rw [hdg]; exact hsh.n, fun W hW => ?_⟩
  rw [hin]
  exact txSL_Get nm ⟨oa, on, ok⟩ b (ht.tab.upd0 hW) (by rw [rowsF_len]; rw [← he, df_len] at hl; omega) trivial hget
set_option maxRecDepth 20000 in
set_option maxHeartbeats 1000000 in
theorem dRename_any (nm tn : ByteArray) (h : DD w0 w gd G s) (hn : s.now.length ≤ 5000) (hl : s.log.length ≤ 1000000000) :
    Calls Tryz.prog 124 #[.pointer (some ⟨gd, 0, none⟩), sv nm, sv tn] w (DDoes w0 w gd G (dRename s nm tn)) := by
  obtain ⟨gn, oa, on, ok, c0, -, hget⟩ := h.look nm hn
  have HG := Lib.hid (hget w (Upd.refl _ _))
  have HD := Lib.hid h
  have HL := Lib.hid hl
  have HNL := Lib.hid hn
  clear hget h hl hn
  cases hok : nameOk tn with
  | false =>
    have HR : Hid (dRename s nm tn = (14, s)) := by unfold Hid dRename; rw [hok]; rfl
    have HOK := Lib.hid hok
    clear hok
    go_enter Tryz.func124, Tryz.ntmps124
    go_wp2_with fail
    (with_reducible refine (dnamed_any w tn).mono ?_)
    rw [HOK.out]
    rintro e w1 ⟨rfl, rfl⟩
    go_wp2_with fail
    go_ret
    exact ⟨by rw [HR.out]; rfl, by rw [HR.out]; exact HD.out.out0 (Upd.refl _ _)⟩
  | true =>
    have HOK := Lib.hid hok
    cases hin : inD s.now nm with
    | false =>
      have HR : Hid (dRename s nm tn = (7, s)) := by unfold Hid dRename; rw [hok, hin]; rfl
      rw [hin] at HG
      clear hok hin
      go_enter Tryz.func124, Tryz.ntmps124
      go_wp2_with fail
      (with_reducible refine (dnamed_any w tn).mono ?_)
      rw [HOK.out]
      rintro e w1 ⟨rfl, rfl⟩
      go_wp2_with fail
      (with_reducible refine HG.out.mono ?_)
      rintro e w2 ⟨rfl, hu2⟩
      have HU2 := Lib.hid hu2
      clear hu2
      go_wp2_with fail
      go_ret
      exact ⟨by rw [HR.out]; rfl, by rw [HR.out]; exact HD.out.out0 HU2.out⟩
    | true =>
      have HR : Hid (dRename s nm tn = (0, dDo (wRen nm tn) s)) := by unfold Hid dRename; rw [hok, hin]; rfl
      have HW := Lib.hid (HD.out.ok.ren nm tn hin HNL.out).1
      rw [hin] at HG
      clear hok hin
      go_enter Tryz.func124, Tryz.ntmps124
      go_wp2_with fail
      (with_reducible refine (dnamed_any w tn).mono ?_)
      rw [HOK.out]
      rintro e w1 ⟨rfl, rfl⟩
      go_wp2_with fail
      (with_reducible refine HG.out.mono ?_)
      rintro e w2 ⟨rfl, hu2⟩
      have HU2 := Lib.hid hu2
      clear hu2
      go_wp2_with fail
      (with_reducible refine (dDo_any (wRen nm tn) (HD.out.upd0 HU2.out) HW.out rfl HL.out).mono ?_)
      rintro e w3 ⟨rfl, ho⟩
      have HO := Lib.hid ho
      clear ho
      go_wp2_with fail
      go_ret
      exact ⟨by rw [HR.out]; rfl, by rw [HR.out]; exact HO.out.later HU2.out⟩
set_option maxRecDepth 20000 in
set_option maxHeartbeats 1000000 in
theorem dRemove_any (nm : ByteArray) (h : DD w0 w gd G s) (hn : s.now.length ≤ 5000) (hl : s.log.length ≤ 1000000000) :
    Calls Tryz.prog 86 #[.pointer (some ⟨gd, 0, none⟩), sv nm] w (DDoes w0 w gd G (dRemove s nm)) := by
  obtain ⟨gn, oa, on, ok, c0, -, hget⟩ := h.look nm hn
  have HG := Lib.hid (hget w (Upd.refl _ _))
  have HD := Lib.hid h
  have HL := Lib.hid hl
  have HNL := Lib.hid hn
  clear hget h hl hn
  cases hin : inD s.now nm with
  | false =>
    have HR : Hid (dRemove s nm = (7, s)) := by unfold Hid dRemove; rw [hin]; rfl
    rw [hin] at HG
    clear hin
    go_enter Tryz.func86, Tryz.ntmps86
    go_wp2_with fail
    (with_reducible refine HG.out.mono ?_)
    rintro e w2 ⟨rfl, hu2⟩
    have HU2 := Lib.hid hu2
    clear hu2
    go_wp2_with fail
    go_ret
    exact ⟨by rw [HR.out]; rfl, by rw [HR.out]; exact HD.out.out0 HU2.out⟩
  | true =>
    have HR : Hid (dRemove s nm = (0, dDo (wRem nm) s)) := by unfold Hid dRemove; rw [hin]; rfl
    have HW := Lib.hid (HD.out.ok.rem nm hin HNL.out).1
    rw [hin] at HG
    clear hin
    go_enter Tryz.func86, Tryz.ntmps86
    go_wp2_with fail
    (with_reducible refine HG.out.mono ?_)
    rintro e w2 ⟨rfl, hu2⟩
    have HU2 := Lib.hid hu2
    clear hu2
    go_wp2_with fail
    (with_reducible refine (dDo_any (wRem nm) (HD.out.upd0 HU2.out) HW.out rfl HL.out).mono ?_)
    rintro e w3 ⟨rfl, ho⟩
    have HO := Lib.hid ho
    clear ho
    go_wp2_with fail
    go_ret
    exact ⟨by rw [HR.out]; rfl, by rw [HR.out]; exact HO.out.later HU2.out⟩
set_option maxRecDepth 20000 in
set_option maxHeartbeats 1000000 in
theorem dCut_any (nm : ByteArray) (n : Int) (hi : I64 n) (h : DD w0 w gd G s) (hn : s.now.length ≤ 5000) (hl : s.log.length ≤ 1000000000) :
    Calls Tryz.prog 75 #[.pointer (some ⟨gd, 0, none⟩), sv nm, .int .i64 n] w (DDoes w0 w gd G (dCut s nm n)) := by
  obtain ⟨gn, oa, on, ok, c0, hon, hget⟩ := h.look nm hn
  have HG := Lib.hid (hget w (Upd.refl _ _))
  have HD := Lib.hid h
  have HL := Lib.hid hl
  have HNL := Lib.hid hn
  have HON := Lib.hid hon
  clear hget h hl hn hon
  cases hin : inD s.now nm with
  | false =>
    have HR : Hid (dCut s nm n = (7, s)) := by unfold Hid dCut; rw [hin]; rfl
    rw [hin] at HG
    clear hin
    go_enter Tryz.func75, Tryz.ntmps75
    go_wp2_with fail
    (with_reducible refine HG.out.mono ?_)
    rintro e w2 ⟨rfl, hu2⟩
    have HU2 := Lib.hid hu2
    clear hu2
    go_wp2_with fail
    go_ret
    exact ⟨by rw [HR.out]; rfl, by rw [HR.out]; exact HD.out.out0 HU2.out⟩
  | true =>
    rw [hin] at HG
    by_cases hbad : n < 0 ∨ (on : Int) < n
    · have HR : Hid (dCut s nm n = (1, s)) := by unfold Hid dCut; rw [hin, ← HON.out, if_pos rfl, if_pos hbad]
      clear hin
      rcases (show n < 0 ∨ (¬ n < 0 ∧ (on : Int) < n) by omega) with q | ⟨q, q2⟩
      all_goals
        clear hbad
        go_enter Tryz.func75, Tryz.ntmps75
        go_wp2_with fail
        (with_reducible refine HG.out.mono ?_)
        rintro e w2 ⟨rfl, hu2⟩
        have HU2 := Lib.hid hu2
        clear hu2
        go_wp2_with fail
        go_ret
        exact ⟨by rw [HR.out]; rfl, by rw [HR.out]; exact HD.out.out0 HU2.out⟩
    · have HR : Hid (dCut s nm n = (0, dDo (wCut nm n) s)) := by unfold Hid dCut; rw [hin, ← HON.out, if_pos rfl, if_neg hbad]
      have HW := Lib.hid (HD.out.ok.cut nm n hin (by omega) (by rw [← HON.out]; omega) HNL.out).1
      have q : ¬ n < 0 := by omega
      have q2 : ¬ (on : Int) < n := by omega
      clear hin hbad
      go_enter Tryz.func75, Tryz.ntmps75
      go_wp2_with fail
      (with_reducible refine HG.out.mono ?_)
      rintro e w2 ⟨rfl, hu2⟩
      have HU2 := Lib.hid hu2
      clear hu2
      go_wp2_with fail
      (with_reducible refine (dDo_any (wCut nm n) (HD.out.upd0 HU2.out) HW.out rfl HL.out).mono ?_)
      rintro e w3 ⟨rfl, ho⟩
      have HO := Lib.hid ho
      clear ho
      go_wp2_with fail
      go_ret
      exact ⟨by rw [HR.out]; rfl, by rw [HR.out]; exact HO.out.later HU2.out⟩
end
end Go.Proofs.YtmhojaiajhdlcaaGreat
namespace Go.Proofs.YtmhojaiajhdlcaaGreat
open Go.RowKit
set_option linter.unusedSimpArgs false
set_option linter.unusedVariables false
section
variable {B : List Nat} {K : KB} {s : Sl} {l : List UInt8}
theorem Sh.take_ (h : Sh B K s l) (m : Nat) (hm : m ≤ l.length) : Sh B K ⟨s.a, m, s.k⟩ (l.take m) := by
  have h1 := h.n
  have h2 := h.k
  refine ⟨by rw [List.length_take]; show m = _; omega, by show m ≤ s.k; omega, h.m, h.nul, fun hne => ?_⟩
  have hl : l ≠ [] := fun q => hne (by rw [q]; simp)
  obtain ⟨b, off, e1, e2, e3, e4⟩ := h.ex hl
  refine ⟨b, off, e1, e2, by rw [List.length_take]; omega, ?_⟩
  rw [List.length_take, Nat.min_eq_left hm]
  conv => rhs; rw [← e4]
  rw [List.take_take, Nat.min_eq_left hm]
theorem Sh.drop_ (h : Sh B K s l) (m : Nat) (hm : m ≤ l.length) : Sh B K ⟨if s.k = m then s.a else s.a.map (·.add m), l.length - m, s.k - m⟩ (l.drop m) := by
  have h1 := h.n
  have h2 := h.k
  refine ⟨by rw [List.length_drop], by show l.length - m ≤ s.k - m; omega, by have := h.m; show s.k - m ≤ _; omega, fun q => ?_, fun hne => ?_⟩
  · dsimp only at q ⊢
    split at q
    · have := h.nul q; omega
    · have := h.nul (by simpa using q); omega
  · have hlt : m < l.length := by
      rcases Nat.lt_or_ge m l.length with q | q
      · exact q
      · exact absurd (List.drop_eq_nil_of_le q) hne
    obtain ⟨b, off, e1, e2, e3, e4⟩ := h.ex (fun q => by rw [q] at hlt; simp at hlt)
    refine ⟨b, off + m, ?_, e2, by rw [List.length_drop]; omega, ?_⟩
    · show (if s.k = m then s.a else s.a.map (·.add m)) = _
      rw [if_neg (by omega), e1]; simp [add_none]
    · rw [List.length_drop]
      conv => rhs; rw [← e4]
      rw [List.drop_take, List.drop_drop]
end
/-- A disk, and a slice of bytes that its blocks have. -/
structure DP (w0 w : World) (gd : Nat) (G : List Nat) (s : DS) (sl : Sl) (l : List UInt8) : Prop where
  ex : ∃ gn gm Fn Fm B K cn cm lv lg, DC w0 w gd gn gm Fn Fm B K cn cm lv lg ∧ s = ⟨dfOf cn, dfOf cm, lg.map (·.1)⟩ ∧ DOk s ∧ G = dfoot gd Fn Fm B lv ∧ Sh B K sl l
section
variable {w0 w w' : World} {gd : Nat} {G : List Nat} {s : DS} {sl sl' : Sl} {l l' : List UInt8}
theorem DP.dd (h : DP w0 w gd G s sl l) : DD w0 w gd G s := by
  obtain ⟨gn, gm, Fn, Fm, B, K, cn, cm, lv, lg, hc, e, ho, eG, hs⟩ := h.ex
  exact ⟨gn, gm, Fn, Fm, B, K, cn, cm, lv, lg, hc, e, ho, eG⟩
theorem DP.upd0 (h : DP w0 w gd G s sl l) (hu : Upd [] w w') : DP w0 w' gd G s sl l := by
  obtain ⟨gn, gm, Fn, Fm, B, K, cn, cm, lv, lg, hc, e, ho, eG, hs⟩ := h.ex
  exact ⟨gn, gm, Fn, Fm, B, K, cn, cm, lv, lg, hc.upd0 hu, e, ho, eG, hs⟩
theorem DP.drop_ (h : DP w0 w gd G s sl l) (m : Nat) (hm : m ≤ l.length) : DP w0 w gd G s ⟨if sl.k = m then sl.a else sl.a.map (·.add m), l.length - m, sl.k - m⟩ (l.drop m) := by
  obtain ⟨gn, gm, Fn, Fm, B, K, cn, cm, lv, lg, hc, e, ho, eG, hs⟩ := h.ex
  exact ⟨gn, gm, Fn, Fm, B, K, cn, cm, lv, lg, hc, e, ho, eG, hs.drop_ m hm⟩
theorem DP.form (h : DP w0 w gd G s sl l) : sl.n = l.length ∧ sl.n ≤ sl.k ∧ sl.k ≤ maxLen := by
  obtain ⟨gn, gm, Fn, Fm, B, K, cn, cm, lv, lg, hc, e, ho, eG, hs⟩ := h.ex
  exact ⟨hs.n, hs.k, hs.m⟩
/-- New bytes. -/
theorem DD.bytes (h : DD w0 w gd G s) {v : Value} (ho : Own bv w.heap.size 5 w' v l) (hu : Upd [] w w') : ∃ sl G', v = .slice sl.a sl.n sl.k ∧ DP w0 w' gd G' s sl l ∧ (∀ x ∈ G', x ∈ G ∨ w.heap.size ≤ x) ∧ (∀ x ∈ G, x ∈ G') := by
  obtain ⟨gn, gm, Fn, Fm, B, K, cn, cm, lv, lg, hc, e, hok, rfl⟩ := h.ex
  obtain ⟨sl, B', K', rfl, h1, h2, h3, h4, h5, h6, h7⟩ := hc.bks.new ho hu hc.old.size
  have hd := hc.upd0 hu
  refine ⟨sl, _, rfl, ⟨gn, gm, Fn, Fm, B', K', cn, cm, lv, lg, ⟨hd.dk, hd.gdb, hd.now.keep h2 h7, hd.mark.keep h2 h7, hd.full, hd.apt, h1, hd.log, fun x hx => (hd.lsh x hx).ext h2⟩, e, hok, rfl, h4⟩, fun x hx => ?_, fun x hx => ?_⟩
  · rcases (dfoot_mem _ _ _ _ _ _).1 hx with rfl | hx | hx | hx | hx
    · exact .inl ((dfoot_mem _ _ _ _ _ _).2 (.inl rfl))
    · exact .inl ((dfoot_mem _ _ _ _ _ _).2 (.inr (.inl hx)))
    · exact .inl ((dfoot_mem _ _ _ _ _ _).2 (.inr (.inr (.inl hx))))
    · exact (h3 x hx).imp (fun q => (dfoot_mem _ _ _ _ _ _).2 (.inr (.inr (.inr (.inl q))))) id
    · exact .inl ((dfoot_mem _ _ _ _ _ _).2 (.inr (.inr (.inr (.inr hx)))))
  · rcases (dfoot_mem _ _ _ _ _ _).1 hx with rfl | hx | hx | hx | hx
    · exact (dfoot_mem _ _ _ _ _ _).2 (.inl rfl)
    · exact (dfoot_mem _ _ _ _ _ _).2 (.inr (.inl hx))
    · exact (dfoot_mem _ _ _ _ _ _).2 (.inr (.inr (.inl hx)))
    · exact (dfoot_mem _ _ _ _ _ _).2 (.inr (.inr (.inr (.inl (h2.sub x hx)))))
    · exact (dfoot_mem _ _ _ _ _ _).2 (.inr (.inr (.inr (.inr hx))))
/-- The first bytes are put. -/
theorem dpPut_any (nm : ByteArray) (m : Nat) (h : DP w0 w gd G s sl l) (hm : m ≤ l.length) (hx : WrOk (wPut nm (l.take m)) s.now) (hl : s.log.length ≤ 1000000000) :
    Calls Tryz.prog 67 #[.pointer (some ⟨gd, 0, none⟩), wrv (wPut nm (l.take m)) ⟨sl.a, m, sl.k⟩] w fun e w' => e = .returned (.tuple #[]) ∧ ∃ G', DP w0 w' gd G' (dDo (wPut nm (l.take m)) s) sl l ∧ Upd G w w' ∧ (∀ x ∈ G', x ∈ G ∨ w.heap.size ≤ x) := by
  obtain ⟨gn, gm, Fn, Fm, B, K, cn, cm, lv, lg, hc, rfl, ho, rfl, hs⟩ := h.ex
  refine (do_any (wPut nm (l.take m)) ⟨sl.a, m, sl.k⟩ hc hx (hs.take_ m hm) (by simpa using hl)).mono ?_
  rintro e w' ⟨rfl, Fn', B', K', cn', lv', h1, h2, h3, h4, h5⟩
  exact ⟨rfl, _, ⟨gn, gm, Fn', Fm, B', K', cn', cm, lv', _, h1, by unfold dDo; rw [h3]; simp, ho.do_ hx, rfl, hs.ext h2⟩, h4, h5⟩
/-- MARK -/
def lenV : Value → Nat
  | .slice _ n _ => n
  | _ => 0
theorem bytes_upd {w w' : World} {v : Value} {l : List UInt8} (h : Bytes w v l) {S : List Nat} (hu : Upd S w w') (hs : l ≠ [] → ∀ x ∈ blk v, x ∉ S) : Bytes w' v l := by
  by_cases hne : l = []
  · obtain ⟨a, k, e, h1, h2, h3⟩ := h
    exact ⟨a, k, e, h1, h2, fun q => absurd hne q⟩
  · exact h.upd hu (hs hne)
theorem DOut.dp {w1 w2 : World} {G1 G2 : List Nat} (h : DP w0 w2 gd G2 s sl l) (hu : Upd G w w1) (hf : ∀ x ∈ G1, x ∈ G ∨ w.heap.size ≤ x) (hu2 : Upd G1 w1 w2) (hf2 : ∀ x ∈ G2, x ∈ G1 ∨ w1.heap.size ≤ x) : DOut w0 w gd G s w2 :=
  ⟨G2, h.dd, hu.trans hu2 (fun x hx => hx) hf, fun x hx => by
    have := hu.size
    rcases hf2 x hx with q | q
    · exact hf x q
    · exact .inr (by omega)⟩
set_option maxRecDepth 20000 in
set_option maxHeartbeats 4000000 in
theorem dAppend_any (nm : ByteArray) (v : Value) (p : List UInt8) (hp : Bytes w v p) (hap : p ≠ [] → ∀ x ∈ blk v, x ∉ G) (h : DD w0 w gd G s) (hpl : p.length ≤ 100000000) (hn : s.now.length ≤ 4999) (hl : s.log.length ≤ 500000000) :
    Calls Tryz.prog 19 #[.pointer (some ⟨gd, 0, none⟩), sv nm, v] w (DDoes w0 w gd G (dAppend s nm p)) := by
  have HP := Lib.hid hp
  obtain ⟨ap, cp, rfl, hp1, hp2, -⟩ := hp
  have hcp : cp ≤ 9223372036854775807 := by unfold maxLen at hp2; omega
  obtain ⟨gn, oa, on, ok, c0, -, hget⟩ := h.look nm (by omega)
  have HGET := Lib.hid hget
  have C0 := Lib.hid c0
  have HD := Lib.hid h
  have HL := Lib.hid hl
  have HNL := Lib.hid hn
  have HAP := Lib.hid hap
  have htot := h.ok.tot
  clear hget h hl hn hp2 c0 hap
  cases hok : nameOk nm with
  | false =>
    have HR : Hid (dAppend s nm p = (14, s)) := by unfold Hid dAppend; rw [hok]; rfl
    have HOK := Lib.hid hok
    clear hok
    go_enter Tryz.func19, Tryz.ntmps19
    go_wp2_with fail
    (with_reducible refine (dnamed_any w nm).mono ?_)
    rw [HOK.out]
    rintro e w1 ⟨rfl, rfl⟩
    go_wp2_with fail
    go_ret
    exact ⟨by rw [HR.out]; rfl, by rw [HR.out]; exact HD.out.out0 (Upd.refl _ _)⟩
  | true =>
    have HOK := Lib.hid hok
    have HTOT : Hid (s.now.length ≤ 100000) := by have := HNL.out; unfold Hid; omega
    by_cases hfull : 16777216 < dTotal s.now + p.length
    · have HR : Hid (dAppend s nm p = (9, s)) := by unfold Hid dAppend; rw [hok, if_pos rfl, if_pos hfull]
      have q : (16777216 : Int) - (dTotal s.now : Int) < p.length := by omega
      have hwr : IntKind.i64.wrap (16777216 - (dTotal s.now : Int)) = 16777216 - (dTotal s.now : Int) := by rw [IntKind.wrap_i64]; omega
      clear hok
      go_enter Tryz.func19, Tryz.ntmps19
      go_wp2_with fail
      (with_reducible refine (dnamed_any w nm).mono ?_)
      rw [HOK.out]
      rintro e w1 ⟨rfl, rfl⟩
      go_wp2_with fail
      (with_reducible refine (dTotal_any HD.out HTOT.out).mono ?_)
      rintro e w2 ⟨rfl, hu2⟩
      have HU2 := Lib.hid hu2
      clear hu2
      go_wp2_with fail
      go_ret
      exact ⟨by rw [HR.out]; rfl, by rw [HR.out]; exact HD.out.out0 HU2.out⟩
    · have q : ¬ (16777216 : Int) - (dTotal s.now : Int) < p.length := by omega
      have hwr : IntKind.i64.wrap (16777216 - (dTotal s.now : Int)) = 16777216 - (dTotal s.now : Int) := by rw [IntKind.wrap_i64]; omega
      have HT : Hid (dTotal s.now + p.length ≤ 16777216) := by unfold Hid; omega
      cases hin : inD s.now nm with
      | true =>
        have HR : Hid (dAppend s nm p = (0, dPut nm s (chunks p))) := by unfold Hid dAppend; rw [hok, if_pos rfl, if_neg hfull, hin, if_pos rfl]
        rw [hin] at HGET
        have HIN1 := Lib.hid hin
        clear hok hin hfull
        go_enter Tryz.func19, Tryz.ntmps19
        go_wp2_with fail
        (with_reducible refine (dnamed_any w nm).mono ?_)
        rw [HOK.out]
        rintro e w1 ⟨rfl, rfl⟩
        go_wp2_with fail
        (with_reducible refine (dTotal_any HD.out HTOT.out).mono ?_)
        rintro e w2 ⟨rfl, hu2⟩
        have HU2 := Lib.hid hu2
        have c0 := hu2.cell C0.out (by simp)
        clear hu2
        go_wp2_with fail
        (with_reducible refine (HGET.out w2 HU2.out).mono ?_)
        rintro e w3 ⟨rfl, hu3⟩
        have HU3 := Lib.hid (HU2.out.seq hu3)
        have D1 := Lib.hid (HD.out.upd0 HU3.out)
        have HP1 := Lib.hid (HP.out.upd0 HU3.out)
        have HLN1 : Hid (s.now.length ≤ 5000) := by have := HNL.out; unfold Hid; omega
        have HTT1 : Hid (dTotal s.now + p.length ≤ 16777216) := HT.out
        have HLG1 : Hid (s.log.length ≤ 500000001) := by have := HL.out; unfold Hid; omega
        clear hu3 c0 q hwr htot
        have HRUN := Lib.hid (fun ty => run_app (P := Tryz.prog) (w := w3) (ty := ty) bv_one Tryz.underlying28 infoB8 rfl (.slice none 0 0) (.slice ap p.length cp) [] p (World.ownsRow_nil w3 (w3.heap).size _ 1) HP1.out (by simp; omega) (by simp [maxLen]; omega) (Nat.le_refl _))
        go_wp2_with (at_builtin; go_must (refine wpList_app_of rfl _ _ rfl (.slice none 0 0) (.slice ap p.length cp) rfl rfl (HRUN.out _) ?_; rintro v2 w2 ⟨ho2, hu2, hk2⟩; have HU2 := Lib.hid (hu2.mono (T := []) (by simp [blk])); obtain ⟨⟨a2, n2, k2⟩, G2, rfl, hd2, hg2, hg2'⟩ := D1.out.bytes (l := p) ho2 HU2.out; have HD2 := Lib.hid hd2; have HG2 := Lib.hid hg2; have HG2' := Lib.hid hg2'; clear ho2 hu2 hk2 hd2 hg2 hg2' HRUN; dsimp only))
        go_loopw [2] (fun v wr => ∃ (k : Nat) (sl : Sl) (G' : List Nat), k ≤ (chunks p).length ∧ v = .slice sl.a sl.n sl.k ∧ Hid (DP w0 wr gd G' (dPut nm s ((chunks p).take k)) sl (p.drop (32 * k))) ∧ Hid (Upd G w3 wr) ∧ Hid (∀ x ∈ G', x ∈ G ∨ (w3.heap).size ≤ x)) (fun v _ => lenV v)
        case atStart => exact ⟨0, ⟨a2, n2, k2⟩, G2, Nat.zero_le _, rfl, HD2.out, HU2.out.mono (by simp), HG2.out⟩
        case round =>
          obtain ⟨k, ⟨sa, sn, sk⟩, G', hk, rfl, hd, hu, hg⟩ := hrel
          clear HD2 HU2 HG2 HG2'
          have hform := hd.out.form
          dsimp only at hform
          obtain ⟨hf1, hf2, hf3⟩ := hform
          rw [List.length_drop] at hf1
          have hcl := chunks_len p
          by_cases hlt : k < (chunks p).length
          · have hpos : 32 * k < p.length := by omega
            obtain ⟨hw0, hstep⟩ : WrOk (wPut nm ((p.drop (32 * k)).take 32)) (dPut nm s ((chunks p).take k)).now ∧ (dPut nm s ((chunks p).take k)).log.length ≤ 1000000000 := by
              have ih := PutOk.all p D1.out.ok HIN1.out HLN1.out HTT1.out k hk
              have hcl2 : ((p.drop (32 * k)).take 32).length = min 32 (p.length - 32 * k) := by rw [List.length_take, List.length_drop]
              have htt := HTT1.out
              refine ⟨(ih.step ((p.drop (32 * k)).take 32) (fun q => by rw [q] at hcl2; simp at hcl2; omega) HLN1.out (by rw [hcl2]; omega)).1, ?_⟩
              have := ih.log
              have := HLG1.out
              omega
            have HWO := Lib.hid hw0
            have HLO := Lib.hid hstep
            have HDT := Lib.hid (dPut_take nm s p k hlt)
            obtain ⟨m, hmd⟩ : ∃ m, m = min sn 32 := ⟨_, rfl⟩
            have HM1 : Hid ((p.drop (32 * k)).take 32 = (p.drop (32 * k)).take m) := by
              unfold Hid
              rcases Nat.lt_or_ge sn 32 with q | q
              · rw [List.take_of_length_le (by rw [List.length_drop]; omega), List.take_of_length_le (by rw [List.length_drop]; omega)]
              · rw [show m = 32 by omega]
            have HM2 : Hid ((p.drop (32 * k)).drop m = p.drop (32 * (k + 1))) := by
              unfold Hid
              rw [List.drop_drop]
              rcases Nat.lt_or_ge sn 32 with q | q
              · rw [List.drop_of_length_le (by omega), List.drop_of_length_le (by omega)]
              · rw [show 32 * k + m = 32 * (k + 1) by omega]
            have HM3 : Hid (m ≤ (p.drop (32 * k)).length) := by unfold Hid; rw [List.length_drop]; omega
            have hm1 : m ≤ sn := by omega
            have hm0 : 0 < m := by omega
            have HLD : Hid ((p.drop (32 * k)).length = sn) := by unfold Hid; rw [List.length_drop]; omega
            obtain ⟨A, hA, hcut2⟩ : ∃ A : Option Addr, A = (if sk = m then sa else sa.map (·.add m)) ∧ ∀ W, (Instr.slice 28 (.slice sa sn sk) (some (.int .i64 (m : Int))) none none).run Tryz.prog W = .ok (.slice A (sn - m) (sk - m)) W :=
              ⟨_, rfl, fun W => by have h := run_cut (P := Tryz.prog) (size := 1) Tryz.underlying28 (by kernel_rfl) sa sn sk m hm1 W; simpa using h⟩
            have hcut1 := fun W => run_cut_h (P := Tryz.prog) (size := 1) Tryz.underlying28 (by kernel_rfl) sa sn sk m (by omega) W
            have HA := Lib.hid hA
            have hpz : (0 : Int) < sn := by omega
            have HMD := Lib.hid hmd
            clear hw0 hstep hA hf1 hcl
            have fin : Hid (∀ w' G2, DP w0 w' gd G2 (dDo (wPut nm ((p.drop (32 * k)).take m)) (dPut nm s ((chunks p).take k))) ⟨sa, sn, sk⟩ (p.drop (32 * k)) → DP w0 w' gd G2 (dPut nm s ((chunks p).take (k + 1))) ⟨A, sn - m, sk - m⟩ (p.drop (32 * (k + 1)))) := fun w' G2 h => by
              have h2 := h.drop_ m HM3.out
              rw [HM2.out, HLD.out] at h2
              dsimp only at h2
              rw [← HA.out] at h2
              rw [HDT.out, HM1.out]; exact h2
            rw [HM1.out] at HWO
            rcases Nat.lt_or_ge 32 sn with q | q
            · obtain rfl : m = 32 := by omega
              have q1 : (32 : Int) < sn := by omega
              clear q hmd
              go_wp2_with fail
              (with_reducible refine (dpPut_any nm _ hd.out HM3.out HWO.out HLO.out).mono ?_)
              rintro e w4 ⟨rfl, G4, h4, hu4, hg4⟩
              have H4 := Lib.hid (fin.out w4 G4 h4)
              try rw [Nat.sub_self] at H4
              have HU4 : Hid (Upd G w3 w4) := hu.out.trans hu4 (fun x hx => hx) hg.out
              have HG4 : Hid (∀ x ∈ G4, x ∈ G ∨ (w3.heap).size ≤ x) := fun x hx => by
                have := hu.out.size
                rcases hg4 x hx with r | r
                · exact hg.out x r
                · exact .inr (by omega)
              clear h4 hu4 hg4 fin
              go_wp2_with fail
              go_roundw
              case rel => exact ⟨k + 1, ⟨A, _, _⟩, G4, by omega, by first | rfl | (rw [HA.out, if_neg (by omega)]; rfl), H4, HU4, HG4⟩
              case measure => simp [lenV]; omega
            · obtain rfl : m = sn := by omega
              have q1 : ¬ (32 : Int) < m := by omega
              clear q hmd
              go_wp2_with fail
              (with_reducible refine (dpPut_any nm _ hd.out HM3.out HWO.out HLO.out).mono ?_)
              rintro e w4 ⟨rfl, G4, h4, hu4, hg4⟩
              have H4 := Lib.hid (fin.out w4 G4 h4)
              try rw [Nat.sub_self] at H4
              have HU4 : Hid (Upd G w3 w4) := hu.out.trans hu4 (fun x hx => hx) hg.out
              have HG4 : Hid (∀ x ∈ G4, x ∈ G ∨ (w3.heap).size ≤ x) := fun x hx => by
                have := hu.out.size
                rcases hg4 x hx with r | r
                · exact hg.out x r
                · exact .inr (by omega)
              clear h4 hu4 hg4 fin
              go_wp2_with fail
              go_roundw
              case rel => exact ⟨k + 1, ⟨A, _, _⟩, G4, by omega, by first | rfl | (rw [HA.out, if_neg (by omega)]; rfl), H4, HU4, HG4⟩
              case measure => simp [lenV]; omega
          · obtain rfl : k = (chunks p).length := by omega
            have hz : sn = 0 := by omega
            have HF : Hid (DP w0 wr gd G' (dPut nm s (chunks p)) ⟨sa, sn, sk⟩ (p.drop (32 * (chunks p).length))) := by have := hd.out; rwa [List.take_length] at this
            have HFO := Lib.hid hf1
            clear hf1 hcl hd
            subst hz
            go_wp2_with fail
            go_ret
            exact ⟨by rw [HR.out]; rfl, by rw [HR.out]; exact DOut.dp HF.out (HU3.out.mono (by simp)) (fun x hx => .inl hx) hu.out hg.out⟩
      | false =>
        have HR : Hid (dAppend s nm p = (0, dPut nm (dDo (wMake nm) s) (chunks p))) := by unfold Hid dAppend; rw [hok, if_pos rfl, if_neg hfull, hin, if_neg (by simp)]
        rw [hin] at HGET
        obtain ⟨hw, hk1, hk2, hk3, hk4⟩ := HD.out.ok.make nm hin (by have := HNL.out; omega)
        have HW := Lib.hid hw
        have HIN1 := Lib.hid hk2
        have HLN1 : Hid ((dDo (wMake nm) s).now.length ≤ 5000) := by have := HNL.out; unfold Hid; omega
        have HTT1 : Hid (dTotal (dDo (wMake nm) s).now + p.length ≤ 16777216) := by unfold Hid; rw [hk3]; exact HT.out
        have HLG1 : Hid ((dDo (wMake nm) s).log.length ≤ 500000001) := by have := HL.out; unfold Hid dDo; simp; omega
        have HLL : Hid (s.log.length ≤ 1000000000) := by have := HL.out; unfold Hid; omega
        clear hok hin hfull hw hk1 hk2 hk3 hk4
        go_enter Tryz.func19, Tryz.ntmps19
        go_wp2_with fail
        (with_reducible refine (dnamed_any w nm).mono ?_)
        rw [HOK.out]
        rintro e w1 ⟨rfl, rfl⟩
        go_wp2_with fail
        (with_reducible refine (dTotal_any HD.out HTOT.out).mono ?_)
        rintro e w2 ⟨rfl, hu2⟩
        have HU2 := Lib.hid hu2
        have c0 := hu2.cell C0.out (by simp)
        clear hu2
        go_wp2_with fail
        (with_reducible refine (HGET.out w2 HU2.out).mono ?_)
        rintro e w3 ⟨rfl, hu3⟩
        have HU3 := Lib.hid (HU2.out.seq hu3)
        clear hu3 c0 q hwr htot
        go_wp2_with fail
        (with_reducible refine (dDo_any (wMake nm) (HD.out.upd0 HU3.out) HW.out rfl HLL.out).mono ?_)
        rintro e w5 ⟨rfl, ho5⟩
        have HO5 := Lib.hid (ho5.later HU3.out)
        obtain ⟨G5, hd5, hu5, hg5⟩ := HO5.out
        have D1 := Lib.hid hd5
        have HU5 := Lib.hid hu5
        have HG5 := Lib.hid hg5
        have HP1 := Lib.hid (bytes_upd HP.out hu5 HAP.out)
        clear ho5 hd5 hu5 hg5 HO5
        have HRUN := Lib.hid (fun ty => run_app (P := Tryz.prog) (w := w5) (ty := ty) bv_one Tryz.underlying28 infoB8 rfl (.slice none 0 0) (.slice ap p.length cp) [] p (World.ownsRow_nil w5 (w5.heap).size _ 1) HP1.out (by simp; omega) (by simp [maxLen]; omega) (Nat.le_refl _))
        go_wp2_with (at_builtin; go_must (refine wpList_app_of rfl _ _ rfl (.slice none 0 0) (.slice ap p.length cp) rfl rfl (HRUN.out _) ?_; rintro v2 w2 ⟨ho2, hu2, hk2⟩; have HU2 := Lib.hid (hu2.mono (T := []) (by simp [blk])); obtain ⟨⟨a2, n2, k2⟩, G2, rfl, hd2, hg2, hg2'⟩ := D1.out.bytes (l := p) ho2 HU2.out; have HD2 := Lib.hid hd2; have HG2 := Lib.hid hg2; have HG2' := Lib.hid hg2'; clear ho2 hu2 hk2 hd2 hg2 hg2' HRUN; dsimp only))
        go_loopw [2] (fun v wr => ∃ (k : Nat) (sl : Sl) (G' : List Nat), k ≤ (chunks p).length ∧ v = .slice sl.a sl.n sl.k ∧ Hid (DP w0 wr gd G' (dPut nm (dDo (wMake nm) s) ((chunks p).take k)) sl (p.drop (32 * k))) ∧ Hid (Upd G5 w5 wr) ∧ Hid (∀ x ∈ G', x ∈ G5 ∨ (w5.heap).size ≤ x)) (fun v _ => lenV v)
        case atStart => exact ⟨0, ⟨a2, n2, k2⟩, G2, Nat.zero_le _, rfl, HD2.out, HU2.out.mono (by simp), HG2.out⟩
        case round =>
          obtain ⟨k, ⟨sa, sn, sk⟩, G', hk, rfl, hd, hu, hg⟩ := hrel
          clear HD2 HU2 HG2 HG2'
          have hform := hd.out.form
          dsimp only at hform
          obtain ⟨hf1, hf2, hf3⟩ := hform
          rw [List.length_drop] at hf1
          have hcl := chunks_len p
          by_cases hlt : k < (chunks p).length
          · have hpos : 32 * k < p.length := by omega
            obtain ⟨hw0, hstep⟩ : WrOk (wPut nm ((p.drop (32 * k)).take 32)) (dPut nm (dDo (wMake nm) s) ((chunks p).take k)).now ∧ (dPut nm (dDo (wMake nm) s) ((chunks p).take k)).log.length ≤ 1000000000 := by
              have ih := PutOk.all p D1.out.ok HIN1.out HLN1.out HTT1.out k hk
              have hcl2 : ((p.drop (32 * k)).take 32).length = min 32 (p.length - 32 * k) := by rw [List.length_take, List.length_drop]
              have htt := HTT1.out
              refine ⟨(ih.step ((p.drop (32 * k)).take 32) (fun q => by rw [q] at hcl2; simp at hcl2; omega) HLN1.out (by rw [hcl2]; omega)).1, ?_⟩
              have := ih.log
              have := HLG1.out
              omega
            have HWO := Lib.hid hw0
            have HLO := Lib.hid hstep
            have HDT := Lib.hid (dPut_take nm (dDo (wMake nm) s) p k hlt)
            obtain ⟨m, hmd⟩ : ∃ m, m = min sn 32 := ⟨_, rfl⟩
            have HM1 : Hid ((p.drop (32 * k)).take 32 = (p.drop (32 * k)).take m) := by
              unfold Hid
              rcases Nat.lt_or_ge sn 32 with q | q
              · rw [List.take_of_length_le (by rw [List.length_drop]; omega), List.take_of_length_le (by rw [List.length_drop]; omega)]
              · rw [show m = 32 by omega]
            have HM2 : Hid ((p.drop (32 * k)).drop m = p.drop (32 * (k + 1))) := by
              unfold Hid
              rw [List.drop_drop]
              rcases Nat.lt_or_ge sn 32 with q | q
              · rw [List.drop_of_length_le (by omega), List.drop_of_length_le (by omega)]
              · rw [show 32 * k + m = 32 * (k + 1) by omega]
            have HM3 : Hid (m ≤ (p.drop (32 * k)).length) := by unfold Hid; rw [List.length_drop]; omega
            have hm1 : m ≤ sn := by omega
            have hm0 : 0 < m := by omega
            have HLD : Hid ((p.drop (32 * k)).length = sn) := by unfold Hid; rw [List.length_drop]; omega
            obtain ⟨A, hA, hcut2⟩ : ∃ A : Option Addr, A = (if sk = m then sa else sa.map (·.add m)) ∧ ∀ W, (Instr.slice 28 (.slice sa sn sk) (some (.int .i64 (m : Int))) none none).run Tryz.prog W = .ok (.slice A (sn - m) (sk - m)) W :=
              ⟨_, rfl, fun W => by have h := run_cut (P := Tryz.prog) (size := 1) Tryz.underlying28 (by kernel_rfl) sa sn sk m hm1 W; simpa using h⟩
            have hcut1 := fun W => run_cut_h (P := Tryz.prog) (size := 1) Tryz.underlying28 (by kernel_rfl) sa sn sk m (by omega) W
            have HA := Lib.hid hA
            have hpz : (0 : Int) < sn := by omega
            have HMD := Lib.hid hmd
            clear hw0 hstep hA hf1 hcl
            have fin : Hid (∀ w' G2, DP w0 w' gd G2 (dDo (wPut nm ((p.drop (32 * k)).take m)) (dPut nm (dDo (wMake nm) s) ((chunks p).take k))) ⟨sa, sn, sk⟩ (p.drop (32 * k)) → DP w0 w' gd G2 (dPut nm (dDo (wMake nm) s) ((chunks p).take (k + 1))) ⟨A, sn - m, sk - m⟩ (p.drop (32 * (k + 1)))) := fun w' G2 h => by
              have h2 := h.drop_ m HM3.out
              rw [HM2.out, HLD.out] at h2
              dsimp only at h2
              rw [← HA.out] at h2
              rw [HDT.out, HM1.out]; exact h2
            rw [HM1.out] at HWO
            rcases Nat.lt_or_ge 32 sn with q | q
            · obtain rfl : m = 32 := by omega
              have q1 : (32 : Int) < sn := by omega
              clear q hmd
              go_wp2_with fail
              (with_reducible refine (dpPut_any nm _ hd.out HM3.out HWO.out HLO.out).mono ?_)
              rintro e w4 ⟨rfl, G4, h4, hu4, hg4⟩
              have H4 := Lib.hid (fin.out w4 G4 h4)
              try rw [Nat.sub_self] at H4
              have HU4 : Hid (Upd G5 w5 w4) := hu.out.trans hu4 (fun x hx => hx) hg.out
              have HG4 : Hid (∀ x ∈ G4, x ∈ G5 ∨ (w5.heap).size ≤ x) := fun x hx => by
                have := hu.out.size
                rcases hg4 x hx with r | r
                · exact hg.out x r
                · exact .inr (by omega)
              clear h4 hu4 hg4 fin
              go_wp2_with fail
              go_roundw
              case rel => exact ⟨k + 1, ⟨A, _, _⟩, G4, by omega, by first | rfl | (rw [HA.out, if_neg (by omega)]; rfl), H4, HU4, HG4⟩
              case measure => simp [lenV]; omega
            · obtain rfl : m = sn := by omega
              have q1 : ¬ (32 : Int) < m := by omega
              clear q hmd
              go_wp2_with fail
              (with_reducible refine (dpPut_any nm _ hd.out HM3.out HWO.out HLO.out).mono ?_)
              rintro e w4 ⟨rfl, G4, h4, hu4, hg4⟩
              have H4 := Lib.hid (fin.out w4 G4 h4)
              try rw [Nat.sub_self] at H4
              have HU4 : Hid (Upd G5 w5 w4) := hu.out.trans hu4 (fun x hx => hx) hg.out
              have HG4 : Hid (∀ x ∈ G4, x ∈ G5 ∨ (w5.heap).size ≤ x) := fun x hx => by
                have := hu.out.size
                rcases hg4 x hx with r | r
                · exact hg.out x r
                · exact .inr (by omega)
              clear h4 hu4 hg4 fin
              go_wp2_with fail
              go_roundw
              case rel => exact ⟨k + 1, ⟨A, _, _⟩, G4, by omega, by first | rfl | (rw [HA.out, if_neg (by omega)]; rfl), H4, HU4, HG4⟩
              case measure => simp [lenV]; omega
          · obtain rfl : k = (chunks p).length := by omega
            have hz : sn = 0 := by omega
            have HF : Hid (DP w0 wr gd G' (dPut nm (dDo (wMake nm) s) (chunks p)) ⟨sa, sn, sk⟩ (p.drop (32 * (chunks p).length))) := by have := hd.out; rwa [List.take_length] at this
            have HFO := Lib.hid hf1
            clear hf1 hcl hd
            subst hz
            go_wp2_with fail
            go_ret
            exact ⟨by rw [HR.out]; rfl, by rw [HR.out]; exact DOut.dp HF.out HU5.out HG5.out hu.out hg.out⟩
end
end Go.Proofs.YtmhojaiajhdlcaaGreat
namespace Go.Proofs.YtmhojaiajhdlcaaGreat
open Go.RowKit
set_option linter.unusedSimpArgs false
set_option linter.unusedVariables false
theorem OwnN.base_le {α : Type} {sz : Nat} {c : α → List Value} {base base' : Nat} {e : TypeId} {w : World} {v : Value} {l : List α} (h : OwnN sz c base e w v l) (hb : base' ≤ base) : OwnN sz c base' e w v l := by
  obtain ⟨h1, h2⟩ := h
  refine ⟨h1, ?_⟩
  rcases h2 with h2 | ⟨g, cap, cur, rfl, hb', hg, r⟩
  · exact .inl h2
  · exact .inr ⟨g, cap, cur, rfl, by omega, hg, r⟩
theorem LC.rebase {w0 w W : World} {gl gd gm : Nat} {lv : Value} {rl : List Rec} (h : LC w W gl gd gm lv rl) (hu : Upd [] w0 w) : LC w0 W gl gd gm lv rl :=
  ⟨h.top, h.rows.base_le hu.size, h.map, Nat.le_trans hu.size h.glb, Nat.le_trans hu.size h.gmb, hu.seq h.old⟩
theorem LC.new (w : World) (gd : Nat) : LC w ((w.alloc (.map #[] 0)).alloc (.cells #[.pointer (some ⟨gd, 0, none⟩), .slice none 0 0, .map (some w.heap.size)] 123)) (w.heap.size + 1) gd w.heap.size (.slice none 0 0) [] := by
  have hu1 : Upd [] w (w.alloc (.map #[] 0)) := (Upd.refl [] w).alloc _
  have hsz : (w.alloc (.map #[] 0)).heap.size = w.heap.size + 1 := by simp
  have hu2 : Upd [] (w.alloc (.map #[] 0)) ((w.alloc (.map #[] 0)).alloc (.cells #[.pointer (some ⟨gd, 0, none⟩), .slice none 0 0, .map (some w.heap.size)] 123)) := (Upd.refl [] _).alloc _
  have hb := Blk.new (w.alloc (.map #[] 0)) 123 [.pointer (some ⟨gd, 0, none⟩), .slice none 0 0, .map (some w.heap.size)]
  rw [hsz] at hb
  exact ⟨hb, OwnN.nil _ _ _, (KMap.new w).upd hu2 (by simp), by omega, Nat.le_refl _, hu1.seq hu2⟩
theorem rec_key64 {r : Rec} (h : recOk r = true) : Key64 r.key := by
  have hi := recOk_in h
  have i1 := hi.ino
  have i2 := hi.gen
  have i3 := hi.at_
  have i4 := hi.rule
  exact ⟨⟨by omega, by omega⟩, ⟨by omega, by omega⟩, ⟨by omega, by omega⟩, by unfold maxLen; omega⟩
theorem pair_rec (q : Rec × Bool) : ∃ ino gen at_ rule kind c0 c1 c2 c3 c4 c5 c6 c7 c8 c9 ok, q = (mkRec ino gen at_ rule kind c0 c1 c2 c3 c4 c5 c6 c7 c8 c9, ok) := by
  obtain ⟨X, ok⟩ := q
  obtain ⟨ino, gen, at_, rule, kind, c0, c1, c2, c3, c4, c5, c6, c7, c8, c9, rfl⟩ := rec_mk X
  exact ⟨ino, gen, at_, rule, kind, c0, c1, c2, c3, c4, c5, c6, c7, c8, c9, ok, rfl⟩
theorem ledGet_c (w : World) (u : Value) (B : List UInt8) (ino gen at_ : Int) (rule : ByteArray) (kind c0 c1 c2 c3 c4 c5 c6 c7 c8 c9 : Int) (ok : Bool) (h : Bytes w u B) (hz : B.length ≤ 140737488351232) (hX : getRec B = (mkRec ino gen at_ rule kind c0 c1 c2 c3 c4 c5 c6 c7 c8 c9, ok)) :
    Calls Tryz.prog 10 #[u] w fun e w' => e = .returned (.tuple #[mkVal ino gen at_ rule kind c0 c1 c2 c3 c4 c5 c6 c7 c8 c9, .bool ok]) ∧ Upd [] w w' := by
  have h1 := ledGet_any w u B h hz
  rw [hX] at h1
  exact h1
/-- A ledger on a disk. -/
structure LD (w0 w : World) (gd gl : Nat) (F G : List Nat) (rl : List Rec) (s : DS) : Prop where
  lc : ∃ gm lv, LC w0 w gl gd gm lv rl ∧ F = lfoot gl gm lv
  dd : DD w0 w gd G s
  ap : Ap F G
  ok : ∀ r ∈ rl, recOk r = true
def LOut (w0 w : World) (gd gl : Nat) (S : List Nat) (rl : List Rec) (s : DS) (w' : World) : Prop := ∃ F' G', LD w0 w' gd gl F' G' rl s ∧ Upd S w w' ∧ (∀ x ∈ F', x ∈ S ∨ w.heap.size ≤ x) ∧ (∀ x ∈ G', x ∈ S ∨ w.heap.size ≤ x)
section
variable {w0 w w' : World} {gd gl : Nat} {F G : List Nat} {rl : List Rec} {s s' : DS}
/-- Behind a cut, or none. -/
theorem lopen_done {gm : Nat} {lv : Value} {W W' : World} (h : DD w0 w gd G s) (hc : LC w W gl gd gm lv rl) (hok : ∀ r ∈ rl, recOk r = true) (hd : DOut w0 W gd G s' W') (hG : ∀ x ∈ G, x < w.heap.size) : LOut w0 w gd gl G rl s' W' := by
  obtain ⟨G', k1, k2, k3⟩ := hd
  have hge := hc.ge
  have hap : ∀ x ∈ lfoot gl gm lv, x ∉ G := fun x hx hg => by have := (hge x hx).1; have := hG x hg; omega
  have hl := (hc.rebase h.old).upd k2 hap (fun x hx => (h.ge x hx).1)
  have hs := hc.old.size
  refine ⟨lfoot gl gm lv, G', ⟨⟨gm, lv, hl, rfl⟩, k1, fun x hx hg => ?_, hok⟩, hc.old.trans k2 (by simp) (fun x hx => .inl hx), fun x hx => .inr (hge x hx).1, fun x hx => (k3 x hx).imp id (fun q => by omega)⟩
  rcases k3 x hg with q | q
  · exact hap x hx q
  · have := (hge x hx).2; omega
set_option maxRecDepth 20000 in
set_option maxHeartbeats 8000000 in
theorem ledOpen_any (h : DD w0 w gd G s) (hn : s.now.length ≤ 5000) (hl : s.log.length ≤ 1000000000) :
    Calls Tryz.prog 23 #[.pointer (some ⟨gd, 0, none⟩)] w fun e w' => ∃ gl, e = .returned (.tuple #[.pointer (some ⟨gl, 0, none⟩), .int .i64 0]) ∧ LOut w0 w gd gl G (lOpen s).1 (lOpen s).2 w' := by
  have hG : ∀ x ∈ G, x < w.heap.size := fun x hx => (h.ge x hx).2
  have HG := Lib.hid hG
  have HD := Lib.hid h
  have HN := Lib.hid hn
  have HLG := Lib.hid hl
  have HL0 := Lib.hid (LC.new w gd)
  have htot := get_le_total s.now nmL
  have htot2 := h.ok.tot
  have hmm := @run_makeMap Tryz.prog
  clear h hG hn hl
  go_enter Tryz.func23, Tryz.ntmps23
  go_wp2_with fail
  have HLC0 := HL0
  generalize (w.alloc (.map #[] 0)).alloc (.cells #[.pointer (some ⟨gd, 0, none⟩), .slice none 0 0, .map (some w.heap.size)] 123) = w2 at *
  (with_reducible refine (dkRead_any nmL (HD.out.upd0 HL0.out.old) (by have := HN.out; omega)).mono ?_)
  rintro e w3 ⟨vb, rfl, hob, hu3⟩
  obtain ⟨b, hb⟩ : ∃ b, (dGet s.now nmL).1 = b := ⟨_, rfl⟩
  rw [hb] at hob htot
  have HB := Lib.hid hb
  have hbl : b.length ≤ 16777216 := by omega
  have HBL := Lib.hid hbl
  have HL3 := Lib.hid (HL0.out.upd0 hu3)
  have HAB : Hid (∀ x ∈ blk vb, x ∉ lfoot (w.heap.size + 1) w.heap.size (.slice none 0 0)) := fun x hx hf => by
    have h1 := (hob.ge x hx).1
    have h2 := (HL0.out.ge x hf).2
    omega
  have HRB : Hid (Bytes w3 vb b) := hob.rd
  obtain ⟨ba, bk, rfl, hbk1, hbk2, -⟩ := hob.rd
  have hbk3 : bk ≤ 9223372036854775807 := by unfold maxLen at hbk2; omega
  generalize w.heap.size + 1 = gl at *
  obtain ⟨gm, hgm⟩ : ∃ gm, w.heap.size = gm := ⟨_, rfl⟩
  have HGM := Lib.hid hgm
  rw [hgm] at HL3 HAB
  clear hob hu3 hb htot htot2 hbk2 hgm HL0 HLC0 hmm
  go_wp2_with fail
  go_loopw [7] (fun i wr => ∃ (k : Nat) (rl : List Rec) (la : Option Addr) (ln lk : Nat), i = .int .i64 k ∧ Hid (LC w wr gl gd gm (.slice la ln lk) rl) ∧ Hid (∀ r ∈ rl, recOk r = true) ∧ k ≤ b.length ∧ Hid (rl.length ≤ k) ∧ Hid (scanL b (b.length + 1 - rl.length) k rl = lScan b) ∧ Hid (Bytes wr (.slice ba b.length bk) b) ∧ Hid (∀ x ∈ blk (.slice ba b.length bk), x ∉ lfoot gl gm (.slice la ln lk))) (fun i _ => b.length - (intOf i).toNat)
  case atStart => exact ⟨0, [], none, 0, 0, rfl, HL3.out, (fun r hr => by simp at hr), Nat.zero_le _, Nat.le_refl _, rfl, HRB.out, HAB.out⟩
  case round =>
    obtain ⟨k, rl, la, ln, lk, rfl, hlc, hok, hk, hrk, hsc, hrb, hab⟩ := hrel
    clear HL3 HAB HRB
    obtain ⟨p, tn, er, hq⟩ : ∃ p t e, nextF b (k : Int) = (p, t, e) := ⟨_, _, _, rfl⟩
    have HQ := Lib.hid hq
    have HKI : Hid (I64 (k : Int)) := ⟨by omega, by omega⟩
    have HNS : Hid (∀ x, scanL b (b.length + 1 - rl.length) k rl = x ↔ (match nxt b k rl with | some q => scanL b (b.length - rl.length) q.2 (rl ++ [q.1]) | none => (rl, k)) = x) := by
      intro x
      have h1 := hrk.out
      obtain ⟨f, hf⟩ : ∃ f, b.length + 1 - rl.length = f + 1 := ⟨b.length - rl.length, by omega⟩
      have hf2 : b.length - rl.length = f := by omega
      rw [hf, hf2]; exact Iff.rfl
    go_wp2_with fail
    (with_reducible refine (fNext_any _ b (k : Int) wr hrb.out (by have := HBL.out; omega) HKI.out).mono ?_)
    unfold NextSaid
    rw [HQ.out]
    rintro e w4 ⟨vp, rfl, hop, hu4⟩
    have HC4 := Lib.hid (hlc.out.upd0 hu4)
    have HB4 := Lib.hid (hrb.out.upd0 hu4)
    have HP4 : Hid (Bytes w4 vp p) := hop.rd
    obtain ⟨pa, pk, rfl, -⟩ := hop.rd
    clear hop hu4 hlc hrb hq
    dsimp only
    by_cases he0 : er = 0
    · subst he0
      have hto := nextF_to b k hk (by rw [HQ.out])
      rw [HQ.out] at hto
      obtain ⟨m, hm1, hm2, hm3, hm4, hm5⟩ := hto
      dsimp only at hm4 hm5
      subst hm4
      have HPL : Hid (p.length ≤ 140737488351232) := by unfold Hid; omega
      have HM3 := Lib.hid hm3
      have HM1 := Lib.hid hm1
      have hto0 : ((k : Int) + 8 + (m : Int) = ((k + 8 + m : Nat) : Int)) := by omega
      have HTO := Lib.hid hto0
      clear hm1 hm2 hm3 hm5 hto0
      obtain ⟨ino, gen, at_, rule, kind, c0, c1, c2, c3, c4, c5, c6, c7, c8, c9, ok, hX⟩ := pair_rec (getRec p)
      have HX := Lib.hid hX
      go_wp2_with fail
      (with_reducible refine (ledGet_c w4 _ p ino gen at_ rule kind c0 c1 c2 c3 c4 c5 c6 c7 c8 c9 ok HP4.out HPL.out HX.out).mono ?_)
      rintro e w5 ⟨rfl, hu5⟩
      have HC5 := Lib.hid (HC4.out.upd0 hu5)
      have HB5 := Lib.hid (HB4.out.upd0 hu5)
      clear hu5 HC4 HB4 HP4 hX
      have hu6 : Upd [] w5 (w5.alloc (.cells #[.int .i64 ino, .int .i64 gen, .int .i64 at_, .string rule, .int .i64 kind, .int .i64 c0, .int .i64 c1, .int .i64 c2, .int .i64 c3, .int .i64 c4, .int .i64 c5, .int .i64 c6, .int .i64 c7, .int .i64 c8, .int .i64 c9] 27)) := (Upd.refl [] w5).alloc _
      have HC6 := Lib.hid (HC5.out.upd0 hu6)
      have HB6 := Lib.hid (HB5.out.upd0 hu6)
      have hx6 : Blk (w5.alloc (.cells #[.int .i64 ino, .int .i64 gen, .int .i64 at_, .string rule, .int .i64 kind, .int .i64 c0, .int .i64 c1, .int .i64 c2, .int .i64 c3, .int .i64 c4, .int .i64 c5, .int .i64 c6, .int .i64 c7, .int .i64 c8, .int .i64 c9] 27)) w5.heap.size 27 [.int .i64 ino, .int .i64 gen, .int .i64 at_, .string rule, .int .i64 kind, .int .i64 c0, .int .i64 c1, .int .i64 c2, .int .i64 c3, .int .i64 c4, .int .i64 c5, .int .i64 c6, .int .i64 c7, .int .i64 c8, .int .i64 c9] := Blk.new w5 _ [.int .i64 ino, .int .i64 gen, .int .i64 at_, .string rule, .int .i64 kind, .int .i64 c0, .int .i64 c1, .int .i64 c2, .int .i64 c3, .int .i64 c4, .int .i64 c5, .int .i64 c6, .int .i64 c7, .int .i64 c8, .int .i64 c9]
      have HX6 := Lib.hid hx6
      cases ok with
      | false =>
        have HE : Hid (lScan b = (rl, k)) := by
          unfold Hid
          have h1 := hsc.out
          rw [HNS.out] at h1
          rw [← h1]
          have : nxt b k rl = none := by
            unfold nxt
            rw [HQ.out]; dsimp only
            rw [HX.out, if_neg (fun q => absurd q.2.1 (by simp))]
          simp only [this]
        clear hx6 hu6 HC5 HB5
        by_cases hlt : k < b.length
        · have q1 : (k : Int) < b.length := by omega
          have HEQ : Hid (lOpen s = (rl, (dCut s nmL (k : Int)).2)) := by unfold Hid lOpen; rw [HB.out, HE.out, if_pos hlt]
          go_wp2_with fail
          (with_reducible refine (dCut_any nmL (k : Int) HKI.out (HD.out.upd0 HC6.out.old) HN.out HLG.out).mono ?_)
          rintro e wz ⟨rfl, hdz⟩
          have HZ := Lib.hid (lopen_done HD.out HC6.out hok.out hdz HG.out)
          clear hdz
          go_wp2_with fail
          go_ret2
          exact ⟨gl, rfl, by rw [HEQ.out]; exact HZ.out⟩
        · have q1 : ¬ (k : Int) < b.length := by omega
          have HEQ : Hid (lOpen s = (rl, s)) := by unfold Hid lOpen; rw [HB.out, HE.out, if_neg hlt]
          have HZ := Lib.hid (lopen_done HD.out HC6.out hok.out ((HD.out.upd0 HC6.out.old).out0 (Upd.refl [] _)) HG.out)
          go_wp2_with fail
          go_ret2
          exact ⟨gl, rfl, by rw [HEQ.out]; exact HZ.out⟩
      | true =>
        have d0 := hx6.cell 0
        have d1 := hx6.cell 1
        have d2 := hx6.cell 2
        have d3 := hx6.cell 3
        simp only [List.getElem?_cons_zero, List.getElem?_cons_succ] at d0 d1 d2 d3
        have hk64 : Key64 ⟨ino, gen, at_, rule⟩ := rec_key64 (r := mkRec ino gen at_ rule kind c0 c1 c2 c3 c4 c5 c6 c7 c8 c9) (by have := (enc_get (B := p) (by rw [HX.out])).1; rw [HX.out] at this; exact this)
        have HRO : Hid (recOk (mkRec ino gen at_ rule kind c0 c1 c2 c3 c4 c5 c6 c7 c8 c9) = true) := by have := (enc_get (B := p) (by rw [HX.out])).1; rw [HX.out] at this; exact this
        have HK6 := Lib.hid hk64
        clear hx6 hu6 HC5 HB5 hk64
        go_wp2_with fail
        generalize w5.alloc (.cells #[.int .i64 ino, .int .i64 gen, .int .i64 at_, .string rule, .int .i64 kind, .int .i64 c0, .int .i64 c1, .int .i64 c2, .int .i64 c3, .int .i64 c4, .int .i64 c5, .int .i64 c6, .int .i64 c7, .int .i64 c8, .int .i64 c9] 27) = w6 at *
        generalize w5.heap.size = gx at *
        (with_reducible refine (ledHas_c HC6.out ino gen at_ rule HK6.out).mono ?_)
        rintro e w7 ⟨rfl, hu7⟩
        have HC7 := Lib.hid (HC6.out.upd0 hu7)
        have HB7 := Lib.hid (HB6.out.upd0 hu7)
        have hx7 := HX6.out.upd hu7 (by simp)
        cases hhas : hasK rl ⟨ino, gen, at_, rule⟩ with
        | true =>
          have HE : Hid (lScan b = (rl, k)) := by
            unfold Hid
            have h1 := hsc.out
            rw [HNS.out] at h1
            rw [← h1]
            have : nxt b k rl = none := by
              unfold nxt
              rw [HQ.out]; dsimp only
              rw [HX.out, if_neg (fun q => by have := q.2.2; dsimp only at this; rw [hhas] at this; exact absurd this (by simp))]
            simp only [this]
          clear hhas hx7 hu7 HC6 HB6 HX6 d0 d1 d2 d3
          by_cases hlt : k < b.length
          · have q1 : (k : Int) < b.length := by omega
            have HEQ : Hid (lOpen s = (rl, (dCut s nmL (k : Int)).2)) := by unfold Hid lOpen; rw [HB.out, HE.out, if_pos hlt]
            go_wp2_with fail
            (with_reducible refine (dCut_any nmL (k : Int) HKI.out (HD.out.upd0 HC7.out.old) HN.out HLG.out).mono ?_)
            rintro e wz ⟨rfl, hdz⟩
            have HZ := Lib.hid (lopen_done HD.out HC7.out hok.out hdz HG.out)
            clear hdz
            go_wp2_with fail
            go_ret2
            exact ⟨gl, rfl, by rw [HEQ.out]; exact HZ.out⟩
          · have q1 : ¬ (k : Int) < b.length := by omega
            have HEQ : Hid (lOpen s = (rl, s)) := by unfold Hid lOpen; rw [HB.out, HE.out, if_neg hlt]
            have HZ := Lib.hid (lopen_done HD.out HC7.out hok.out ((HD.out.upd0 HC7.out.old).out0 (Upd.refl [] _)) HG.out)
            go_wp2_with fail
            go_ret2
            exact ⟨gl, rfl, by rw [HEQ.out]; exact HZ.out⟩
        | false =>
          have HNX : Hid (scanL b (b.length + 1 - (rl ++ [mkRec ino gen at_ rule kind c0 c1 c2 c3 c4 c5 c6 c7 c8 c9]).length) (k + 8 + m) (rl ++ [mkRec ino gen at_ rule kind c0 c1 c2 c3 c4 c5 c6 c7 c8 c9]) = lScan b) := by
            have h1 := hsc.out
            rw [HNS.out] at h1
            have h2 : nxt b k rl = some (mkRec ino gen at_ rule kind c0 c1 c2 c3 c4 c5 c6 c7 c8 c9, k + 8 + m) := by
              unfold nxt
              rw [HQ.out]; dsimp only
              rw [HX.out, if_pos ⟨rfl, rfl, hhas⟩, Int.toNat_natCast]
            rw [h2] at h1
            have h3 : b.length + 1 - (rl ++ [mkRec ino gen at_ rule kind c0 c1 c2 c3 c4 c5 c6 c7 c8 c9]).length = b.length - rl.length := by rw [List.length_append, List.length_singleton]; omega
            unfold Hid
            rw [h3]; exact h1
          have e0 := hx7.cell 0
          have e1 := hx7.cell 1
          have e2 := hx7.cell 2
          have e3 := hx7.cell 3
          have e4 := hx7.cell 4
          have e5 := hx7.cell 5
          have e6 := hx7.cell 6
          have e7 := hx7.cell 7
          have e8 := hx7.cell 8
          have e9 := hx7.cell 9
          have e10 := hx7.cell 10
          have e11 := hx7.cell 11
          have e12 := hx7.cell 12
          have e13 := hx7.cell 13
          have e14 := hx7.cell 14
          simp only [List.getElem?_cons_zero, List.getElem?_cons_succ] at e0 e1 e2 e3 e4 e5 e6 e7 e8 e9 e10 e11 e12 e13 e14
          have HRL : Hid (rl.length ≤ 100000000) := by have := hrk.out; have := HBL.out; unfold Hid; omega
          clear hhas hx7 hu7 HC6 HB6 HX6 hsc HNS d0 d1 d2 d3
          go_wp2_with fail
          (with_reducible refine (ledKeep_c HC7.out ino gen at_ rule kind c0 c1 c2 c3 c4 c5 c6 c7 c8 c9 HK6.out HRL.out).mono ?_)
          rintro e w8 ⟨rfl, lv8, hc8, hu8, hb8⟩
          obtain ⟨l8, k8, rfl, -⟩ := own_slice hc8.rows
          have HC8 := Lib.hid hc8
          have HB8 := Lib.hid (HB7.out.upd hu8 hab.out)
          have HA8 : Hid (∀ x ∈ blk (.slice ba b.length bk), x ∉ lfoot gl gm (.slice l8 (rl ++ [mkRec ino gen at_ rule kind c0 c1 c2 c3 c4 c5 c6 c7 c8 c9]).length k8)) := fun x hx hf => by
            have h1 := hab.out x hx
            rcases List.mem_cons.1 hf with q | hf
            · exact h1 (by rw [q]; exact lf_top _ _ _)
            · rcases List.mem_cons.1 hf with q | hf
              · exact h1 (by rw [q]; exact lf_map _ _ _)
              · rcases hb8 x hf with q | q
                · exact h1 (lf_row q)
                · have hne : b ≠ [] := by intro q2; have hm3 := HM3.out; rw [q2] at hm3; simp at hm3
                  have := HB7.out.lt hne x hx
                  omega
          have HO8 : Hid (∀ r ∈ rl ++ [mkRec ino gen at_ rule kind c0 c1 c2 c3 c4 c5 c6 c7 c8 c9], recOk r = true) := fun r hr => by
            rcases List.mem_append.1 hr with q | q
            · exact hok.out r q
            · simp at q; rw [q]; exact HRO.out
          clear hc8 hu8 hb8 HC7 HB7
          go_wp2_with fail
          go_roundw
          case rel => exact ⟨k + 8 + m, _, l8, _, k8, by first | rfl | (congr 1), HC8.out, HO8.out, HM3.out, by have := hrk.out; unfold Hid; rw [List.length_append, List.length_singleton]; omega, HNX.out, HB8.out, HA8.out⟩
          case measure => have := HM3.out; simp [intOf]; omega
    · have ez : (er != 0) = true := by rw [bne_iff_ne]; exact he0
      have HE : Hid (lScan b = (rl, k)) := by
        unfold Hid
        have h1 := hsc.out
        rw [HNS.out] at h1
        rw [← h1]
        have : nxt b k rl = none := by
          unfold nxt
          rw [HQ.out]; dsimp only
          rw [if_neg (fun q => he0 q.1)]
        simp only [this]
      clear he0 HB4 HP4
      by_cases hlt : k < b.length
      · have q1 : (k : Int) < b.length := by omega
        have HEQ : Hid (lOpen s = (rl, (dCut s nmL (k : Int)).2)) := by unfold Hid lOpen; rw [HB.out, HE.out, if_pos hlt]
        go_wp2_with fail
        (with_reducible refine (dCut_any nmL (k : Int) HKI.out (HD.out.upd0 HC4.out.old) HN.out HLG.out).mono ?_)
        rintro e wz ⟨rfl, hdz⟩
        have HZ := Lib.hid (lopen_done HD.out HC4.out hok.out hdz HG.out)
        clear hdz
        go_wp2_with fail
        go_ret2
        exact ⟨gl, rfl, by rw [HEQ.out]; exact HZ.out⟩
      · have q1 : ¬ (k : Int) < b.length := by omega
        have HEQ : Hid (lOpen s = (rl, s)) := by unfold Hid lOpen; rw [HB.out, HE.out, if_neg hlt]
        have HZ := Lib.hid (lopen_done HD.out HC4.out hok.out ((HD.out.upd0 HC4.out.old).out0 (Upd.refl [] _)) HG.out)
        go_wp2_with fail
        go_ret2
        exact ⟨gl, rfl, by rw [HEQ.out]; exact HZ.out⟩
end
end Go.Proofs.YtmhojaiajhdlcaaGreat
namespace Go.Proofs.YtmhojaiajhdlcaaGreat
open Go.RowKit
set_option linter.unusedSimpArgs false
set_option linter.unusedVariables false
section
variable {w0 w w' : World} {gd gl : Nat} {F G : List Nat} {rl : List Rec} {s s' : DS}
theorem LD.old (h : LD w0 w gd gl F G rl s) : Upd [] w0 w := h.dd.old
theorem LD.geF (h : LD w0 w gd gl F G rl s) : ∀ x ∈ F, w0.heap.size ≤ x ∧ x < w.heap.size := by
  obtain ⟨gm, lv, hc, rfl⟩ := h.lc
  exact hc.ge
theorem LD.upd (h : LD w0 w gd gl F G rl s) {S : List Nat} (hu : Upd S w w') (h1 : ∀ x ∈ F, x ∉ S) (h2 : ∀ x ∈ G, x ∉ S) (hS : ∀ x ∈ S, w0.heap.size ≤ x) : LD w0 w' gd gl F G rl s := by
  obtain ⟨gm, lv, hc, rfl⟩ := h.lc
  exact ⟨⟨gm, lv, hc.upd hu h1 hS, rfl⟩, h.dd.upd hu h2 hS, h.ap, h.ok⟩
theorem LD.upd0 (h : LD w0 w gd gl F G rl s) (hu : Upd [] w w') : LD w0 w' gd gl F G rl s := h.upd hu (by simp) (by simp) (by simp)
theorem LD.out0 (h : LD w0 w gd gl F G rl s) (hu : Upd [] w w') : LOut w0 w gd gl (F ++ G) rl s w' :=
  ⟨F, G, h.upd0 hu, hu.mono (by simp), fun x hx => .inl (List.mem_append.2 (.inl hx)), fun x hx => .inl (List.mem_append.2 (.inr hx))⟩
/-- Behind a call on the disk alone. -/
theorem LD.disk (h : LD w0 w gd gl F G rl s) {w1 : World} (hu : Upd [] w w1) (hd : DOut w0 w1 gd G s' w') : ∃ G', LD w0 w' gd gl F G' rl s' ∧ Upd G w w' ∧ (∀ x ∈ G', x ∈ G ∨ w.heap.size ≤ x) := by
  obtain ⟨G', k1, k2, k3⟩ := hd
  have h1 := h.upd0 hu
  have hs := hu.size
  obtain ⟨gm, lv, hc, rfl⟩ := h1.lc
  refine ⟨G', ⟨⟨gm, lv, hc.upd k2 h.ap (fun x hx => (h.dd.ge x hx).1), rfl⟩, k1, fun x hx hg => ?_, h.ok⟩, hu.trans k2 (by simp) (fun x hx => .inl hx), fun x hx => (k3 x hx).imp id (fun q => by omega)⟩
  rcases k3 x hg with q | q
  · exact h.ap x hx q
  · have := (hc.ge x hx).2; omega
theorem LD.out (h : LD w0 w gd gl F G rl s) {G' : List Nat} (h2 : LD w0 w' gd gl F G' rl s') (hu : Upd G w w') (hf : ∀ x ∈ G', x ∈ G ∨ w.heap.size ≤ x) : LOut w0 w gd gl (F ++ G) rl s' w' :=
  ⟨F, G', h2, hu.mono (fun x hx => .inl (List.mem_append.2 (.inr hx))), fun x hx => .inl (List.mem_append.2 (.inl hx)), fun x hx => (hf x hx).imp (fun q => List.mem_append.2 (.inr q)) id⟩
set_option maxRecDepth 20000 in
set_option maxHeartbeats 8000000 in
theorem ledAdd_c (h : LD w0 w gd gl F G rl s) (ino gen at_ : Int) (rule : ByteArray) (kind c0 c1 c2 c3 c4 c5 c6 c7 c8 c9 : Int) (hn : s.now.length ≤ 4999) (hlg : s.log.length ≤ 500000000) (hrl : rl.length ≤ 100000000) :
    Calls Tryz.prog 31 #[.pointer (some ⟨gl, 0, none⟩), mkVal ino gen at_ rule kind c0 c1 c2 c3 c4 c5 c6 c7 c8 c9] w fun e w' => e = .returned (.tuple #[.bool (lAdd rl s (mkRec ino gen at_ rule kind c0 c1 c2 c3 c4 c5 c6 c7 c8 c9)).1.1, .int .i64 (lAdd rl s (mkRec ino gen at_ rule kind c0 c1 c2 c3 c4 c5 c6 c7 c8 c9)).1.2]) ∧ LOut w0 w gd gl (F ++ G) (lAdd rl s (mkRec ino gen at_ rule kind c0 c1 c2 c3 c4 c5 c6 c7 c8 c9)).2.1 (lAdd rl s (mkRec ino gen at_ rule kind c0 c1 c2 c3 c4 c5 c6 c7 c8 c9)).2.2 w' := by
  have hu0 : Upd [] w (w.alloc (.cells #[.int .i64 ino, .int .i64 gen, .int .i64 at_, .string rule, .int .i64 kind, .int .i64 c0, .int .i64 c1, .int .i64 c2, .int .i64 c3, .int .i64 c4, .int .i64 c5, .int .i64 c6, .int .i64 c7, .int .i64 c8, .int .i64 c9] 27)) := (Upd.refl [] w).alloc _
  have HU0 := Lib.hid hu0
  have H0 := Lib.hid h
  have HB0 : Hid (Blk (w.alloc (.cells #[.int .i64 ino, .int .i64 gen, .int .i64 at_, .string rule, .int .i64 kind, .int .i64 c0, .int .i64 c1, .int .i64 c2, .int .i64 c3, .int .i64 c4, .int .i64 c5, .int .i64 c6, .int .i64 c7, .int .i64 c8, .int .i64 c9] 27)) w.heap.size 27 [.int .i64 ino, .int .i64 gen, .int .i64 at_, .string rule, .int .i64 kind, .int .i64 c0, .int .i64 c1, .int .i64 c2, .int .i64 c3, .int .i64 c4, .int .i64 c5, .int .i64 c6, .int .i64 c7, .int .i64 c8, .int .i64 c9]) := Blk.new w _ [.int .i64 ino, .int .i64 gen, .int .i64 at_, .string rule, .int .i64 kind, .int .i64 c0, .int .i64 c1, .int .i64 c2, .int .i64 c3, .int .i64 c4, .int .i64 c5, .int .i64 c6, .int .i64 c7, .int .i64 c8, .int .i64 c9]
  have HN := Lib.hid hn
  have HLG := Lib.hid hlg
  have HRL := Lib.hid hrl
  clear h hu0 hn hlg hrl
  cases hok : recOk (mkRec ino gen at_ rule kind c0 c1 c2 c3 c4 c5 c6 c7 c8 c9) with
  | false =>
    have HOK := Lib.hid hok
    have HE : Hid (lAdd rl s (mkRec ino gen at_ rule kind c0 c1 c2 c3 c4 c5 c6 c7 c8 c9) = ((false, 1), rl, s)) := by unfold Hid lAdd; rw [hok]; rfl
    clear hok
    go_enter Tryz.func31, Tryz.ntmps31
    go_wp2_with fail
    (with_reducible refine (ledRight_c _ ino gen at_ rule kind c0 c1 c2 c3 c4 c5 c6 c7 c8 c9).mono ?_)
    rw [HOK.out]
    rintro e w1 ⟨rfl, hu1⟩
    have HU1 := Lib.hid (HU0.out.seq hu1)
    clear hu1
    go_wp2_with fail
    go_ret2
    exact ⟨by rw [HE.out]; rfl, by rw [HE.out]; exact H0.out.out0 HU1.out⟩
  | true =>
    have HOK := Lib.hid hok
    have HK : Hid (Key64 ⟨ino, gen, at_, rule⟩) := rec_key64 (r := mkRec ino gen at_ rule kind c0 c1 c2 c3 c4 c5 c6 c7 c8 c9) hok
    cases hhas : hasK rl ⟨ino, gen, at_, rule⟩ with
    | true =>
      have HE : Hid (lAdd rl s (mkRec ino gen at_ rule kind c0 c1 c2 c3 c4 c5 c6 c7 c8 c9) = ((false, 0), rl, s)) := by unfold Hid lAdd; rw [hok, if_pos rfl]; dsimp only; rw [hhas]; rfl
      have HH := Lib.hid hhas
      clear hok hhas
      go_enter Tryz.func31, Tryz.ntmps31
      go_wp2_with fail
      (with_reducible refine (ledRight_c _ ino gen at_ rule kind c0 c1 c2 c3 c4 c5 c6 c7 c8 c9).mono ?_)
      rw [HOK.out]
      rintro e w1 ⟨rfl, hu1⟩
      have HU1 := Lib.hid (HU0.out.seq hu1)
      have hb1 := HB0.out.upd hu1 (by simp)
      have d0 := hb1.cell 0
      have d1 := hb1.cell 1
      have d2 := hb1.cell 2
      have d3 := hb1.cell 3
      simp only [List.getElem?_cons_zero, List.getElem?_cons_succ] at d0 d1 d2 d3
      clear hu1 hb1
      go_wp2_with fail
      obtain ⟨gm, lv, hc, -⟩ := H0.out.lc
      (with_reducible refine (ledHas_c (hc.upd0 HU1.out) ino gen at_ rule HK.out).mono ?_)
      rw [HH.out]
      rintro e w2 ⟨rfl, hu2⟩
      have HU2 := Lib.hid (HU1.out.seq hu2)
      clear hu2 hc
      go_wp2_with fail
      go_ret2
      exact ⟨by rw [HE.out]; rfl, by rw [HE.out]; exact H0.out.out0 HU2.out⟩
    | false =>
      obtain ⟨r1, s1, hap⟩ : ∃ r s', dAppend s nmL (frameOf (encRec (mkRec ino gen at_ rule kind c0 c1 c2 c3 c4 c5 c6 c7 c8 c9))) = (r, s') := ⟨_, _, rfl⟩
      have HAP := Lib.hid hap
      have HFL : Hid ((frameOf (encRec (mkRec ino gen at_ rule kind c0 c1 c2 c3 c4 c5 c6 c7 c8 c9))).length ≤ 100000000 ∧ frameOf (encRec (mkRec ino gen at_ rule kind c0 c1 c2 c3 c4 c5 c6 c7 c8 c9)) ≠ []) := by
        have h1 := encRec_len hok
        have h2 := frameOf_len (encRec (mkRec ino gen at_ rule kind c0 c1 c2 c3 c4 c5 c6 c7 c8 c9))
        exact ⟨by omega, fun q => by rw [q] at h2; simp at h2; omega⟩
      have HFP : Hid (putF [] (encRec (mkRec ino gen at_ rule kind c0 c1 c2 c3 c4 c5 c6 c7 c8 c9)) = frameOf (encRec (mkRec ino gen at_ rule kind c0 c1 c2 c3 c4 c5 c6 c7 c8 c9))) := by unfold Hid; rw [putF_fit _ _ (fit_rec hok)]; rfl
      have HEL : Hid ((encRec (mkRec ino gen at_ rule kind c0 c1 c2 c3 c4 c5 c6 c7 c8 c9)).length ≤ 100000) := by have := encRec_len hok; unfold Hid; omega
      have HE : Hid (lAdd rl s (mkRec ino gen at_ rule kind c0 c1 c2 c3 c4 c5 c6 c7 c8 c9) = if r1 = 0 then ((true, 0), rl ++ [mkRec ino gen at_ rule kind c0 c1 c2 c3 c4 c5 c6 c7 c8 c9], s1) else ((false, r1), rl, s1)) := by
        unfold Hid lAdd; rw [hok, if_pos rfl]; dsimp only; rw [hhas, hap]; rfl
      have HH := Lib.hid hhas
      clear hok hhas hap
      go_enter Tryz.func31, Tryz.ntmps31
      go_wp2_with fail
      (with_reducible refine (ledRight_c _ ino gen at_ rule kind c0 c1 c2 c3 c4 c5 c6 c7 c8 c9).mono ?_)
      rw [HOK.out]
      rintro e w1 ⟨rfl, hu1⟩
      have HU1 := Lib.hid (HU0.out.seq hu1)
      have hb1 := HB0.out.upd hu1 (by simp)
      have HB1 := Lib.hid hb1
      have d0 := hb1.cell 0
      have d1 := hb1.cell 1
      have d2 := hb1.cell 2
      have d3 := hb1.cell 3
      simp only [List.getElem?_cons_zero, List.getElem?_cons_succ] at d0 d1 d2 d3
      clear hu1 hb1 HB0 HU0
      go_wp2_with fail
      obtain ⟨gm, lv, hc, hF⟩ := H0.out.lc
      (with_reducible refine (ledHas_c (hc.upd0 HU1.out) ino gen at_ rule HK.out).mono ?_)
      rw [HH.out]
      rintro e w2 ⟨rfl, hu2⟩
      have HU2 := Lib.hid (HU1.out.seq hu2)
      have hb2 := HB1.out.upd hu2 (by simp)
      have HB2 := Lib.hid hb2
      have HL2 := Lib.hid (H0.out.upd0 HU2.out)
      have hgx : w.heap.size < w2.heap.size := hb2.lt
      have HGX : Hid (∀ x ∈ G, x < w.heap.size) := fun x hx => (H0.out.dd.ge x hx).2
      have HGF : Hid (∀ x ∈ F, x < w.heap.size) := fun x hx => (H0.out.geF x hx).2
      have HSZ : Hid (w.heap.size ≤ w2.heap.size) := HU2.out.size
      have gc0 : w2.cell? ⟨gl, 0, none⟩ = some (.pointer (some ⟨gd, 0, none⟩)) := (hc.upd0 HU2.out).top.cell 0
      have d0 := hb2.cell 0
      have d1 := hb2.cell 1
      have d2 := hb2.cell 2
      have d3 := hb2.cell 3
      have d4 := hb2.cell 4
      have d5 := hb2.cell 5
      have d6 := hb2.cell 6
      have d7 := hb2.cell 7
      have d8 := hb2.cell 8
      have d9 := hb2.cell 9
      have d10 := hb2.cell 10
      have d11 := hb2.cell 11
      have d12 := hb2.cell 12
      have d13 := hb2.cell 13
      have d14 := hb2.cell 14
      simp only [List.getElem?_cons_zero, List.getElem?_cons_succ] at d0 d1 d2 d3 d4 d5 d6 d7 d8 d9 d10 d11 d12 d13 d14
      have HS : Hid (∀ W, W = w2 → W.cell? ⟨gl, 0, none⟩ = some (.pointer (some ⟨gd, 0, none⟩)) ∧ W.cell? ⟨w.heap.size, 0, none⟩ = some (.int .i64 ino) ∧ W.cell? ⟨w.heap.size, 1, none⟩ = some (.int .i64 gen) ∧ W.cell? ⟨w.heap.size, 2, none⟩ = some (.int .i64 at_) ∧ W.cell? ⟨w.heap.size, 3, none⟩ = some (.string rule) ∧ W.cell? ⟨w.heap.size, 4, none⟩ = some (.int .i64 kind) ∧ W.cell? ⟨w.heap.size, 5, none⟩ = some (.int .i64 c0) ∧ W.cell? ⟨w.heap.size, 6, none⟩ = some (.int .i64 c1) ∧ W.cell? ⟨w.heap.size, 7, none⟩ = some (.int .i64 c2) ∧ W.cell? ⟨w.heap.size, 8, none⟩ = some (.int .i64 c3) ∧ W.cell? ⟨w.heap.size, 9, none⟩ = some (.int .i64 c4) ∧ W.cell? ⟨w.heap.size, 10, none⟩ = some (.int .i64 c5) ∧ W.cell? ⟨w.heap.size, 11, none⟩ = some (.int .i64 c6) ∧ W.cell? ⟨w.heap.size, 12, none⟩ = some (.int .i64 c7) ∧ W.cell? ⟨w.heap.size, 13, none⟩ = some (.int .i64 c8) ∧ W.cell? ⟨w.heap.size, 14, none⟩ = some (.int .i64 c9)) := by
        rintro W rfl
        exact ⟨gc0, d0, d1, d2, d3, d4, d5, d6, d7, d8, d9, d10, d11, d12, d13, d14⟩
      have HGLG : Hid (gl ∉ G) := fun hx => H0.out.ap gl (by rw [hF]; exact lf_top _ _ _) hx
      have HKEEP : Hid (∀ (T : List Nat) W, (T = [] ∨ T = G) → Upd T w2 W → W.cell? ⟨gl, 0, none⟩ = some (.pointer (some ⟨gd, 0, none⟩)) ∧ W.cell? ⟨w.heap.size, 0, none⟩ = some (.int .i64 ino) ∧ W.cell? ⟨w.heap.size, 1, none⟩ = some (.int .i64 gen) ∧ W.cell? ⟨w.heap.size, 2, none⟩ = some (.int .i64 at_) ∧ W.cell? ⟨w.heap.size, 3, none⟩ = some (.string rule) ∧ W.cell? ⟨w.heap.size, 4, none⟩ = some (.int .i64 kind) ∧ W.cell? ⟨w.heap.size, 5, none⟩ = some (.int .i64 c0) ∧ W.cell? ⟨w.heap.size, 6, none⟩ = some (.int .i64 c1) ∧ W.cell? ⟨w.heap.size, 7, none⟩ = some (.int .i64 c2) ∧ W.cell? ⟨w.heap.size, 8, none⟩ = some (.int .i64 c3) ∧ W.cell? ⟨w.heap.size, 9, none⟩ = some (.int .i64 c4) ∧ W.cell? ⟨w.heap.size, 10, none⟩ = some (.int .i64 c5) ∧ W.cell? ⟨w.heap.size, 11, none⟩ = some (.int .i64 c6) ∧ W.cell? ⟨w.heap.size, 12, none⟩ = some (.int .i64 c7) ∧ W.cell? ⟨w.heap.size, 13, none⟩ = some (.int .i64 c8) ∧ W.cell? ⟨w.heap.size, 14, none⟩ = some (.int .i64 c9)) := by
        intro T W hT hu
        have n1 : gl ∉ T := by rcases hT with rfl | rfl; simp; exact HGLG.out
        have n2 : w.heap.size ∉ T := by
          rcases hT with rfl | rfl
          · simp
          · intro hx; have := HGX.out _ hx; omega
        obtain ⟨g0, g1⟩ := HS.out w2 rfl
        obtain ⟨e0, e1, e2, e3, e4, e5, e6, e7, e8, e9, e10, e11, e12, e13, e14⟩ := g1
        exact ⟨hu.cell g0 n1, hu.cell e0 n2, hu.cell e1 n2, hu.cell e2 n2, hu.cell e3 n2, hu.cell e4 n2, hu.cell e5 n2, hu.cell e6 n2, hu.cell e7 n2, hu.cell e8 n2, hu.cell e9 n2, hu.cell e10 n2, hu.cell e11 n2, hu.cell e12 n2, hu.cell e13 n2, hu.cell e14 n2⟩
      have HC1 : Hid (∀ W, Upd [] w2 W → Calls Tryz.prog 14 #[mkVal ino gen at_ rule kind c0 c1 c2 c3 c4 c5 c6 c7 c8 c9] W fun e w' => ∃ a n k, e = .returned (.slice a n k) ∧ Hid (Own bv w2.heap.size 5 w' (.slice a n k) (encRec (mkRec ino gen at_ rule kind c0 c1 c2 c3 c4 c5 c6 c7 c8 c9))) ∧ Upd [] w2 w') := fun W hW => by
        refine (ledPut_c W ino gen at_ rule kind c0 c1 c2 c3 c4 c5 c6 c7 c8 c9).mono ?_
        rw [HOK.out, if_pos rfl]
        rintro e w' ⟨v, rfl, ho, hu⟩
        obtain ⟨a, k, rfl, -⟩ := ho.rd
        exact ⟨a, _, k, rfl, ho.base_le hW.size, hW.seq hu⟩
      have HC2 : Hid (∀ W a n k, Own bv w2.heap.size 5 W (.slice a n k) (encRec (mkRec ino gen at_ rule kind c0 c1 c2 c3 c4 c5 c6 c7 c8 c9)) → Upd [] w2 W → Calls Tryz.prog 78 #[.slice none 0 0, .slice a n k] W fun e w' => ∃ a n k, e = .returned (.slice a n k) ∧ Hid (Own bv w2.heap.size 5 w' (.slice a n k) (frameOf (encRec (mkRec ino gen at_ rule kind c0 c1 c2 c3 c4 c5 c6 c7 c8 c9)))) ∧ Upd [] w2 w') := fun W a n k ho hW => by
        refine (fPut_any _ _ [] (encRec (mkRec ino gen at_ rule kind c0 c1 c2 c3 c4 c5 c6 c7 c8 c9)) W (Rd.nil _) ho.rd (by simp) (by have := HEL.out; omega)).mono ?_
        rw [HFP.out]
        rintro e w' ⟨v, rfl, ho2, hu⟩
        obtain ⟨a, k, rfl, -⟩ := ho2.rd
        exact ⟨a, _, k, rfl, ho2.base_le hW.size, hW.seq hu⟩
      have HC3 : Hid (∀ W a n k, Own bv w2.heap.size 5 W (.slice a n k) (frameOf (encRec (mkRec ino gen at_ rule kind c0 c1 c2 c3 c4 c5 c6 c7 c8 c9))) → Upd [] w2 W → Calls Tryz.prog 19 #[.pointer (some ⟨gd, 0, none⟩), sv nmL, .slice a n k] W fun e w' => e = .returned (.int .i64 r1) ∧ Hid (DOut w0 W gd G s1 w') ∧ Hid (Upd [] w2 W) ∧ Upd G w2 w') := fun W a n k ho hW => by
        refine (dAppend_any nmL _ _ ho.rd (fun _ x hx hg => by have := (ho.ge x hx).1; have := HGX.out x hg; have := HSZ.out; omega) (HL2.out.dd.upd0 hW) HFL.out.1 HN.out HLG.out).mono ?_
        rw [HAP.out]
        rintro e w' ⟨rfl, hd⟩
        exact ⟨rfl, hd, hW, by obtain ⟨G', k1, k2, k3⟩ := hd; exact hW.trans k2 (by simp) (fun x hx => .inl hx)⟩
      have ru := Upd.refl [] w2
      clear hu2 hb2 hc hF HB1 HU1
      go_wp2_with fail
      go_region_held3 (fun W => W.cell? ⟨gl, 0, none⟩ = some (.pointer (some ⟨gd, 0, none⟩)) ∧ W.cell? ⟨w.heap.size, 0, none⟩ = some (.int .i64 ino) ∧ W.cell? ⟨w.heap.size, 1, none⟩ = some (.int .i64 gen) ∧ W.cell? ⟨w.heap.size, 2, none⟩ = some (.int .i64 at_) ∧ W.cell? ⟨w.heap.size, 3, none⟩ = some (.string rule) ∧ W.cell? ⟨w.heap.size, 4, none⟩ = some (.int .i64 kind) ∧ W.cell? ⟨w.heap.size, 5, none⟩ = some (.int .i64 c0) ∧ W.cell? ⟨w.heap.size, 6, none⟩ = some (.int .i64 c1) ∧ W.cell? ⟨w.heap.size, 7, none⟩ = some (.int .i64 c2) ∧ W.cell? ⟨w.heap.size, 8, none⟩ = some (.int .i64 c3) ∧ W.cell? ⟨w.heap.size, 9, none⟩ = some (.int .i64 c4) ∧ W.cell? ⟨w.heap.size, 10, none⟩ = some (.int .i64 c5) ∧ W.cell? ⟨w.heap.size, 11, none⟩ = some (.int .i64 c6) ∧ W.cell? ⟨w.heap.size, 12, none⟩ = some (.int .i64 c7) ∧ W.cell? ⟨w.heap.size, 13, none⟩ = some (.int .i64 c8) ∧ W.cell? ⟨w.heap.size, 14, none⟩ = some (.int .i64 c9)) (first | go_keep | exact HKEEP.out [] _ (.inl rfl) ru | exact HKEEP.out G _ (.inr rfl) ru3)
        (first
          | (go_at_call 14; (with_reducible refine (HC1.out _ (Upd.seq ru ?_)).mono ?_); (repeat (first | exact Upd.refl _ _ | apply Upd.drew | apply Upd.drewN | apply Upd.alloc)); (rintro _ W1 ⟨a1, n1, k1, rfl, ho1, ru⟩; dsimp only))
          | (go_at_call 78; (with_reducible refine (HC2.out _ a1 n1 k1 (Own.upd (S := []) ho1.out ?_ (by simp)) (Upd.seq ru ?_)).mono ?_); (repeat (first | exact Upd.refl _ _ | apply Upd.drew | apply Upd.drewN | apply Upd.alloc)); (rintro _ W2 ⟨a2, n2, k2, rfl, ho2, ru⟩; dsimp only))
          | (go_at_call 19; (with_reducible refine (HC3.out _ a2 n2 k2 (Own.upd (S := []) ho2.out ?_ (by simp)) (Upd.seq ru ?_)).mono ?_); (repeat (first | exact Upd.refl _ _ | apply Upd.drew | apply Upd.drewN | apply Upd.alloc)); (rintro _ W3 ⟨rfl, hd3, hw3, ru3⟩; dsimp only)))
      all_goals
        obtain ⟨G3, h3, hu3, hf3⟩ := HL2.out.disk hw3.out hd3.out
        have H3 := Lib.hid h3
        have HU3 := Lib.hid hu3
        have HF3 := Lib.hid hf3
        clear hd3 hw3 ru3 ho1 ho2 ru HC1 HC2 HC3 gc0 d0 d1 d2 d3 d4 d5 d6 d7 d8 d9 d10 d11 d12 d13 d14 HL2 h3 hf3
        by_cases hz : r1 = 0
        · subst hz
          have HE2 : Hid (lAdd rl s (mkRec ino gen at_ rule kind c0 c1 c2 c3 c4 c5 c6 c7 c8 c9) = ((true, 0), rl ++ [mkRec ino gen at_ rule kind c0 c1 c2 c3 c4 c5 c6 c7 c8 c9], s1)) := by unfold Hid; rw [HE.out, if_pos rfl]
          obtain ⟨-, e0, e1, e2, e3, e4, e5, e6, e7, e8, e9, e10, e11, e12, e13, e14⟩ := HKEEP.out G W3 (.inr rfl) hu3
          clear hu3
          go_wp2_with fail
          obtain ⟨gm3, lv3, hc3, hF3⟩ := H3.out.lc
          (with_reducible refine (ledKeep_c hc3 ino gen at_ rule kind c0 c1 c2 c3 c4 c5 c6 c7 c8 c9 HK.out HRL.out).mono ?_)
          rintro e w4 ⟨rfl, lv4, hc4, hu4, hb4⟩
          have hge3 := hc3.ge
          have hsz2 := HU2.out.size
          have hsz3 := HU3.out.size
          have hap4 : Ap (lfoot gl gm3 lv4) G3 := fun x hx hg => by
            have hd : x ∈ lfoot gl gm3 lv3 → False := fun q => H3.out.ap x (by rw [hF3]; exact q) hg
            rcases List.mem_cons.1 hx with q | hx
            · exact hd (by rw [q]; exact lf_top _ _ _)
            · rcases List.mem_cons.1 hx with q | hx
              · exact hd (by rw [q]; exact lf_map _ _ _)
              · rcases hb4 x hx with q | q
                · exact hd (lf_row q)
                · have := (H3.out.dd.ge x hg).2; omega
          have hd4 := H3.out.dd.upd hu4 (fun x hx hf => H3.out.ap x (by rw [hF3]; exact hf) hx) (fun x hx => (hge3 x hx).1)
          have hout : LOut w0 w gd gl (F ++ G) (rl ++ [mkRec ino gen at_ rule kind c0 c1 c2 c3 c4 c5 c6 c7 c8 c9]) s1 w4 := by
            refine ⟨lfoot gl gm3 lv4, G3, ⟨⟨gm3, lv4, hc4, rfl⟩, hd4, hap4, fun r hr => ?_⟩, ?_, fun x hx => ?_, fun x hx => ?_⟩
            · rcases List.mem_append.1 hr with q | q
              · exact H3.out.ok r q
              · simp at q; rw [q]; exact HOK.out
            · refine (HU2.out.trans HU3.out (T := F ++ G) (by simp) (fun x hx => .inl (List.mem_append.2 (.inr hx)))).trans hu4 (fun x hx => hx) (fun x hx => .inl (List.mem_append.2 (.inl ?_)))
              rw [hF3]; exact hx
            · have hi : x ∈ lfoot gl gm3 lv3 → x ∈ F ++ G := fun q => List.mem_append.2 (.inl (by rw [hF3]; exact q))
              rcases List.mem_cons.1 hx with q | hx
              · exact .inl (hi (by rw [q]; exact lf_top _ _ _))
              · rcases List.mem_cons.1 hx with q | hx
                · exact .inl (hi (by rw [q]; exact lf_map _ _ _))
                · rcases hb4 x hx with q | q
                  · exact .inl (hi (lf_row q))
                  · exact .inr (by omega)
            · rcases HF3.out x hx with q | q
              · exact .inl (List.mem_append.2 (.inr q))
              · exact .inr (by omega)
          have HOUT := Lib.hid hout
          clear hout hd4 hap4 hc4 hu4 hb4 hc3 hge3
          go_wp2_with fail
          go_ret2
          exact ⟨by rw [HE2.out]; rfl, by rw [HE2.out]; exact HOUT.out⟩
        · have ez : (r1 != 0) = true := by rw [bne_iff_ne]; exact hz
          have HE2 : Hid (lAdd rl s (mkRec ino gen at_ rule kind c0 c1 c2 c3 c4 c5 c6 c7 c8 c9) = ((false, r1), rl, s1)) := by unfold Hid; rw [HE.out, if_neg hz]
          have HOUT : Hid (LOut w0 w gd gl (F ++ G) rl s1 W3) := by
            have hsz2 := HU2.out.size
            exact H0.out.out H3.out (HU2.out.trans HU3.out (by simp) (fun x hx => .inl hx)) (fun x hx => (HF3.out x hx).imp id (fun q => by omega))
          clear hz hu3
          go_wp2_with fail
          go_ret2
          exact ⟨by rw [HE2.out]; rfl, by rw [HE2.out]; exact HOUT.out⟩
theorem ledAdd_any (h : LD w0 w gd gl F G rl s) (r : Rec) (hn : s.now.length ≤ 4999) (hlg : s.log.length ≤ 500000000) (hrl : rl.length ≤ 100000000) {b : Bool} {er : Int} {rl' : List Rec} (he : lAdd rl s r = ((b, er), rl', s')) :
    Calls Tryz.prog 31 #[.pointer (some ⟨gl, 0, none⟩), recVal r] w fun e w' => e = .returned (.tuple #[.bool b, .int .i64 er]) ∧ LOut w0 w gd gl (F ++ G) rl' s' w' := by
  obtain ⟨ino, gen, at_, rule, kind, c0, c1, c2, c3, c4, c5, c6, c7, c8, c9, rfl⟩ := rec_mk r
  have := ledAdd_c h ino gen at_ rule kind c0 c1 c2 c3 c4 c5 c6 c7 c8 c9 hn hlg hrl
  rw [he] at this
  exact this
end
end Go.Proofs.YtmhojaiajhdlcaaGreat
namespace Go.Proofs.YtmhojaiajhdlcaaGreat
open Go.RowKit
set_option linter.unusedSimpArgs false
set_option linter.unusedVariables false
theorem RdN.drop {α : Type} [Inhabited α] {sz : Nat} {c : α → List Value} {w : World} {a : Option Addr} {n cap : Nat} {l : List α} (h : RdN sz c w (.slice a n cap) l) (k : Nat) (hk : k ≤ l.length) :
    RdN sz c w (.slice (if cap = k then a else a.map (·.add (k * sz))) (n - k) (cap - k)) (l.drop k) := by
  obtain ⟨a', cap', he, h1, h2, h3⟩ := h
  injection he with e1 e2 e3; subst e1; subst e2; subst e3
  refine ⟨_, _, by rw [List.length_drop], by rw [List.length_drop]; omega, by omega, fun hne => ?_⟩
  have hlt : k < l.length := by
    rcases Nat.lt_or_ge k l.length with q | q
    · exact q
    · exact absurd (List.drop_eq_nil_of_le q) hne
  obtain ⟨b, off, rfl, hc⟩ := h3 (fun q => by subst q; simp at hlt)
  refine ⟨b, off + k * sz, by rw [if_neg (by omega)]; simp [add_none], fun j hj i hi => ?_⟩
  rw [List.length_drop] at hj
  rw [nth_drop, ← hc (k + j) (by omega) i hi, Nat.add_mul]
  congr 2; omega
theorem RdN.take {α : Type} [Inhabited α] {sz : Nat} {c : α → List Value} {w : World} {a : Option Addr} {n cap : Nat} {l : List α} (h : RdN sz c w (.slice a n cap) l) (k : Nat) (hk : k ≤ l.length) : RdN sz c w (.slice a k cap) (l.take k) := by
  obtain ⟨a', cap', he, h1, h2, h3⟩ := h
  injection he with e1 e2 e3; subst e1; subst e2; subst e3
  refine ⟨_, _, by rw [List.length_take, Nat.min_eq_left hk], by rw [List.length_take]; omega, h2, fun hne => ?_⟩
  obtain ⟨b, off, rfl, hc⟩ := h3 (fun q => hne (by rw [q]; simp))
  refine ⟨b, off, rfl, fun j hj i hi => ?_⟩
  rw [List.length_take] at hj
  rw [nth_take l k j (by omega)]; exact hc j (by omega) i hi
section
variable {w0 w w' : World} {gl gd gm : Nat} {lv : Value} {rl : List Rec}
set_option maxRecDepth 20000 in
theorem ledLen_any (h : LC w0 w gl gd gm lv rl) :
    Calls Tryz.prog 30 #[.pointer (some ⟨gl, 0, none⟩)] w fun e w' => e = .returned (.int .i64 (rl.length : Int)) ∧ w = w' := by
  obtain ⟨a, k, rfl, -⟩ := own_slice h.rows
  have c1 : w.cell? ⟨gl, 1, none⟩ = some (.slice a rl.length k) := h.top.cell 1
  clear h
  go_enter Tryz.func30, Tryz.ntmps30
  go_wp2
  go_ret
  exact ⟨rfl, rfl⟩
set_option maxRecDepth 20000 in
set_option maxHeartbeats 1000000 in
/-- The records from a number on. -/
theorem ledList_any (h : LC w0 w gl gd gm lv rl) (n : Int) (m : Nat) (hm : m ≤ rl.length) (hn : (n < 0 ∧ m = 0) ∨ (n = (m : Int)) ∨ (((rl.length : Int) < n) ∧ m = rl.length)) (hl : rl.length ≤ 100000000) :
    Calls Tryz.prog 26 #[.pointer (some ⟨gl, 0, none⟩), .int .i64 n] w fun e w' => ∃ a q k, e = .returned (.slice a q k) ∧ OwnN 15 recCells w.heap.size 27 w' (.slice a q k) (rl.drop m) ∧ Upd [] w w' := by
  obtain ⟨a, k, rfl, hk1, hk2⟩ := own_slice h.rows
  have c1 : w.cell? ⟨gl, 1, none⟩ = some (.slice a rl.length k) := h.top.cell 1
  have hk3 : k ≤ 9223372036854775807 := by unfold maxLen at hk2; omega
  obtain ⟨A, hA, hcut⟩ : ∃ A : Option Addr, A = (if k = m then a else a.map (·.add (m * 15))) ∧ ∀ W, (Instr.slice 36 (.slice a rl.length k) (some (.int .i64 (m : Int))) none none).run Tryz.prog W = .ok (.slice A (rl.length - m) (k - m)) W :=
    ⟨_, rfl, fun W => run_cut (P := Tryz.prog) (size := 15) undRec infoRec a rl.length k m hm W⟩
  have hrd : RdN 15 recCells w (.slice A (rl.length - m) (k - m)) (rl.drop m) := by
    rw [hA]; exact (h.rows.rd recCells_len).drop m hm
  have HRUN := Lib.hid (fun ty => run_appN (P := Tryz.prog) (w := w) (ty := ty) recCells_len (by decide) recCells_one undRec infoRec3 rfl (.slice none 0 0) (.slice A (rl.length - m) (k - m)) [] (rl.drop m) (OwnN.nil w.heap.size _ w) hrd (by simp; omega) (by simp [maxLen]; omega) (Nat.le_refl _))
  have HM := Lib.hid hm
  have HRUN0 := Lib.hid (fun ty => run_appN (P := Tryz.prog) (w := w) (ty := ty) recCells_len (by decide) recCells_one undRec infoRec3 rfl (.slice none 0 0) (.slice a rl.length k) [] rl (OwnN.nil w.heap.size _ w) (h.rows.rd recCells_len) (by simp; omega) (by simp [maxLen]; omega) (Nat.le_refl _))
  obtain ⟨Q, hQ⟩ : ∃ Q, rl.length - m = Q := ⟨_, rfl⟩
  obtain ⟨R, hR⟩ : ∃ R, k - m = R := ⟨_, rfl⟩
  rw [hQ, hR] at HRUN hcut
  clear hrd h hA hQ hR
  rcases hn with ⟨n1, rfl⟩ | rfl | ⟨n1, rfl⟩
  · have n2 : ¬ (0 : Int) < n := by omega
    have n3 : ¬ ((rl.length : Nat) : Int) < 0 := by omega
    clear HRUN hcut
    go_enter Tryz.func26, Tryz.ntmps26
    go_wp2_with (at_builtin; go_must (refine wpList_app_of rfl _ _ rfl (.slice none 0 0) (.slice a rl.length k) rfl rfl (HRUN0.out _) ?_; rintro v2 w2 ⟨ho2, hu2, hk2⟩; have HO2 := Lib.hid ho2; have HU2 := Lib.hid hu2; clear ho2 hu2 hk2 HRUN0; dsimp only))
    obtain ⟨a2, k2, rfl, -⟩ := own_slice HO2.out
    go_ret
    exact ⟨_, _, _, rfl, (by have := HO2.out; rw [List.nil_append] at this; exact this), HU2.out.mono (by simp [blk])⟩
  · have n2 : (0 : Int) ≤ m := by omega
    have n3 : (m : Int) ≤ rl.length := by omega
    go_enter Tryz.func26, Tryz.ntmps26
    go_wp2_with (at_builtin; go_must (refine wpList_app_of rfl _ _ rfl (.slice none 0 0) (.slice A Q R) rfl rfl (HRUN.out _) ?_; rintro v2 w2 ⟨ho2, hu2, hk2⟩; have HO2 := Lib.hid ho2; have HU2 := Lib.hid hu2; clear ho2 hu2 hk2 HRUN; dsimp only))
    obtain ⟨a2, k2, rfl, -⟩ := own_slice HO2.out
    go_ret
    exact ⟨_, _, _, rfl, HO2.out, HU2.out.mono (by simp [blk])⟩
  · have n2 : (0 : Int) < n := by omega
    go_enter Tryz.func26, Tryz.ntmps26
    go_wp2_with (at_builtin; go_must (refine wpList_app_of rfl _ _ rfl (.slice none 0 0) (.slice A Q R) rfl rfl (HRUN.out _) ?_; rintro v2 w2 ⟨ho2, hu2, hk2⟩; have HO2 := Lib.hid ho2; have HU2 := Lib.hid hu2; clear ho2 hu2 hk2 HRUN; dsimp only))
    obtain ⟨a2, k2, rfl, -⟩ := own_slice HO2.out
    go_ret
    exact ⟨_, _, _, rfl, HO2.out, HU2.out.mono (by simp [blk])⟩
end
/-- Two records. -/
abbrev reqs (ino gen at_ : Int) (rule : ByteArray) (kind c0 c1 c2 c3 c4 c5 c6 c7 c8 c9 : Int) (ino' gen' at' : Int) (rule' : ByteArray) (kind' d0 d1 d2 d3 d4 d5 d6 d7 d8 d9 : Int) : Prop := ((ino = ino' ∧ gen = gen' ∧ at_ = at' ∧ rule = rule') ∧ kind = kind' ∧ c0 = d0 ∧ c1 = d1 ∧ c2 = d2 ∧ c3 = d3 ∧ c4 = d4 ∧ c5 = d5 ∧ c6 = d6 ∧ c7 = d7 ∧ c8 = d8 ∧ c9 = d9)
theorem rec_eq (ino gen at_ : Int) (rule : ByteArray) (kind c0 c1 c2 c3 c4 c5 c6 c7 c8 c9 : Int) (ino' gen' at' : Int) (rule' : ByteArray) (kind' d0 d1 d2 d3 d4 d5 d6 d7 d8 d9 : Int) : mkRec ino gen at_ rule kind c0 c1 c2 c3 c4 c5 c6 c7 c8 c9 = mkRec ino' gen' at' rule' kind' d0 d1 d2 d3 d4 d5 d6 d7 d8 d9 ↔ reqs ino gen at_ rule kind c0 c1 c2 c3 c4 c5 c6 c7 c8 c9 ino' gen' at' rule' kind' d0 d1 d2 d3 d4 d5 d6 d7 d8 d9 := by
  constructor
  · intro h
    have h1 := congrArg Rec.key h
    have h2 := congrArg Rec.kind h
    have h3 := congrArg (fun r => r.caps.1) h
    have k1 := congrArg Key.ino h1
    have k2 := congrArg Key.gen h1
    have k3 := congrArg Key.at_ h1
    have k4 := congrArg Key.rule h1
    simp at h3
    exact ⟨⟨k1, k2, k3, k4⟩, h2, h3⟩
  · rintro ⟨⟨rfl, rfl, rfl, rfl⟩, rfl, rfl, rfl, rfl, rfl, rfl, rfl, rfl, rfl, rfl, rfl⟩
    rfl
theorem str_beq (a b : ByteArray) : (a.toList == b.toList) = decide (a = b) := by
  by_cases h : a = b
  · rw [h]; simp
  · rw [decide_eq_false h, beq_eq_false_iff_ne]; exact fun q => h (str_inj _ _ q)
theorem undKeyF : Tryz.prog.underlying 23 = some (.struct (Tryz.prog.fieldsOf 23)) := by kernel_rfl
theorem undRecF : Tryz.prog.underlying 27 = some (.struct (Tryz.prog.fieldsOf 27)) := by kernel_rfl
set_option maxRecDepth 20000 in
theorem keyEq_run (d : Nat) (w : World) (ino gen at_ : Int) (rule : ByteArray) (ino' gen' at' : Int) (rule' : ByteArray) : (Op.equalIn (d + 2) 23 (.agg #[.int .i64 ino, .int .i64 gen, .int .i64 at_, .string rule]) (.agg #[.int .i64 ino', .int .i64 gen', .int .i64 at', .string rule'])).run Tryz.prog w = .ok (decide (ino = ino' ∧ gen = gen' ∧ at_ = at' ∧ rule = rule')) w := by
  rw [run_equalIn_struct w (d + 1) _ _ _ undKeyF (by kernel_rfl)]
  simp only [Program.fieldsOf, Tryz.underlying23]
  simp [Op.eqFields, part, go_sem, run_equalIn_int w d 3 .i64 .i64 _ _ Tryz.underlying3, run_equalIn_string w d 9 _ _ Tryz.underlying9, str_beq]
  repeat' split
  all_goals simp_all
set_option maxRecDepth 20000 in
theorem capsEq_d (d : Nat) (w : World) (c0 c1 c2 c3 c4 c5 c6 c7 c8 c9 d0 d1 d2 d3 d4 d5 d6 d7 d8 d9 : Int) : (Op.equalIn (d + 2) 25 (.agg #[.int .i64 c0, .int .i64 c1, .int .i64 c2, .int .i64 c3, .int .i64 c4, .int .i64 c5, .int .i64 c6, .int .i64 c7, .int .i64 c8, .int .i64 c9]) (.agg #[.int .i64 d0, .int .i64 d1, .int .i64 d2, .int .i64 d3, .int .i64 d4, .int .i64 d5, .int .i64 d6, .int .i64 d7, .int .i64 d8, .int .i64 d9])).run Tryz.prog w = .ok (decide (c0 = d0 ∧ c1 = d1 ∧ c2 = d2 ∧ c3 = d3 ∧ c4 = d4 ∧ c5 = d5 ∧ c6 = d6 ∧ c7 = d7 ∧ c8 = d8 ∧ c9 = d9)) w := by
  obtain ⟨i, hi⟩ := infoI
  rw [run_equalIn_array w (d + 1) _ _ Tryz.underlying25 hi, cellsI]
  simp [Op.eqItems, List.range_succ, part, go_sem, run_equalIn_int w d 3 .i64 .i64 _ _ Tryz.underlying3]
  repeat' split
  all_goals simp_all
theorem part_key (w : World) (ino gen at_ : Int) (rule : ByteArray) (kind c0 c1 c2 c3 c4 c5 c6 c7 c8 c9 : Int) : (part 23 #[.int .i64 ino, .int .i64 gen, .int .i64 at_, .string rule, .int .i64 kind, .int .i64 c0, .int .i64 c1, .int .i64 c2, .int .i64 c3, .int .i64 c4, .int .i64 c5, .int .i64 c6, .int .i64 c7, .int .i64 c8, .int .i64 c9] 0).run Tryz.prog w = .ok (.agg #[.int .i64 ino, .int .i64 gen, .int .i64 at_, .string rule]) w := by kernel_rfl
theorem part_caps (w : World) (ino gen at_ : Int) (rule : ByteArray) (kind c0 c1 c2 c3 c4 c5 c6 c7 c8 c9 : Int) : (part 25 #[.int .i64 ino, .int .i64 gen, .int .i64 at_, .string rule, .int .i64 kind, .int .i64 c0, .int .i64 c1, .int .i64 c2, .int .i64 c3, .int .i64 c4, .int .i64 c5, .int .i64 c6, .int .i64 c7, .int .i64 c8, .int .i64 c9] 5).run Tryz.prog w = .ok (.agg #[.int .i64 c0, .int .i64 c1, .int .i64 c2, .int .i64 c3, .int .i64 c4, .int .i64 c5, .int .i64 c6, .int .i64 c7, .int .i64 c8, .int .i64 c9]) w := by kernel_rfl
theorem part_kind (w : World) (ino gen at_ : Int) (rule : ByteArray) (kind c0 c1 c2 c3 c4 c5 c6 c7 c8 c9 : Int) : (part 3 #[.int .i64 ino, .int .i64 gen, .int .i64 at_, .string rule, .int .i64 kind, .int .i64 c0, .int .i64 c1, .int .i64 c2, .int .i64 c3, .int .i64 c4, .int .i64 c5, .int .i64 c6, .int .i64 c7, .int .i64 c8, .int .i64 c9] 4).run Tryz.prog w = .ok (.int .i64 kind) w := by kernel_rfl
set_option maxRecDepth 20000 in
theorem recEq_run (w : World) (ino gen at_ : Int) (rule : ByteArray) (kind c0 c1 c2 c3 c4 c5 c6 c7 c8 c9 : Int) (ino' gen' at' : Int) (rule' : ByteArray) (kind' d0 d1 d2 d3 d4 d5 d6 d7 d8 d9 : Int) : (Op.equalIn 10000 27 (mkVal ino gen at_ rule kind c0 c1 c2 c3 c4 c5 c6 c7 c8 c9) (mkVal ino' gen' at' rule' kind' d0 d1 d2 d3 d4 d5 d6 d7 d8 d9)).run Tryz.prog w = .ok (decide (mkRec ino gen at_ rule kind c0 c1 c2 c3 c4 c5 c6 c7 c8 c9 = mkRec ino' gen' at' rule' kind' d0 d1 d2 d3 d4 d5 d6 d7 d8 d9)) w := by
  rw [run_equalIn_struct w 9999 _ _ _ undRecF (by kernel_rfl)]
  have h1 := fun W => keyEq_run 9997 W ino gen at_ rule ino' gen' at' rule'
  have h2 := fun W => capsEq_d 9997 W c0 c1 c2 c3 c4 c5 c6 c7 c8 c9 d0 d1 d2 d3 d4 d5 d6 d7 d8 d9
  have h3 := fun W => run_equalIn_int W 9998 3 .i64 .i64 kind kind' Tryz.underlying3
  simp only [Program.fieldsOf, Tryz.underlying27]
  simp only [Op.eqFields, Sem.run_bind, Sem.run_ite, part_key, part_caps, part_kind, Result.andThen_ok, h1, h2, h3, Sem.run_pure]
  simp only [rec_eq]
  by_cases k1 : ino = ino' ∧ gen = gen' ∧ at_ = at' ∧ rule = rule'
  · by_cases k2 : kind = kind'
    · by_cases k3 : c0 = d0 ∧ c1 = d1 ∧ c2 = d2 ∧ c3 = d3 ∧ c4 = d4 ∧ c5 = d5 ∧ c6 = d6 ∧ c7 = d7 ∧ c8 = d8 ∧ c9 = d9
      · rw [decide_eq_true k1, decide_eq_true k3, decide_eq_true (show reqs ino gen at_ rule kind c0 c1 c2 c3 c4 c5 c6 c7 c8 c9 ino' gen' at' rule' kind' d0 d1 d2 d3 d4 d5 d6 d7 d8 d9 from ⟨k1, k2, k3⟩), k2]; simp
      · rw [decide_eq_true k1, decide_eq_false k3, decide_eq_false (show ¬ reqs ino gen at_ rule kind c0 c1 c2 c3 c4 c5 c6 c7 c8 c9 ino' gen' at' rule' kind' d0 d1 d2 d3 d4 d5 d6 d7 d8 d9 from fun h => k3 h.2.2), k2]; simp
    · rw [decide_eq_true k1, decide_eq_false (show ¬ reqs ino gen at_ rule kind c0 c1 c2 c3 c4 c5 c6 c7 c8 c9 ino' gen' at' rule' kind' d0 d1 d2 d3 d4 d5 d6 d7 d8 d9 from fun h => k2 h.2.1)]; simp [k2]
  · rw [decide_eq_false k1, decide_eq_false (show ¬ reqs ino gen at_ rule kind c0 c1 c2 c3 c4 c5 c6 c7 c8 c9 ino' gen' at' rule' kind' d0 d1 d2 d3 d4 d5 d6 d7 d8 d9 from fun h => k1 h.1)]; simp
end Go.Proofs.YtmhojaiajhdlcaaGreat
namespace Go.Proofs.YtmhojaiajhdlcaaGreat
open Go.RowKit
set_option linter.unusedSimpArgs false
set_option linter.unusedVariables false
set_option maxRecDepth 20000 in
set_option maxHeartbeats 4000000 in
theorem sameRec_any (v u : Value) (l m : List Rec) (w : World) (h : RdN 15 recCells w v l) (h2 : RdN 15 recCells w u m) :
    Calls Tryz.prog 25 #[v, u] w fun e w' => e = .returned (.bool (decide (l = m))) ∧ ∃ n, w' = w.drewN n := by
  obtain ⟨a, cap, rfl, hlc, hm, hc⟩ := h
  obtain ⟨a2, cap2, rfl, hlc2, hm2, hc2⟩ := h2
  have hm' : l.length ≤ 9223372036854775807 := by unfold maxLen at hm; omega
  have hm2' : m.length ≤ 9223372036854775807 := by unfold maxLen at hm2; omega
  clear hm hlc hm2 hlc2
  by_cases hlen : l.length = m.length
  · have HL := Lib.hid hlen
    have t1 : ((l.length : Int) != (m.length : Int)) = false := by rw [bne_eq_false_iff_eq]; omega
    have H1 := Lib.hid hc
    have H2 := Lib.hid hc2
    clear hlen hc hc2
    go_enter Tryz.func25, Tryz.ntmps25
    go_wp2
    go_loopw [5] (fun i wr => ∃ k n : Nat, wr = w.drewN n ∧ k ≤ l.length ∧ i = .int .i64 k ∧ Hid (∀ j, j < k → nth l j = nth m j)) (fun i _ => l.length - (intOf i).toNat)
    case atStart => exact ⟨0, 0, rfl, Nat.zero_le _, rfl, fun j hj => absurd hj (by omega)⟩
    case round =>
      obtain ⟨k, n, rfl, hk, rfl, hs⟩ := hrel
      by_cases hlt : k < l.length
      · obtain ⟨b, off, rfl, hc⟩ := H1.out (by intro h; simp [h] at hlt)
        have hlt2 : k < m.length := by rw [← HL.out]; exact hlt
        obtain ⟨b2, off2, rfl, hc2⟩ := H2.out (by intro h; simp [h] at hlt2)
        obtain ⟨ino, gen, at_, rule, kind, c0, c1, c2, c3, c4, c5, c6, c7, c8, c9, hx⟩ := rec_mk (nth l k)
        obtain ⟨ino', gen', at', rule', kind', d0, d1, d2, d3, d4, d5, d6, d7, d8, d9, hy⟩ := rec_mk (nth m k)
        have hc : ∀ j, j < l.length → ∀ i, i < 15 → w.cell? ⟨b, off + (j * 15 + i), none⟩ = (recCells (nth l j))[i]? := hc
        have hc2 : ∀ j, j < m.length → ∀ i, i < 15 → w.cell? ⟨b2, off2 + (j * 15 + i), none⟩ = (recCells (nth m j))[i]? := hc2
        have hc := hc k hlt
        have hc2 := hc2 k hlt2
        rw [hx] at hc
        rw [hy] at hc2
        have HX := Lib.hid hx
        have HY := Lib.hid hy
        clear hx hy
        have e0 : w.cell? ⟨b, off + k * 15, none⟩ = some (.int .i64 ino) := hc 0 (by omega)
        have e1 : w.cell? ⟨b, off + k * 15 + 1, none⟩ = some (.int .i64 gen) := hc 1 (by omega)
        have e2 : w.cell? ⟨b, off + k * 15 + 2, none⟩ = some (.int .i64 at_) := hc 2 (by omega)
        have e3 : w.cell? ⟨b, off + k * 15 + 3, none⟩ = some (.string rule) := hc 3 (by omega)
        have e4 : w.cell? ⟨b, off + k * 15 + 4, none⟩ = some (.int .i64 kind) := hc 4 (by omega)
        have e5 : w.cell? ⟨b, off + k * 15 + 5, none⟩ = some (.int .i64 c0) := hc 5 (by omega)
        have e6 : w.cell? ⟨b, off + k * 15 + 6, none⟩ = some (.int .i64 c1) := hc 6 (by omega)
        have e7 : w.cell? ⟨b, off + k * 15 + 7, none⟩ = some (.int .i64 c2) := hc 7 (by omega)
        have e8 : w.cell? ⟨b, off + k * 15 + 8, none⟩ = some (.int .i64 c3) := hc 8 (by omega)
        have e9 : w.cell? ⟨b, off + k * 15 + 9, none⟩ = some (.int .i64 c4) := hc 9 (by omega)
        have e10 : w.cell? ⟨b, off + k * 15 + 10, none⟩ = some (.int .i64 c5) := hc 10 (by omega)
        have e11 : w.cell? ⟨b, off + k * 15 + 11, none⟩ = some (.int .i64 c6) := hc 11 (by omega)
        have e12 : w.cell? ⟨b, off + k * 15 + 12, none⟩ = some (.int .i64 c7) := hc 12 (by omega)
        have e13 : w.cell? ⟨b, off + k * 15 + 13, none⟩ = some (.int .i64 c8) := hc 13 (by omega)
        have e14 : w.cell? ⟨b, off + k * 15 + 14, none⟩ = some (.int .i64 c9) := hc 14 (by omega)
        have f0 : w.cell? ⟨b2, off2 + k * 15, none⟩ = some (.int .i64 ino') := hc2 0 (by omega)
        have f1 : w.cell? ⟨b2, off2 + k * 15 + 1, none⟩ = some (.int .i64 gen') := hc2 1 (by omega)
        have f2 : w.cell? ⟨b2, off2 + k * 15 + 2, none⟩ = some (.int .i64 at') := hc2 2 (by omega)
        have f3 : w.cell? ⟨b2, off2 + k * 15 + 3, none⟩ = some (.string rule') := hc2 3 (by omega)
        have f4 : w.cell? ⟨b2, off2 + k * 15 + 4, none⟩ = some (.int .i64 kind') := hc2 4 (by omega)
        have f5 : w.cell? ⟨b2, off2 + k * 15 + 5, none⟩ = some (.int .i64 d0) := hc2 5 (by omega)
        have f6 : w.cell? ⟨b2, off2 + k * 15 + 6, none⟩ = some (.int .i64 d1) := hc2 6 (by omega)
        have f7 : w.cell? ⟨b2, off2 + k * 15 + 7, none⟩ = some (.int .i64 d2) := hc2 7 (by omega)
        have f8 : w.cell? ⟨b2, off2 + k * 15 + 8, none⟩ = some (.int .i64 d3) := hc2 8 (by omega)
        have f9 : w.cell? ⟨b2, off2 + k * 15 + 9, none⟩ = some (.int .i64 d4) := hc2 9 (by omega)
        have f10 : w.cell? ⟨b2, off2 + k * 15 + 10, none⟩ = some (.int .i64 d5) := hc2 10 (by omega)
        have f11 : w.cell? ⟨b2, off2 + k * 15 + 11, none⟩ = some (.int .i64 d6) := hc2 11 (by omega)
        have f12 : w.cell? ⟨b2, off2 + k * 15 + 12, none⟩ = some (.int .i64 d7) := hc2 12 (by omega)
        have f13 : w.cell? ⟨b2, off2 + k * 15 + 13, none⟩ = some (.int .i64 d8) := hc2 13 (by omega)
        have f14 : w.cell? ⟨b2, off2 + k * 15 + 14, none⟩ = some (.int .i64 d9) := hc2 14 (by omega)
        have q1 : (k : Int) < (l.length : Int) := by omega
        have q2 : (k : Int) < (m.length : Int) := by omega
        clear hc hc2
        by_cases he : mkRec ino gen at_ rule kind c0 c1 c2 c3 c4 c5 c6 c7 c8 c9 = mkRec ino' gen' at' rule' kind' d0 d1 d2 d3 d4 d5 d6 d7 d8 d9
        · have hq := fun W => recEq_run W ino gen at_ rule kind c0 c1 c2 c3 c4 c5 c6 c7 c8 c9 ino' gen' at' rule' kind' d0 d1 d2 d3 d4 d5 d6 d7 d8 d9
          rw [decide_eq_true he] at hq
          have HE := Lib.hid he
          clear he
          go_wp2
          go_quiet (fail)
          go_wp2
          go_roundw
          case rel => exact ⟨k + 1, _, rfl, by omega, by go_num, fun j hj => by
            by_cases e : j = k
            · rw [e, HX.out, HY.out]; exact HE.out
            · exact hs.out j (by omega)⟩
          case measure => simp [intOf]; omega
        · have hq := fun W => recEq_run W ino gen at_ rule kind c0 c1 c2 c3 c4 c5 c6 c7 c8 c9 ino' gen' at' rule' kind' d0 d1 d2 d3 d4 d5 d6 d7 d8 d9
          rw [decide_eq_false he] at hq
          have HE := Lib.hid he
          clear he
          go_wp2
          go_quiet (fail)
          go_wp2
          go_ret
          exact ⟨congrArg (fun b => Ending.returned (.bool b)) (decide_eq_false (fun e => HE.out (by rw [← HX.out, ← HY.out, e]))).symm, _, World.drewN_drewN ..⟩
      · obtain rfl : k = l.length := by omega
        go_wp2
        go_ret
        exact ⟨congrArg (fun b => Ending.returned (.bool b)) (decide_eq_true (same_ext HL.out hs.out)).symm, _, rfl⟩
  · have t1 : ((l.length : Int) != (m.length : Int)) = true := by rw [bne_iff_ne]; omega
    have t2 : decide (l = m) = false := by simp; intro h; exact hlen (by rw [h])
    have T2 := Lib.hid t2
    clear hlen t2
    go_enter Tryz.func25, Tryz.ntmps25
    go_wp2
    go_ret
    exact ⟨congrArg (fun b => Ending.returned (.bool b)) T2.out.symm, 0, rfl⟩
theorem sameRec_yes (v u : Value) (l : List Rec) (w : World) (h : RdN 15 recCells w v l) (h2 : RdN 15 recCells w u l) :
    Calls Tryz.prog 25 #[v, u] w fun e w' => e = .returned (.bool true) ∧ Upd [] w w' := by
  refine (sameRec_any v u l l w h h2).mono ?_
  rw [decide_eq_true rfl]
  rintro e w' ⟨rfl, n, rfl⟩
  exact ⟨rfl, (Upd.refl [] w).drewN n⟩
end Go.Proofs.YtmhojaiajhdlcaaGreat
namespace Go.Proofs.YtmhojaiajhdlcaaGreat
open Go.RowKit
set_option linter.unusedSimpArgs false
set_option linter.unusedVariables false
/-- The ledger's file, or none; what it has. -/
def OneF (fs : DF) (c : List UInt8) : Prop := (fs = [] ∧ c = []) ∨ fs = [(nmL, c)]
theorem OneF.get {fs : DF} {c : List UInt8} (h : OneF fs c) : (dGet fs nmL).1 = c := by
  rcases h with ⟨rfl, rfl⟩ | rfl
  · rfl
  · rw [get_one]
theorem OneF.len {fs : DF} {c : List UInt8} (h : OneF fs c) : fs.length ≤ 1 := by
  rcases h with ⟨rfl, rfl⟩ | rfl <;> simp
theorem OneF.total {fs : DF} {c : List UInt8} (h : OneF fs c) : dTotal fs = c.length := by
  rcases h with ⟨rfl, rfl⟩ | rfl
  · rfl
  · simp [dTotal]
theorem OneF.full {fs : DF} {c : List UInt8} (h : OneF fs c) (hc : c ≠ []) : fs = [(nmL, c)] := by
  rcases h with ⟨_, q⟩ | q
  · exact absurd q hc
  · exact q
/-- At each raw write the file is a beginning of hi, no shorter than lo. -/
structure LInv (hi : List UInt8) (lo B : Nat) (s : DS) : Prop where
  ok : DOk s
  lg : s.log.length ≤ B
  pre : ∀ k, ∃ n, lo ≤ n ∧ n ≤ hi.length ∧ OneF (wAll s.mark (s.log.take k)) (hi.take n)
theorem LInv.zero : LInv [] 0 0 ⟨[], [], []⟩ := ⟨DOk.zero, Nat.le_refl _, fun k => ⟨0, Nat.le_refl _, Nat.le_refl _, .inl ⟨by simp [wAll], rfl⟩⟩⟩
theorem LInv.now {hi : List UInt8} {lo B : Nat} {s : DS} (h : LInv hi lo B s) : ∃ n, lo ≤ n ∧ n ≤ hi.length ∧ OneF s.now (hi.take n) := by
  obtain ⟨n, h1, h2, h3⟩ := h.pre s.log.length
  rw [List.take_length, ← h.ok.eq] at h3
  exact ⟨n, h1, h2, h3⟩
theorem LInv.nlen {hi : List UInt8} {lo B : Nat} {s : DS} (h : LInv hi lo B s) : s.now.length ≤ 1 := by
  obtain ⟨n, _, _, h3⟩ := h.now
  exact h3.len
theorem LInv.mlen {hi : List UInt8} {lo B : Nat} {s : DS} (h : LInv hi lo B s) : s.mark.length ≤ 1 := by
  obtain ⟨n, _, _, h3⟩ := h.pre 0
  exact h3.len
theorem LInv.step {hi : List UInt8} {lo B : Nat} {s : DS} (h : LInv hi lo B s) {x : Wr} (hx : WrOk x s.now) {n : Nat} (h1 : lo ≤ n) (h2 : n ≤ hi.length) (hn : OneF (wApply x s.now) (hi.take n)) : LInv hi lo (B + 1) (dDo x s) := by
  refine ⟨h.ok.do_ hx, by have := h.lg; unfold dDo; simp; omega, fun k => ?_⟩
  show ∃ n, lo ≤ n ∧ n ≤ hi.length ∧ OneF (wAll s.mark ((s.log ++ [x]).take k)) (hi.take n)
  rcases Nat.lt_or_ge s.log.length k with q | q
  · rw [List.take_of_length_le (by rw [List.length_append, List.length_singleton]; omega), wAll_snoc, ← h.ok.eq]
    exact ⟨n, h1, h2, hn⟩
  · rw [List.take_append_of_le_length q]
    exact h.pre k
theorem LInv.grow {hi : List UInt8} {lo B : Nat} {s : DS} (h : LInv hi lo B s) (x : List UInt8) : LInv (hi ++ x) lo B s :=
  ⟨h.ok, h.lg, fun k => by
    obtain ⟨n, h1, h2, h3⟩ := h.pre k
    exact ⟨n, h1, by rw [List.length_append]; omega, by rw [List.take_append_of_le_length h2]; exact h3⟩⟩
theorem LInv.bound {hi : List UInt8} {lo B B' : Nat} {s : DS} (h : LInv hi lo B s) (hb : B ≤ B') : LInv hi lo B' s := ⟨h.ok, Nat.le_trans h.lg hb, h.pre⟩
theorem one_put (c p : List UInt8) : wApply (wPut nmL p) [(nmL, c)] = [(nmL, c ++ p)] := by
  have : wApply (wPut nmL p) [(nmL, c)] = tSet strLt [(nmL, c)] nmL ((dGet [(nmL, c)] nmL).1 ++ p) := rfl
  rw [this, get_one, set_one]
theorem one_putok (c p : List UInt8) (hp : p ≠ []) (h : c.length + p.length ≤ 16777216) : WrOk (wPut nmL p) [(nmL, c)] :=
  ⟨by simp, ⟨by show (1 : Int) ≤ 2; decide, by show (2 : Int) ≤ 5; decide⟩, fun _ => ⟨hp, by rw [get_one]; exact h⟩, fun q => absurd q (show ¬ (2 : Int) = 4 by decide), by rw [one_put]; simp [dTotal]; omega, fun _ => isIn_one nmL c, fun q => absurd q (show ¬ (2 : Int) = 1 by decide)⟩
theorem LInv.puts {hi t : List UInt8} {lo : Nat} (hz : hi.length ≤ 16777216) : ∀ (l : List (List UInt8)) (s : DS) (c : List UInt8) (B : Nat), LInv hi lo B s → s.now = [(nmL, c)] → hi = c ++ (l.flatten ++ t) → (∀ p ∈ l, p ≠ []) → lo ≤ c.length →
    LInv hi lo (B + l.length) (dPut nmL s l) ∧ (dPut nmL s l).now = [(nmL, c ++ l.flatten)]
  | [], s, c, B, h, hn, he, hp, hl => ⟨by simpa [dPut] using h, by simp [dPut, hn]⟩
  | p :: l, s, c, B, h, hn, he, hp, hl => by
    have h1 : dPut nmL s (p :: l) = dPut nmL (dDo (wPut nmL p) s) l := rfl
    have he2 : hi = (c ++ p) ++ (l.flatten ++ t) := by rw [he]; simp
    have hlen : (c ++ p).length ≤ hi.length := by rw [he2]; simp only [List.length_append]; omega
    have hcp : c.length + p.length ≤ 16777216 := by rw [List.length_append] at hlen; omega
    have ht : hi.take (c ++ p).length = c ++ p := by rw [he2]; exact List.take_left
    have hs := h.step (x := wPut nmL p) (by rw [hn]; exact one_putok c p (hp p (by simp)) hcp) (n := (c ++ p).length) (by rw [List.length_append]; omega) hlen (by rw [hn, one_put, ht]; exact .inr rfl)
    have hnow : (dDo (wPut nmL p) s).now = [(nmL, c ++ p)] := by show wApply (wPut nmL p) s.now = _; rw [hn, one_put]
    obtain ⟨k1, k2⟩ := LInv.puts hz l (dDo (wPut nmL p) s) (c ++ p) (B + 1) hs hnow he2 (fun q hq => hp q (by simp [hq])) (by rw [List.length_append]; omega)
    rw [h1]
    refine ⟨k1.bound (by rw [List.length_cons]; omega), ?_⟩
    rw [k2]; simp
theorem chunks_ne (p : List UInt8) : ∀ c ∈ chunks p, c ≠ [] := by
  intro c hc
  unfold chunks at hc
  obtain ⟨i, hi, rfl⟩ := List.mem_map.1 hc
  rw [List.mem_range] at hi
  intro q
  have := congrArg List.length q
  rw [List.length_take, List.length_drop] at this
  simp at this
  omega
/-- A frame behind the file. -/
theorem LInv.append {hi : List UInt8} {lo B : Nat} {s : DS} (h : LInv hi lo B s) (hn : OneF s.now hi) (hlo : lo ≤ hi.length) (fr : List UInt8) (hz : hi.length + fr.length ≤ 16777216) :
    (dAppend s nmL fr).1 = 0 ∧ LInv (hi ++ fr) lo (B + 1 + fr.length) (dAppend s nmL fr).2 ∧ (fr ≠ [] → OneF (dAppend s nmL fr).2.now (hi ++ fr)) := by
  have hcl := chunks_len fr
  have hfl := chunks_all fr
  have hg := h.grow fr
  have hz2 : (hi ++ fr).length ≤ 16777216 := by rw [List.length_append]; exact hz
  have hcl2 : (chunks fr).length ≤ fr.length := by omega
  unfold dAppend
  rw [nmL_ok, if_pos rfl, hn.total, if_neg (by omega)]
  refine ⟨rfl, ?_⟩
  dsimp only
  rcases hn with ⟨h1, h2⟩ | h1
  · have hin : inD s.now nmL = false := by rw [h1]; rfl
    subst h2
    rw [hin, if_neg (by simp)]
    have hw := (h.ok.make nmL hin (by rw [h1]; simp)).1
    have hnow : (dDo (wMake nmL) s).now = [(nmL, [])] := by show wApply (wMake nmL) s.now = _; rw [h1]; rfl
    have hm := hg.step hw (n := 0) (by simpa using hlo) (Nat.zero_le _) (.inr (by rw [h1]; rfl))
    obtain ⟨k1, k2⟩ := LInv.puts (t := []) hz2 (chunks fr) (dDo (wMake nmL) s) [] (B + 1) hm hnow (by rw [hfl]; simp) (chunks_ne fr) (by simpa using hlo)
    exact ⟨k1.bound (by omega), fun _ => .inr (by rw [k2, hfl])⟩
  · have hin : inD s.now nmL = true := by rw [h1]; exact isIn_one nmL hi
    rw [hin, if_pos rfl]
    obtain ⟨k1, k2⟩ := LInv.puts (t := []) hz2 (chunks fr) s hi B hg h1 (by rw [hfl]; simp) (chunks_ne fr) hlo
    exact ⟨k1.bound (by omega), fun _ => .inr (by rw [k2, hfl])⟩
theorem LInv.cut {hi : List UInt8} {lo B : Nat} {s : DS} (h : LInv hi lo B s) {n : Nat} (hn : OneF s.now (hi.take n)) (hnl : n ≤ hi.length) (k : Nat) (h1 : lo ≤ k) (h2 : k < n) :
    LInv hi lo (B + 1) (dCut s nmL (k : Int)).2 ∧ OneF (dCut s nmL (k : Int)).2.now (hi.take k) := by
  have hlen : (hi.take n).length = n := by rw [List.length_take]; omega
  have hnow := hn.full (fun q => by rw [q] at hlen; simp at hlen; omega)
  have hin : inD s.now nmL = true := by rw [hnow]; exact isIn_one nmL _
  have hget : (dGet s.now nmL).1 = hi.take n := hn.get
  have hw := (h.ok.cut nmL (k : Int) hin (by omega) (by rw [hget, hlen]; omega) (by have := h.nlen; omega)).1
  have hap : wApply (wCut nmL (k : Int)) s.now = [(nmL, hi.take k)] := by
    have : wApply (wCut nmL (k : Int)) s.now = tSet strLt s.now nmL ((dGet s.now nmL).1.take (k : Int).toNat) := rfl
    rw [this, hget, hnow, set_one, Int.toNat_natCast, List.take_take, Nat.min_eq_left (by omega)]
  have he : (dCut s nmL (k : Int)).2 = dDo (wCut nmL (k : Int)) s := by
    unfold dCut
    rw [hin, if_pos rfl, if_neg (by rw [hget, hlen]; omega)]
  rw [he]
  refine ⟨h.step hw h1 (by omega) (.inr hap), .inr hap⟩
theorem LInv.mark {hi : List UInt8} {lo B n : Nat} {s : DS} (h : LInv hi lo B s) (hn : OneF s.now (hi.take n)) (hnl : n ≤ hi.length) : LInv hi n 0 (dMark s) :=
  ⟨h.ok.mark, Nat.le_refl _, fun k => ⟨n, Nat.le_refl _, hnl, by show OneF (wAll s.now (([] : List Wr).take k)) _; simpa [wAll] using hn⟩⟩
theorem LInv.back {hi : List UInt8} {lo B : Nat} {s : DS} (h : LInv hi lo B s) (k : Int) : LInv hi lo 0 (dBack s k) := by
  obtain ⟨n, h1, h2, h3⟩ := h.pre k.toNat
  exact ⟨h.ok.back k, Nat.le_refl _, fun j => ⟨n, h1, h2, by show OneF (wAll (wAll s.mark (s.log.take k.toNat)) (([] : List Wr).take j)) _; simpa [wAll] using h3⟩⟩
/-- What an opening finds: a beginning of the records, and the file cut behind them. -/
theorem lopen_take (all : List Rec) (hok : ∀ r ∈ all, recOk r = true) (hu : Uniq all) (m0 : Nat) (hm0 : m0 ≤ all.length) {B : Nat} {s : DS} (h : LInv (Fr all) (Ee all m0) B s) :
    ∃ M, m0 ≤ M ∧ M ≤ all.length ∧ (lOpen s).1 = all.take M ∧ LInv (Fr all) (Ee all m0) (B + 1) (lOpen s).2 ∧ OneF (lOpen s).2.now ((Fr all).take (Ee all M)) := by
  obtain ⟨n, h1, h2, h3⟩ := h.now
  obtain ⟨M, k1, k2, k3, k4⟩ := lScan_take all hok hu n h2 m0 hm0 h1
  have hlen : ((Fr all).take n).length = n := by rw [List.length_take]; omega
  have hmono := Ee_mono all k1
  refine ⟨M, k1, k2, ?_⟩
  unfold lOpen
  rw [h3.get, k4, hlen]
  dsimp only
  refine ⟨rfl, ?_⟩
  by_cases hlt : Ee all M < n
  · rw [if_pos hlt]
    obtain ⟨c1, c2⟩ := h.cut h3 h2 (Ee all M) hmono hlt
    exact ⟨c1, c2⟩
  · rw [if_neg hlt]
    have : Ee all M = n := by omega
    rw [this]
    exact ⟨h.bound (by omega), h3⟩
end Go.Proofs.YtmhojaiajhdlcaaGreat
