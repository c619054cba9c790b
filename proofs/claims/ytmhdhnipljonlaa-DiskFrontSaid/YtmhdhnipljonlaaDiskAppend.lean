/- Chapter 22: Append. -/
import Derived.Test.YtmhdhnipljonlaaDiskOps
namespace Go.Proofs.Ytmhdhnipljonlaa
open Go.RowKit
set_option linter.unusedSimpArgs false
set_option linter.unusedVariables false
section
variable {B : List Nat} {K : KB} {s : Sl} {l : List UInt8}
theorem Sh.take_ (h : Sh B K s l) (m : Nat) (hm : m ≤ l.length) : Sh B K ⟨s.a, m, s.k⟩ (l.take m) := by
  have h1 := h.n
  have h2 := h.k
  refine ⟨by rw [List.length_take]; show m = _; omega, by show m ≤ s.k; omega, h.m, h.nul, fun hne => ?_⟩
  have hl : l ≠ [] := fun q => hne (by rw [q]; simp)
  obtain ⟨b, off, e1, e2, e3, e4⟩ := h.ex hl
  refine ⟨b, off, e1, e2, by rw [List.length_take]; omega, ?_⟩
  rw [List.length_take, Nat.min_eq_left hm]
  conv => rhs; rw [← e4]
  rw [List.take_take, Nat.min_eq_left hm]
theorem Sh.drop_ (h : Sh B K s l) (m : Nat) (hm : m ≤ l.length) : Sh B K ⟨if s.k = m then s.a else s.a.map (·.add m), l.length - m, s.k - m⟩ (l.drop m) := by
  have h1 := h.n
  have h2 := h.k
  refine ⟨by rw [List.length_drop], by show l.length - m ≤ s.k - m; omega, by have := h.m; show s.k - m ≤ _; omega, fun q => ?_, fun hne => ?_⟩
  · dsimp only at q ⊢
    split at q
    · have := h.nul q; omega
    · have := h.nul (by simpa using q); omega
  · have hlt : m < l.length := by
      rcases Nat.lt_or_ge m l.length with q | q
      · exact q
      · exact absurd (List.drop_eq_nil_of_le q) hne
    obtain ⟨b, off, e1, e2, e3, e4⟩ := h.ex (fun q => by rw [q] at hlt; simp at hlt)
    refine ⟨b, off + m, ?_, e2, by rw [List.length_drop]; omega, ?_⟩
    · show (if s.k = m then s.a else s.a.map (·.add m)) = _
      rw [if_neg (by omega), e1]; simp [add_none]
    · rw [List.length_drop]
      conv => rhs; rw [← e4]
      rw [List.drop_take, List.drop_drop]
end
/-- A disk, and a slice of bytes that its blocks have. -/
structure DP (w0 w : World) (gd : Nat) (G : List Nat) (s : DS) (sl : Sl) (l : List UInt8) : Prop where
  ex : ∃ gn gm Fn Fm B K cn cm lv lg, DC w0 w gd gn gm Fn Fm B K cn cm lv lg ∧ s = ⟨dfOf cn, dfOf cm, lg.map (·.1)⟩ ∧ DOk s ∧ G = dfoot gd Fn Fm B lv ∧ Sh B K sl l
section
variable {w0 w w' : World} {gd : Nat} {G : List Nat} {s : DS} {sl sl' : Sl} {l l' : List UInt8}
theorem DP.dd (h : DP w0 w gd G s sl l) : DD w0 w gd G s := by
  obtain ⟨gn, gm, Fn, Fm, B, K, cn, cm, lv, lg, hc, e, ho, eG, hs⟩ := h.ex
  exact ⟨gn, gm, Fn, Fm, B, K, cn, cm, lv, lg, hc, e, ho, eG⟩
theorem DP.upd0 (h : DP w0 w gd G s sl l) (hu : Upd [] w w') : DP w0 w' gd G s sl l := by
  obtain ⟨gn, gm, Fn, Fm, B, K, cn, cm, lv, lg, hc, e, ho, eG, hs⟩ := h.ex
  exact ⟨gn, gm, Fn, Fm, B, K, cn, cm, lv, lg, hc.upd0 hu, e, ho, eG, hs⟩
theorem DP.drop_ (h : DP w0 w gd G s sl l) (m : Nat) (hm : m ≤ l.length) : DP w0 w gd G s ⟨if sl.k = m then sl.a else sl.a.map (·.add m), l.length - m, sl.k - m⟩ (l.drop m) := by
  obtain ⟨gn, gm, Fn, Fm, B, K, cn, cm, lv, lg, hc, e, ho, eG, hs⟩ := h.ex
  exact ⟨gn, gm, Fn, Fm, B, K, cn, cm, lv, lg, hc, e, ho, eG, hs.drop_ m hm⟩
theorem DP.form (h : DP w0 w gd G s sl l) : sl.n = l.length ∧ sl.n ≤ sl.k ∧ sl.k ≤ maxLen := by
  obtain ⟨gn, gm, Fn, Fm, B, K, cn, cm, lv, lg, hc, e, ho, eG, hs⟩ := h.ex
  exact ⟨hs.n, hs.k, hs.m⟩
/-- New bytes. -/
theorem DD.bytes (h : DD w0 w gd G s) {v : Value} (ho : Own bv w.heap.size 5 w' v l) (hu : Upd [] w w') : ∃ sl G', v = .slice sl.a sl.n sl.k ∧ DP w0 w' gd G' s sl l ∧ (∀ x ∈ G', x ∈ G ∨ w.heap.size ≤ x) ∧ (∀ x ∈ G, x ∈ G') := by
  obtain ⟨gn, gm, Fn, Fm, B, K, cn, cm, lv, lg, hc, e, hok, rfl⟩ := h.ex
  obtain ⟨sl, B', K', rfl, h1, h2, h3, h4, h5, h6, h7⟩ := hc.bks.new ho hu hc.old.size
  have hd := hc.upd0 hu
  refine ⟨sl, _, rfl, ⟨gn, gm, Fn, Fm, B', K', cn, cm, lv, lg, ⟨hd.dk, hd.gdb, hd.now.keep h2 h7, hd.mark.keep h2 h7, hd.full, hd.apt, h1, hd.log, fun x hx => (hd.lsh x hx).ext h2⟩, e, hok, rfl, h4⟩, fun x hx => ?_, fun x hx => ?_⟩
  · rcases (dfoot_mem _ _ _ _ _ _).1 hx with rfl | hx | hx | hx | hx
    · exact .inl ((dfoot_mem _ _ _ _ _ _).2 (.inl rfl))
    · exact .inl ((dfoot_mem _ _ _ _ _ _).2 (.inr (.inl hx)))
    · exact .inl ((dfoot_mem _ _ _ _ _ _).2 (.inr (.inr (.inl hx))))
    · exact (h3 x hx).imp (fun q => (dfoot_mem _ _ _ _ _ _).2 (.inr (.inr (.inr (.inl q))))) id
    · exact .inl ((dfoot_mem _ _ _ _ _ _).2 (.inr (.inr (.inr (.inr hx)))))
  · rcases (dfoot_mem _ _ _ _ _ _).1 hx with rfl | hx | hx | hx | hx
    · exact (dfoot_mem _ _ _ _ _ _).2 (.inl rfl)
    · exact (dfoot_mem _ _ _ _ _ _).2 (.inr (.inl hx))
    · exact (dfoot_mem _ _ _ _ _ _).2 (.inr (.inr (.inl hx)))
    · exact (dfoot_mem _ _ _ _ _ _).2 (.inr (.inr (.inr (.inl (h2.sub x hx)))))
    · exact (dfoot_mem _ _ _ _ _ _).2 (.inr (.inr (.inr (.inr hx))))
/-- The first bytes are put. -/
theorem dpPut_any (nm : ByteArray) (m : Nat) (h : DP w0 w gd G s sl l) (hm : m ≤ l.length) (hx : WrOk (wPut nm (l.take m)) s.now) (hl : s.log.length ≤ 1000000000) :
    Calls Try.prog 61 #[.pointer (some ⟨gd, 0, none⟩), wrv (wPut nm (l.take m)) ⟨sl.a, m, sl.k⟩] w fun e w' => e = .returned (.tuple #[]) ∧ ∃ G', DP w0 w' gd G' (dDo (wPut nm (l.take m)) s) sl l ∧ Upd G w w' ∧ (∀ x ∈ G', x ∈ G ∨ w.heap.size ≤ x) := by
  obtain ⟨gn, gm, Fn, Fm, B, K, cn, cm, lv, lg, hc, rfl, ho, rfl, hs⟩ := h.ex
  refine (do_any (wPut nm (l.take m)) ⟨sl.a, m, sl.k⟩ hc hx (hs.take_ m hm) (by simpa using hl)).mono ?_
  rintro e w' ⟨rfl, Fn', B', K', cn', lv', h1, h2, h3, h4, h5⟩
  exact ⟨rfl, _, ⟨gn, gm, Fn', Fm, B', K', cn', cm, lv', _, h1, by unfold dDo; rw [h3]; simp, ho.do_ hx, rfl, hs.ext h2⟩, h4, h5⟩
/-- MARK -/
def lenV : Value → Nat
  | .slice _ n _ => n
  | _ => 0
theorem bytes_upd {w w' : World} {v : Value} {l : List UInt8} (h : Bytes w v l) {S : List Nat} (hu : Upd S w w') (hs : l ≠ [] → ∀ x ∈ blk v, x ∉ S) : Bytes w' v l := by
  by_cases hne : l = []
  · obtain ⟨a, k, e, h1, h2, h3⟩ := h
    exact ⟨a, k, e, h1, h2, fun q => absurd hne q⟩
  · exact h.upd hu (hs hne)
theorem DOut.dp {w1 w2 : World} {G1 G2 : List Nat} (h : DP w0 w2 gd G2 s sl l) (hu : Upd G w w1) (hf : ∀ x ∈ G1, x ∈ G ∨ w.heap.size ≤ x) (hu2 : Upd G1 w1 w2) (hf2 : ∀ x ∈ G2, x ∈ G1 ∨ w1.heap.size ≤ x) : DOut w0 w gd G s w2 :=
  ⟨G2, h.dd, hu.trans hu2 (fun x hx => hx) hf, fun x hx => by
    have := hu.size
    rcases hf2 x hx with q | q
    · exact hf x q
    · exact .inr (by omega)⟩
set_option maxRecDepth 20000 in
set_option maxHeartbeats 4000000 in
theorem dAppend_any (nm : ByteArray) (v : Value) (p : List UInt8) (hp : Bytes w v p) (hap : p ≠ [] → ∀ x ∈ blk v, x ∉ G) (h : DD w0 w gd G s) (hpl : p.length ≤ 100000000) (hn : s.now.length ≤ 4999) (hl : s.log.length ≤ 500000000) :
    Calls Try.prog 29 #[.pointer (some ⟨gd, 0, none⟩), sv nm, v] w (DDoes w0 w gd G (dAppend s nm p)) := by
  have HP := Lib.hid hp
  obtain ⟨ap, cp, rfl, hp1, hp2, -⟩ := hp
  have hcp : cp ≤ 9223372036854775807 := by unfold maxLen at hp2; omega
  obtain ⟨gn, oa, on, ok, c0, -, hget⟩ := h.look nm (by omega)
  have HGET := Lib.hid hget
  have C0 := Lib.hid c0
  have HD := Lib.hid h
  have HL := Lib.hid hl
  have HNL := Lib.hid hn
  have HAP := Lib.hid hap
  have htot := h.ok.tot
  clear hget h hl hn hp2 c0 hap
  cases hok : nameOk nm with
  | false =>
    have HR : Hid (dAppend s nm p = (14, s)) := by unfold Hid dAppend; rw [hok]; rfl
    have HOK := Lib.hid hok
    clear hok
    go_enter Try.func29, Try.ntmps29
    go_wp2_with fail
    (with_reducible refine (dnamed_any w nm).mono ?_)
    rw [HOK.out]
    rintro e w1 ⟨rfl, rfl⟩
    go_wp2_with fail
    go_ret
    exact ⟨by rw [HR.out]; rfl, by rw [HR.out]; exact HD.out.out0 (Upd.refl _ _)⟩
  | true =>
    have HOK := Lib.hid hok
    have HTOT : Hid (s.now.length ≤ 100000) := by have := HNL.out; unfold Hid; omega
    by_cases hfull : 16777216 < dTotal s.now + p.length
    · have HR : Hid (dAppend s nm p = (9, s)) := by unfold Hid dAppend; rw [hok, if_pos rfl, if_pos hfull]
      have q : (16777216 : Int) - (dTotal s.now : Int) < p.length := by omega
      have hwr : IntKind.i64.wrap (16777216 - (dTotal s.now : Int)) = 16777216 - (dTotal s.now : Int) := by rw [IntKind.wrap_i64]; omega
      clear hok
      go_enter Try.func29, Try.ntmps29
      go_wp2_with fail
      (with_reducible refine (dnamed_any w nm).mono ?_)
      rw [HOK.out]
      rintro e w1 ⟨rfl, rfl⟩
      go_wp2_with fail
      (with_reducible refine (dTotal_any HD.out HTOT.out).mono ?_)
      rintro e w2 ⟨rfl, hu2⟩
      have HU2 := Lib.hid hu2
      clear hu2
      go_wp2_with fail
      go_ret
      exact ⟨by rw [HR.out]; rfl, by rw [HR.out]; exact HD.out.out0 HU2.out⟩
    · have q : ¬ (16777216 : Int) - (dTotal s.now : Int) < p.length := by omega
      have hwr : IntKind.i64.wrap (16777216 - (dTotal s.now : Int)) = 16777216 - (dTotal s.now : Int) := by rw [IntKind.wrap_i64]; omega
      have HT : Hid (dTotal s.now + p.length ≤ 16777216) := by unfold Hid; omega
      cases hin : inD s.now nm with
      | true =>
        have HR : Hid (dAppend s nm p = (0, dPut nm s (chunks p))) := by unfold Hid dAppend; rw [hok, if_pos rfl, if_neg hfull, hin, if_pos rfl]
        rw [hin] at HGET
        have HIN1 := Lib.hid hin
        clear hok hin hfull
        go_enter Try.func29, Try.ntmps29
        go_wp2_with fail
        (with_reducible refine (dnamed_any w nm).mono ?_)
        rw [HOK.out]
        rintro e w1 ⟨rfl, rfl⟩
        go_wp2_with fail
        (with_reducible refine (dTotal_any HD.out HTOT.out).mono ?_)
        rintro e w2 ⟨rfl, hu2⟩
        have HU2 := Lib.hid hu2
        have c0 := hu2.cell C0.out (by simp)
        clear hu2
        go_wp2_with fail
        (with_reducible refine (HGET.out w2 HU2.out).mono ?_)
        rintro e w3 ⟨rfl, hu3⟩
        have HU3 := Lib.hid (HU2.out.seq hu3)
        have D1 := Lib.hid (HD.out.upd0 HU3.out)
        have HP1 := Lib.hid (HP.out.upd0 HU3.out)
        have HLN1 : Hid (s.now.length ≤ 5000) := by have := HNL.out; unfold Hid; omega
        have HTT1 : Hid (dTotal s.now + p.length ≤ 16777216) := HT.out
        have HLG1 : Hid (s.log.length ≤ 500000001) := by have := HL.out; unfold Hid; omega
        clear hu3 c0 q hwr htot
        have HRUN := Lib.hid (fun ty => run_app (P := Try.prog) (w := w3) (ty := ty) bv_one Try.underlying27 infoB8 rfl (.slice none 0 0) (.slice ap p.length cp) [] p (World.ownsRow_nil w3 (w3.heap).size _ 1) HP1.out (by simp; omega) (by simp [maxLen]; omega) (Nat.le_refl _))
        go_wp2_with (at_builtin; go_must (refine wpList_app_of rfl _ _ rfl (.slice none 0 0) (.slice ap p.length cp) rfl rfl (HRUN.out _) ?_; rintro v2 w2 ⟨ho2, hu2, hk2⟩; have HU2 := Lib.hid (hu2.mono (T := []) (by simp [blk])); obtain ⟨⟨a2, n2, k2⟩, G2, rfl, hd2, hg2, hg2'⟩ := D1.out.bytes (l := p) ho2 HU2.out; have HD2 := Lib.hid hd2; have HG2 := Lib.hid hg2; have HG2' := Lib.hid hg2'; clear ho2 hu2 hk2 hd2 hg2 hg2' HRUN; dsimp only))
        go_loopw [2] (fun v wr => ∃ (k : Nat) (sl : Sl) (G' : List Nat), k ≤ (chunks p).length ∧ v = .slice sl.a sl.n sl.k ∧ Hid (DP w0 wr gd G' (dPut nm s ((chunks p).take k)) sl (p.drop (32 * k))) ∧ Hid (Upd G w3 wr) ∧ Hid (∀ x ∈ G', x ∈ G ∨ (w3.heap).size ≤ x)) (fun v _ => lenV v)
        case atStart => exact ⟨0, ⟨a2, n2, k2⟩, G2, Nat.zero_le _, rfl, HD2.out, HU2.out.mono (by simp), HG2.out⟩
        case round =>
          obtain ⟨k, ⟨sa, sn, sk⟩, G', hk, rfl, hd, hu, hg⟩ := hrel
          clear HD2 HU2 HG2 HG2'
          have hform := hd.out.form
          dsimp only at hform
          obtain ⟨hf1, hf2, hf3⟩ := hform
          rw [List.length_drop] at hf1
          have hcl := chunks_len p
          by_cases hlt : k < (chunks p).length
          · have hpos : 32 * k < p.length := by omega
            obtain ⟨hw0, hstep⟩ : WrOk (wPut nm ((p.drop (32 * k)).take 32)) (dPut nm s ((chunks p).take k)).now ∧ (dPut nm s ((chunks p).take k)).log.length ≤ 1000000000 := by
              have ih := PutOk.all p D1.out.ok HIN1.out HLN1.out HTT1.out k hk
              have hcl2 : ((p.drop (32 * k)).take 32).length = min 32 (p.length - 32 * k) := by rw [List.length_take, List.length_drop]
              have htt := HTT1.out
              refine ⟨(ih.step ((p.drop (32 * k)).take 32) (fun q => by rw [q] at hcl2; simp at hcl2; omega) HLN1.out (by rw [hcl2]; omega)).1, ?_⟩
              have := ih.log
              have := HLG1.out
              omega
            have HWO := Lib.hid hw0
            have HLO := Lib.hid hstep
            have HDT := Lib.hid (dPut_take nm s p k hlt)
            obtain ⟨m, hmd⟩ : ∃ m, m = min sn 32 := ⟨_, rfl⟩
            have HM1 : Hid ((p.drop (32 * k)).take 32 = (p.drop (32 * k)).take m) := by
              unfold Hid
              rcases Nat.lt_or_ge sn 32 with q | q
              · rw [List.take_of_length_le (by rw [List.length_drop]; omega), List.take_of_length_le (by rw [List.length_drop]; omega)]
              · rw [show m = 32 by omega]
            have HM2 : Hid ((p.drop (32 * k)).drop m = p.drop (32 * (k + 1))) := by
              unfold Hid
              rw [List.drop_drop]
              rcases Nat.lt_or_ge sn 32 with q | q
              · rw [List.drop_of_length_le (by omega), List.drop_of_length_le (by omega)]
              · rw [show 32 * k + m = 32 * (k + 1) by omega]
            have HM3 : Hid (m ≤ (p.drop (32 * k)).length) := by unfold Hid; rw [List.length_drop]; omega
            have hm1 : m ≤ sn := by omega
            have hm0 : 0 < m := by omega
            have HLD : Hid ((p.drop (32 * k)).length = sn) := by unfold Hid; rw [List.length_drop]; omega
            obtain ⟨A, hA, hcut2⟩ : ∃ A : Option Addr, A = (if sk = m then sa else sa.map (·.add m)) ∧ ∀ W, (Instr.slice 27 (.slice sa sn sk) (some (.int .i64 (m : Int))) none none).run Try.prog W = .ok (.slice A (sn - m) (sk - m)) W :=
              ⟨_, rfl, fun W => by have h := run_cut (P := Try.prog) (size := 1) Try.underlying27 (by kernel_rfl) sa sn sk m hm1 W; simpa using h⟩
            have hcut1 := fun W => run_cut_h (P := Try.prog) (size := 1) Try.underlying27 (by kernel_rfl) sa sn sk m (by omega) W
            have HA := Lib.hid hA
            have hpz : (0 : Int) < sn := by omega
            have HMD := Lib.hid hmd
            clear hw0 hstep hA hf1 hcl
            have fin : Hid (∀ w' G2, DP w0 w' gd G2 (dDo (wPut nm ((p.drop (32 * k)).take m)) (dPut nm s ((chunks p).take k))) ⟨sa, sn, sk⟩ (p.drop (32 * k)) → DP w0 w' gd G2 (dPut nm s ((chunks p).take (k + 1))) ⟨A, sn - m, sk - m⟩ (p.drop (32 * (k + 1)))) := fun w' G2 h => by
              have h2 := h.drop_ m HM3.out
              rw [HM2.out, HLD.out] at h2
              dsimp only at h2
              rw [← HA.out] at h2
              rw [HDT.out, HM1.out]; exact h2
            rw [HM1.out] at HWO
            rcases Nat.lt_or_ge 32 sn with q | q
            · obtain rfl : m = 32 := by omega
              have q1 : (32 : Int) < sn := by omega
              clear q hmd
              go_wp2_with fail
              (with_reducible refine (dpPut_any nm _ hd.out HM3.out HWO.out HLO.out).mono ?_)
              rintro e w4 ⟨rfl, G4, h4, hu4, hg4⟩
              have H4 := Lib.hid (fin.out w4 G4 h4)
              try rw [Nat.sub_self] at H4
              have HU4 : Hid (Upd G w3 w4) := hu.out.trans hu4 (fun x hx => hx) hg.out
              have HG4 : Hid (∀ x ∈ G4, x ∈ G ∨ (w3.heap).size ≤ x) := fun x hx => by
                have := hu.out.size
                rcases hg4 x hx with r | r
                · exact hg.out x r
                · exact .inr (by omega)
              clear h4 hu4 hg4 fin
              go_wp2_with fail
              go_roundw
              case rel => exact ⟨k + 1, ⟨A, _, _⟩, G4, by omega, by first | rfl | (rw [HA.out, if_neg (by omega)]; rfl), H4, HU4, HG4⟩
              case measure => simp [lenV]; omega
            · obtain rfl : m = sn := by omega
              have q1 : ¬ (32 : Int) < m := by omega
              clear q hmd
              go_wp2_with fail
              (with_reducible refine (dpPut_any nm _ hd.out HM3.out HWO.out HLO.out).mono ?_)
              rintro e w4 ⟨rfl, G4, h4, hu4, hg4⟩
              have H4 := Lib.hid (fin.out w4 G4 h4)
              try rw [Nat.sub_self] at H4
              have HU4 : Hid (Upd G w3 w4) := hu.out.trans hu4 (fun x hx => hx) hg.out
              have HG4 : Hid (∀ x ∈ G4, x ∈ G ∨ (w3.heap).size ≤ x) := fun x hx => by
                have := hu.out.size
                rcases hg4 x hx with r | r
                · exact hg.out x r
                · exact .inr (by omega)
              clear h4 hu4 hg4 fin
              go_wp2_with fail
              go_roundw
              case rel => exact ⟨k + 1, ⟨A, _, _⟩, G4, by omega, by first | rfl | (rw [HA.out, if_neg (by omega)]; rfl), H4, HU4, HG4⟩
              case measure => simp [lenV]; omega
          · obtain rfl : k = (chunks p).length := by omega
            have hz : sn = 0 := by omega
            have HF : Hid (DP w0 wr gd G' (dPut nm s (chunks p)) ⟨sa, sn, sk⟩ (p.drop (32 * (chunks p).length))) := by have := hd.out; rwa [List.take_length] at this
            have HFO := Lib.hid hf1
            clear hf1 hcl hd
            subst hz
            go_wp2_with fail
            go_ret
            exact ⟨by rw [HR.out]; rfl, by rw [HR.out]; exact DOut.dp HF.out (HU3.out.mono (by simp)) (fun x hx => .inl hx) hu.out hg.out⟩
      | false =>
        have HR : Hid (dAppend s nm p = (0, dPut nm (dDo (wMake nm) s) (chunks p))) := by unfold Hid dAppend; rw [hok, if_pos rfl, if_neg hfull, hin, if_neg (by simp)]
        rw [hin] at HGET
        obtain ⟨hw, hk1, hk2, hk3, hk4⟩ := HD.out.ok.make nm hin (by have := HNL.out; omega)
        have HW := Lib.hid hw
        have HIN1 := Lib.hid hk2
        have HLN1 : Hid ((dDo (wMake nm) s).now.length ≤ 5000) := by have := HNL.out; unfold Hid; omega
        have HTT1 : Hid (dTotal (dDo (wMake nm) s).now + p.length ≤ 16777216) := by unfold Hid; rw [hk3]; exact HT.out
        have HLG1 : Hid ((dDo (wMake nm) s).log.length ≤ 500000001) := by have := HL.out; unfold Hid dDo; simp; omega
        have HLL : Hid (s.log.length ≤ 1000000000) := by have := HL.out; unfold Hid; omega
        clear hok hin hfull hw hk1 hk2 hk3 hk4
        go_enter Try.func29, Try.ntmps29
        go_wp2_with fail
        (with_reducible refine (dnamed_any w nm).mono ?_)
        rw [HOK.out]
        rintro e w1 ⟨rfl, rfl⟩
        go_wp2_with fail
        (with_reducible refine (dTotal_any HD.out HTOT.out).mono ?_)
        rintro e w2 ⟨rfl, hu2⟩
        have HU2 := Lib.hid hu2
        have c0 := hu2.cell C0.out (by simp)
        clear hu2
        go_wp2_with fail
        (with_reducible refine (HGET.out w2 HU2.out).mono ?_)
        rintro e w3 ⟨rfl, hu3⟩
        have HU3 := Lib.hid (HU2.out.seq hu3)
        clear hu3 c0 q hwr htot
        go_wp2_with fail
        (with_reducible refine (dDo_any (wMake nm) (HD.out.upd0 HU3.out) HW.out rfl HLL.out).mono ?_)
        rintro e w5 ⟨rfl, ho5⟩
        have HO5 := Lib.hid (ho5.later HU3.out)
        obtain ⟨G5, hd5, hu5, hg5⟩ := HO5.out
        have D1 := Lib.hid hd5
        have HU5 := Lib.hid hu5
        have HG5 := Lib.hid hg5
        have HP1 := Lib.hid (bytes_upd HP.out hu5 HAP.out)
        clear ho5 hd5 hu5 hg5 HO5
        have HRUN := Lib.hid (fun ty => run_app (P := Try.prog) (w := w5) (ty := ty) bv_one Try.underlying27 infoB8 rfl (.slice none 0 0) (.slice ap p.length cp) [] p (World.ownsRow_nil w5 (w5.heap).size _ 1) HP1.out (by simp; omega) (by simp [maxLen]; omega) (Nat.le_refl _))
        go_wp2_with (at_builtin; go_must (refine wpList_app_of rfl _ _ rfl (.slice none 0 0) (.slice ap p.length cp) rfl rfl (HRUN.out _) ?_; rintro v2 w2 ⟨ho2, hu2, hk2⟩; have HU2 := Lib.hid (hu2.mono (T := []) (by simp [blk])); obtain ⟨⟨a2, n2, k2⟩, G2, rfl, hd2, hg2, hg2'⟩ := D1.out.bytes (l := p) ho2 HU2.out; have HD2 := Lib.hid hd2; have HG2 := Lib.hid hg2; have HG2' := Lib.hid hg2'; clear ho2 hu2 hk2 hd2 hg2 hg2' HRUN; dsimp only))
        go_loopw [2] (fun v wr => ∃ (k : Nat) (sl : Sl) (G' : List Nat), k ≤ (chunks p).length ∧ v = .slice sl.a sl.n sl.k ∧ Hid (DP w0 wr gd G' (dPut nm (dDo (wMake nm) s) ((chunks p).take k)) sl (p.drop (32 * k))) ∧ Hid (Upd G5 w5 wr) ∧ Hid (∀ x ∈ G', x ∈ G5 ∨ (w5.heap).size ≤ x)) (fun v _ => lenV v)
        case atStart => exact ⟨0, ⟨a2, n2, k2⟩, G2, Nat.zero_le _, rfl, HD2.out, HU2.out.mono (by simp), HG2.out⟩
        case round =>
          obtain ⟨k, ⟨sa, sn, sk⟩, G', hk, rfl, hd, hu, hg⟩ := hrel
          clear HD2 HU2 HG2 HG2'
          have hform := hd.out.form
          dsimp only at hform
          obtain ⟨hf1, hf2, hf3⟩ := hform
          rw [List.length_drop] at hf1
          have hcl := chunks_len p
          by_cases hlt : k < (chunks p).length
          · have hpos : 32 * k < p.length := by omega
            obtain ⟨hw0, hstep⟩ : WrOk (wPut nm ((p.drop (32 * k)).take 32)) (dPut nm (dDo (wMake nm) s) ((chunks p).take k)).now ∧ (dPut nm (dDo (wMake nm) s) ((chunks p).take k)).log.length ≤ 1000000000 := by
              have ih := PutOk.all p D1.out.ok HIN1.out HLN1.out HTT1.out k hk
              have hcl2 : ((p.drop (32 * k)).take 32).length = min 32 (p.length - 32 * k) := by rw [List.length_take, List.length_drop]
              have htt := HTT1.out
              refine ⟨(ih.step ((p.drop (32 * k)).take 32) (fun q => by rw [q] at hcl2; simp at hcl2; omega) HLN1.out (by rw [hcl2]; omega)).1, ?_⟩
              have := ih.log
              have := HLG1.out
              omega
            have HWO := Lib.hid hw0
            have HLO := Lib.hid hstep
            have HDT := Lib.hid (dPut_take nm (dDo (wMake nm) s) p k hlt)
            obtain ⟨m, hmd⟩ : ∃ m, m = min sn 32 := ⟨_, rfl⟩
            have HM1 : Hid ((p.drop (32 * k)).take 32 = (p.drop (32 * k)).take m) := by
              unfold Hid
              rcases Nat.lt_or_ge sn 32 with q | q
              · rw [List.take_of_length_le (by rw [List.length_drop]; omega), List.take_of_length_le (by rw [List.length_drop]; omega)]
              · rw [show m = 32 by omega]
            have HM2 : Hid ((p.drop (32 * k)).drop m = p.drop (32 * (k + 1))) := by
              unfold Hid
              rw [List.drop_drop]
              rcases Nat.lt_or_ge sn 32 with q | q
              · rw [List.drop_of_length_le (by omega), List.drop_of_length_le (by omega)]
              · rw [show 32 * k + m = 32 * (k + 1) by omega]
            have HM3 : Hid (m ≤ (p.drop (32 * k)).length) := by unfold Hid; rw [List.length_drop]; omega
            have hm1 : m ≤ sn := by omega
            have hm0 : 0 < m := by omega
            have HLD : Hid ((p.drop (32 * k)).length = sn) := by unfold Hid; rw [List.length_drop]; omega
            obtain ⟨A, hA, hcut2⟩ : ∃ A : Option Addr, A = (if sk = m then sa else sa.map (·.add m)) ∧ ∀ W, (Instr.slice 27 (.slice sa sn sk) (some (.int .i64 (m : Int))) none none).run Try.prog W = .ok (.slice A (sn - m) (sk - m)) W :=
              ⟨_, rfl, fun W => by have h := run_cut (P := Try.prog) (size := 1) Try.underlying27 (by kernel_rfl) sa sn sk m hm1 W; simpa using h⟩
            have hcut1 := fun W => run_cut_h (P := Try.prog) (size := 1) Try.underlying27 (by kernel_rfl) sa sn sk m (by omega) W
            have HA := Lib.hid hA
            have hpz : (0 : Int) < sn := by omega
            have HMD := Lib.hid hmd
            clear hw0 hstep hA hf1 hcl
            have fin : Hid (∀ w' G2, DP w0 w' gd G2 (dDo (wPut nm ((p.drop (32 * k)).take m)) (dPut nm (dDo (wMake nm) s) ((chunks p).take k))) ⟨sa, sn, sk⟩ (p.drop (32 * k)) → DP w0 w' gd G2 (dPut nm (dDo (wMake nm) s) ((chunks p).take (k + 1))) ⟨A, sn - m, sk - m⟩ (p.drop (32 * (k + 1)))) := fun w' G2 h => by
              have h2 := h.drop_ m HM3.out
              rw [HM2.out, HLD.out] at h2
              dsimp only at h2
              rw [← HA.out] at h2
              rw [HDT.out, HM1.out]; exact h2
            rw [HM1.out] at HWO
            rcases Nat.lt_or_ge 32 sn with q | q
            · obtain rfl : m = 32 := by omega
              have q1 : (32 : Int) < sn := by omega
              clear q hmd
              go_wp2_with fail
              (with_reducible refine (dpPut_any nm _ hd.out HM3.out HWO.out HLO.out).mono ?_)
              rintro e w4 ⟨rfl, G4, h4, hu4, hg4⟩
              have H4 := Lib.hid (fin.out w4 G4 h4)
              try rw [Nat.sub_self] at H4
              have HU4 : Hid (Upd G5 w5 w4) := hu.out.trans hu4 (fun x hx => hx) hg.out
              have HG4 : Hid (∀ x ∈ G4, x ∈ G5 ∨ (w5.heap).size ≤ x) := fun x hx => by
                have := hu.out.size
                rcases hg4 x hx with r | r
                · exact hg.out x r
                · exact .inr (by omega)
              clear h4 hu4 hg4 fin
              go_wp2_with fail
              go_roundw
              case rel => exact ⟨k + 1, ⟨A, _, _⟩, G4, by omega, by first | rfl | (rw [HA.out, if_neg (by omega)]; rfl), H4, HU4, HG4⟩
              case measure => simp [lenV]; omega
            · obtain rfl : m = sn := by omega
              have q1 : ¬ (32 : Int) < m := by omega
              clear q hmd
              go_wp2_with fail
              (with_reducible refine (dpPut_any nm _ hd.out HM3.out HWO.out HLO.out).mono ?_)
              rintro e w4 ⟨rfl, G4, h4, hu4, hg4⟩
              have H4 := Lib.hid (fin.out w4 G4 h4)
              try rw [Nat.sub_self] at H4
              have HU4 : Hid (Upd G5 w5 w4) := hu.out.trans hu4 (fun x hx => hx) hg.out
              have HG4 : Hid (∀ x ∈ G4, x ∈ G5 ∨ (w5.heap).size ≤ x) := fun x hx => by
                have := hu.out.size
                rcases hg4 x hx with r | r
                · exact hg.out x r
                · exact .inr (by omega)
              clear h4 hu4 hg4 fin
              go_wp2_with fail
              go_roundw
              case rel => exact ⟨k + 1, ⟨A, _, _⟩, G4, by omega, by first | rfl | (rw [HA.out, if_neg (by omega)]; rfl), H4, HU4, HG4⟩
              case measure => simp [lenV]; omega
          · obtain rfl : k = (chunks p).length := by omega
            have hz : sn = 0 := by omega
            have HF : Hid (DP w0 wr gd G' (dPut nm (dDo (wMake nm) s) (chunks p)) ⟨sa, sn, sk⟩ (p.drop (32 * (chunks p).length))) := by have := hd.out; rwa [List.take_length] at this
            have HFO := Lib.hid hf1
            clear hf1 hcl hd
            subst hz
            go_wp2_with fail
            go_ret
            exact ⟨by rw [HR.out]; rfl, by rw [HR.out]; exact DOut.dp HF.out HU5.out HG5.out hu.out hg.out⟩
end
end Go.Proofs.Ytmhdhnipljonlaa
