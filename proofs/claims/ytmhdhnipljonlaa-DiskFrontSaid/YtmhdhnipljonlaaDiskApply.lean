/- Chapter 22: a raw write is done to a table of files. -/
import Derived.Test.YtmhdhnipljonlaaDiskTab
import Derived.Test.YtmhdhnipljonlaaSliceCut
import Derived.Deep.RegionHeld3
import Derived.StillTailTactics
namespace Go.Proofs.Ytmhdhnipljonlaa
open Go.RowKit
set_option linter.unusedSimpArgs false
set_option linter.unusedVariables false
abbrev wrv (x : Wr) (sl : Sl) : Value := .agg #[.int .i64 x.kd, sv x.nm, sv x.tn, slv sl, .int .i64 x.n]
section
variable {w0 w w' : World} {g : Nat} {F B : List Nat} {K : KB} {cs : CF}
theorem TDoes.of {w1 w2 : World} {F' B' : List Nat} {K' : KB} {cs' : CF} {fs' : DF} (h1 : TD w0 w2 g F' B' K' cs') (h2 : Bks w0.heap.size w2 B' K') (h3 : Ext B K B' K') (h4 : dfOf cs' = fs') (hu : Upd [] w w1) (hu2 : Upd (F ++ B) w1 w2) (hf : ∀ x ∈ F', x ∈ F ∨ w.heap.size ≤ x) (hb : ∀ x ∈ B', x ∈ B ∨ w.heap.size ≤ x) : TDoes w0 w g F B K fs' w2 :=
  ⟨F', B', K', cs', h1, h2, h3, h4, hu.trans hu2 (by simp) (fun x hx => .inl hx), hf, hb⟩
theorem ap_full {F : List Nat} {s : Sl} (h : s.k ≤ s.n) : Ap F (gb s) := fun x _ hx => by rw [gb_full h] at hx; simp at hx
theorem wApply_1 (nm tn : ByteArray) (p : List UInt8) (n : Int) (fs : DF) : wApply ⟨1, nm, tn, p, n⟩ fs = tSet strLt fs nm [] := by unfold wApply; simp
theorem wApply_2 (nm tn : ByteArray) (p : List UInt8) (n : Int) (fs : DF) : wApply ⟨2, nm, tn, p, n⟩ fs = tSet strLt fs nm ((dGet fs nm).1 ++ p) := by unfold wApply; simp
theorem wApply_3 (nm tn : ByteArray) (p : List UInt8) (n : Int) (fs : DF) : wApply ⟨3, nm, tn, p, n⟩ fs = if inD fs nm then tSet strLt (tDel strLt fs nm) tn (dGet fs nm).1 else fs := by unfold wApply; simp
theorem wApply_4 (nm tn : ByteArray) (p : List UInt8) (n : Int) (fs : DF) : wApply ⟨4, nm, tn, p, n⟩ fs = tSet strLt fs nm ((dGet fs nm).1.take n.toNat) := by unfold wApply; simp
theorem wApply_5 (nm tn : ByteArray) (p : List UInt8) (n : Int) (fs : DF) : wApply ⟨5, nm, tn, p, n⟩ fs = tDel strLt fs nm := by unfold wApply; simp
theorem later {F : List Nat} {w w2 : World} {x : Nat} (hu : Upd [] w w2) (h : x ∈ F ∨ w2.heap.size ≤ x) : x ∈ F ∨ w.heap.size ≤ x := h.imp id (fun q => by have := hu.size; omega)
set_option maxRecDepth 20000 in
set_option maxHeartbeats 4000000 in
theorem apply_any (x : Wr) (sl : Sl) (hx : WrOk x (dfOf cs)) (ht : TD w0 w g F B K cs) (hB : Bks w0.heap.size w B K) (hp : Sh B K sl x.p) :
    Calls Try.prog 62 #[wrv x sl, .pointer (some ⟨g, 0, none⟩)] w fun e w' => e = .returned (.tuple #[]) ∧ TDoes w0 w g F B K (wApply x (dfOf cs)) w' := by
  obtain ⟨kd, nm, tn, p, n⟩ := x
  obtain ⟨pa, pn, pk⟩ := sl
  obtain ⟨⟨oa, on, ok⟩, old, b, hget, hdg, hin, hsh, hgr, hoth⟩ := ht.found nm
  have hlen : cs.length ≤ 100000 := by have := hx.len; rw [df_len] at this; omega
  have hrl : (rowsF cs).length ≤ 100000 := by rw [rowsF_len]; exact hlen
  have hbase := hB
  have hu1 : Upd [] w (w.alloc (.cells #[.int .i64 kd, sv nm, sv tn, .slice pa pn pk, .int .i64 n] 114)) := (Upd.refl [] w).alloc _
  have HT := Lib.hid (ht.upd0 hu1)
  have HB := Lib.hid (hB.upd hu1 (by simp))
  have HBX := Lib.hid (Blk.new w 114 [.int .i64 kd, sv nm, sv tn, .slice pa pn pk, .int .i64 n])
  have HGET := Lib.hid hget
  have HX := Lib.hid hx
  have HU1 := Lib.hid hu1
  have HSH := Lib.hid hsh
  have HGR := Lib.hid hgr
  have HOTH := Lib.hid hoth
  have HP := Lib.hid hp
  have HDG := Lib.hid hdg
  have HIN := Lib.hid hin
  have HRL := Lib.hid hrl
  have HLEN := Lib.hid hlen
  have hkd := hx.kd
  clear ht hB hget hx hu1 hsh hgr hoth hp hdg hin hbase hrl hlen
  go_enter Try.func62, Try.ntmps62
  go_wp2_with fail
  (with_reducible refine (txSL_Get nm ⟨oa, on, ok⟩ b HT.out.tab HRL.out trivial HGET.out).mono ?_)
  rintro e w2 ⟨rfl, hu2⟩
  have hB2 := HBX.out.upd hu2 (by simp)
  have d0 := hB2.cell 0
  have d1 := hB2.cell 1
  have d2 := hB2.cell 2
  have d3 := hB2.cell 3
  have d4 := hB2.cell 4
  simp only [List.getElem?_cons_zero, List.getElem?_cons_succ] at d0 d1 d2 d3 d4
  have HT2 := Lib.hid (HT.out.upd0 hu2)
  have HB2 := Lib.hid (HB.out.upd hu2 (by simp))
  have HU2 := Lib.hid (HU1.out.seq hu2)
  have HNF : Hid (w.heap.size ∉ F) := fun hx => by
    obtain ⟨C, f, e, h1, h2⟩ := sl_ty HT2.out.tab _ hx
    have := ty_eq h1 hB2
    rcases h2 with h2 | h2 <;> (rw [h2] at this; exact absurd this (by decide))
  have HNB : Hid (w.heap.size ∉ B) := fun hx => by
    obtain ⟨C, f, h1⟩ := HB2.out.typ _ hx
    exact absurd (ty_eq h1 hB2) (by decide)
  clear hB2 hu2 HT HB HBX HU1
  rcases (show kd = 1 ∨ kd = 2 ∨ kd = 3 ∨ kd = 4 ∨ kd = 5 by have := hkd.1; have := hkd.2; omega) with rfl | rfl | rfl | rfl | rfl
  · clear hkd
    go_wp2_with fail
    (with_reducible refine (td_set nm ⟨none, 0, 0⟩ [] HT2.out.tab HB2.out HLEN.out (fun d hd hne => ⟨HT2.out.sh d hd, HT2.out.gr d hd, ap_full (Nat.le_refl _)⟩) HT2.out.ap Sh.nil (Gr.full (Nat.le_refl _))).mono ?_)
    rintro e w3 ⟨⟨r, rfl⟩, F3, h3, hb3, hu3, hf3⟩
    have H9 := Lib.hid (TDoes.of (fs' := wApply ⟨1, nm, tn, p, n⟩ (dfOf cs)) (w := w) (B := B) (K := K) (F := F) h3 hb3 (Ext.refl _ _) (by rw [df_set, wApply_1 nm tn p n]) HU2.out (hu3.mono (fun x hx => .inl (by simp [hx]))) (fun x hx => later HU2.out (hf3 x hx)) (fun x hx => .inl hx))
    clear h3 hb3 hu3 hf3
    go_wp2_with fail
    go_end0
    exact ⟨rfl, H9.out⟩
  · clear hkd
    obtain ⟨hne, hpl⟩ := HX.out.put rfl
    dsimp only at hne hpl
    rw [HDG.out] at hpl
    dsimp only at hpl
    have HRUN : Hid (∀ ty, ∃ v' w', (Builtin.append_ #[27, 27] ty #[slv ⟨oa, on, ok⟩, slv ⟨pa, pn, pk⟩]).run Try.prog w2.drew = .ok v' w' ∧ Grew w0.heap.size w2.drew B K ⟨oa, on, ok⟩ (old ++ p) v' w') := fun ty => app_step (HB2.out.upd (Upd.refl [] w2).drew (by simp)) HSH.out HGR.out (HP.out.rd (HB2.out.upd (Upd.refl [] w2).drew (by simp))) hne (by omega) (by have := HT2.out.tab.old.size; exact this)
    clear hne hpl
    have HFB : Hid (∀ x ∈ F, x ∉ B) := sl_bks HT2.out.tab HB2.out
    go_wp2_with fail
    go_region_held3 (fun w' => w'.cell? ⟨w.heap.size, 1, none⟩ = some (sv nm) ∧ w'.cell? ⟨w.heap.size, 3, none⟩ = some (.slice pa pn pk)) (first | go_keep | exact k5 | exact k4)
      (first
        | ((with_reducible refine step_app_of rfl (.tmp 26) (.tmp 28) rfl (.slice oa on ok) (.slice pa pn pk) rfl rfl (HRUN.out _) ?_); (rintro v3 w3 ⟨⟨sa, sn, sk⟩, B3, K3, rfl, hb3, he3, hn3, hs3, hg3, hu3, ho3⟩; have k4 := And.intro (hu3.cell (p := ⟨w.heap.size, 1, none⟩) d1 HNB.out) (hu3.cell (p := ⟨w.heap.size, 3, none⟩) d3 HNB.out); have HB3 := Lib.hid hb3; have HE3 := Lib.hid he3; have HN3 := Lib.hid hn3; have HS3 := Lib.hid hs3; have HG3 := Lib.hid hg3; have HU3 := Lib.hid hu3; have HO3 := Lib.hid ho3; clear hb3 he3 hn3 hs3 hg3 hu3 ho3; dsimp only))
        | (go_at_call 88; (with_reducible refine (td_set nm ⟨sa, sn, sk⟩ (old ++ p) (HT2.out.tab.upd (S := B) ((Upd.refl [] w2).drew.trans HU3.out (by simp) (fun x hx => .inl hx)) HFB.out (fun x hx => (HB2.out.ge x hx).1)) HB3.out HLEN.out (fun d hd hne => ⟨(HT2.out.sh d hd).ext HE3.out, HO3.out _ _ (HOTH.out d hd hne).1 (HOTH.out d hd hne).2⟩) HT2.out.ap HS3.out HG3.out).mono ?_); (rintro e w4 ⟨⟨r, rfl⟩, F4, h4, hb4, hu4, hf4⟩; have k5 := And.intro (hu4.cell (p := ⟨w.heap.size, 1, none⟩) k4.1 HNF.out) (hu4.cell (p := ⟨w.heap.size, 3, none⟩) k4.2 HNF.out); dsimp only)))
    have hu3' : Upd B w w3 := HU2.out.drew.trans HU3.out (by simp) (fun x hx => .inl hx)
    have H9 : Hid (TDoes w0 w g F B K (wApply ⟨2, nm, tn, p, n⟩ (dfOf cs)) w4) := ⟨F4, B3, K3, _, h4, hb4, HE3.out, by rw [df_set, wApply_2, HDG.out], hu3'.trans hu4 (fun x hx => by simp [hx]) (fun x hx => .inl (by simp [hx])), fun x hx => (hf4 x hx).imp id (fun q => by have := hu3'.size; omega), fun x hx => (HN3.out x hx).imp id (fun q => by have := HU2.out.size; have : w2.drew.heap.size = w2.heap.size := rfl; omega)⟩
    clear h4 hb4 hu4 hf4 hu3'
    go_wp2_with fail
    go_end0
    exact ⟨rfl, H9.out⟩
  · clear hkd
    cases b with
    | false =>
      go_wp2_with fail
      go_end0
      exact ⟨rfl, TDoes.of (w := w) (B := B) (K := K) (F := F) HT2.out HB2.out (Ext.refl _ _) (by rw [wApply_3, HIN.out]; rfl) (Upd.refl _ _) (HU2.out.mono (by simp)) (fun x hx => .inl hx) (fun x hx => .inl hx)⟩
    | true =>
      go_wp2_with fail
      (with_reducible refine (td_del nm HT2.out HB2.out HLEN.out).mono ?_)
      rintro e w3 ⟨⟨r, rfl⟩, F3, h3, hb3, hu3, hf3⟩
      have e2 := hu3.cell d2 (HNF.out)
      have H3 := Lib.hid h3
      have HB3 := Lib.hid hb3
      have HU3 := Lib.hid hu3
      have HF3 := Lib.hid hf3
      clear h3 hb3 hu3 hf3 d0 d1 d2 d3 d4
      have HL3 : Hid (List.length (tDel strLt cs nm) ≤ 100000) := Nat.le_trans (tDel_len cs nm) HLEN.out
      have HO3 : Hid (∀ d ∈ tDel strLt cs nm, Gr B K d.2.1 d.2.2 ∧ Ap (gb d.2.1) (gb ⟨oa, on, ok⟩)) := fun d hd => by
        obtain ⟨h1, h2⟩ := tDel_memS HT2.out.ris nm d hd
        exact HOTH.out d h1 (h2 (by rw [← in_df]; exact HIN.out))
      go_wp2_with fail
      (with_reducible refine (td_set tn ⟨oa, on, ok⟩ old H3.out.tab HB3.out HL3.out (fun d hd hne => ⟨H3.out.sh d hd, HO3.out d hd⟩) H3.out.ap HSH.out HGR.out).mono ?_)
      rintro e w4 ⟨⟨r, rfl⟩, F4, h4, hb4, hu4, hf4⟩
      have H9 : Hid (TDoes w0 w g F B K (wApply ⟨3, nm, tn, p, n⟩ (dfOf cs)) w4) := ⟨F4, B, K, _, h4, hb4, Ext.refl _ _, by rw [df_set, df_del, wApply_3, HIN.out, HDG.out]; rfl, HU2.out.trans (HU3.out.trans (T := F ++ B) hu4 (fun x hx => by simp [hx]) (fun x hx => (HF3.out x hx).imp (fun q => by simp [q]) id)) (by simp) (fun x hx => .inl hx), fun x hx => by
        have := HU2.out.size
        have := HU3.out.size
        rcases hf4 x hx with q | q
        · exact later HU2.out (HF3.out x q)
        · exact .inr (by omega), fun x hx => .inl hx⟩
      clear h4 hb4 hu4 hf4
      go_wp2_with fail
      go_end0
      exact ⟨rfl, H9.out⟩
  · clear hkd
    obtain ⟨h0, hn⟩ := HX.out.cut rfl
    dsimp only at h0 hn
    rw [HDG.out] at hn
    dsimp only at hn
    obtain ⟨m, rfl⟩ := Int.eq_ofNat_of_zero_le h0
    have hml : m ≤ old.length := by omega
    have hmk : m ≤ ok := by have := HSH.out.n; have := HSH.out.k; dsimp only at *; omega
    have hcut := fun W => run_cut_hm (P := Try.prog) (size := 1) Try.underlying27 (by kernel_rfl) oa on ok m hmk W
    have HML := Lib.hid hml
    clear h0 hn hml hmk
    go_wp2_with fail
    go_still_tail 9, (by kernel_rfl)
    change wpList _ _ _ _ _ w2.drew
    go_wp2_with fail
    (with_reducible refine (td_set nm ⟨oa, m, m⟩ (old.take m) (HT2.out.tab.upd0 (Upd.refl [] w2).drew) (HB2.out.upd (Upd.refl [] w2).drew (by simp)) HLEN.out (fun d hd hne => ⟨HT2.out.sh d hd, HT2.out.gr d hd, ap_full (Nat.le_refl _)⟩) HT2.out.ap (HSH.out.cut m HML.out) (Gr.full (Nat.le_refl _))).mono ?_)
    rintro e w3 ⟨⟨r, rfl⟩, F3, h3, hb3, hu3, hf3⟩
    have H9 := Lib.hid (TDoes.of (fs' := wApply ⟨4, nm, tn, p, (m : Int)⟩ (dfOf cs)) (w := w) (B := B) (K := K) (F := F) h3 hb3 (Ext.refl _ _) (by rw [df_set, wApply_4, HDG.out, Int.toNat_natCast]) HU2.out.drew (hu3.mono (fun x hx => .inl (by simp [hx]))) (fun x hx => later HU2.out (hf3 x hx)) (fun x hx => .inl hx))
    clear h3 hb3 hu3 hf3
    go_wp2_with fail
    go_end0
    exact ⟨rfl, H9.out⟩
  · clear hkd
    go_wp2_with fail
    (with_reducible refine (td_del nm HT2.out HB2.out HLEN.out).mono ?_)
    rintro e w3 ⟨⟨r, rfl⟩, F3, h3, hb3, hu3, hf3⟩
    have H9 := Lib.hid (TDoes.of (fs' := wApply ⟨5, nm, tn, p, n⟩ (dfOf cs)) (w := w) (B := B) (K := K) (F := F) h3 hb3 (Ext.refl _ _) (by rw [df_del, wApply_5 nm tn p n]) HU2.out (hu3.mono (fun x hx => .inl (by simp [hx]))) (fun x hx => later HU2.out (hf3 x hx)) (fun x hx => .inl hx))
    clear h3 hb3 hu3 hf3
    go_wp2_with fail
    go_end0
    exact ⟨rfl, H9.out⟩
end
end Go.Proofs.Ytmhdhnipljonlaa
