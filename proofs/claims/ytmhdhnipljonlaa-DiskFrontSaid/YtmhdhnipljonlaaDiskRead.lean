/- Chapter 22: a disk made, and read. -/
import Derived.Test.YtmhdhnipljonlaaDiskDo
namespace Go.Proofs.Ytmhdhnipljonlaa
open Go.RowKit
set_option linter.unusedSimpArgs false
set_option linter.unusedVariables false
section
variable {w0 w w' : World} {gd : Nat} {G : List Nat} {s : DS}
set_option maxRecDepth 20000 in
set_option maxHeartbeats 1000000 in
theorem dNew_any (w0 w : World) (hu : Upd [] w0 w) :
    Calls Try.prog 28 #[] w fun e w' => ∃ gd G, e = .returned (.pointer (some ⟨gd, 0, none⟩)) ∧ DD w0 w' gd G ⟨[], [], []⟩ ∧ Upd [] w w' ∧ (∀ x ∈ G, w.heap.size ≤ x) := by
  have HU := Lib.hid hu
  clear hu
  go_enter Try.func28, Try.ntmps28
  go_wp2_with fail
  (with_reducible refine (txSL_New w0 w HU.out).mono ?_)
  rintro e w1 ⟨g1, F1, rfl, h1, hu1, hf1⟩
  have H1 := Lib.hid h1
  have HU1 := Lib.hid (HU.out.seq hu1)
  have HW1 := Lib.hid hu1
  have HF1 := Lib.hid hf1
  clear h1 hu1 hf1
  go_wp2_with fail
  (with_reducible refine (txSL_New w0 w1 HU1.out).mono ?_)
  rintro e w2 ⟨g2, F2, rfl, h2, hu2, hf2⟩
  have H2 := Lib.hid h2
  have HU2 := Lib.hid hu2
  have HF2 := Lib.hid hf2
  clear h2 hu2 hf2
  go_wp2_with fail
  go_ret
  have hua : Upd [] w2 (w2.alloc (.cells #[.pointer (some ⟨g1, 0, none⟩), .pointer (some ⟨g2, 0, none⟩), .slice none 0 0] 111)) := (Upd.refl [] w2).alloc _
  have hs1 := HW1.out.size
  have hs2 := HU2.out.size
  refine ⟨_, _, rfl, ⟨g1, g2, F1, F2, [], fun _ => ([], 0), [], [], .slice none 0 0, [], ⟨Blk.new w2 _ [.pointer (some ⟨g1, 0, none⟩), .pointer (some ⟨g2, 0, none⟩), .slice none 0 0], ?_, ⟨(H1.out.upd0 HU2.out).upd0 hua, by simp, by simp, by simp⟩, ⟨H2.out.upd0 hua, by simp, by simp, by simp⟩, fun c hc => by simp at hc, ?_, ⟨by simp⟩, OwnN.nil _ _ _, by simp⟩, rfl, DOk.zero, rfl⟩, (HW1.out.seq HU2.out).seq hua, fun x hx => ?_⟩
  · exact (HU1.out.seq HU2.out).size
  · exact Ap.symm (Ap.new (n := w1.heap.size) HF2.out (fun x hx => (H1.out.ge x hx).2))
  · rcases (dfoot_mem _ _ _ _ _ _).1 hx with rfl | hx | hx | hx | hx
    · omega
    · exact HF1.out x hx
    · have := HF2.out x hx; omega
    · simp at hx
    · simp [blk] at hx
set_option maxRecDepth 20000 in
theorem dCount_any (h : DD w0 w gd G s) :
    Calls Try.prog 30 #[.pointer (some ⟨gd, 0, none⟩)] w fun e w' => e = .returned (.int .i64 (s.log.length : Int)) ∧ w = w' := by
  obtain ⟨gn, gm, Fn, Fm, B, K, cn, cm, lv, lg, hc, rfl, ho, rfl⟩ := h.ex
  obtain ⟨ao, co, rfl, -⟩ := hc.log.rd lwCells_len
  have c2 : w.cell? ⟨gd, 2, none⟩ = some (.slice ao lg.length co) := hc.dk.cell 2
  clear hc h ho
  go_enter Try.func30, Try.ntmps30
  go_wp2
  go_ret
  exact ⟨by simp, rfl⟩
set_option maxRecDepth 20000 in
theorem dNames_any (h : DD w0 w gd G s) (hl : s.now.length ≤ 100000) :
    Calls Try.prog 35 #[.pointer (some ⟨gd, 0, none⟩)] w fun e w' => ∃ v, e = .returned v ∧ Own sv w.heap.size 9 w' v (s.now.map (·.1)) ∧ Upd [] w w' := by
  obtain ⟨gn, gm, Fn, Fm, B, K, cn, cm, lv, lg, hc, rfl, ho, rfl⟩ := h.ex
  have c0 : w.cell? ⟨gd, 0, none⟩ = some (.pointer (some ⟨gn, 0, none⟩)) := hc.dk.cell 0
  have HC := Lib.hid hc
  have hl2 : (rowsF cn).length ≤ 100000 := by rw [rowsF_len]; rwa [df_len] at hl
  have hk : (rowsF cn).map (·.1) = (dfOf cn).map (·.1) := by simp [tMap]
  dsimp only
  generalize (dfOf cn).map (·.1) = ks at *
  have HL := Lib.hid hl2
  have HK := Lib.hid hk
  clear hc h ho hl hl2 hk
  go_enter Try.func35, Try.ntmps35
  go_wp2_with fail
  (with_reducible refine (txSL_Keys _ HC.out.now.tab HL.out HK.out).mono ?_)
  rintro e w1 ⟨v, rfl, ho1, hu1⟩
  obtain ⟨a1, k1, rfl, -⟩ := ho1.rd
  have HO1 := Lib.hid ho1
  have HU1 := Lib.hid hu1
  clear ho1 hu1
  go_wp2_with fail
  go_ret
  exact ⟨_, rfl, HO1.out, HU1.out⟩
set_option maxRecDepth 20000 in
set_option maxHeartbeats 1000000 in
theorem dRead_any (nm : ByteArray) (h : DD w0 w gd G s) (hl : s.now.length ≤ 100000) :
    Calls Try.prog 33 #[.pointer (some ⟨gd, 0, none⟩), sv nm] w fun e w' => ∃ v, e = .returned (.tuple #[v, .bool (dGet s.now nm).2]) ∧ Own bv w.heap.size 5 w' v (dGet s.now nm).1 ∧ Upd [] w w' := by
  have hlen := get_le_total s.now nm
  have htot := h.ok.tot
  obtain ⟨gn, gm, Fn, Fm, B, K, cn, cm, lv, lg, hc, rfl, ho, rfl⟩ := h.ex
  have c0 : w.cell? ⟨gd, 0, none⟩ = some (.pointer (some ⟨gn, 0, none⟩)) := hc.dk.cell 0
  have hl2 : (rowsF cn).length ≤ 100000 := by rw [rowsF_len]; rwa [df_len] at hl
  have HL := Lib.hid hl2
  obtain ⟨⟨oa, on, ok⟩, old, b, hget, hdg, hin, hsh, hgr, hoth⟩ := hc.now.found nm
  dsimp only at hlen htot
  rw [hdg] at hlen ⊢
  dsimp only at hlen ⊢
  have HG := Lib.hid hget
  have HT := Lib.hid hc.now
  have HR := Lib.hid (hsh.rd hc.bks)
  have hon := hsh.n
  dsimp only at hon
  subst hon
  have hlb : old.length ≤ 16777216 := by omega
  clear hc h ho hl hl2 hget hdg hin hsh hgr hoth hlen htot
  go_enter Try.func33, Try.ntmps33
  go_wp2_with fail
  (with_reducible refine (txSL_Get nm ⟨oa, old.length, ok⟩ b HT.out.tab HL.out trivial HG.out).mono ?_)
  rintro e w1 ⟨rfl, hu1⟩
  have HU1 := Lib.hid hu1
  have HRUN := Lib.hid (fun ty => run_app (P := Try.prog) (w := w1) (ty := ty) bv_one Try.underlying27 infoB8 rfl (.slice none 0 0) (.slice oa old.length ok) [] old (World.ownsRow_nil w1 w.heap.size _ 1) (HR.out.upd0 hu1) (by simp; omega) (by simp [maxLen]; omega) hu1.size)
  clear hu1
  go_wp2_with (at_builtin; go_must (refine wpList_app_of rfl _ _ rfl (.slice none 0 0) (.slice oa old.length ok) rfl rfl (HRUN.out _) ?_; rintro v2 w2 ⟨ho2, hu2, hk2⟩; have HO2 := Lib.hid ho2; have HU2 := Lib.hid hu2; obtain ⟨a2, k2, rfl, -⟩ := ho2.rd; clear ho2 hu2 hk2 HRUN; dsimp only))
  go_ret2
  exact ⟨_, rfl, HO2.out, HU1.out.seq (HU2.out.mono (by simp [blk]))⟩
end
end Go.Proofs.Ytmhdhnipljonlaa
