/- Chapter 22: one raw write. -/
import Derived.Test.YtmhdhnipljonlaaDiskState
import Derived.StillTailTactics
import Derived.Deep.RegionLaw
namespace Go.Proofs.Ytmhdhnipljonlaa
open Go.RowKit
set_option linter.unusedSimpArgs false
set_option linter.unusedVariables false
section
variable {w0 w w' : World} {gd gn gm : Nat} {Fn Fm B : List Nat} {K : KB} {cn cm : CF} {lv : Value} {lg : List LW}
set_option maxRecDepth 20000 in
set_option maxHeartbeats 4000000 in
theorem do_any (x : Wr) (sl : Sl) (h : DC w0 w gd gn gm Fn Fm B K cn cm lv lg) (hx : WrOk x (dfOf cn)) (hp : Sh B K sl x.p) (hl : lg.length ≤ 1000000000) :
    Calls Try.prog 61 #[.pointer (some ⟨gd, 0, none⟩), wrv x sl] w fun e w' => e = .returned (.tuple #[]) ∧ ∃ Fn' B' K' cn' lv', DC w0 w' gd gn gm Fn' Fm B' K' cn' cm lv' (lg ++ [(x, sl)]) ∧ Ext B K B' K' ∧ dfOf cn' = wApply x (dfOf cn) ∧ Upd (dfoot gd Fn Fm B lv) w w' ∧ (∀ y ∈ dfoot gd Fn' Fm B' lv', y ∈ dfoot gd Fn Fm B lv ∨ w.heap.size ≤ y) := by
  obtain ⟨ao, co, rfl, hlc, hcm, -⟩ := h.log.rd lwCells_len
  obtain ⟨kd, nm, tn, p, n⟩ := x
  obtain ⟨pa, pn, pk⟩ := sl
  have hu1 : Upd [] w (w.alloc (.cells #[.int .i64 kd, sv nm, sv tn, .slice pa pn pk, .int .i64 n] 114)) := (Upd.refl [] w).alloc _
  have H1 := Lib.hid (h.upd0 hu1)
  have HBX := Lib.hid (Blk.new w 114 [.int .i64 kd, sv nm, sv tn, .slice pa pn pk, .int .i64 n])
  have HGE := Lib.hid h.ge
  have HX := Lib.hid hx
  have HP := Lib.hid hp
  have HU1 := Lib.hid hu1
  have c0 : (w.alloc (.cells #[.int .i64 kd, sv nm, sv tn, .slice pa pn pk, .int .i64 n] 114)).cell? ⟨gd, 0, none⟩ = some (.pointer (some ⟨gn, 0, none⟩)) := hu1.cell (h.dk.cell 0) (by simp)
  have hgd : gd < w.heap.size := h.dk.lt
  clear h hx hp hu1
  go_enter Try.func61, Try.ntmps61
  go_wp2_with fail
  have d0 := HBX.out.cell 0
  have d1 := HBX.out.cell 1
  have d2 := HBX.out.cell 2
  have d3 := HBX.out.cell 3
  have d4 := HBX.out.cell 4
  simp only [List.getElem?_cons_zero, List.getElem?_cons_succ] at d0 d1 d2 d3 d4
  have hw1 := HU1.out.size
  have HW1 : Hid (w.heap.size < (w.alloc (.cells #[.int .i64 kd, sv nm, sv tn, .slice pa pn pk, .int .i64 n] 114)).heap.size) := HBX.out.lt
  generalize w.alloc (.cells #[.int .i64 kd, sv nm, sv tn, .slice pa pn pk, .int .i64 n] 114) = w1 at *
  go_still_tail 5, (by kernel_rfl)
  change wpList _ _ _ _ _ w1.drew
  go_wp2_with fail
  (with_reducible refine (apply_any ⟨kd, nm, tn, p, n⟩ ⟨pa, pn, pk⟩ HX.out (H1.out.now.upd0 (Upd.refl [] w1).drew) (H1.out.bks.upd (Upd.refl [] w1).drew (by simp)) HP.out).mono ?_)
  rintro e w2 ⟨rfl, F2, B2, K2, cs2, h2, hb2, he2, hfs2, hu2, hf2, hn2⟩
  have hfb : ∀ y ∈ Fn ++ B, y ∈ dfoot gd Fn Fm B (Value.slice ao lg.length co) := fun y hy => (dfoot_mem _ _ _ _ _ _).2 (by rcases List.mem_append.1 hy with q | q; exact .inr (.inl q); exact .inr (.inr (.inr (.inl q))))
  have hbx : w.heap.size ∉ Fn ++ B := fun hy => by have := (HGE.out _ (hfb _ hy)).2; omega
  have H2 := Lib.hid ((H1.out.upd0 (Upd.refl [] w1).drew).step h2 hb2 he2 hu2 hf2)
  have hB2 : Blk w2 w.heap.size 114 [.int .i64 kd, sv nm, sv tn, .slice pa pn pk, .int .i64 n] := Blk.upd (w := w1.drew) HBX.out hu2 hbx
  have HU2 : Hid (Upd (dfoot gd Fn Fm B (Value.slice ao lg.length co)) w w2) := HU1.out.drew.trans hu2 (by simp) (fun y hy => .inl (hfb y hy))
  have d0 := hB2.cell 0
  have d1 := hB2.cell 1
  have d2 := hB2.cell 2
  have d3 := hB2.cell 3
  have d4 := hB2.cell 4
  simp only [List.getElem?_cons_zero, List.getElem?_cons_succ] at d0 d1 d2 d3 d4
  have c2 : w2.cell? ⟨gd, 2, none⟩ = some (.slice ao lg.length co) := H2.out.dk.cell 2
  have f2 : w2.frozen? ⟨gd, 2, none⟩ = false := H2.out.dk.frozen 2
  have HE2 := Lib.hid he2
  have HFS2 := Lib.hid hfs2
  have HF2 := Lib.hid hf2
  have HN2 := Lib.hid hn2
  have hs2 := hu2.size
  have HW2 : Hid (w.heap.size < w2.heap.size) := hB2.lt
  clear h2 hb2 he2 hfs2 hu2 hf2 hn2 hfb hbx hB2 c0 H1 HBX HU1 hw1 hs2
  have hua : Upd [] w2 (w2.drew.alloc (.cells #[.int .i64 kd, sv nm, sv tn, .slice pa pn pk, .int .i64 n] 114)) := (Upd.refl [] w2).drew.alloc _
  have HUA := Lib.hid hua
  have HOW := H2.out.log.upd hua (by simp)
  have hnewb : Blk (w2.drew.alloc (.cells #[.int .i64 kd, sv nm, sv tn, .slice pa pn pk, .int .i64 n] 114)) w2.heap.size 114 [.int .i64 kd, sv nm, sv tn, .slice pa pn pk, .int .i64 n] := Blk.new w2.drew _ _
  have HRD : RdN 5 lwCells (w2.drew.alloc (.cells #[.int .i64 kd, sv nm, sv tn, .slice pa pn pk, .int .i64 n] 114)) (.slice (some ⟨w2.heap.size, 0, none⟩) 1 1) [(⟨kd, nm, tn, p, n⟩, ⟨pa, pn, pk⟩)] := by
    refine ⟨_, 1, rfl, by simp, by simp [maxLen], fun _ => ⟨w2.heap.size, 0, rfl, fun j hj i hi => ?_⟩⟩
    have hj0 : j = 0 := by simpa using hj
    subst hj0
    rw [Nat.zero_mul, Nat.zero_add, Nat.zero_add, hnewb.cell]; rfl
  have hbs : w0.heap.size ≤ (w2.drew.alloc (.cells #[.int .i64 kd, sv nm, sv tn, .slice pa pn pk, .int .i64 n] 114)).heap.size := (H2.out.old.seq hua).size
  have HRUN := Lib.hid (fun ty => run_appN (P := Try.prog) (ty := ty) lwCells_len (by decide) lwCells_one undLW infoLW rfl _ _ lg [(⟨kd, nm, tn, p, n⟩, ⟨pa, pn, pk⟩)] HOW HRD (by simp; omega) (by simp [maxLen]; omega) hbs)
  have HDK := Lib.hid (H2.out.dk.upd hua (by simp))
  have HGL := Lib.hid (dk_L H2.out.dk H2.out.log)
  clear hua HOW hnewb HRD hbs
  go_wp2_with fail
  have c2' : (w2.alloc (Obj.cells #[.int .i64 kd, sv nm, sv tn, .slice pa pn pk, .int .i64 n] 114)).cell? ⟨gd, 2, none⟩ = some (.slice ao lg.length co) := ((Upd.refl [] w2).alloc _).cell c2 (by simp)
  go_region_law (first | ((with_reducible refine step_app_of rfl (.tmp 14) (.tmp 16) rfl (.slice ao lg.length co) (.slice (some ⟨w2.heap.size, 0, none⟩) 1 1) rfl rfl (HRUN.out _) ?_); (rintro v3 w3 ⟨ho3, hu3, hk3⟩; obtain ⟨⟨a3, n3, k3⟩, rfl⟩ := ownN_sl ho3; have hb3 := HDK.out.upd hu3 HGL.out; have c3 : w3.cell? ⟨gd, 2, none⟩ = some (.slice ao lg.length co) := hb3.cell 2; have f3 := hb3.frozen 2; have HB3 := Lib.hid hb3; have HO3 := Lib.hid ho3; have HU3 := Lib.hid hu3; have HK3 := Lib.hid hk3; clear ho3 hu3 hk3 hb3; dsimp only)))
  all_goals
    go_end0
    have hset : Upd [gd] w3 (w3.setCell ⟨gd, 2, none⟩ (.slice a3 n3 k3)) := (Upd.refl [gd] w3).setCell _ _ (.inl (by simp))
    have hgv : gd ∉ blk (.slice a3 n3 k3) := fun hy => by
      rcases HK3.out _ hy with q | q
      · exact HGL.out q
      · have := H2.out.dk.lt; have := HUA.out.size; omega
    have hw3 : Upd (blk (Value.slice ao lg.length co)) w2 w3 := HUA.out.trans HU3.out (by simp) (fun y hy => .inl hy)
    have hlog : ∀ y ∈ blk (Value.slice ao lg.length co), y ∈ dfoot gd Fn Fm B (Value.slice ao lg.length co) := fun y hy => (dfoot_mem _ _ _ _ _ _).2 (.inr (.inr (.inr (.inr hy))))
    have hall : Upd (gd :: blk (Value.slice ao lg.length co)) w2 (w3.setCell ⟨gd, 2, none⟩ (.slice a3 n3 k3)) := hw3.trans hset (fun y hy => by simp [hy]) (fun y hy => .inl (by simp at hy; simp [hy]))
    have hgeb : ∀ x ∈ gd :: blk (Value.slice ao lg.length co), w0.heap.size ≤ x := fun x hx => by
      rcases List.mem_cons.1 hx with rfl | q
      · exact H2.out.gdb
      · exact (H2.out.log.ge x q).1
    refine ⟨rfl, F2, B2, K2, cs2, (.slice a3 n3 k3), ⟨HB3.out.set_ 2 (.slice a3 n3 k3), H2.out.gdb, ?_, ?_, H2.out.full, H2.out.apt, ?_, ?_, ?_⟩, HE2.out, HFS2.out, ?_, ?_⟩
    · refine H2.out.now.upd hall (fun x hx hy => ?_) hgeb
      rcases List.mem_cons.1 hy with rfl | q
      · exact dk_F H2.out.dk H2.out.now.tab hx
      · exact log_F H2.out.log H2.out.now.tab x q hx
    · refine H2.out.mark.upd hall (fun x hx hy => ?_) hgeb
      rcases List.mem_cons.1 hy with rfl | q
      · exact dk_F H2.out.dk H2.out.mark.tab hx
      · exact log_F H2.out.log H2.out.mark.tab x q hx
    · refine H2.out.bks.upd hall (fun x hx hy => ?_)
      rcases List.mem_cons.1 hy with rfl | q
      · exact dk_B H2.out.dk H2.out.bks hx
      · exact log_B H2.out.log H2.out.bks x q hx
    · exact HO3.out.upd hset (fun x hx hy => hgv (by simp at hy; rw [← hy]; exact hx))
    · intro y hy
      rcases List.mem_append.1 hy with q | q
      · exact H2.out.lsh y q
      · simp at q; subst q; exact HP.out.ext HE2.out
    · refine HU2.out.trans hall (fun y hy => hy) (fun y hy => .inl ?_)
      rcases List.mem_cons.1 hy with rfl | q
      · exact (dfoot_mem _ _ _ _ _ _).2 (.inl rfl)
      · exact hlog y q
    · intro y hy
      have hwl := HW2.out
      have hw1 : w1.drew.heap.size = w1.heap.size := rfl
      have h12 := HW1.out
      rcases (dfoot_mem _ _ _ _ _ _).1 hy with rfl | q | q | q | q
      · exact .inl ((dfoot_mem _ _ _ _ _ _).2 (.inl rfl))
      · exact (HF2.out y q).imp (fun q => (dfoot_mem _ _ _ _ _ _).2 (.inr (.inl q))) (fun q => by omega)
      · exact .inl ((dfoot_mem _ _ _ _ _ _).2 (.inr (.inr (.inl q))))
      · exact (HN2.out y q).imp (fun q => (dfoot_mem _ _ _ _ _ _).2 (.inr (.inr (.inr (.inl q))))) (fun q => by omega)
      · exact (HK3.out y q).imp (fun q => hlog y q) (fun q => by have := HUA.out.size; omega)
end
end Go.Proofs.Ytmhdhnipljonlaa
