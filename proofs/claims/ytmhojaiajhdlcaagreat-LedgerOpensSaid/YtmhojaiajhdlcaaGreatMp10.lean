/- Texts of the proof, joined: The document's look at a rule's name: Load of a set with one rule. Which records may be: the document's look. Chapter 2: the document's reader. Chapter 2: the document's Upto, Text, Flag, End, Read. -/
import Derived.Test.YtmhojaiajhdlcaaGreatMp9
import Derived.Test.YtmhojaiajhdlcaaGreatMp7
import Derived.Test.YtmhojaiajhdlcaaGreatMp2
import Derived.Test.YtmhojaiajhdlcaaGreatMp3
namespace Go.Proofs.YtmhojaiajhdlcaaGreat
open Go.RowKit
set_option linter.unusedSimpArgs false
set_option linter.unusedVariables false
abbrev nsl (g : Nat) : List Value := [.slice (some ⟨g, 0, none⟩) 1 1]
theorem undNodes2 : Tryz.prog.underlying 202 = some (.slice 203) := by kernel_rfl
theorem infoNodes2 : (Tryz.prog.info? 203).map (fun i => (i.zero, i.size, i.bytes)) = some (some (.slice none 0 0), 1, 24) := by kernel_rfl
theorem app_node (W : World) (g gn : Nat) (hg : W.cell? ⟨g, 0, none⟩ = some (.slice (some ⟨gn, 0, none⟩) 1 1)) : ∃ v' w', (Builtin.append_ #[202, 202] 202 #[.slice none 0 0, .slice (some ⟨g, 0, none⟩) 1 1]).run Tryz.prog W = .ok v' w' ∧ (∃ gk k, v' = .slice (some ⟨gk, 0, none⟩) 1 k ∧ w'.cell? ⟨gk, 0, none⟩ = some (.slice (some ⟨gn, 0, none⟩) 1 1)) ∧ Upd [] W w' := by
  obtain ⟨v', w', h1, h2, h3, h4⟩ := run_appN (P := Tryz.prog) (c := nsl) (sz := 1) (w := W) (ty := 202) (base := W.heap.size) (fun x => rfl) (by omega) (fun x u hu => by simp [nsl] at hu; rw [hu]; rfl) undNodes2 infoNodes2 rfl (.slice none 0 0) (.slice (some ⟨g, 0, none⟩) 1 1) [] [gn] (OwnN.nil _ _ _)
    ⟨_, 1, rfl, by simp, by simp [maxLen], fun _ => ⟨g, 0, rfl, fun j hj i hi => by
      have hj0 : j = 0 := by simpa using hj
      have hi0 : i = 0 := by omega
      subst hj0; subst hi0
      exact hg⟩⟩ (by simp) (by simp [maxLen]) (Nat.le_refl _)
  obtain ⟨a, k, rfl, -⟩ := OwnN.rd (c := nsl) (sz := 1) (fun x => rfl) h2
  obtain ⟨gk, rfl, -⟩ := OwnN.addrR h2 (by simp) (by simp)
  have hc := OwnN.cellR (c := nsl) (sz := 1) (fun x => rfl) h2 0 0 (by simp) (by omega)
  exact ⟨_, w', h1, ⟨gk, k, rfl, hc⟩, h3⟩
abbrev patCells (s : ByteArray) : List Value := [.string s, .string ⟨#[]⟩]
theorem undPats : Tryz.prog.underlying 160 = some (.slice 159) := by kernel_rfl
theorem infoPat : (Tryz.prog.info? 159).map (fun i => (i.zero, i.size, i.bytes)) = some (some (.agg #[.string ⟨#[]⟩, .string ⟨#[]⟩]), 2, 32) := by kernel_rfl
theorem app_pat (W : World) (g : Nat) (s : ByteArray) (h0 : W.cell? ⟨g, 0, none⟩ = some (.string s)) (h1 : W.cell? ⟨g, 1, none⟩ = some (.string ⟨#[]⟩)) : ∃ v' w', (Builtin.append_ #[160, 160] 160 #[.slice none 0 0, .slice (some ⟨g, 0, none⟩) 1 1]).run Tryz.prog W = .ok v' w' ∧ (∃ a k, v' = .slice a 1 k) ∧ Upd [] W w' := by
  obtain ⟨v', w', e1, e2, e3, e4⟩ := run_appN (P := Tryz.prog) (c := patCells) (sz := 2) (w := W) (ty := 160) (base := W.heap.size) (fun x => rfl) (by omega) (fun x u hu => by
      simp only [patCells, List.mem_cons, List.not_mem_nil, or_false] at hu
      rcases hu with rfl | rfl <;> rfl) undPats infoPat rfl (.slice none 0 0) (.slice (some ⟨g, 0, none⟩) 1 1) [] [s] (OwnN.nil _ _ _)
    ⟨_, 1, rfl, by simp, by simp [maxLen], fun _ => ⟨g, 0, rfl, fun j hj i hi => by
      have hj0 : j = 0 := by simpa using hj
      subst hj0
      rcases (show i = 0 ∨ i = 1 by omega) with rfl | rfl
      · exact h0
      · exact h1⟩⟩ (by simp) (by simp [maxLen]) (Nat.le_refl _)
  obtain ⟨a, k, rfl, -⟩ := OwnN.rd (c := patCells) (sz := 2) (fun x => rfl) e2
  exact ⟨_, w', e1, ⟨a, k, rfl⟩, e3⟩
set_option maxRecDepth 20000 in
set_option maxHeartbeats 8000000 in
theorem rfLoad_any (w : World) (s : ByteArray) (gr : Nat) (h0 : w.cell? ⟨gr, 0, none⟩ = some (.string s)) (h1 : w.cell? ⟨gr, 1, none⟩ = some (.string ⟨#[]⟩)) : Calls Tryz.prog 99 #[.agg #[.slice (some ⟨gr, 0, none⟩) 1 1, .string ⟨#[]⟩]] w fun e w' => (∃ p x, e = .returned (.tuple #[.pointer p, .int .i64 (if ruleOk s then 0 else 14), x])) ∧ Upd [] w w' := by
  have HB1 : Hid (Blk (w.alloc (.cells #[.slice (some ⟨gr, 0, none⟩) 1 1, .string ⟨#[]⟩] 162)) w.heap.size 162 [.slice (some ⟨gr, 0, none⟩) 1 1, .string ⟨#[]⟩]) := Blk.new w _ _
  have HU1 : Hid (Upd [] w (w.alloc (.cells #[.slice (some ⟨gr, 0, none⟩) 1 1, .string ⟨#[]⟩] 162))) := (Upd.refl [] w).alloc _
  have H0 := Lib.hid h0
  have H1 := Lib.hid h1
  clear h0 h1
  go_enter Tryz.func99, Tryz.ntmps99
  go_wp2_with fail
  obtain ⟨gs, hgs⟩ : ∃ g, w.heap.size = g := ⟨_, rfl⟩
  rw [hgs] at HB1
  rw [hgs]
  clear hgs
  generalize w.alloc (.cells #[.slice (some ⟨gr, 0, none⟩) 1 1, .string ⟨#[]⟩] 162) = w1 at *
  go_loopw [6, 7] (fun v6 vi wr => ∃ (k : Nat) (va : Option Addr) (vn vk : Nat), k ≤ 1 ∧ vi = .int .i64 k ∧ v6 = .slice va vn vk ∧ Hid (k = 0 → va = none ∧ vn = 0 ∧ vk = 0) ∧ Hid (k = 1 → ruleOk s = true ∧ vn = 1 ∧ ∃ gk gn, va = some ⟨gk, 0, none⟩ ∧ wr.cell? ⟨gk, 0, none⟩ = some (.slice (some ⟨gn, 0, none⟩) 1 1) ∧ N1 wr gn) ∧ Hid (Upd [] w wr) ∧ Hid (Blk wr gs 162 [.slice (some ⟨gr, 0, none⟩) 1 1, .string ⟨#[]⟩])) (fun _ i _ => 1 - (intOf i).toNat)
  case atStart => exact ⟨0, none, 0, 0, by omega, rfl, rfl, fun _ => ⟨rfl, rfl, rfl⟩, fun q => absurd q (by omega), HU1, HB1⟩
  case round =>
    clear HU1 HB1
    obtain ⟨k, va, vn, vk, hk, rfl, rfl, hz, ho, hu, hb⟩ := hrel
    by_cases hk0 : k = 0
    · obtain ⟨rfl, rfl, rfl⟩ := hz.out hk0
      subst hk0
      have s0 : wr.cell? ⟨gs, 0, none⟩ = some (.slice (some ⟨gr, 0, none⟩) 1 1) := hb.out.cell 0
      have r0 : wr.cell? ⟨gr, 0, none⟩ = some (.string s) := hu.out.cell H0.out (by simp)
      have r1 : wr.cell? ⟨gr, 1, none⟩ = some (.string ⟨#[]⟩) := hu.out.cell H1.out (by simp)
      have hu2 : Upd [] wr (wr.alloc (.cells #[.string s, .string ⟨#[]⟩] 159)) := (Upd.refl [] wr).alloc _
      have HX2 : Hid (Blk (wr.alloc (.cells #[.string s, .string ⟨#[]⟩] 159)) wr.heap.size 159 [.string s, .string ⟨#[]⟩]) := Blk.new wr _ [.string s, .string ⟨#[]⟩]
      have HU2 := Lib.hid (hu.out.seq hu2)
      have HB2 := Lib.hid (hb.out.upd hu2 (by simp))
      clear hu2 ho hz
      go_wp2_with fail
      generalize wr.alloc (.cells #[.string s, .string ⟨#[]⟩] 159) = w2 at *
      generalize wr.heap.size = gx at *
      clear s0 r0 r1 hu hb
      (with_reducible refine (rfName_any _ s).mono ?_)
      rintro e w3 ⟨rfl, rfl⟩
      by_cases hok : ruleOk s = true
      · have HOK := Lib.hid hok
        rw [hok]
        clear hok
        have x1 : w2.cell? ⟨gx, 1, none⟩ = some (.string ⟨#[]⟩) := HX2.out.cell 1
        go_wp2_with fail
        go_loopw [9] (fun j wq => j = .int .i64 0 ∧ w2 = wq) (fun _ _ => 1)
        case atStart => exact ⟨rfl, rfl⟩
        case round =>
          obtain ⟨rfl, rfl⟩ := hrel
          go_wp2_with fail
          (with_reducible refine (rfParse_any _).mono ?_)
          rintro e w4 ⟨g4, rfl, hn4, hu4⟩
          have HN4 := Lib.hid hn4
          have HU4 := Lib.hid hu4
          clear hn4 hu4 x1
          go_wp2_with fail
          (with_reducible refine (rfSimple_any HN4.out).mono ?_)
          rintro e w5 ⟨g5, rfl, hn5, hu5⟩
          have HU5 : Hid (Upd [] w2 (w5.alloc (.cells #[.slice (some ⟨g5, 0, none⟩) 1 1] 203))) := (HU4.out.seq hu5).alloc _
          have HN6 : Hid (N1 (w5.alloc (.cells #[.slice (some ⟨g5, 0, none⟩) 1 1] 203)) g5) := hn5.upd0 ((Upd.refl [] w5).alloc _)
          have HA := Lib.hid (app_node (w5.alloc (.cells #[.slice (some ⟨g5, 0, none⟩) 1 1] 203)) w5.heap.size g5 ((Blk.new w5 203 [.slice (some ⟨g5, 0, none⟩) 1 1]).cell 0))
          clear hn5 hu5 HN4 HU4
          go_wp2_with (at_builtin; go_must (refine wpList_app_of rfl _ _ rfl (.slice none 0 0) (.slice (some ⟨w5.heap.size, 0, none⟩) 1 1) rfl rfl HA.out ?_; rintro v7 w7 ⟨⟨gk7, k7, rfl, hc7⟩, hu7⟩; have HC7 := Lib.hid hc7; have HU7 := Lib.hid hu7; clear hc7 hu7; dsimp only))
          go_roundw
          case rel => exact ⟨1, _, _, _, by omega, by go_num, rfl, fun q => absurd q (by omega), fun _ => ⟨HOK.out, rfl, gk7, g5, rfl, HC7.out, HN6.out.upd0 HU7.out⟩, HU2.out.seq (HU5.out.seq HU7.out), HB2.out.upd (HU5.out.seq HU7.out) (by simp)⟩
          case measure => simp [intOf]
      · have hok : ruleOk s = false := by simpa using hok
        have HOK := Lib.hid hok
        rw [hok]
        clear hok
        go_wp2_with fail
        go_ret3
        exact ⟨⟨none, .int .i64 0, by first | rfl | (rw [HOK.out]; rfl)⟩, HU2.out⟩
    · obtain rfl : k = 1 := by omega
      obtain ⟨hok, rfl, gk, gn, rfl, hc, hn⟩ := ho.out rfl
      have HOK := Lib.hid hok
      have HC := Lib.hid hc
      have HN := Lib.hid hn
      have s0 : wr.cell? ⟨gs, 0, none⟩ = some (.slice (some ⟨gr, 0, none⟩) 1 1) := hb.out.cell 0
      have s1 : wr.cell? ⟨gs, 1, none⟩ = some (.string ⟨#[]⟩) := hb.out.cell 1
      have hgs : gs < wr.heap.size := hb.out.lt
      clear hok hc hn ho hz
      go_upto_region 22 with fail
      have HQ0 : Hid (Blk (wr.alloc (.cells #[.slice none 0 0, .string ⟨#[]⟩, .slice none 0 0, .slice none 0 0, .slice none 0 0, .slice none 0 0, .bool false] 211)) wr.heap.size 211 [.slice none 0 0, .string ⟨#[]⟩, .slice none 0 0, .slice none 0 0, .slice none 0 0, .slice none 0 0, .bool false]) := Blk.new wr _ [.slice none 0 0, .string ⟨#[]⟩, .slice none 0 0, .slice none 0 0, .slice none 0 0, .slice none 0 0, .bool false]
      have hu2 : Upd [] wr (wr.alloc (.cells #[.slice none 0 0, .string ⟨#[]⟩, .slice none 0 0, .slice none 0 0, .slice none 0 0, .slice none 0 0, .bool false] 211)) := (Upd.refl [] wr).alloc _
      have HB2 := Lib.hid (hb.out.upd hu2 (by simp))
      have HU2 := Lib.hid (hu.out.seq hu2)
      have HC2 : Hid ((wr.alloc (.cells #[.slice none 0 0, .string ⟨#[]⟩, .slice none 0 0, .slice none 0 0, .slice none 0 0, .slice none 0 0, .bool false] 211)).cell? ⟨gk, 0, none⟩ = some (.slice (some ⟨gn, 0, none⟩) 1 1)) := hu2.cell HC.out (by simp)
      have HN2 := Lib.hid (HN.out.upd0 hu2)
      obtain ⟨gq, hgq⟩ : ∃ g, wr.heap.size = g := ⟨_, rfl⟩
      have HGQ : Hid (w.heap.size ≤ gq) := by have := hu.out.size; unfold Hid; omega
      have HNE : Hid (gn ≠ gq ∧ gk ≠ gq) := by
        have h1 : gn < wr.heap.size := HN.out.b.lt
        have h2 : gk < wr.heap.size := World.block_lt_of_cell? wr _ HC.out
        unfold Hid; omega
      rw [hgq] at HQ0
      rw [hgq]
      clear hgq hu2 hb hu HC HN s0 s1 hgs
      generalize wr.alloc (.cells #[.slice none 0 0, .string ⟨#[]⟩, .slice none 0 0, .slice none 0 0, .slice none 0 0, .slice none 0 0, .bool false] 211) = w2 at *
      have s0 : w2.cell? ⟨gs, 0, none⟩ = some (.slice (some ⟨gr, 0, none⟩) 1 1) := HB2.out.cell 0
      have s1 : w2.cell? ⟨gs, 1, none⟩ = some (.string ⟨#[]⟩) := HB2.out.cell 1
      have q0 : w2.cell? ⟨gq, 0, none⟩ = some (.slice none 0 0) := HQ0.out.cell 0
      have f0 := HQ0.out.frozen 0
      have HA := Lib.hid (app_pat w2.drew gr s ((HU2.out.drew).cell H0.out (by simp)) ((HU2.out.drew).cell H1.out (by simp)))
      go_region_law (first | ((with_reducible refine step_app_of rfl (.tmp 88) (.tmp 90) rfl (.slice none 0 0) (.slice (some ⟨gr, 0, none⟩) 1 1) rfl rfl HA.out ?_); (rintro v4 w4 ⟨⟨a4, k4, rfl⟩, hu4⟩; have hq4 := HQ0.out.upd ((Upd.refl [] w2).drew.seq hu4) (by simp); have q4 := hq4.cell 0; have f4 := hq4.frozen 0; have HQ4 := Lib.hid hq4; have HU4 : Hid (Upd [] w2 w4) := (Upd.refl [] w2).drew.seq hu4; clear hu4 hq4; dsimp only)))
      all_goals
        have hset : Upd [gq] w4 (w4.setCell ⟨gq, 0, none⟩ (.slice a4 1 k4)) := (Upd.refl [gq] w4).setCell _ _ (.inl (by simp))
        have hold : Upd [] w (w4.setCell ⟨gq, 0, none⟩ (.slice a4 1 k4)) := (HU2.out.seq HU4.out).trans hset (by simp) (fun x hx => .inr (by simp at hx; subst hx; exact HGQ.out))
        have HQ5 : Hid (Blk (w4.setCell ⟨gq, 0, none⟩ (.slice a4 1 k4)) gq 211 [.slice a4 1 k4, .string ⟨#[]⟩, .slice none 0 0, .slice none 0 0, .slice none 0 0, .slice none 0 0, .bool false]) := HQ4.out.set_ 0 _
        have HN5 : Hid (N1 (w4.setCell ⟨gq, 0, none⟩ (.slice a4 1 k4)) gn) := ⟨(HN2.out.upd0 HU4.out).b.upd hset (by simp; exact HNE.out.1)⟩
        have ck5 : (w4.setCell ⟨gq, 0, none⟩ (.slice a4 1 k4)).cell? ⟨gk, 0, none⟩ = some (.slice (some ⟨gn, 0, none⟩) 1 1) := hset.cell (HU4.out.cell HC2.out (by simp)) (by simp; exact HNE.out.2)
        have HU5 := Lib.hid hold
        clear hset hold HQ4 HU4 HA q4 f4 q0 f0 s0 s1 HN2 HC2 HU2 HB2 HQ0
        generalize w4.setCell ⟨gq, 0, none⟩ (.slice a4 1 k4) = w5 at *
        have q6 : w5.cell? ⟨gq, 6, none⟩ = some (.bool false) := HQ5.out.cell 6
        go_wp2_with fail
        (with_reducible refine (rfCompile_any ck5 HN5.out).mono ?_)
        rintro e w6 ⟨⟨ca, cn, cc, cb, cm, cd, rfl⟩, hu6⟩
        have hu7 : Upd [] w6 (w6.alloc (.cells #[.slice ca cn cc, .slice cb cm cd] 209)) := (Upd.refl [] w6).alloc _
        have HP7 : Hid (Blk (w6.alloc (.cells #[.slice ca cn cc, .slice cb cm cd] 209)) w6.heap.size 209 [.slice ca cn cc, .slice cb cm cd]) := Blk.new w6 _ [.slice ca cn cc, .slice cb cm cd]
        have HQ7 := Lib.hid (HQ5.out.upd (hu6.seq hu7) (by simp))
        have HU7 := Lib.hid (HU5.out.seq (hu6.seq hu7))
        clear hu6 hu7 HQ5 HN5 ck5 HU5 q6
        go_upto_region 32 with fail
        generalize w6.alloc (.cells #[.slice ca cn cc, .slice cb cm cd] 209) = w7 at *
        generalize w6.heap.size = g18 at *
        have p0 : w7.cell? ⟨g18, 0, none⟩ = some (.slice ca cn cc) := HP7.out.cell 0
        have p1 : w7.cell? ⟨g18, 1, none⟩ = some (.slice cb cm cd) := HP7.out.cell 1
        have q2 : w7.cell? ⟨gq, 2, none⟩ = some (.slice none 0 0) := HQ7.out.cell 2
        have q3 : w7.cell? ⟨gq, 3, none⟩ = some (.slice none 0 0) := HQ7.out.cell 3
        have f2 := HQ7.out.frozen 2
        have f3 := HQ7.out.frozen 3
        go_upto_region 33 with fail
        have hset : Upd [gq] w7 ((w7.setCell ⟨gq, 2, none⟩ (.slice ca cn cc)).setCell ⟨gq, 3, none⟩ (.slice cb cm cd)) := ((Upd.refl [gq] w7).setCell _ _ (.inl (by simp))).setCell _ _ (.inl (by simp))
        have hq8 : Blk ((w7.setCell ⟨gq, 2, none⟩ (.slice ca cn cc)).setCell ⟨gq, 3, none⟩ (.slice cb cm cd)) gq 211 [.slice a4 1 k4, .string ⟨#[]⟩, .slice ca cn cc, .slice cb cm cd, .slice none 0 0, .slice none 0 0, .bool false] := (HQ7.out.set_ 2 _).set_ 3 _
        have HU8 : Hid (Upd [] w ((w7.setCell ⟨gq, 2, none⟩ (.slice ca cn cc)).setCell ⟨gq, 3, none⟩ (.slice cb cm cd))) := HU7.out.trans hset (by simp) (fun x hx => .inr (by simp at hx; subst hx; exact HGQ.out))
        have q6 : ((w7.setCell ⟨gq, 2, none⟩ (.slice ca cn cc)).setCell ⟨gq, 3, none⟩ (.slice cb cm cd)).cell? ⟨gq, 6, none⟩ = some (.bool false) := hq8.cell 6
        clear hset hq8 HQ7 HP7 HU7 p0 p1 q2 q3 f2 f3
        generalize (w7.setCell ⟨gq, 2, none⟩ (.slice ca cn cc)).setCell ⟨gq, 3, none⟩ (.slice cb cm cd) = w8 at *
        go_wp2_with fail
        go_ret3
        exact ⟨⟨some ⟨gq, 0, none⟩, .int .i64 0, by first | rfl | (rw [HOK.out]; rfl)⟩, HU8.out⟩
set_option maxRecDepth 20000 in
set_option maxHeartbeats 2000000 in
theorem rfNameOk_any (w : World) (s : ByteArray) : Calls Tryz.prog 46 #[.string s] w fun e w' => e = .returned (.bool (ruleOk s)) ∧ Upd [] w w' := by
  have hb : Blk (w.alloc (.cells #[.string s, .string ⟨#[]⟩] 159)) w.heap.size 159 [.string s, .string ⟨#[]⟩] := Blk.new w _ [.string s, .string ⟨#[]⟩]
  have h0 : (w.alloc (.cells #[.string s, .string ⟨#[]⟩] 159)).cell? ⟨w.heap.size, 0, none⟩ = some (.string s) := hb.cell 0
  have h1 : (w.alloc (.cells #[.string s, .string ⟨#[]⟩] 159)).cell? ⟨w.heap.size, 1, none⟩ = some (.string ⟨#[]⟩) := hb.cell 1
  have HU : Hid (Upd [] w (w.alloc (.cells #[.string s, .string ⟨#[]⟩] 159))) := (Upd.refl [] w).alloc _
  have HC := Lib.hid (rfLoad_any _ s _ h0 h1)
  clear hb h0 h1
  go_enter Tryz.func46, Tryz.ntmps46
  go_wp2_with fail
  (with_reducible refine HC.out.mono ?_)
  by_cases hok : ruleOk s = true
  · have HOK := Lib.hid hok
    rw [hok, if_pos rfl]
    clear hok
    rintro e w1 ⟨⟨p, x, rfl⟩, hu1⟩
    have HU1 := Lib.hid (HU.out.seq hu1)
    clear hu1
    go_wp2_with fail
    go_ret
    exact ⟨by rw [HOK.out]; rfl, HU1.out⟩
  · have hok : ruleOk s = false := by simpa using hok
    have HOK := Lib.hid hok
    rw [hok, if_neg (by simp)]
    clear hok
    rintro e w1 ⟨⟨p, x, rfl⟩, hu1⟩
    have HU1 := Lib.hid (HU.out.seq hu1)
    clear hu1
    go_wp2_with fail
    go_ret
    exact ⟨by rw [HOK.out]; rfl, HU1.out⟩
end Go.Proofs.YtmhojaiajhdlcaaGreat
namespace Go.Proofs.YtmhojaiajhdlcaaGreat
open Go.RowKit
set_option linter.unusedSimpArgs false
set_option linter.unusedVariables false
set_option maxRecDepth 20000 in
set_option maxHeartbeats 4000000 in
theorem rfRight_c (w : World) (ino gen at_ : Int) (rule : ByteArray) (kind c0 c1 c2 c3 c4 c5 c6 c7 c8 c9 : Int) :
    Calls Tryz.prog 8 #[mkVal ino gen at_ rule kind c0 c1 c2 c3 c4 c5 c6 c7 c8 c9] w fun e w' => e = .returned (.bool (recOk (mkRec ino gen at_ rule kind c0 c1 c2 c3 c4 c5 c6 c7 c8 c9))) ∧ Upd [] w w' := by
  have HU : Hid (Upd [] w (w.alloc (.cells #[.int .i64 ino, .int .i64 gen, .int .i64 at_, .string rule, .int .i64 kind, .int .i64 c0, .int .i64 c1, .int .i64 c2, .int .i64 c3, .int .i64 c4, .int .i64 c5, .int .i64 c6, .int .i64 c7, .int .i64 c8, .int .i64 c9] 27))) := (Upd.refl [] w).alloc _
  have hfalse : numOk ino gen at_ = false → recOk (mkRec ino gen at_ rule kind c0 c1 c2 c3 c4 c5 c6 c7 c8 c9) = false := fun h => by
    unfold recOk
    show (numOk ino gen at_ && _) = false
    rw [h]; rfl
  by_cases hn : 1 ≤ ino ∧ ino ≤ 12 ∧ 1 ≤ gen ∧ gen ≤ 1099511627776 ∧ 0 ≤ at_ ∧ at_ ≤ 1099511627776
  · have HN : Hid (numOk ino gen at_ = true) := decide_eq_true hn
    obtain ⟨n1, n2, n3, n4, n5, n6⟩ := hn
    have m1 : ¬ ino < 1 := by omega
    have m2 : ¬ (12 : Int) < ino := by omega
    have m3 : ¬ gen < 1 := by omega
    have m4 : ¬ (1099511627776 : Int) < gen := by omega
    have m5 : ¬ at_ < 0 := by omega
    have m6 : ¬ (1099511627776 : Int) < at_ := by omega
    clear n1 n2 n3 n4 n5 n6 hfalse
    by_cases k2 : kind = 2
    · subst k2
      have HR : Hid (recOk (mkRec ino gen at_ rule 2 c0 c1 c2 c3 c4 c5 c6 c7 c8 c9) = decide (rule = ⟨#[]⟩ ∧ (⟨[c0, c1, c2, c3, c4, c5, c6, c7, c8, c9], rfl⟩ : C10) = c10z)) := by
        unfold Hid recOk
        show (numOk ino gen at_ && _) = _
        rw [HN.out, Bool.true_and]
        show (if (2 : Int) = 2 then _ else _) = _
        rw [if_pos rfl]
        exact decide_eq_decide.2 Iff.rfl
      by_cases hr : rule = ⟨#[]⟩
      · subst hr
        have hq := fun W => capsEq_run W c0 c1 c2 c3 c4 c5 c6 c7 c8 c9 0 0 0 0 0 0 0 0 0 0
        have HR2 : Hid (recOk (mkRec ino gen at_ ⟨#[]⟩ 2 c0 c1 c2 c3 c4 c5 c6 c7 c8 c9) = decide (c0 = 0 ∧ c1 = 0 ∧ c2 = 0 ∧ c3 = 0 ∧ c4 = 0 ∧ c5 = 0 ∧ c6 = 0 ∧ c7 = 0 ∧ c8 = 0 ∧ c9 = 0)) := by
          unfold Hid
          rw [HR.out]
          refine decide_eq_decide.2 ?_
          show (_ ∧ (⟨[c0, c1, c2, c3, c4, c5, c6, c7, c8, c9], rfl⟩ : C10) = ⟨[0, 0, 0, 0, 0, 0, 0, 0, 0, 0], rfl⟩) ↔ _
          rw [c10_eq]; simp
        obtain ⟨b, hb⟩ : ∃ b : Bool, decide (c0 = 0 ∧ c1 = 0 ∧ c2 = 0 ∧ c3 = 0 ∧ c4 = 0 ∧ c5 = 0 ∧ c6 = 0 ∧ c7 = 0 ∧ c8 = 0 ∧ c9 = 0) = b := ⟨_, rfl⟩
        have HB := Lib.hid hb
        rw [hb] at hq
        clear hb
        go_enter Tryz.func8, Tryz.ntmps8
        go_wp2_with fail
        go_ret
        exact ⟨by rw [HR2.out, HB.out]; rfl, HU.out⟩
      · have HR2 : Hid (recOk (mkRec ino gen at_ rule 2 c0 c1 c2 c3 c4 c5 c6 c7 c8 c9) = false) := by
          unfold Hid
          rw [HR.out]
          exact decide_eq_false (fun h => hr h.1)
        have q : (rule.toList == ([] : List UInt8)) = false := by
          rw [beq_eq_false_iff_ne, strList_eq]
          intro q
          exact hr (str_inj _ _ (by rw [strList_eq, strList_eq, q]))
        clear hr
        go_enter Tryz.func8, Tryz.ntmps8
        go_wp2_with fail
        go_ret
        exact ⟨by rw [HR2.out]; rfl, HU.out⟩
    · have e2 : (kind == 2) = false := by rw [beq_eq_false_iff_ne]; exact k2
      have HR : Hid (recOk (mkRec ino gen at_ rule kind c0 c1 c2 c3 c4 c5 c6 c7 c8 c9) = ([c0, c1, c2, c3, c4, c5, c6, c7, c8, c9].all capOk && (decide (kind = 1) && ruleOk rule))) := by
        unfold Hid recOk
        show (numOk ino gen at_ && _) = _
        rw [HN.out]
        show (if kind = 2 then _ else if kind = 1 then _ else false) = _
        rw [if_neg k2]
        by_cases k1 : kind = 1
        · rw [if_pos k1, decide_eq_true k1, Bool.true_and]
        · rw [if_neg k1, decide_eq_false k1]; simp
      have HB : Hid (Blk (w.alloc (.cells #[.int .i64 ino, .int .i64 gen, .int .i64 at_, .string rule, .int .i64 kind, .int .i64 c0, .int .i64 c1, .int .i64 c2, .int .i64 c3, .int .i64 c4, .int .i64 c5, .int .i64 c6, .int .i64 c7, .int .i64 c8, .int .i64 c9] 27)) w.heap.size 27 [.int .i64 ino, .int .i64 gen, .int .i64 at_, .string rule, .int .i64 kind, .int .i64 c0, .int .i64 c1, .int .i64 c2, .int .i64 c3, .int .i64 c4, .int .i64 c5, .int .i64 c6, .int .i64 c7, .int .i64 c8, .int .i64 c9]) := Blk.new w _ [.int .i64 ino, .int .i64 gen, .int .i64 at_, .string rule, .int .i64 kind, .int .i64 c0, .int .i64 c1, .int .i64 c2, .int .i64 c3, .int .i64 c4, .int .i64 c5, .int .i64 c6, .int .i64 c7, .int .i64 c8, .int .i64 c9]
      clear k2
      go_enter Tryz.func8, Tryz.ntmps8
      go_wp2_with fail
      generalize w.alloc (.cells #[.int .i64 ino, .int .i64 gen, .int .i64 at_, .string rule, .int .i64 kind, .int .i64 c0, .int .i64 c1, .int .i64 c2, .int .i64 c3, .int .i64 c4, .int .i64 c5, .int .i64 c6, .int .i64 c7, .int .i64 c8, .int .i64 c9] 27) = w1 at *
      generalize w.heap.size = g at *
      go_loopw [3] (fun i wr => ∃ k : Nat, k ≤ 10 ∧ i = .int .i64 k ∧ w1 = wr ∧ Hid (∀ j, j < k → capOk (nth [c0, c1, c2, c3, c4, c5, c6, c7, c8, c9] j) = true)) (fun i _ => 10 - (intOf i).toNat)
      case atStart => exact ⟨0, Nat.zero_le _, rfl, rfl, fun j h => absurd h (by omega)⟩
      case round =>
        obtain ⟨k, hk, rfl, rfl, hh⟩ := hrel
        by_cases hlt : k < 10
        · have q0 : (0 : Int) ≤ k := by omega
          have q1 : (k : Int) < 10 := by omega
          have hck : w1.cell? ⟨g, 5 + k, none⟩ = some (.int .i64 (nth [c0, c1, c2, c3, c4, c5, c6, c7, c8, c9] k)) := by
            rw [HB.out.cell]
            rcases (show k = 0 ∨ k = 1 ∨ k = 2 ∨ k = 3 ∨ k = 4 ∨ k = 5 ∨ k = 6 ∨ k = 7 ∨ k = 8 ∨ k = 9 by omega) with rfl | rfl | rfl | rfl | rfl | rfl | rfl | rfl | rfl | rfl <;> rfl
          have HT : Hid (capOk (nth [c0, c1, c2, c3, c4, c5, c6, c7, c8, c9] k) = true → ∀ j, j < k + 1 → capOk (nth [c0, c1, c2, c3, c4, c5, c6, c7, c8, c9] j) = true) := fun hb j hjk => by
            rcases Nat.lt_or_eq_of_le (Nat.le_of_lt_succ hjk) with h | h
            · exact hh.out j h
            · subst h; exact hb
          have HF : Hid (capOk (nth [c0, c1, c2, c3, c4, c5, c6, c7, c8, c9] k) = false → recOk (mkRec ino gen at_ rule kind c0 c1 c2 c3 c4 c5 c6 c7 c8 c9) = false) := fun hb => by
            rw [HR.out]
            have : [c0, c1, c2, c3, c4, c5, c6, c7, c8, c9].all capOk = false := by
              rw [List.all_eq_false]
              exact ⟨_, nth_in (l := [c0, c1, c2, c3, c4, c5, c6, c7, c8, c9]) k hlt, by rw [hb]; simp⟩
            rw [this]; rfl
          generalize nth [c0, c1, c2, c3, c4, c5, c6, c7, c8, c9] k = d at *
          rcases (show d < -1 ∨ (¬ d < -1 ∧ 500 < d) ∨ (¬ d < -1 ∧ ¬ 500 < d) by omega) with hd | ⟨hd, hd2⟩ | ⟨hd, hd2⟩
          · have HO := Lib.hid (HF.out (decide_eq_false (by omega)))
            clear HT HF hh
            go_wp2_with fail
            go_ret
            exact ⟨by rw [HO.out]; rfl, HU.out⟩
          · have HO := Lib.hid (HF.out (decide_eq_false (by omega)))
            clear HT HF hh
            go_wp2_with fail
            go_ret
            exact ⟨by rw [HO.out]; rfl, HU.out⟩
          · have HO := Lib.hid (HT.out (decide_eq_true (by omega)))
            clear HT HF hh
            go_wp2_with fail
            go_roundw
            case rel => exact ⟨k + 1, by omega, by go_num, by first | trivial | rfl, HO⟩
            case measure => simp [intOf]; omega
        · obtain rfl : k = 10 := by omega
          have HO : Hid (recOk (mkRec ino gen at_ rule kind c0 c1 c2 c3 c4 c5 c6 c7 c8 c9) = (decide (kind = 1) && ruleOk rule)) := by
            unfold Hid
            rw [HR.out]
            have : [c0, c1, c2, c3, c4, c5, c6, c7, c8, c9].all capOk = true := by
              rw [List.all_eq_true]
              intro x hx
              obtain ⟨j, hj, rfl⟩ := List.mem_iff_getElem.1 hx
              have := hh.out j hj
              rwa [nth_get _ j hj] at this
            rw [this, Bool.true_and]
          have t3 : w1.cell? ⟨g, 3, none⟩ = some (.string rule) := HB.out.cell 3
          have t4 : w1.cell? ⟨g, 4, none⟩ = some (.int .i64 kind) := HB.out.cell 4
          clear hh
          by_cases k1 : kind = 1
          · have e1 : (kind == 1) = true := by rw [beq_iff_eq]; exact k1
            have HO1 : Hid (recOk (mkRec ino gen at_ rule kind c0 c1 c2 c3 c4 c5 c6 c7 c8 c9) = ruleOk rule) := by unfold Hid; rw [HO.out, decide_eq_true k1, Bool.true_and]
            clear k1
            go_wp2_with fail
            (with_reducible refine (rfNameOk_any _ rule).mono ?_)
            rintro e w2 ⟨rfl, hu2⟩
            have HU2 := Lib.hid (HU.out.seq hu2)
            clear hu2
            go_wp2_with fail
            go_ret
            exact ⟨by rw [HO1.out]; rfl, HU2.out⟩
          · have e1 : (kind == 1) = false := by rw [beq_eq_false_iff_ne]; exact k1
            have HO1 : Hid (recOk (mkRec ino gen at_ rule kind c0 c1 c2 c3 c4 c5 c6 c7 c8 c9) = false) := by unfold Hid; rw [HO.out, decide_eq_false k1]; rfl
            clear k1
            go_wp2_with fail
            go_ret
            exact ⟨by rw [HO1.out]; rfl, HU.out⟩
  · have HR := Lib.hid (hfalse (decide_eq_false hn))
    rcases (show ino < 1 ∨ (¬ ino < 1 ∧ (12 : Int) < ino) ∨ (¬ ino < 1 ∧ ¬ (12 : Int) < ino ∧ gen < 1) ∨ (¬ ino < 1 ∧ ¬ (12 : Int) < ino ∧ ¬ gen < 1 ∧ (1099511627776 : Int) < gen) ∨ (¬ ino < 1 ∧ ¬ (12 : Int) < ino ∧ ¬ gen < 1 ∧ ¬ (1099511627776 : Int) < gen ∧ at_ < 0) ∨ (¬ ino < 1 ∧ ¬ (12 : Int) < ino ∧ ¬ gen < 1 ∧ ¬ (1099511627776 : Int) < gen ∧ ¬ at_ < 0 ∧ (1099511627776 : Int) < at_) by omega) with m1 | ⟨m1, m2⟩ | ⟨m1, m2, m3⟩ | ⟨m1, m2, m3, m4⟩ | ⟨m1, m2, m3, m4, m5⟩ | ⟨m1, m2, m3, m4, m5, m6⟩
    all_goals
      clear hfalse hn
      go_enter Tryz.func8, Tryz.ntmps8
      go_wp2_with fail
      go_ret
      exact ⟨by rw [HR.out]; rfl, HU.out⟩
theorem rfRightRec_any (w : World) (r : Rec) : Calls Tryz.prog 8 #[recVal r] w fun e w' => e = .returned (.bool (recOk r)) ∧ Upd [] w w' := by
  obtain ⟨ino, gen, at_, rule, kind, c0, c1, c2, c3, c4, c5, c6, c7, c8, c9, rfl⟩ := rec_mk r
  exact rfRight_c w ino gen at_ rule kind c0 c1 c2 c3 c4 c5 c6 c7 c8 c9
end Go.Proofs.YtmhojaiajhdlcaaGreat
namespace Go.Proofs.YtmhojaiajhdlcaaGreat
open Go.RowKit
set_option linter.unusedSimpArgs false
set_option linter.unusedVariables false
theorem or64i (n : Nat) (x : UInt8) (h : n * 256 + x.toNat < 9223372036854775808) : bits .or .i64 (wrap64 ((n : Int) * 256)) (wrap64 (x.toNat : Int)) = ((n * 256 + x.toNat : Nat) : Int) := by
  have hx := x.toNat_lt
  rw [wrap64_id _ (by omega) (by omega), wrap64_id _ (by omega) (by omega)]
  have h1 : (n : Int) * 256 = ((n * 256 : Nat) : Int) := by omega
  rw [h1, i64_hl _ _ 8 (by omega) (by omega) (by omega)]
theorem big8 (t : List UInt8) (h : 8 ≤ t.length) : 9223372036854775808 ≤ beN (t.take 8) ↔ 127 < (nth t 0).toNat := by
  cases t with
  | nil => simp at h
  | cons x t =>
    rw [List.take_succ_cons, beN_cons, nth_cons_zero]
    have hl : (t.take 7).length = 7 := by rw [List.length_take]; simp at h; omega
    have h1 := beN_lt (t.take 7)
    rw [hl] at h1 ⊢
    have e : (256 : Nat) ^ 7 = 72057594037927936 := by decide
    rw [e] at h1 ⊢
    have := x.toNat_lt
    omega
section
variable {base : Nat} {g : Nat} {v : Value} {B : List UInt8} {s : RSt}
set_option maxHeartbeats 4000000 in
theorem dNumBad_any (w : World) (h : RdrAt 170 base w g v B s) (hs : s.2 ≠ 0 ∨ (s.2 = 0 ∧ (B.drop s.1 = [] ∨ (∃ c t, B.drop s.1 = c :: t ∧ (8 < c.toNat ∨ t.length < c.toNat))))) :
    Calls Tryz.prog 54 #[.pointer (some ⟨g, 0, none⟩)] w fun x w' => x = .returned (.int .i64 ((rdNum B s).1 : Int)) ∧ RdrAt 170 base w' g v B (rdNum B s).2 ∧ Upd [g] w w' := by
  have H := Lib.hid h
  obtain ⟨a, k, rfl, -⟩ := h.own.rd
  have c0 : w.cell? ⟨g, 0, none⟩ = some (.slice a B.length k) := h.cells.cell 0
  have c1 : w.cell? ⟨g, 1, none⟩ = some (.int .i64 (s.1 : Int)) := h.cells.cell 1
  have c2 : w.cell? ⟨g, 2, none⟩ = some (.int .i64 (s.2 : Int)) := h.cells.cell 2
  have hat := h.at_
  have hsz := h.sz
  rcases hs with hs | ⟨hs, hb⟩
  · have hne : ((s.2 : Int) != 0) = true := by rw [bne_iff_ne]; omega
    have HR : Hid (rdNum B s = (0, s)) := by unfold Hid rdNum; rw [if_pos hs]
    clear h hs
    go_enter Tryz.func54, Tryz.ntmps54
    go_wp2_with fail
    go_ret
    exact ⟨by rw [HR.out]; rfl, by rw [HR.out]; exact H.out, Upd.refl _ _⟩
  · obtain ⟨at_, er⟩ := s
    dsimp only at *
    subst hs
    have HN : Hid (_ = _) := rdNum_0 B at_
    replace c2 : w.cell? ⟨g, 2, none⟩ = some (.int .i64 0) := c2
    have HO := Lib.hid h.own
    have hrl : B.length - at_ = (B.drop at_).length := by rw [List.length_drop]
    clear h
    rcases hb with hb | ⟨c, t, hb, hct⟩
    · have HR : Hid (rdNum B (at_, 0) = (0, at_, 3)) := HN.out.trans (by rw [hb]; simp [numAt])
      have hge : (B.length : Int) ≤ at_ := by rw [hb] at hrl; simp at hrl; omega
      clear HN hb hrl
      go_enter Tryz.func54, Tryz.ntmps54
      go_wp2_with fail
      go_quiet (fail)
      have HU := Lib.hid ((Upd.refl [] w).drewN nq)
      generalize w.drewN nq = w1 at *
      have k2 := HU.out.cell c2 (by simp)
      have f2 := (H.out.upd HU.out).cells.frozen 2
      have HS := Lib.hid ((H.out.upd HU.out).set2 (by decide) 3 (by decide))
      have HSU := Lib.hid ((Upd.up (g := g) HU.out).setCell ⟨g, 2, none⟩ (.int .i64 ((3 : Nat) : Int)) (.inl (by simp)))
      go_wp2_with fail
      go_ret
      exact ⟨by rw [HR.out]; rfl, by rw [HR.out]; exact HS.out, HSU.out⟩
    · have hn0 : nth B at_ = c := by have := nth_drop B at_ 0; rw [hb, nth_cons_zero, Nat.add_zero] at this; exact this.symm
      have hlen : B.length = at_ + (t.length + 1) := by rw [hb] at hrl; simp at hrl; omega
      obtain ⟨b, off, rfl, hc0⟩ := HO.out.rd.at_ at_ (by omega)
      rw [hn0] at hc0
      have hlt := c.toNat_lt
      have q0 : ¬ (B.length : Int) ≤ at_ := by omega
      have q1 : (at_ : Int) < B.length := by omega
      rw [hb] at HN
      have HLN := Lib.hid hlen
      clear hn0 hrl hb
      by_cases h8 : 8 < c.toNat
      · have HR : Hid (rdNum B (at_, 0) = (0, at_, 4)) := HN.out.trans (by rw [numAt_cons, if_pos h8]; simp)
        have q8 : (8 : Int) < c.toNat := by omega
        clear HN hct h8 hlen
        go_enter Tryz.func54, Tryz.ntmps54
        go_wp2_with fail
        go_quiet (fail)
        have HU := Lib.hid ((Upd.refl [] w).drewN nq)
        generalize w.drewN nq = w1 at *
        have zc0 := HU.out.cell c0 (by simp)
        have zc1 := HU.out.cell c1 (by simp)
        have zhc0 := HU.out.cell hc0 (by simp)
        go_wp2_with fail
        go_quiet (fail)
        have HU2 := Lib.hid (HU.out.drewN nq)
        generalize w1.drewN nq = w2 at *
        clear HU
        have HU := HU2
        clear HU2
        have k2 := HU.out.cell c2 (by simp)
        have f2 := (H.out.upd HU.out).cells.frozen 2
        have HS := Lib.hid ((H.out.upd HU.out).set2 (by decide) 4 (by decide))
        have HSU := Lib.hid ((Upd.up (g := g) HU.out).setCell ⟨g, 2, none⟩ (.int .i64 ((4 : Nat) : Int)) (.inl (by simp)))
        go_wp2_with fail
        go_ret
        exact ⟨by rw [HR.out]; rfl, by rw [HR.out]; exact HS.out, HSU.out⟩
      · have hsh : t.length < c.toNat := by omega
        have HR : Hid (rdNum B (at_, 0) = (0, at_, 3)) := HN.out.trans (by rw [numAt_cons, if_neg h8, if_pos hsh]; simp)
        have q8 : ¬ (8 : Int) < c.toNat := by omega
        have qs : (B.length : Int) - at_ - 1 < c.toNat := by omega
        clear HN hct h8 hsh hlen
        go_enter Tryz.func54, Tryz.ntmps54
        go_wp2_with fail
        go_quiet (fail)
        have HU := Lib.hid ((Upd.refl [] w).drewN nq)
        generalize w.drewN nq = w1 at *
        have zc0 := HU.out.cell c0 (by simp)
        have zc1 := HU.out.cell c1 (by simp)
        have zhc0 := HU.out.cell hc0 (by simp)
        go_wp2_with fail
        go_quiet (fail)
        have HU2 := Lib.hid (HU.out.drewN nq)
        generalize w1.drewN nq = w2 at *
        clear HU
        have HU := HU2
        clear HU2
        have zc0 := HU.out.cell c0 (by simp)
        have zc1 := HU.out.cell c1 (by simp)
        go_wp2_with fail
        go_quiet (fail)
        have HU3 := Lib.hid (HU.out.drewN nq)
        generalize w2.drewN nq = w3 at *
        clear HU
        have HU := HU3
        clear HU3
        have k2 := HU.out.cell c2 (by simp)
        have f2 := (H.out.upd HU.out).cells.frozen 2
        have HS := Lib.hid ((H.out.upd HU.out).set2 (by decide) 3 (by decide))
        have HSU := Lib.hid ((Upd.up (g := g) HU.out).setCell ⟨g, 2, none⟩ (.int .i64 ((3 : Nat) : Int)) (.inl (by simp)))
        go_wp2_with fail
        go_ret
        exact ⟨by rw [HR.out]; rfl, by rw [HR.out]; exact HS.out, HSU.out⟩
set_option maxHeartbeats 8000000 in
theorem dNumIn_any (w : World) (at_ : Nat) (c : UInt8) (t : List UInt8) (h : RdrAt 170 base w g v B (at_, 0)) (hb : B.drop at_ = c :: t) (h8 : ¬ 8 < c.toNat) (hsh : ¬ t.length < c.toNat) :
    Calls Tryz.prog 54 #[.pointer (some ⟨g, 0, none⟩)] w fun x w' => x = .returned (.int .i64 ((rdNum B (at_, 0)).1 : Int)) ∧ RdrAt 170 base w' g v B (rdNum B (at_, 0)).2 ∧ Upd [g] w w' := by
  have H := Lib.hid h
  obtain ⟨a, k, rfl, -⟩ := h.own.rd
  have c0 : w.cell? ⟨g, 0, none⟩ = some (.slice a B.length k) := h.cells.cell 0
  have c1 : w.cell? ⟨g, 1, none⟩ = some (.int .i64 (at_ : Int)) := h.cells.cell 1
  have c2 : w.cell? ⟨g, 2, none⟩ = some (.int .i64 0) := h.cells.cell 2
  have hat : at_ ≤ B.length := h.at_
  have hsz := h.sz
  have HN : Hid (_ = _) := rdNum_0 B at_
  have hrl : B.length - at_ = (B.drop at_).length := by rw [List.length_drop]
  have hnd : ∀ j, nth B (at_ + j) = nth (c :: t) j := fun j => by rw [← hb, nth_drop]
  have hlen : B.length = at_ + (t.length + 1) := by rw [hb] at hrl; simp at hrl; omega
  obtain ⟨b, off, rfl, hc0⟩ := h.own.rd.at_ at_ (by omega)
  have hn0 : nth B at_ = c := by have := hnd 0; rw [nth_cons_zero, Nat.add_zero] at this; exact this
  rw [hn0] at hc0
  have HT := Lib.hid (fun j (hj : j < t.length) => show w.cell? ⟨b, off + (at_ + 1 + j), none⟩ = some (bv (nth t j)) by
    obtain ⟨b', off', he, hcj⟩ := h.own.rd.at_ (at_ + (1 + j)) (by omega)
    cases he
    rw [hnd (1 + j), Nat.add_comm 1 j, nth_cons_succ] at hcj
    rwa [Nat.add_assoc, Nat.add_comm 1 j])
  have hlt := c.toNat_lt
  have q0 : ¬ (B.length : Int) ≤ at_ := by omega
  have q1 : (at_ : Int) < B.length := by omega
  have q8 : ¬ (8 : Int) < c.toNat := by omega
  have qs : ¬ (B.length : Int) - at_ - 1 < c.toNat := by omega
  rw [hb, numAt_cons, if_neg h8, if_neg hsh] at HN
  have HB7 := Lib.hid (fun j (hj : j ≤ 7) => beN_take_lt t j hj)
  have HBS := Lib.hid (fun j (hj : j < t.length) => beN_take_succ t j hj)
  have HB8 := Lib.hid (fun hq => big8 t hq)
  have HLN := Lib.hid hlen
  clear hrl hb hnd hn0 h
  generalize hcn : c.toNat = cn at *
  have hHN : Hid (rdNum B (at_, 0) = if (0 < cn ∧ nth t 0 = 0) ∨ 9223372036854775808 ≤ beN (t.take cn) then (0, at_, 4) else (beN (t.take cn), at_ + (1 + cn), 0)) := by
    unfold Hid; rw [HN.out]; split <;> simp
  have hcn8 : cn ≤ 8 := by omega
  have hcnt : cn ≤ t.length := by omega
  clear HN hlen
  have hx : (cn = 0) ∨ (0 < cn ∧ nth t 0 = 0) ∨ (0 < cn ∧ nth t 0 ≠ 0 ∧ cn = 8 ∧ 127 < (nth t 0).toNat) ∨ (0 < cn ∧ nth t 0 ≠ 0 ∧ cn = 8 ∧ ¬ 127 < (nth t 0).toNat) ∨ (0 < cn ∧ nth t 0 ≠ 0 ∧ cn ≠ 8) := by
    by_cases e0 : cn = 0
    · exact .inl e0
    · by_cases e1 : nth t 0 = 0
      · exact .inr (.inl ⟨by omega, e1⟩)
      · by_cases e2 : cn = 8
        · by_cases e3 : 127 < (nth t 0).toNat
          · exact .inr (.inr (.inl ⟨by omega, e1, e2, e3⟩))
          · exact .inr (.inr (.inr (.inl ⟨by omega, e1, e2, e3⟩)))
        · exact .inr (.inr (.inr (.inr ⟨by omega, e1, e2⟩)))
  go_enter Tryz.func54, Tryz.ntmps54
  go_wp2_with fail
  go_quiet (fail)
  have HU := Lib.hid ((Upd.refl [] w).drewN nq)
  generalize w.drewN nq = w1 at *
  have zc0 := HU.out.cell c0 (by simp)
  have zc1 := HU.out.cell c1 (by simp)
  have zhc0 := HU.out.cell hc0 (by simp)
  go_wp2_with fail
  go_quiet (fail)
  have HU2 := Lib.hid (HU.out.drewN nq)
  generalize w1.drewN nq = w2 at *
  have y0 := HU2.out.cell c0 (by simp)
  have y1 := HU2.out.cell c1 (by simp)
  go_wp2_with fail
  go_quiet (fail)
  have HU3 := Lib.hid (HU2.out.drewN nq)
  generalize w2.drewN nq = w3 at *
  have x0 := HU3.out.cell c0 (by simp)
  have x1 := HU3.out.cell c1 (by simp)
  have x2 := HU3.out.cell c2 (by simp)
  clear zc0 zc1 zhc0 y0 y1 HU HU2
  rcases hx with hx | ⟨g1, g2⟩ | ⟨g1, g2, g3, g4⟩ | ⟨g1, g2, g3, g4⟩ | ⟨g1, g2, g3⟩
  · subst hx
    go_wp2_with fail
    go_quiet (fail)
    have HU4 := Lib.hid (HU3.out.drewN nq)
    generalize w3.drewN nq = w4 at *
    clear HU3 x0 x1 x2
    go_wp2_with fail
    go_loop [4, 5] (fun u i => i = .int .i64 0 ∧ u = .int .i64 0) (fun _ _ => 0)
    case atStart => exact ⟨rfl, rfl⟩
    case round =>
      obtain ⟨rfl, rfl⟩ := hrel
      have x0 := HU4.out.cell c0 (by simp)
      have x1 := HU4.out.cell c1 (by simp)
      have HR : Hid (rdNum B (at_, 0) = (0, at_ + 1, 0)) := hHN.out.trans (if_neg (by rintro (q | q); omega; simp [beN] at q))
      have HS := Lib.hid ((H.out.upd HU4.out).set1 (by decide) (at_ + 1) (by have := HLN.out; omega))
      have HSU := Lib.hid ((Upd.up (g := g) HU4.out).setCell ⟨g, 1, none⟩ (.int .i64 ((at_ + 1 : Nat) : Int)) (.inl (by simp)))
      have f1 := (H.out.upd HU4.out).cells.frozen 1
      have hc1' : ((at_ + 1 : Nat) : Int) = (at_ : Int) + 1 := by omega
      rw [hc1'] at HS HSU
      clear hc1' hHN
      go_wp2_with fail
      go_ret
      exact ⟨by rw [HR.out]; rfl, by rw [HR.out]; exact HS.out, HSU.out⟩
  · have HR : Hid (rdNum B (at_, 0) = (0, at_, 4)) := hHN.out.trans (if_pos (.inl ⟨g1, g2⟩))
    have hcj : w3.cell? ⟨b, off + (at_ + 1), none⟩ = some (bv 0) := by have := HU3.out.cell (HT.out 0 (by omega)) (by simp); rw [g2] at this; exact this
    have q2 : (0 : Int) < cn := by omega
    have q3 : (at_ : Int) + 1 < B.length := by have := HLN.out; omega
    clear g2 hHN
    go_wp2_with fail
    go_quiet (fail)
    have HU4 := Lib.hid (HU3.out.drewN nq)
    generalize w3.drewN nq = w4 at *
    have k2 := HU4.out.cell c2 (by simp)
    have f2 := (H.out.upd HU4.out).cells.frozen 2
    have HS := Lib.hid ((H.out.upd HU4.out).set2 (by decide) 4 (by decide))
    have HSU := Lib.hid ((Upd.up (g := g) HU4.out).setCell ⟨g, 2, none⟩ (.int .i64 ((4 : Nat) : Int)) (.inl (by simp)))
    go_wp2_with fail
    go_ret
    exact ⟨by rw [HR.out]; rfl, by rw [HR.out]; exact HS.out, HSU.out⟩
  · have hcj : w3.cell? ⟨b, off + (at_ + 1), none⟩ = some (bv (nth t 0)) := HU3.out.cell (HT.out 0 (by omega)) (by simp)
    have HR : Hid (rdNum B (at_, 0) = (0, at_, 4)) := hHN.out.trans (if_pos (.inr (by rw [g3]; exact (HB8.out (by omega)).2 g4)))
    have q2 : (0 : Int) < cn := by omega
    have q3 : (at_ : Int) + 1 < B.length := by have := HLN.out; omega
    have q4 : (((nth t 0).toNat : Int) == 0) = false := by rw [beq_eq_false_iff_ne]; intro e; exact g2 (UInt8.toNat_inj.1 (show (nth t 0).toNat = 0 by omega))
    have q5 : (127 : Int) < (nth t 0).toNat := by omega
    have q6 : ((cn : Int) == 8) = true := by rw [beq_iff_eq]; omega
    generalize nth t 0 = x0' at *
    clear g2 hHN g4
    go_wp2_with fail
    go_quiet (fail)
    have HU4 := Lib.hid (HU3.out.drewN nq)
    generalize w3.drewN nq = w4 at *
    have k2 := HU4.out.cell c2 (by simp)
    have f2 := (H.out.upd HU4.out).cells.frozen 2
    have HS := Lib.hid ((H.out.upd HU4.out).set2 (by decide) 4 (by decide))
    have HSU := Lib.hid ((Upd.up (g := g) HU4.out).setCell ⟨g, 2, none⟩ (.int .i64 ((4 : Nat) : Int)) (.inl (by simp)))
    go_wp2_with fail
    go_ret
    exact ⟨by rw [HR.out]; rfl, by rw [HR.out]; exact HS.out, HSU.out⟩
  · have hcj : w3.cell? ⟨b, off + (at_ + 1), none⟩ = some (bv (nth t 0)) := HU3.out.cell (HT.out 0 (by omega)) (by simp)
    have hU : beN (t.take cn) < 9223372036854775808 := by
      rw [g3]; have := (HB8.out (by omega)).1
      rcases Nat.lt_or_ge (beN (t.take 8)) 9223372036854775808 with q | q
      · exact q
      · exact absurd (this q) g4
    have hU2 : ¬ (0 < cn ∧ nth t 0 = 0) := fun q => g2 q.2
    have q2 : (0 : Int) < cn := by omega
    have q3 : (at_ : Int) + 1 < B.length := by have := HLN.out; omega
    have q4 : (((nth t 0).toNat : Int) == 0) = false := by rw [beq_eq_false_iff_ne]; intro e; exact g2 (UInt8.toNat_inj.1 (show (nth t 0).toNat = 0 by omega))
    have q5 : ¬ (127 : Int) < (nth t 0).toNat := by omega
    have HU2 := Lib.hid hU2
    clear g2 g4 hU2
    subst g3
    go_wp2_with fail
    go_quiet (fail)
    have HU4 := Lib.hid (HU3.out.drewN nq)
    generalize w3.drewN nq = w4 at *
    clear HU3 x0 x1 x2
    go_wp2_with fail
    clear q2 q3 q4 q5 hcj g1
    go_loopw [4, 5] (fun u i wr => ∃ j : Nat, i = .int .i64 (j : Int) ∧ j ≤ 8 ∧ u = .int .i64 ((beN (t.take j) : Nat) : Int) ∧ Hid (Upd [] w wr)) (fun _ i _ => 8 - (intOf i).toNat)
    case atStart => exact ⟨0, rfl, Nat.zero_le _, rfl, HU4⟩
    case round =>
      obtain ⟨j, rfl, hj, rfl, hu⟩ := hrel
      clear HU4
      have x0 := hu.out.cell c0 (by simp)
      have x1 := hu.out.cell c1 (by simp)
      by_cases hlj : j < 8
      · have hcj := hu.out.cell (HT.out j (by omega)) (by simp)
        have hbd : beN (t.take j) * 256 + (nth t j).toNat < 9223372036854775808 := by
          rw [← HBS.out j (by omega)]
          by_cases e : j + 1 ≤ 7
          · have := HB7.out (j + 1) e; omega
          · have e2 : j + 1 = 8 := by omega
            rw [e2]; exact hU
        have HST := Lib.hid ((or64i (beN (t.take j)) (nth t j) hbd).trans (by rw [← HBS.out j (by omega)]))
        have qj : (at_ : Int) + 1 + j < B.length := by have := HLN.out; omega
        clear hbd
        generalize nth t j = x at *
        obtain ⟨n, HNE⟩ : ∃ n, Hid (beN (t.take j) = n) := ⟨_, rfl⟩
        rw [HNE.out] at HST
        rw [HNE.out]
        go_wp2_with fail
        go_quiet (fail)
        have HU5 := Lib.hid (hu.out.drewN nq)
        generalize wr.drewN nq = w5 at *
        go_wp2_with fail
        go_roundw
        case rel => exact ⟨j + 1, by go_num, by omega, congrArg _ HST.out, HU5⟩
        case measure => simp [intOf]; omega
      · have hje : j = 8 := by omega
        have HR : Hid (rdNum B (at_, 0) = (beN (t.take j), at_ + (1 + 8), 0)) := by
          rw [hje]; exact hHN.out.trans (if_neg (by rintro (q | q); exact HU2.out q; omega))
        have HS := Lib.hid ((H.out.upd hu.out).set1 (by decide) (at_ + (1 + 8)) (by have := HLN.out; omega))
        have HSU := Lib.hid ((Upd.up (g := g) hu.out).setCell ⟨g, 1, none⟩ (.int .i64 ((at_ + (1 + 8) : Nat) : Int)) (.inl (by simp)))
        have f1 := (H.out.upd hu.out).cells.frozen 1
        have hc1' : ((at_ + (1 + 8) : Nat) : Int) = (at_ : Int) + 1 + (8 : Int) := by omega
        rw [hc1'] at HS HSU
        have hjl : ¬ (j : Int) < (8 : Int) := by omega
        have hbU : beN (t.take j) < 9223372036854775808 := by rw [hje]; exact hU
        obtain ⟨n, HNE⟩ : ∃ n, Hid (beN (t.take j) = n) := ⟨_, rfl⟩
        rw [HNE.out] at HR hbU
        rw [HNE.out]
        clear hc1' hHN hje hlj hj hU
        go_wp2_with fail
        go_ret
        exact ⟨by rw [HR.out]; rfl, by rw [HR.out]; exact HS.out, HSU.out⟩
  · have hcj : w3.cell? ⟨b, off + (at_ + 1), none⟩ = some (bv (nth t 0)) := HU3.out.cell (HT.out 0 (by omega)) (by simp)
    have hU : beN (t.take cn) < 9223372036854775808 := by have := HB7.out cn (by omega); omega
    have hU2 : ¬ (0 < cn ∧ nth t 0 = 0) := fun q => g2 q.2
    have q2 : (0 : Int) < cn := by omega
    have q3 : (at_ : Int) + 1 < B.length := by have := HLN.out; omega
    have q4 : (((nth t 0).toNat : Int) == 0) = false := by rw [beq_eq_false_iff_ne]; intro e; exact g2 (UInt8.toNat_inj.1 (show (nth t 0).toNat = 0 by omega))
    have q6 : ((cn : Int) == 8) = false := by rw [beq_eq_false_iff_ne]; omega
    have HU2 := Lib.hid hU2
    clear g2 hU2
    go_wp2_with fail
    go_quiet (fail)
    have HU4 := Lib.hid (HU3.out.drewN nq)
    generalize w3.drewN nq = w4 at *
    clear HU3 x0 x1 x2
    go_wp2_with fail
    clear q2 q3 q4 q6 hcj g1 g3
    go_loopw [4, 5] (fun u i wr => ∃ j : Nat, i = .int .i64 (j : Int) ∧ j ≤ cn ∧ u = .int .i64 ((beN (t.take j) : Nat) : Int) ∧ Hid (Upd [] w wr)) (fun _ i _ => cn - (intOf i).toNat)
    case atStart => exact ⟨0, rfl, Nat.zero_le _, rfl, HU4⟩
    case round =>
      obtain ⟨j, rfl, hj, rfl, hu⟩ := hrel
      clear HU4
      have x0 := hu.out.cell c0 (by simp)
      have x1 := hu.out.cell c1 (by simp)
      by_cases hlj : j < cn
      · have hcj := hu.out.cell (HT.out j (by omega)) (by simp)
        have hbd : beN (t.take j) * 256 + (nth t j).toNat < 9223372036854775808 := by
          rw [← HBS.out j (by omega)]
          by_cases e : j + 1 ≤ 7
          · have := HB7.out (j + 1) e; omega
          · have e2 : j + 1 = cn := by omega
            rw [e2]; exact hU
        have HST := Lib.hid ((or64i (beN (t.take j)) (nth t j) hbd).trans (by rw [← HBS.out j (by omega)]))
        have qj : (at_ : Int) + 1 + j < B.length := by have := HLN.out; omega
        clear hbd
        generalize nth t j = x at *
        obtain ⟨n, HNE⟩ : ∃ n, Hid (beN (t.take j) = n) := ⟨_, rfl⟩
        rw [HNE.out] at HST
        rw [HNE.out]
        go_wp2_with fail
        go_quiet (fail)
        have HU5 := Lib.hid (hu.out.drewN nq)
        generalize wr.drewN nq = w5 at *
        go_wp2_with fail
        go_roundw
        case rel => exact ⟨j + 1, by go_num, by omega, congrArg _ HST.out, HU5⟩
        case measure => simp [intOf]; omega
      · have hje : j = cn := by omega
        have HR : Hid (rdNum B (at_, 0) = (beN (t.take j), at_ + (1 + cn), 0)) := by
          rw [hje]; exact hHN.out.trans (if_neg (by rintro (q | q); exact HU2.out q; omega))
        have HS := Lib.hid ((H.out.upd hu.out).set1 (by decide) (at_ + (1 + cn)) (by have := HLN.out; omega))
        have HSU := Lib.hid ((Upd.up (g := g) hu.out).setCell ⟨g, 1, none⟩ (.int .i64 ((at_ + (1 + cn) : Nat) : Int)) (.inl (by simp)))
        have f1 := (H.out.upd hu.out).cells.frozen 1
        have hc1' : ((at_ + (1 + cn) : Nat) : Int) = (at_ : Int) + 1 + (cn : Int) := by omega
        rw [hc1'] at HS HSU
        have hjl : ¬ (j : Int) < (cn : Int) := by omega
        have hbU : beN (t.take j) < 9223372036854775808 := by rw [hje]; exact hU
        obtain ⟨n, HNE⟩ : ∃ n, Hid (beN (t.take j) = n) := ⟨_, rfl⟩
        rw [HNE.out] at HR hbU
        rw [HNE.out]
        clear hc1' hHN hje hlj hj hU
        go_wp2_with fail
        go_ret
        exact ⟨by rw [HR.out]; rfl, by rw [HR.out]; exact HS.out, HSU.out⟩
theorem dNum_any (w : World) (h : RdrAt 170 base w g v B s) :
    Calls Tryz.prog 54 #[.pointer (some ⟨g, 0, none⟩)] w fun x w' => x = .returned (.int .i64 ((rdNum B s).1 : Int)) ∧ RdrAt 170 base w' g v B (rdNum B s).2 ∧ Upd [g] w w' := by
  by_cases hs : s.2 = 0
  · cases hr : B.drop s.1 with
    | nil => exact dNumBad_any w h (.inr ⟨hs, .inl hr⟩)
    | cons c t =>
      by_cases hb : 8 < c.toNat ∨ t.length < c.toNat
      · exact dNumBad_any w h (.inr ⟨hs, .inr ⟨c, t, hr, hb⟩⟩)
      · obtain ⟨k, e⟩ := s
        dsimp only at hs hr
        subst hs
        exact dNumIn_any w k c t h hr (fun q => hb (.inl q)) (fun q => hb (.inr q))
  · exact dNumBad_any w h (.inl hs)
end
end Go.Proofs.YtmhojaiajhdlcaaGreat
namespace Go.Proofs.YtmhojaiajhdlcaaGreat
open Go.RowKit
set_option linter.unusedSimpArgs false
set_option linter.unusedVariables false
section
variable {base : Nat} {g : Nat} {v : Value} {B : List UInt8} {s : RSt}
set_option maxHeartbeats 2000000 in
theorem dUpto_any (w : World) (most : Int) (hm : I64 most) (h : RdrAt 170 base w g v B s) :
    Calls Tryz.prog 102 #[.pointer (some ⟨g, 0, none⟩), .int .i64 most] w fun x w' => x = .returned (.int .i64 ((rdUpto B most s).1 : Int)) ∧ RdrAt 170 base w' g v B (rdUpto B most s).2 ∧ Upd [g] w w' := by
  have H := Lib.hid h
  have c1 : w.cell? ⟨g, 1, none⟩ = some (.int .i64 (s.1 : Int)) := h.cells.cell 1
  have hat := h.at_
  have hle := rdNum_le B s h.at_ h.er
  go_enter Tryz.func102, Tryz.ntmps102
  go_wp2_with fail
  with_reducible refine (dNum_any _ H.out).mono ?_
  rintro e w1 ⟨rfl, h1, hu1⟩
  have c2 := h1.cells.cell 2
  have HU1 := Lib.hid hu1
  have H1 := Lib.hid h1
  clear h1 hu1 h
  by_cases hb : (rdNum B s).2.2 = 0 ∧ most < ((rdNum B s).1 : Int)
  · have HR : Hid (rdUpto B most s = (0, s.1, 2)) := if_pos hb
    obtain ⟨hb1, hb2⟩ := hb
    generalize rdNum B s = r at *
    obtain ⟨n, at1, er1⟩ := r
    dsimp only at hb1 hb2 hle
    subst hb1
    replace c2 : w1.cell? ⟨g, 2, none⟩ = some (.int .i64 0) := c2
    dsimp only
    have sk1 := H1.out.cells.cell 1
    have sk2 := H1.out.cells.cell 2
    have sf1 := (H1.out).cells.frozen 1
    have sf2 := (H1.out).cells.frozen 2
    have HS3 := Lib.hid (((H1.out).set2 (by decide) 2 (by decide)).set1 (by decide) s.1 hat)
    have HSU3 := Lib.hid (((HU1.out).setCell ⟨g, 2, none⟩ (.int .i64 ((2 : Nat) : Int)) (.inl (by simp))).setCell ⟨g, 1, none⟩ (.int .i64 (s.1 : Int)) (.inl (by simp)))
    go_wp2_with fail
    go_ret
    exact ⟨by rw [HR.out]; rfl, by rw [HR.out]; exact HS3.out, HSU3.out⟩
  · have HR : Hid (rdUpto B most s = rdNum B s) := if_neg hb
    generalize rdNum B s = r at *
    obtain ⟨n, at1, er1⟩ := r
    dsimp only at hb hle
    replace c2 : w1.cell? ⟨g, 2, none⟩ = some (.int .i64 (er1 : Int)) := c2
    dsimp only
    by_cases he : er1 = 0
    · subst he
      have hb2 : ¬ most < (n : Int) := fun q => hb ⟨rfl, q⟩
      replace c2 : w1.cell? ⟨g, 2, none⟩ = some (.int .i64 0) := c2
      clear hb
      go_wp2_with fail
      go_ret
      exact ⟨by rw [HR.out]; rfl, by rw [HR.out]; exact H1.out, HU1.out⟩
    · have he2 : ((er1 : Int) == 0) = false := by rw [beq_eq_false_iff_ne]; omega
      clear hb he
      go_wp2_with fail
      go_ret
      exact ⟨by rw [HR.out]; rfl, by rw [HR.out]; exact H1.out, HU1.out⟩
set_option maxHeartbeats 2000000 in
theorem dEnd_any (w : World) (h : RdrAt 170 base w g v B s) :
    Calls Tryz.prog 56 #[.pointer (some ⟨g, 0, none⟩)] w fun x w' => x = .returned (.int .i64 ((rdEnd B s).2 : Int)) ∧ RdrAt 170 base w' g v B (rdEnd B s) ∧ Upd [g] w w' := by
  have H := Lib.hid h
  obtain ⟨a, k, rfl, -⟩ := h.own.rd
  have c0 : w.cell? ⟨g, 0, none⟩ = some (.slice a B.length k) := h.cells.cell 0
  have c1 : w.cell? ⟨g, 1, none⟩ = some (.int .i64 (s.1 : Int)) := h.cells.cell 1
  have c2 : w.cell? ⟨g, 2, none⟩ = some (.int .i64 (s.2 : Int)) := h.cells.cell 2
  have hat := h.at_
  obtain ⟨at_, er⟩ := s
  dsimp only at *
  clear h
  by_cases hb : er = 0 ∧ at_ < B.length
  · have HR : Hid (rdEnd B (at_, er) = (at_, 5)) := if_pos hb
    obtain ⟨rfl, hb2⟩ := hb
    replace c2 : w.cell? ⟨g, 2, none⟩ = some (.int .i64 0) := c2
    have hb3 : (at_ : Int) < B.length := by omega
    go_enter Tryz.func56, Tryz.ntmps56
    go_wp2_with fail
    go_quiet (fail)
    have HU := Lib.hid ((Upd.refl [] w).drewN nq)
    generalize w.drewN nq = w1 at *
    have d2 := HU.out.cell c2 (by simp)
    have hfr := (H.out.upd HU.out).cells.frozen 2
    have HS := Lib.hid ((H.out.upd HU.out).set2 (by decide) 5 (by decide))
    have HSU := Lib.hid ((Upd.up (g := g) HU.out).setCell ⟨g, 2, none⟩ (.int .i64 ((5 : Nat) : Int)) (.inl (by simp)))
    go_wp2_with fail
    go_ret
    exact ⟨by rw [HR.out]; rfl, by rw [HR.out]; exact HS.out, HSU.out⟩
  · have HR : Hid (rdEnd B (at_, er) = (at_, er)) := if_neg hb
    by_cases he : er = 0
    · subst he
      have hb3 : ¬ (at_ : Int) < B.length := fun q => hb ⟨rfl, by omega⟩
      replace c2 : w.cell? ⟨g, 2, none⟩ = some (.int .i64 0) := c2
      clear hb
      go_enter Tryz.func56, Tryz.ntmps56
      go_wp2_with fail
      go_quiet (fail)
      have HU := Lib.hid ((Upd.refl [] w).drewN nq)
      generalize w.drewN nq = w1 at *
      have d2 := HU.out.cell c2 (by simp)
      go_wp2_with fail
      go_ret
      exact ⟨by rw [HR.out]; rfl, by rw [HR.out]; exact H.out.upd HU.out, HU.out.up⟩
    · have he2 : ((er : Int) == 0) = false := by rw [beq_eq_false_iff_ne]; omega
      clear hb he
      go_enter Tryz.func56, Tryz.ntmps56
      go_wp2_with fail
      go_quiet (fail)
      have HU := Lib.hid ((Upd.refl [] w).drewN nq)
      generalize w.drewN nq = w1 at *
      have d2 := HU.out.cell c2 (by simp)
      go_wp2_with fail
      go_ret
      exact ⟨by rw [HR.out]; rfl, by rw [HR.out]; exact H.out.upd HU.out, HU.out.up⟩
set_option maxHeartbeats 4000000 in
theorem dText_any (w : World) (most : Int) (hm : I64 most) (h : RdrAt 170 base w g v B s) :
    Calls Tryz.prog 55 #[.pointer (some ⟨g, 0, none⟩), .int .i64 most] w fun x w' => x = .returned (.string (strOf (rdText B most s).1)) ∧ RdrAt 170 base w' g v B (rdText B most s).2 ∧ Upd [g] w w' := by
  have H := Lib.hid h
  obtain ⟨a, k, rfl, hBk, -⟩ := h.own.rd
  have c1 : w.cell? ⟨g, 1, none⟩ = some (.int .i64 (s.1 : Int)) := h.cells.cell 1
  have hat := h.at_
  have hsz := h.sz
  have hle := rdUpto_le B most s h.at_ h.er
  go_enter Tryz.func55, Tryz.ntmps55
  go_wp2_with fail
  with_reducible refine (dUpto_any _ most hm H.out).mono ?_
  rintro e w1 ⟨rfl, h1, hu1⟩
  have c2 := h1.cells.cell 2
  have c0 : w1.cell? ⟨g, 0, none⟩ = some (.slice a B.length k) := h1.cells.cell 0
  have d1 := h1.cells.cell 1
  have HU1 := Lib.hid hu1
  have H1 := Lib.hid h1
  have HT : Hid (rdText B most s = if (rdUpto B most s).2.2 ≠ 0 then ([], (rdUpto B most s).2)
    else if B.length - (rdUpto B most s).2.1 < (rdUpto B most s).1 then ([], s.1, 3)
    else ((B.drop (rdUpto B most s).2.1).take (rdUpto B most s).1, (rdUpto B most s).2.1 + (rdUpto B most s).1, 0)) := rfl
  clear h1 hu1 h
  generalize rdUpto B most s = r at *
  obtain ⟨n, at1, er1⟩ := r
  dsimp only at hle HT
  replace c2 : w1.cell? ⟨g, 2, none⟩ = some (.int .i64 (er1 : Int)) := c2
  replace d1 : w1.cell? ⟨g, 1, none⟩ = some (.int .i64 (at1 : Int)) := d1
  dsimp only
  by_cases he : er1 = 0
  · subst he
    replace c2 : w1.cell? ⟨g, 2, none⟩ = some (.int .i64 0) := c2
    have HT := Lib.hid (HT.out.trans (if_neg (by simp)))
    have hat1 : at1 ≤ B.length := hle.2.2.1
    by_cases hb : B.length - at1 < n
    · have HR := Lib.hid (HT.out.trans (if_pos hb))
      have hb2 : (B.length : Int) - at1 < n := by omega
      clear HT
      go_wp2_with fail
      go_quiet (fail)
      have HU := Lib.hid ((Upd.refl [] w1).drewN nq)
      generalize w1.drewN nq = w2 at *
      have sk1 := HU.out.cell d1 (by simp)
      have sk2 := HU.out.cell c2 (by simp)
      have sf1 := (H1.out.upd HU.out).cells.frozen 1
      have sf2 := (H1.out.upd HU.out).cells.frozen 2
      have HS3 := Lib.hid (((H1.out.upd HU.out).set2 (by decide) 3 (by decide)).set1 (by decide) s.1 hat)
      have HSU3 := Lib.hid (((HU1.out.gg (Upd.up (g := g) HU.out)).setCell ⟨g, 2, none⟩ (.int .i64 ((3 : Nat) : Int)) (.inl (by simp))).setCell ⟨g, 1, none⟩ (.int .i64 (s.1 : Int)) (.inl (by simp)))
      go_wp2_with fail
      go_ret
      exact ⟨by rw [HR.out, strOf_nil]; rfl, by rw [HR.out]; exact HS3.out, HSU3.out⟩
    · have HR := Lib.hid (HT.out.trans (if_neg hb))
      have hb2 : ¬ (B.length : Int) - at1 < n := by omega
      have hc2 := fun W => run_cut_lh (P := Tryz.prog) Tryz.underlying28 sizeByte a B.length k at1 (at1 + n) (by omega) (by omega) W (at1 : Int) ((at1 : Int) + (n : Int)) rfl (by omega)
      simp only [Nat.mul_one, Nat.add_sub_cancel_left] at hc2
      have HP := Lib.hid (H1.out.own.rd.sub at1 (at1 + n) (by omega) (by omega))
      rw [Nat.add_sub_cancel_left] at HP
      generalize (if k = at1 then a else a.map (·.add at1)) = a2 at *
      generalize (B.drop at1).take n = pl at *
      clear HT
      go_wp2_with fail
      go_quiet (fail)
      have HU := Lib.hid ((Upd.refl [] w1).drewN nq)
      generalize w1.drewN nq = w2 at *
      have d2 := HU.out.cell d1 (by simp)
      have k2 := HU.out.cell c2 (by simp)
      have e0 : ∀ x : Wx w2, x.val.cell? ⟨g, 0, none⟩ = some (.slice a B.length k) := Wx.cell (HU.out.cell c0 (by simp))
      have e1 : ∀ x : Wx w2, x.val.cell? ⟨g, 1, none⟩ = some (.int .i64 (at1 : Int)) := Wx.cell d2
      have hcv : ∀ x : Wx w2, (convert 28 9 (.slice a2 n (k - at1))).run Tryz.prog x.val = .ok (.string (strOf pl)) x.val := fun x => convb_str Tryz.underlying28 Tryz.underlying5 Tryz.underlying9 _ _ _ ((HP.out.upd0 HU.out).upd0 x.prop)
      go_wp2_with fail
      refine wp_region_wx (by kernel_rfl) (by kernel_rfl) ?_
      repeat (go_big_quiet_step (fail))
      refine wpQuiet_nil ?_
      rintro _ ⟨x, rfl⟩
      have HX := Lib.hid (HU.out.seq x.prop)
      have d3 := e1 x
      have hfr := (H1.out.upd HX.out).cells.frozen 1
      have HS := Lib.hid ((H1.out.upd HX.out).set1 (by decide) (at1 + n) (by omega))
      have HSU := Lib.hid ((HU1.out.gg (Upd.up (g := g) HX.out)).setCell ⟨g, 1, none⟩ (.int .i64 ((at1 + n : Nat) : Int)) (.inl (by simp)))
      have hc1' : ((at1 + n : Nat) : Int) = (at1 : Int) + n := by omega
      rw [hc1'] at HS HSU
      generalize x.val = w4 at *
      clear hc1' e0 e1 hcv
      go_wp2_with fail
      go_ret
      exact ⟨by rw [HR.out]; rfl, by rw [HR.out]; exact HS.out, HSU.out⟩
  · have he2 : ((er1 : Int) != 0) = true := by rw [bne_iff_ne]; omega
    have HR := Lib.hid (HT.out.trans (if_pos he))
    have he3 : ((er1 : Int) == 0) = false := by rw [beq_eq_false_iff_ne]; omega
    clear HT he
    go_wp2_with fail
    go_quiet (fail)
    have HU := Lib.hid ((Upd.refl [] w1).drewN nq)
    generalize w1.drewN nq = w2 at *
    have k2 := HU.out.cell c2 (by simp)
    go_wp2_with fail
    go_ret
    exact ⟨by rw [HR.out, strOf_nil]; rfl, by rw [HR.out]; exact H1.out.upd HU.out, HU1.out.gg HU.out.up⟩
theorem dRead_any (w : World) (u : Value) (l : List UInt8) (h : Bytes w u l) (hz : l.length ≤ 140737488351232) :
    Calls Tryz.prog 53 #[u] w fun x w' => ∃ g v, x = .returned (.pointer (some ⟨g, 0, none⟩)) ∧ RdrAt 170 w.heap.size w' g v l (0, 0) ∧ Upd [] w w' := by
  have H := Lib.hid h
  obtain ⟨a, cap, rfl, -, -, -⟩ := h
  go_enter Tryz.func53, Tryz.ntmps53
  go_wp2_with (at_builtin; refine wpList_app bv_one rfl (.tmp 3) (.tmp 4) rfl Tryz.underlying28 infoByte rfl (.slice (some ⟨w.heap.size, 0, none⟩) 0 0) (.slice a l.length cap) [] l rfl rfl (Own.room (base := w.heap.size) (Nat.le_refl _) rfl rfl (Nat.zero_le _)) (H.out.alloc _) (by simp; omega) (by unfold maxLen; simp; omega) (by simp) ?_; intro v3 w3 ho hu hbk; rw [List.nil_append] at ho; have HU3 : Hid (Upd [] w w3) := ((Upd.refl [] w).alloc _).trans hu (by simp) (by simp [blk]); have HO3 := Lib.hid ho; obtain ⟨a3, c3, rfl, -⟩ := ho.rd; clear ho hu hbk)
  go_ret
  exact ⟨_, _, rfl, ⟨Blk.new w3 _ [.slice a3 l.length c3, .int .i64 0, .int .i64 0], HO3.out.upd ((Upd.refl [] w3).alloc _) (by simp), HU3.out.size, Nat.zero_le _, Nat.zero_le _, hz⟩, HU3.out.alloc _⟩
end
end Go.Proofs.YtmhojaiajhdlcaaGreat
