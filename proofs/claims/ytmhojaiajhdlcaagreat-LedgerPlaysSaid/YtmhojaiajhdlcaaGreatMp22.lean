/- Texts of the proof, joined: The walk of LedgerPlays: the end. The walk of LedgerPlays: the law. -/
import Derived.Test.YtmhojaiajhdlcaaGreatMp18
import Derived.Test.YtmhojaiajhdlcaaGreatMp21
namespace Go.Proofs.YtmhojaiajhdlcaaGreat
open Go.RowKit
set_option linter.unusedSimpArgs false
set_option linter.unusedVariables false
noncomputable def reg41 : Code := regIn 41 Tryz.f5.body
noncomputable def rest41 : Code := restIn 41 Tryz.f5.body
set_option maxRecDepth 100000 in
set_option maxHeartbeats 8000000 in
theorem lp41 {w W : World} {gd gl gr gk k : Nat} {rl : List Rec} {s : DS} {x0 x1 x2 x3 x4 x6 x8 x9 x10 x11 x12 x13 x14 x15 x16 x17 x18 x19 x20 x21 x22 x23 x24 x25 x26 x27 x28 x29 x30 x31 x32 x33 x34 x35 x36 x37 x38 x39 x40 x41 x42 x43 x44 x45 x46 x47 x48 x49 x50 x51 x52 x53 x54 x55 x56 x57 x58 x59 x60 x61 x62 x63 x64 x65 x66 x67 x68 x69 x70 x71 x72 x73 x74 x75 x76 x77 x78 x79 x80 x81 x82 x83 x84 x85 x86 x87 x88 x89 x90 x91 x92 x93 x94 x95 x96 x97 x98 x99 x100 x101 x102 x103 x104 x105 x106 x107 x108 x109 x110 x111 x112 x113 x114 x115 x116 x117 x118 x119 x120 x121 x122 x123 x124 x125 x126 x127 x128 x129 x130 x131 x132 x133 x134 x135 x136 x137 x138 x139 x140 x141 x142 x143 x144 x145 x146 x147 x148 x149 x150 x151 x152 x153 x154 x155 x156 x157 x158 x159 x160 x161 x162 x163 x164 x165 x166 x167 x168 x169 x170 x171 x172 x173 x174 x175 x176 x177 x178 x179 x180 x181 x182 x183 x184 x185 x186 x187 x188 x189 x190 x191 x192 x193 x194 x195 x196 x197 : Value} {Q : Exit → Act → World → Prop} (hs0 : LP w W gd gr k gl gk rl s) (hk : k ≤ 240)
    (hQ : ∀ (y188 y189 y190 y191 y192 y193 y194 y195 y196 y197 : Value)  (w' : World), Upd [] w w' → Q .ret ⟨#[x0, x1, .bool true, x3, x4, .pointer (some ⟨gl, 0, none⟩), x6, .pointer (some ⟨gk, 0, none⟩), x8, x9, x10, x11, x12, x13, x14, x15, x16, x17, x18, x19, x20, x21, x22, x23, x24, x25, x26, x27, x28, x29, x30, x31, x32, x33, x34, x35, x36, x37, x38, x39, x40, x41, x42, x43, x44, x45, x46, x47, x48, x49, x50, x51, x52, x53, x54, x55, x56, x57, x58, x59, x60, x61, x62, x63, x64, x65, x66, x67, x68, x69, x70, x71, x72, x73, x74, x75, x76, x77, x78, x79, x80, x81, x82, x83, x84, x85, x86, x87, x88, x89, x90, x91, x92, x93, x94, x95, x96, x97, x98, x99, x100, x101, x102, x103, x104, x105, x106, x107, x108, x109, x110, x111, x112, x113, x114, x115, x116, x117, x118, x119, x120, x121, x122, x123, x124, x125, x126, x127, x128, x129, x130, x131, x132, x133, x134, x135, x136, x137, x138, x139, x140, x141, x142, x143, x144, x145, x146, x147, x148, x149, x150, x151, x152, x153, x154, x155, x156, x157, x158, x159, x160, x161, x162, x163, x164, x165, x166, x167, x168, x169, x170, x171, x172, x173, x174, x175, x176, x177, x178, x179, x180, x181, x182, x183, x184, x185, x186, x187, y188, y189, y190, y191, y192, y193, y194, y195, y196, y197], []⟩ w') {K : Act → World → Prop} (hK : ∀ a w, Code.wp Tryz.prog rest41 Q a w → K a w) : Code.wp Tryz.prog reg41 (Exit.then K Q) ⟨#[x0, x1, x2, x3, x4, .pointer (some ⟨gl, 0, none⟩), x6, .pointer (some ⟨gk, 0, none⟩), x8, x9, x10, x11, x12, x13, x14, x15, x16, x17, x18, x19, x20, x21, x22, x23, x24, x25, x26, x27, x28, x29, x30, x31, x32, x33, x34, x35, x36, x37, x38, x39, x40, x41, x42, x43, x44, x45, x46, x47, x48, x49, x50, x51, x52, x53, x54, x55, x56, x57, x58, x59, x60, x61, x62, x63, x64, x65, x66, x67, x68, x69, x70, x71, x72, x73, x74, x75, x76, x77, x78, x79, x80, x81, x82, x83, x84, x85, x86, x87, x88, x89, x90, x91, x92, x93, x94, x95, x96, x97, x98, x99, x100, x101, x102, x103, x104, x105, x106, x107, x108, x109, x110, x111, x112, x113, x114, x115, x116, x117, x118, x119, x120, x121, x122, x123, x124, x125, x126, x127, x128, x129, x130, x131, x132, x133, x134, x135, x136, x137, x138, x139, x140, x141, x142, x143, x144, x145, x146, x147, x148, x149, x150, x151, x152, x153, x154, x155, x156, x157, x158, x159, x160, x161, x162, x163, x164, x165, x166, x167, x168, x169, x170, x171, x172, x173, x174, x175, x176, x177, x178, x179, x180, x181, x182, x183, x184, x185, x186, x187, x188, x189, x190, x191, x192, x193, x194, x195, x196, x197], []⟩ W := by
  conv => arg 2; whnf
  change ∀ a w, Code.wp _ (Code.ret) Q a w → K a w at hK
  have HQ := Lib.hid hQ
  clear hQ
  have HO := Lib.hid hs0.two.old
  have H2 := Lib.hid hs0.two
  have HZ := Lib.hid (hs0.inv.now (by omega))
  obtain ⟨ra, rk, gc1, hrr, hrk, hrk2⟩ := H2.out.rows
  have HRR := Lib.hid hrr
  clear hs0 hrr
  have HC1' : Hid (∀ V, Upd [] W V → Calls Tryz.prog 26 #[.pointer (some ⟨gl, 0, none⟩), .int .i64 0] V fun e w' => ∃ a q k, e = .returned (.slice a q k) ∧ Hid (RdN 15 recCells w' (.slice a q k) rl) ∧ Upd [] W w') := fun V hW => by
    refine (l2List (H2.out.upd0 hW) 0 0 (Nat.zero_le _) (.inr (.inl rfl)) HZ.out.2.2.2 (List.drop_zero)).mono ?_
    rintro e w' ⟨a, q, k, rfl, h, hu⟩
    exact ⟨a, q, k, rfl, h, hW.seq hu⟩
  have HC2' : Hid (∀ V a q k, RdN 15 recCells V (.slice a q k) rl → Upd [] W V → Calls Tryz.prog 25 #[.slice a q k, .slice ra rl.length rk] V fun e w' => e = .returned (.bool true) ∧ Upd [] W w') := fun V a q k h hW => by
    refine (l2Same a q k _ h (HRR.out.upd0 recCells_len hW)).mono ?_
    rintro e w' ⟨rfl, hu⟩
    exact ⟨rfl, hW.seq hu⟩
  have HC3' : Hid (∀ V, Upd [] W V → Calls Tryz.prog 15 #[] V fun e w' => e = .returned (.bool true) ∧ Upd [] W w') := fun V hW => by
    refine (ledgerRuns_any V).mono ?_
    rintro e w' ⟨rfl, hu⟩
    exact ⟨rfl, hW.seq hu⟩
  have ru := Upd.refl [] W
  have HGC := Lib.hid gc1
  go_wp2_with fail
  go_region_held3 (fun w' => w'.cell? ⟨gk, 1, none⟩ = some (.slice ra rl.length rk)) (first | go_keep | exact ru.cell HGC.out (by simp))
    (first
      | (go_at_call 26; (with_reducible refine (HC1'.out _ (Upd.seq ru ?_)).mono ?_); (repeat (first | exact Upd.refl _ _ | apply Upd.drew | apply Upd.drewN | apply Upd.alloc)); (rintro _ W1 ⟨a5, n5, k5, rfl, hr5, ru⟩; dsimp only))
      | (go_at_call 25; (with_reducible refine (HC2'.out _ a5 n5 k5 (RdN.upd0 recCells_len hr5.out ?_) (Upd.seq ru ?_)).mono ?_); (repeat (first | exact Upd.refl _ _ | apply Upd.drew | apply Upd.drewN | apply Upd.alloc)); (rintro _ W2 ⟨rfl, ru⟩; dsimp only))
      | (go_at_call 15; (with_reducible refine (HC3'.out _ (Upd.seq ru ?_)).mono ?_); (repeat (first | exact Upd.refl _ _ | apply Upd.drew | apply Upd.drewN | apply Upd.alloc)); (rintro _ W3 ⟨rfl, ru⟩; dsimp only)))
  all_goals
    have HF := Lib.hid (HO.out.seq ru)
    clear ru HC1' HC2' HC3'
    go_wp2_with fail
    exact HQ.out _ _ _ _ _ _ _ _ _ _ _ HF.out
end Go.Proofs.YtmhojaiajhdlcaaGreat
namespace Go.Proofs.YtmhojaiajhdlcaaGreat
open Go.RowKit
set_option linter.unusedSimpArgs false
set_option linter.unusedVariables false
set_option maxRecDepth 100000 in
set_option maxHeartbeats 8000000 in
theorem ledgerPlays_any (w : World) (vl : Value) (l : List Ask25) (hl : RdN 17 ask25Cells w vl l) (hg : ∀ x ∈ l, Ask25Good x) :
    Calls Tryz.prog 5 #[vl] w fun e w' => e = .returned (.bool true) ∧ Upd [] w w' := by
  obtain ⟨a1, cap1, rfl, hlc1, hcm1, hcell1⟩ := hl
  have hm1 : l.length ≤ 9223372036854775807 := by unfold maxLen at hcm1; omega
  have HC1 := Lib.hid hcell1
  have HG := Lib.hid hg
  clear hlc1 hcm1 hcell1 hg
  go_enter Tryz.func5, Tryz.ntmps5
  go_wp2_with fail
  (with_reducible refine (dNew_any w w (Upd.refl [] w)).mono ?_)
  rintro e w1 ⟨gd, G1, rfl, h1, hu1, hf1⟩
  have H1 := Lib.hid h1
  obtain ⟨G2, h2, hf2⟩ := RD.new w w1 hu1
  have HT : Hid (DD w (w1.alloc (.cells #[.slice none 0 0, .slice none 0 0, .slice none 0 0] 45)) gd G1 ⟨[], [], []⟩) := H1.out.upd0 ((Upd.refl [] w1).alloc _)
  have HR : Hid (RD w (w1.alloc (.cells #[.slice none 0 0, .slice none 0 0, .slice none 0 0] 45)) w1.heap.size G2 ⟨[], [], []⟩) := h2
  have HA : Hid (Ap G1 G2) := fun x hx hy => by have := (H1.out.ge x hx).2; have := hf2 x hy; omega
  clear h1 hu1 hf1 h2 hf2 H1
  go_wp2_with fail
  generalize w1.alloc (.cells #[.slice none 0 0, .slice none 0 0, .slice none 0 0] 45) = w2 at *
  generalize w1.heap.size = gr at *
  have HO1 : Hid (lOpen ⟨[], [], []⟩ = ([], ⟨[], [], []⟩)) := rfl
  (with_reducible refine (ledOpen_any HT.out (by simp) (by simp)).mono ?_)
  rw [HO1.out]
  rintro e w3 ⟨gl, rfl, ho⟩
  obtain ⟨F3, G3, k1, k2, k3, k4⟩ := (show ∃ F' G', _ from ho)
  have HR3 : Hid (RD w w3 gr G2 ⟨[], [], []⟩) := HR.out.upd k2 (fun x hx hs => HA.out x hs hx) (fun x hx => (HT.out.ge x hx).1)
  have HL3 : Hid (LD w w3 gd gl F3 G3 [] ⟨[], [], []⟩) := k1
  have HA3 : Hid (Ap (F3 ++ G3) G2) := by
    refine ap_grow HA.out (n := w2.heap.size) (fun x hx => ?_) (fun y hy => (HR.out.ge y hy).2)
    rcases List.mem_append.1 hx with q | q
    · exact k3 x q
    · exact k4 x q
  clear ho k1 k2 k3 k4 HT HR HA
  dsimp only
  go_wp2_with fail
  (with_reducible refine (rfOpen_any HR3.out (by simp) (by simp)).mono ?_)
  rw [HO1.out]
  rintro e w4 ⟨gk, rfl, ho⟩
  obtain ⟨F4, G4, k1, k2, k3, k4⟩ := (show ∃ F' G', _ from ho)
  have HLP : Hid (LP w w4 gd gr 0 gl gk [] ⟨[], [], []⟩) := by
    refine ⟨⟨F3, G3, F4, G4, HL3.out.upd k2 (fun x hx hs => HA3.out x (List.mem_append.2 (.inl hx)) hs) (fun x hx hs => HA3.out x (List.mem_append.2 (.inr hx)) hs) (fun x hx => (HR3.out.ge x hx).1), k1, ?_, Nat.le_refl _, by simp, by simp, by simp, by simp⟩, PJ.zero⟩
    refine ap_sym (ap_grow (ap_sym HA3.out) (n := w3.heap.size) (fun x hx => ?_) (fun y hy => ?_))
    · rcases List.mem_append.1 hx with q | q
      · exact k3 x q
      · exact k4 x q
    · rcases List.mem_append.1 hy with q | q
      · exact (HL3.out.geF y q).2
      · exact (HL3.out.dd.ge y q).2
  clear ho k1 k2 k3 k4 HR3 HL3 HA3
  dsimp only
  go_wp2_with fail
  go_loopw [5, 6, 7, 8] (fun vl ve vk vi wr => ∃ (k gl gk : Nat) (rl : List Rec) (s : DS), k ≤ 60 ∧ k ≤ l.length ∧ vl = .pointer (some ⟨gl, 0, none⟩) ∧ ve = .int .i64 0 ∧ vk = .pointer (some ⟨gk, 0, none⟩) ∧ vi = .int .i64 k ∧ Hid (LP w wr gd gr (2 * k) gl gk rl s)) (fun vl ve vk vi _ => 60 - (intOf vi).toNat)
  case atStart => exact ⟨0, gl, gk, [], _, by omega, by omega, rfl, rfl, rfl, rfl, HLP⟩
  case round =>
    clear HLP
    obtain ⟨k, gl, gk, rl, s, hk, hkl, rfl, rfl, rfl, rfl, hs⟩ := hrel
    have hend : (k < l.length ∧ k < 60) ∨ (k = l.length ∧ Hid (k ≤ 60)) ∨ (k = 60 ∧ k < l.length) := by unfold Hid; omega
    rcases hend with ⟨hlt, h40⟩ | hend
    · obtain ⟨lb, loff, rfl, hca⟩ := HC1.out (by intro h; simp [h] at hlt)
      have q1 : (k : Int) < l.length := by omega
      have q2 : (k : Int) < 60 := by omega
      have q3 : (0 : Int) ≤ k := by omega
      go_upto_region 10 with fail
      refine lp10 hs.out hca HG hlt h40 q1 q3 (fun _ _ _ _ _ _ _ _ _ _ _ _ _ _ _ _ _ _ _ _ _ _ _ _ _ _ _ _ _ _ _ _ _ _ _ _ _ _ _ _ _ _ _ _ _ _ _ _ _ _ _ _ _ _ _ _ _ _ _ _ _ _ _ _ _ _ _ _ _ _ _ _ _ _ _ _ _ _ _ _ _ _ _ _ _ _ _ _ _ _ _ _ _ _ _ _ _ _ _ _ _ _ _ _ _ _ _ _ _ _ _ _ _ _ _ _ _ _ _ _ _ _ _ _ _ _ _ _ _ _ _ _ _ _ _ _ _ _ _ _ _ _ _ _ _ _ _ _ _ _ _ _ _ _ rl9 s9 gl9 gk9 w9 h => ?_) (by assumption)
      have HF : Hid (LP w w9 gd gr (2 * (k + 1)) gl9 gk9 rl9 s9) := ⟨h.1, h.2⟩
      clear h hs hca
      go_wp2_with fail
      go_roundw
      case rel => exact ⟨k + 1, gl9, gk9, rl9, s9, by omega, by omega, rfl, rfl, rfl, by go_num, HF⟩
      case measure => simp [intOf]; omega
    · clear HC1 HG
      rcases hend with ⟨hke, h40⟩ | ⟨hke, hkn⟩
      · have q1 : ¬ (k : Int) < l.length := by omega
        clear h40
        go_upto_region 41 with fail
        refine lp41 hs.out (by omega) (fun _ _ _ _ _ _ _ _ _ _ w9 h => ?_) (by assumption)
        have HF := Lib.hid h
        clear h
        go_ret
        exact ⟨rfl, HF.out⟩
      · have q1 : (k : Int) < l.length := by omega
        have q2 : ¬ (k : Int) < 60 := by omega
        go_upto_region 41 with fail
        refine lp41 hs.out (by omega) (fun _ _ _ _ _ _ _ _ _ _ w9 h => ?_) (by assumption)
        have HF := Lib.hid h
        clear h
        go_ret
        exact ⟨rfl, HF.out⟩
end Go.Proofs.YtmhojaiajhdlcaaGreat
